/- DL: the walk of DiskTurns. -/
import Derived.Test.YtbohloaggnkepaaDJ
import Derived.Test.YtbohloaggnkepaaDK
set_option linter.unusedSimpArgs false
set_option linter.unusedVariables false
namespace Go.Proofs.Y
open Go Go.HL Go.Proofs
section
variable {w : World} {next : Value → World → Prop} {QP : List PanicEntry → World → Prop}

theorem i00 : decide ((0 : Int) = 0) = true := rfl
theorem i07 : decide ((0 : Int) = 7) = false := rfl
theorem i70 : decide ((7 : Int) = 0) = false := rfl
theorem i10 : decide ((1 : Int) = 0) = false := rfl
theorem i77 : decide ((7 : Int) = 7) = true := rfl

theorem turns_tail {e n : Bytes} {step : Int} {kv : Value} {ks : List Int} {m : Nat} {p : Nat} {D : Dk} {τ : Env} {w0 : World} (hv : Sl w kv 1 m (ints ks)) (hp : 0 < m → kv.ownBlock ≠ some p)
    (t0 : τ 0 = str e) (t1 : τ 1 = str n) (t2 : τ 2 = .int .i64 step) (t3 : τ 3 = kv) (t9 : τ 9 = .bool true) (t10 : τ 10 = ptr p) (st : St none' w w0 p D) (hq : D.queue.length ≤ 100000) (hq' : (D.turn 3 4).queue.length ≤ 100000)
    (hmay : (((D.turn 3 4).crash ks).start).may [3] = 0)
    (h : (step = 0 ∧ D.turnR 3 4 = 0 ∧ (((D.turn 3 4).crash ks).start).read 3 = []) ∨ (step ≠ 0 ∧ D.turnR 3 4 = 0 ∧ (step = 1 → n = []) ∧ (((D.turn 3 4).crash ks).start).read 3 = n ∧ (((D.turn 3 4).crash ks).start).size 4 = 0) ∨
      (step = 1 ∧ D.turnR 3 4 = 7 ∧ (((D.turn 3 4).crash ks).start).read 3 = e ∧ (((D.turn 3 4).crash ks).start).size 4 ≤ n.length))
    (k : ∀ w', Mod none' w w' → next (.bool true) w') : hw Try.prog noPanic h3_4 (endV [.tmp 8] next) τ w0 := by
  unfold h3_4
  try simp only [go_sem, ↓reduceIte, Nat.reduceEqDiff, Nat.reduceAdd, Nat.reduceLT, List.length_cons, List.length_nil, List.getElem?_cons_zero, List.getElem?_cons_succ, Nat.mul_one, Bool.true_eq_false, Bool.false_eq_true, false_implies, true_implies, Bool.not_true, Bool.not_false, decide_true, t0, t1, t2, t3, t9, t10]
  refine turn_ st.dr (by omega) ?_
  intro w1 st'
  have st := st.trans st'
  clear st'
  try simp only [go_sem, ↓reduceIte, Nat.reduceEqDiff, Nat.reduceAdd, Nat.reduceLT, List.length_cons, List.length_nil, List.getElem?_cons_zero, List.getElem?_cons_succ, Nat.mul_one, Bool.true_eq_false, Bool.false_eq_true, false_implies, true_implies, Bool.not_true, Bool.not_false, decide_true, t0, t1, t2, t3, t9, t10]
  have hgood : (if (if (if decide (step = 1) = true then !decide (n = []) else false) = true then !decide (D.turnR 3 4 = 7) else false) = true then true
      else if (if (!decide (step = 0)) = true then !decide (step = 1) else false) = true then !decide (D.turnR 3 4 = 0) else false) = false := by
    rcases h with ⟨rfl, h1, -⟩ | ⟨h0, h1, h2, -⟩ | ⟨rfl, h1, -⟩
    · simp [h1]
    · by_cases hs : step = 1
      · simp [h1, h2 hs, hs]
      · simp [h1, hs]
    · simp [h1]
  rw [hgood]
  refine ⟨(fun h => by cases h), fun _ => ?_⟩
  unfold h3_5
  try simp only [go_sem, ↓reduceIte, Nat.reduceEqDiff, Nat.reduceAdd, Nat.reduceLT, List.length_cons, List.length_nil, List.getElem?_cons_zero, List.getElem?_cons_succ, Nat.mul_one, Bool.true_eq_false, Bool.false_eq_true, false_implies, true_implies, Bool.not_true, Bool.not_false, decide_true, t0, t1, t2, t3, t9, t10]
  refine crash_ st.dr (hv.mod' st.mod fun _ _ _ h => h) hp (by omega) ?_
  intro w2 st'
  have st := st.trans st'
  clear st'
  try simp only [go_sem, ↓reduceIte, Nat.reduceEqDiff, Nat.reduceAdd, Nat.reduceLT, List.length_cons, List.length_nil, List.getElem?_cons_zero, List.getElem?_cons_succ, Nat.mul_one, Bool.true_eq_false, Bool.false_eq_true, false_implies, true_implies, Bool.not_true, Bool.not_false, decide_true, t0, t1, t2, t3, t9, t10]
  refine start_ st.dr ?_
  intro w3 dr m _
  have st := st.trans (.of dr m)
  clear dr m
  try simp only [go_sem, ↓reduceIte, Nat.reduceEqDiff, Nat.reduceAdd, Nat.reduceLT, List.length_cons, List.length_nil, List.getElem?_cons_zero, List.getElem?_cons_succ, Nat.mul_one, Bool.true_eq_false, Bool.false_eq_true, false_implies, true_implies, Bool.not_true, Bool.not_false, decide_true, t0, t1, t2, t3, t9, t10]
  refine read_ st.dr 3 ?_
  intro w4 dr m
  have st := st.mod0 m
  clear dr m
  rw [hmay]
  try simp only [go_sem, ↓reduceIte, Nat.reduceEqDiff, Nat.reduceAdd, Nat.reduceLT, List.length_cons, List.length_nil, List.getElem?_cons_zero, List.getElem?_cons_succ, Nat.mul_one, Bool.true_eq_false, Bool.false_eq_true, false_implies, true_implies, Bool.not_true, Bool.not_false, decide_true, t0, t1, t2, t3, t9, t10]
  rcases h with ⟨rfl, h1, h2⟩ | ⟨h0, h1, h2, h3, h4⟩ | ⟨rfl, h1, h3, h4⟩
  · try simp only [go_sem, ↓reduceIte, Nat.reduceEqDiff, Nat.reduceAdd, Nat.reduceLT, List.length_cons, List.length_nil, List.getElem?_cons_zero, List.getElem?_cons_succ, Nat.mul_one, Bool.true_eq_false, Bool.false_eq_true, false_implies, true_implies, Bool.not_true, Bool.not_false, decide_true, h1, h2, i00, e_boolite, decide_true]
    exact k _ st.mod
  · have h0' : decide (step = 0) = false := by simp [h0]
    try simp only [go_sem, ↓reduceIte, Nat.reduceEqDiff, Nat.reduceAdd, Nat.reduceLT, List.length_cons, List.length_nil, List.getElem?_cons_zero, List.getElem?_cons_succ, Nat.mul_one, Bool.true_eq_false, Bool.false_eq_true, false_implies, true_implies, Bool.not_true, Bool.not_false, decide_true, h0']
    unfold h3_6
    try simp only [go_sem, ↓reduceIte, Nat.reduceEqDiff, Nat.reduceAdd, Nat.reduceLT, List.length_cons, List.length_nil, List.getElem?_cons_zero, List.getElem?_cons_succ, Nat.mul_one, Bool.true_eq_false, Bool.false_eq_true, false_implies, true_implies, Bool.not_true, Bool.not_false, decide_true, h1, h3, t0, t1, t2, t3, t9, t10, i00, decide_true]
    refine size_ st.dr 4 ?_
    rw [h4]
    try simp only [go_sem, ↓reduceIte, Nat.reduceEqDiff, Nat.reduceAdd, Nat.reduceLT, List.length_cons, List.length_nil, List.getElem?_cons_zero, List.getElem?_cons_succ, Nat.mul_one, Bool.true_eq_false, Bool.false_eq_true, false_implies, true_implies, Bool.not_true, Bool.not_false, decide_true, h1, h3, t0, t1, t2, t3, t9, t10, i00, decide_true, Int.natCast_zero]
    exact k _ st.mod
  · try simp only [go_sem, ↓reduceIte, Nat.reduceEqDiff, Nat.reduceAdd, Nat.reduceLT, List.length_cons, List.length_nil, List.getElem?_cons_zero, List.getElem?_cons_succ, Nat.mul_one, Bool.true_eq_false, Bool.false_eq_true, false_implies, true_implies, Bool.not_true, Bool.not_false, decide_true, i10]
    unfold h3_6
    try simp only [go_sem, ↓reduceIte, Nat.reduceEqDiff, Nat.reduceAdd, Nat.reduceLT, List.length_cons, List.length_nil, List.getElem?_cons_zero, List.getElem?_cons_succ, Nat.mul_one, Bool.true_eq_false, Bool.false_eq_true, false_implies, true_implies, Bool.not_true, Bool.not_false, decide_true, h1, h3, t0, t1, t2, t3, t9, t10, i70, decide_true]
    unfold h3_7
    try simp only [go_sem, ↓reduceIte, Nat.reduceEqDiff, Nat.reduceAdd, Nat.reduceLT, List.length_cons, List.length_nil, List.getElem?_cons_zero, List.getElem?_cons_succ, Nat.mul_one, Bool.true_eq_false, Bool.false_eq_true, false_implies, true_implies, Bool.not_true, Bool.not_false, decide_true, h1, h3, t0, t1, t2, t3, t9, t10, i00, decide_true]
    refine size_ st.dr 4 ?_
    have h5 : decide ((((D.turn 3 4).crash ks).start.size 4 : Int) ≤ (n.length : Int)) = true := by simp; omega
    try simp only [go_sem, ↓reduceIte, Nat.reduceEqDiff, Nat.reduceAdd, Nat.reduceLT, List.length_cons, List.length_nil, List.getElem?_cons_zero, List.getElem?_cons_succ, Nat.mul_one, Bool.true_eq_false, Bool.false_eq_true, false_implies, true_implies, Bool.not_true, Bool.not_false, decide_true, h1, h3, t0, t1, t2, t3, t9, t10, i00, h5, decide_true, Int.natCast_zero]
    exact k _ st.mod

theorem turns_ {e n : Bytes} {step : Int} {kv : Value} {ks : List Int} {m : Nat} (hv : Sl w kv 1 m (ints ks)) (k : ∀ w', Mod none' w w' → next (.bool true) w') :
    callK Try.prog 3 [str e, str n, .int .i64 step, kv] w next QP := by
  refine q3 rfl ?_
  unfold h3
  try simp only [go_sem, ↓reduceIte, Nat.reduceEqDiff, Nat.reduceAdd, Nat.reduceLT, List.length_cons, List.length_nil, List.getElem?_cons_zero, List.getElem?_cons_succ, Nat.mul_one, Bool.true_eq_false, Bool.false_eq_true, false_implies, true_implies, Bool.not_true, Bool.not_false, decide_true]
  refine small_ ?_
  intro w1 m1
  try simp only [go_sem, ↓reduceIte, Nat.reduceEqDiff, Nat.reduceAdd, Nat.reduceLT, List.length_cons, List.length_nil, List.getElem?_cons_zero, List.getElem?_cons_succ, Nat.mul_one, Bool.true_eq_false, Bool.false_eq_true, false_implies, true_implies, Bool.not_true, Bool.not_false, decide_true]
  refine new_ ?_
  intro p w2 hp dr m2
  have st : St none' w w2 p Dk.new := (St.new dr m2).after m1
  have hpp : 0 < m → kv.ownBlock ≠ some p := fun hm e => by have := hv.lt (by omega) hm p e; have := m1.size; omega
  try simp only [go_sem, ↓reduceIte, Nat.reduceEqDiff, Nat.reduceAdd, Nat.reduceLT, List.length_cons, List.length_nil, List.getElem?_cons_zero, List.getElem?_cons_succ, Nat.mul_one, Bool.true_eq_false, Bool.false_eq_true, false_implies, true_implies, Bool.not_true, Bool.not_false, decide_true, decide_true]
  refine ⟨fun hbig => k _ st.mod, fun hsmall => ?_⟩
  have he : e.length ≤ 50000 ∧ n.length ≤ 50000 := by
    simp at hsmall; omega
  unfold h3_1
  try simp only [go_sem, ↓reduceIte, Nat.reduceEqDiff, Nat.reduceAdd, Nat.reduceLT, List.length_cons, List.length_nil, List.getElem?_cons_zero, List.getElem?_cons_succ, Nat.mul_one, Bool.true_eq_false, Bool.false_eq_true, false_implies, true_implies, Bool.not_true, Bool.not_false, decide_true]
  refine write_ st.dr (f := 3) (a := 0) (s := e) (by omega) (by omega) (by show 0 + _ ≤ _; omega) ?_
  intro w3 st'
  have st := st.trans st'
  clear st'
  rw [Turns.w1 he.1]
  try simp only [go_sem, ↓reduceIte, Nat.reduceEqDiff, Nat.reduceAdd, Nat.reduceLT, List.length_cons, List.length_nil, List.getElem?_cons_zero, List.getElem?_cons_succ, Nat.mul_one, Bool.true_eq_false, Bool.false_eq_true, false_implies, true_implies, Bool.not_true, Bool.not_false, decide_true, i00, decide_true, Bool.not_true]
  have hq1 : (Dk.new.write 3 0 e).queue.length ≤ 50000 := by
    rw [Dk.write_idle rfl]; have := writeD_queue Dk.new 3 0 e; have h0 : Dk.new.queue.length = 0 := rfl; omega
  refine flush_ st.dr (f := 3) (by omega) ?_
  intro w4 st'
  have st := st.trans st'
  clear st'
  rw [Turns.r1]
  rw [Turns.f1 he.1] at st
  try simp only [go_sem, ↓reduceIte, Nat.reduceEqDiff, Nat.reduceAdd, Nat.reduceLT, List.length_cons, List.length_nil, List.getElem?_cons_zero, List.getElem?_cons_succ, Nat.mul_one, Bool.true_eq_false, Bool.false_eq_true, false_implies, true_implies, Bool.not_true, Bool.not_false, decide_true, i00, decide_true, Bool.not_true]
  unfold h3_2
  try simp only [go_sem, ↓reduceIte, Nat.reduceEqDiff, Nat.reduceAdd, Nat.reduceLT, List.length_cons, List.length_nil, List.getElem?_cons_zero, List.getElem?_cons_succ, Nat.mul_one, Bool.true_eq_false, Bool.false_eq_true, false_implies, true_implies, Bool.not_true, Bool.not_false, decide_true]
  have hqb : ∀ D : Dk, D.queue.length ≤ 50000 → (D.turn 3 4).queue.length ≤ 100000 := by
    intro D h
    have h1 := pre_queue D
    unfold Dk.turn
    dsimp only
    split
    · omega
    · split
      · omega
      · split
        · omega
        · have := List.length_filter_le (fun p : Pd => !decide (p.file = (4 : Int).toNat)) (D.pre.settle (3 : Int).toNat (D.pre.last (4 : Int).toNat)).queue
          have := List.length_filter_le (fun p : Pd => !decide (p.file = (3 : Int).toNat)) D.pre.queue
          simp only [Dk.settle] at *; omega
  refine ⟨fun h0 => ?_, fun h0 => ?_⟩
  · have h0 : step ≠ 0 := by simpa using h0
    refine write_ st.dr (f := 4) (a := 0) (s := n) (by omega) (by omega) (by show 0 + _ ≤ _; omega) ?_
    intro w5 st'
    have st := st.trans st'
    clear st'
    rw [Turns.w2 he.2] at st
    have hq2 : (Turns.pend e n).queue.length ≤ 50000 := by have := pieces_len 4 n.length 0 n; show (pieces 4 n.length 0 n).length ≤ _; omega
    unfold h3_3
    try simp only [go_sem, ↓reduceIte, Nat.reduceEqDiff, Nat.reduceAdd, Nat.reduceLT, List.length_cons, List.length_nil, List.getElem?_cons_zero, List.getElem?_cons_succ, Nat.mul_one, Bool.true_eq_false, Bool.false_eq_true, false_implies, true_implies, Bool.not_true, Bool.not_false, decide_true]
    by_cases h1 : step = 1
    · subst h1
      try simp only [go_sem, ↓reduceIte, Nat.reduceEqDiff, Nat.reduceAdd, Nat.reduceLT, List.length_cons, List.length_nil, List.getElem?_cons_zero, List.getElem?_cons_succ, Nat.mul_one, Bool.true_eq_false, Bool.false_eq_true, false_implies, true_implies, Bool.not_true, Bool.not_false, decide_true, i00]
      refine ⟨(fun h => by cases h), fun _ => ?_⟩
      by_cases hn : n = []
      · subst hn
        rw [Turns.pend_nil] at st
        exact turns_tail hv hpp rfl rfl rfl rfl rfl rfl st (Nat.zero_le _) (by rw [Turns.t0]; exact Nat.zero_le _) (by rw [Turns.t0]; rfl) (.inr (.inl ⟨by omega, rfl, fun _ => rfl, by rw [Turns.t0]; rfl, by rw [Turns.t0]; rfl⟩)) k
      · have hend := Turns.end_pend (e := e) (n := n) ks
        exact turns_tail hv hpp rfl rfl rfl rfl rfl rfl st (by omega) (hqb _ hq2) (by rw [Turns.t1 hn]; exact hend.2.1) (.inr (.inr ⟨rfl, by rw [Turns.tr1, if_neg hn], by rw [Turns.t1 hn]; exact hend.1, by rw [Turns.t1 hn]; exact hend.2.2⟩)) k
    · refine ⟨fun _ => ?_, fun h => absurd h (by simp [h0, h1])⟩
      refine flush_ st.dr (f := 4) (by omega) ?_
      intro w6 st'
      have st := st.trans st'
      clear st'
      rw [Turns.f2] at st
      try simp only [go_sem, ↓reduceIte, Nat.reduceEqDiff, Nat.reduceAdd, Nat.reduceLT, List.length_cons, List.length_nil, List.getElem?_cons_zero, List.getElem?_cons_succ, Nat.mul_one, Bool.true_eq_false, Bool.false_eq_true, false_implies, true_implies, Bool.not_true, Bool.not_false, decide_true]
      exact turns_tail hv hpp rfl rfl rfl rfl rfl rfl st (Nat.zero_le _) (by rw [Turns.t2]; exact Nat.zero_le _) (by rw [Turns.t2]; rfl) (.inr (.inl ⟨h0, rfl, fun h => absurd h h1, by rw [Turns.t2]; rfl, by rw [Turns.t2]; rfl⟩)) k
  · have h0 : step = 0 := by simpa using h0
    subst h0
    unfold h3_3
    try simp only [go_sem, ↓reduceIte, Nat.reduceEqDiff, Nat.reduceAdd, Nat.reduceLT, List.length_cons, List.length_nil, List.getElem?_cons_zero, List.getElem?_cons_succ, Nat.mul_one, Bool.true_eq_false, Bool.false_eq_true, false_implies, true_implies, Bool.not_true, Bool.not_false, decide_true]
    exact turns_tail hv hpp rfl rfl rfl rfl rfl rfl st (Nat.zero_le _) (by rw [Turns.t0]; exact Nat.zero_le _) (by rw [Turns.t0]; rfl) (.inl ⟨rfl, rfl, by rw [Turns.t0]; rfl⟩) k
end
end Go.Proofs.Y
