/- JF: the log's operations: add, Append. -/
import Derived.Test.YtgalileklafbbaaJC
set_option linter.unusedSimpArgs false
set_option linter.unusedVariables false
set_option maxRecDepth 100000
namespace Go.Proofs.Y
open Go Go.HL Go.Proofs

/-- a world that was, and blocks of it that are to be left alone -/
structure Base where
  w : World
  A : Nat → Prop
  lt : ∀ k, A k → k < w.heap.size
structure GS (w0 : Base) (w : World) (p q f : Nat) (d : Dk) (L : Lg) (F : FP) (S : Nat → Prop) : Prop where
  dr : DR w p d F
  lg : LG w q p f L S
  ap : ∀ k, F.R k → ¬ S k
  f0 : ∀ k, F.R k → ¬ w0.A k
  s0 : ∀ k, S k → ¬ w0.A k
  m : Mod (fun k => ¬ w0.A k) w0.w w

section
variable {w0 : Base} {w w' : World} {p q f : Nat} {d d' : Dk} {L L' : Lg} {F : FP} {S : Nat → Prop}
theorem GS.disk (h : GS w0 w p q f d L F S) (st : St F w w' p d') : GS w0 w' p q f d' L st.foot S := by
  have hs := h.m.size
  refine ⟨st.dr, h.lg.mod st.mod fun k hk hW => h.ap k (h.dr.sub k hW) hk, fun k hk hS => ?_, fun k hk => ?_, h.s0, h.m.trans st.mod fun k hk hW => h.f0 k (h.dr.sub k hW)⟩
  · rcases st.footR k hk with h' | h'
    · exact h.ap k h' hS
    · have := h.lg.lt k hS; omega
  · rcases st.footR k hk with h' | h'
    · exact h.f0 k h'
    · intro hA; have := w0.lt k hA; omega
theorem GS.log (h : GS w0 w p q f d L F S) {S' : Nat → Prop} (lg : LG w' q p f L' S') (hS : ∀ k, S' k → S k ∨ w.heap.size ≤ k) (m : Mod S w w') : GS w0 w' p q f d L' F S' := by
  have hs := h.m.size
  refine ⟨h.dr.mod m fun k hk hS => h.ap k hk hS, lg, fun k hk hS' => ?_, h.f0, fun k hk => ?_, h.m.trans m fun k hk hS => h.s0 k hS⟩
  · rcases hS k hS' with h' | h'
    · exact h.ap k hk h'
    · have := h.dr.lt k hk; omega
  · rcases hS k hk with h' | h'
    · exact h.s0 k h'
    · intro hA; have := w0.lt k hA; omega
theorem GS.mod0 (h : GS w0 w p q f d L F S) (m : Mod none' w w') : GS w0 w' p q f d L F S := ⟨h.dr.mod0 m, h.lg.mod0 m, h.ap, h.f0, h.s0, h.m.trans m fun _ _ h => h.elim⟩
end

/-- a step of disk and log together -/
def GT (w0 : Base) (w' : World) (p q f : Nat) (d : Dk) (L : Lg) : Prop := ∃ F S, GS w0 w' p q f d L F S
theorem GS.jt {w0 : Base} {w' : World} {p q f : Nat} {d : Dk} {L : Lg} {F : FP} {S : Nat → Prop} (h : GS w0 w' p q f d L F S) : GT w0 w' p q f d L := ⟨F, S, h⟩

/-! ### what the operations do -/
/-- rows added -/
def addE (d : Dk) (L : Lg) (f : Nat) (rows : List Bytes) : Int := d.writeR f L.end_ (formsB rows)
def addD' (d : Dk) (L : Lg) (f : Nat) (rows : List Bytes) : Dk := d.write f L.end_ (formsB rows)
def Lg.add (L : Lg) (rows : List Bytes) : Lg := ⟨L.rows ++ rows, L.sure, L.end_ + (formsB rows).length⟩

theorem formsB_rows : ∀ l : List Bytes, l.length * 16 ≤ (formsB l).length
  | [] => by simp
  | x :: l => by
    have := formsB_rows l
    simp only [formsB, List.flatMap_cons, List.length_append, List.length_cons, formB_len] at this ⊢
    omega

theorem writeR_fit {d : Dk} {f a : Int} {s : Bytes} (h : d.writeR f a s = 0) : a + s.length ≤ 16777216 := by
  unfold Dk.writeR at h
  split at h
  · omega
  · unfold Dk.writeE at h
    split at h
    · rename_i h1; exact absurd h h1
    · split at h
      · omega
      · split at h
        · omega
        · omega

section
variable {w : World} {next : Value → World → Prop} {QP : List PanicEntry → World → Prop}

theorem gadd_ {w0 : Base} {p q f : Nat} {d : Dk} {L : Lg} {F : FP} {S : Nat → Prop} (h : GS w0 w p q f d L F S) {v : Value} {rows : List Bytes} {n : Nat} (hv : Sl w v 1 n (rows.map str)) (hvd : 0 < n → ∀ k, v.ownBlock = some k → ¬ F.R k) (hqn : d.queue.length + (formsB rows).length ≤ 1000000000)
    (k : ∀ w', GT w0 w' p q f (addD' d L f rows) (if addE d L f rows = 0 then L.add rows else L) → next (.int .i64 (addE d L f rows)) w') :
    callvK Try.prog (.func (.func 94) #[] #[]) [ptr q, v] w next QP := by
  refine r94 rfl ?_
  unfold h94
  try simp only [go_sem, ↓reduceIte, Nat.reduceEqDiff, Nat.reduceAdd, Nat.reduceLT, List.length_cons, List.length_nil, List.getElem?_cons_zero, List.getElem?_cons_succ, Nat.mul_one, Bool.true_eq_false, Bool.false_eq_true, false_implies, true_implies, Bool.not_true, Bool.not_false, decide_true, decide_false, Int.reduceToNat, Int.cast_ofNat_Int, Int.reduceLT, Int.reduceLE, Int.reduceEq, Int.reduceNeg, eq_self, Option.isNone_some, Option.isNone_none, Bool.bne_false, Bool.bne_true]
  refine forms_ hv (by omega) ?_
  intro w1 m1
  have h1 := h.mod0 m1
  have hbd := h.lg.bd
  have hrb := h.lg.rb
  obtain ⟨rv, hb, ho, ho1, c0, c1, c2, c3, c4⟩ := h1.lg.parts
  try simp only [go_sem, ↓reduceIte, Nat.reduceEqDiff, Nat.reduceAdd, Nat.reduceLT, List.length_cons, List.length_nil, List.getElem?_cons_zero, List.getElem?_cons_succ, Nat.mul_one, Bool.true_eq_false, Bool.false_eq_true, false_implies, true_implies, Bool.not_true, Bool.not_false, decide_true, decide_false, Int.reduceToNat, Int.cast_ofNat_Int, Int.reduceLT, Int.reduceLE, Int.reduceEq, Int.reduceNeg, eq_self, Option.isNone_some, Option.isNone_none, Bool.bne_false, Bool.bne_true, c0, c1, c4]
  have h2 := h1.mod0 (Mod.drew none' w1)
  refine write_ h2.dr (by omega) (by omega) (by omega) ?_
  intro w2 st2
  have h3 := h2.disk st2
  have hv3 : Sl w2 v 1 n (rows.map str) := (hv.mod (m1.trans' (Mod.drew none' w1)) fun _ _ h => h).mod' st2.mod fun hn k hk hW => hvd hn k hk (h.dr.sub k hW)
  have hE : d.writeR f L.end_ (formsB rows) = addE d L f rows := rfl
  rw [hE]
  try simp only [go_sem, ↓reduceIte, Nat.reduceEqDiff, Nat.reduceAdd, Nat.reduceLT, List.length_cons, List.length_nil, List.getElem?_cons_zero, List.getElem?_cons_succ, Nat.mul_one, Bool.true_eq_false, Bool.false_eq_true, false_implies, true_implies, Bool.not_true, Bool.not_false, decide_true, decide_false, Int.reduceToNat, Int.cast_ofNat_Int, Int.reduceLT, Int.reduceLE, Int.reduceEq, Int.reduceNeg, eq_self, Option.isNone_some, Option.isNone_none, Bool.bne_false, Bool.bne_true]
  refine ⟨fun he => ?_, fun he => ?_⟩
  · have he : ¬ addE d L f rows = 0 := by simpa using he
    have := k w2
    rw [if_neg he] at this
    exact this h3.jt
  · have he : addE d L f rows = 0 := by simpa using he
    have hfit := writeR_fit (show d.writeR f L.end_ (formsB rows) = 0 from he)
    have hfr := formsB_rows rows
    have hrn : rows.length = n := by have := hv.len; simpa using this
    obtain ⟨rv, hb, ho, ho1, c0, c1, c2, c3, c4⟩ := h3.lg.parts
    unfold h94_1
    try simp only [go_sem, ↓reduceIte, Nat.reduceEqDiff, Nat.reduceAdd, Nat.reduceLT, List.length_cons, List.length_nil, List.getElem?_cons_zero, List.getElem?_cons_succ, Nat.mul_one, Bool.true_eq_false, Bool.false_eq_true, false_implies, true_implies, Bool.not_true, Bool.not_false, decide_true, decide_false, Int.reduceToNat, Int.cast_ofNat_Int, Int.reduceLT, Int.reduceLE, Int.reduceEq, Int.reduceNeg, eq_self, Option.isNone_some, Option.isNone_none, Bool.bne_false, Bool.bne_true, c2]
    refine append_ sl40 ho hv3 (by intro u hu; obtain ⟨x, -, rfl⟩ := List.mem_map.1 hu; rfl) (by omega) (by unfold maxLen; omega) ?_
    intro v4 w4 own4 m4 hb4 _
    obtain ⟨ua, uc, rfl, -, -⟩ := own4.form
    have hbb4 := hb.mod m4 fun hS => (ho1 q hS).2 rfl
    refine store1 sz40 hbb4 (by simp) rfl ?_
    intro w5 hb5 m5 hs5
    have c4' : w5.cell? ⟨q, 4, none⟩ = some (.int .i64 L.end_) := hb5.cell 4
    try simp only [go_sem, ↓reduceIte, Nat.reduceEqDiff, Nat.reduceAdd, Nat.reduceLT, List.length_cons, List.length_nil, List.getElem?_cons_zero, List.getElem?_cons_succ, Nat.mul_one, Bool.true_eq_false, Bool.false_eq_true, false_implies, true_implies, Bool.not_true, Bool.not_false, decide_true, decide_false, Int.reduceToNat, Int.cast_ofNat_Int, Int.reduceLT, Int.reduceLE, Int.reduceEq, Int.reduceNeg, eq_self, Option.isNone_some, Option.isNone_none, Bool.bne_false, Bool.bne_true, c4']
    rw [w64 (by omega) (by omega)]
    refine store1 sz3 hb5 (by simp) rfl ?_
    intro w6 hb6 m6 hs6
    try simp only [go_sem, ↓reduceIte, Nat.reduceEqDiff, Nat.reduceAdd, Nat.reduceLT, List.length_cons, List.length_nil, List.getElem?_cons_zero, List.getElem?_cons_succ, Nat.mul_one, Bool.true_eq_false, Bool.false_eq_true, false_implies, true_implies, Bool.not_true, Bool.not_false, decide_true, decide_false, Int.reduceToNat, Int.cast_ofNat_Int, Int.reduceLT, Int.reduceLE, Int.reduceEq, Int.reduceNeg, eq_self, Option.isNone_some, Option.isNone_none, Bool.bne_false, Bool.bne_true]
    have m56 : Mod (fun k => k = q) w4 w6 := m5.trans' m6
    have hs4 := m4.size
    have hnew : ∀ k, (Value.slice ua (L.rows.length + n) uc).ownBlock = some k → (S k ∨ w2.heap.size ≤ k) ∧ k ≠ q := by
      intro k hk
      rcases hb4 k hk with h' | h'
      · exact ⟨.inl (ho1 k h').1, (ho1 k h').2⟩
      · have := hb.lt; exact ⟨.inr h', by omega⟩
    have hself := h.lg.self
    have hlen : (L.rows ++ rows).length = L.rows.length + n := by rw [List.length_append, hrn]
    have := k w6
    rw [if_pos he, he] at this
    refine this (GS.jt (S := fun k => S k ∨ (w2.heap.size ≤ k ∧ k < w6.heap.size)) (h3.log (w' := w6) (L' := L.add rows) ⟨⟨.slice ua (L.rows.length + n) uc, ?_, ?_, fun k hk => ?_⟩, .inl hself, fun k hk => ?_, ?_, ?_⟩ (fun k hk => hk.imp id fun h => h.1) ?_))
    · have e : ((L.end_ + (formsB rows).length : Nat) : Int) = (L.end_ : Int) + (formsB rows).length := by omega
      simp only [Lg.add, e]
      simpa using hb6
    · simp only [Lg.add, hlen, List.map_append]
      exact own4.mod m56 fun k hk (e : k = q) => (hnew k hk).2 e
    · rcases (hnew k hk).1 with h' | h'
      · exact .inl h'
      · have := own4.lt k hk; have := m56.size; exact .inr ⟨h', by omega⟩
    · rcases hk with h' | h'
      · have := h3.lg.lt k h'; have := m56.size; omega
      · exact h'.2
    · simp only [Lg.add]; omega
    · simp only [Lg.add, hlen]; omega
    · refine m4.mono (T := S) (fun k hk hS => (ho1 k hS).1) |>.trans m56 fun k hk (e : k = q) => e ▸ hself

theorem gappend1_ {w0 : Base} {p q f : Nat} {d : Dk} {L : Lg} {F : FP} {S : Nat → Prop} (h : GS w0 w p q f d L F S) {row : Bytes} (hqn : d.queue.length + (formsB [row]).length ≤ 1000000000)
    (k : ∀ w', GT w0 w' p q f (addD' d L f [row]) (if addE d L f [row] = 0 then L.add [row] else L) → next (.int .i64 (addE d L f [row])) w') :
    callvK Try.prog (.func (.func 53) #[] #[]) [ptr q, str row] w next QP := by
  refine r53 rfl ?_
  unfold h53
  try simp only [go_sem, ↓reduceIte, Nat.reduceEqDiff, Nat.reduceAdd, Nat.reduceLT, List.length_cons, List.length_nil, List.getElem?_cons_zero, List.getElem?_cons_succ, Nat.mul_one, Bool.true_eq_false, Bool.false_eq_true, false_implies, true_implies, Bool.not_true, Bool.not_false, decide_true, decide_false, Int.reduceToNat, Int.cast_ofNat_Int, Int.reduceLT, Int.reduceLE, Int.reduceEq, Int.reduceNeg, eq_self, Option.isNone_some, Option.isNone_none, Bool.bne_false, Bool.bne_true]
  refine bsl1 sl40 (cs := [str row]) rfl rfl (by omega) ?_
  intro b1 w1 hb1 own1 _ m1 hs1
  try simp only [go_sem, ↓reduceIte, Nat.reduceEqDiff, Nat.reduceAdd, Nat.reduceLT, List.length_cons, List.length_nil, List.getElem?_cons_zero, List.getElem?_cons_succ, Nat.mul_one, Bool.true_eq_false, Bool.false_eq_true, false_implies, true_implies, Bool.not_true, Bool.not_false, decide_true, decide_false, Int.reduceToNat, Int.cast_ofNat_Int, Int.reduceLT, Int.reduceLE, Int.reduceEq, Int.reduceNeg, eq_self, Option.isNone_some, Option.isNone_none, Bool.bne_false, Bool.bne_true]
  refine gadd_ (rows := [row]) (h.mod0 m1) (by simpa using own1.sl) (fun _ k hk hR => ?_) hqn ?_
  · have := h.dr.lt k hR
    simp [Value.ownBlock] at hk; omega
  intro w2 jt
  try simp only [go_sem, ↓reduceIte, Nat.reduceEqDiff, Nat.reduceAdd, Nat.reduceLT, List.length_cons, List.length_nil, List.getElem?_cons_zero, List.getElem?_cons_succ, Nat.mul_one, Bool.true_eq_false, Bool.false_eq_true, false_implies, true_implies, Bool.not_true, Bool.not_false, decide_true, decide_false, Int.reduceToNat, Int.cast_ofNat_Int, Int.reduceLT, Int.reduceLE, Int.reduceEq, Int.reduceNeg, eq_self, Option.isNone_some, Option.isNone_none, Bool.bne_false, Bool.bne_true]
  exact k _ jt
end
end Go.Proofs.Y

/- JG: the log's operations: all, Flush, Batch. -/
namespace Go.Proofs.Y
open Go Go.HL Go.Proofs

theorem flush_queue (d : Dk) (f : Int) : (d.flush f).queue.length ≤ d.queue.length := by
  have hp := pre_queue d
  unfold Dk.flush; dsimp only
  split
  · omega
  · split
    · show d.pre.queue.length ≤ _; omega
    · exact Nat.le_trans (List.length_filter_le _ _) (by omega)
theorem write_queue (d : Dk) (f a : Int) (s : Bytes) : (d.write f a s).queue.length ≤ d.queue.length + s.length := by
  unfold Dk.write Dk.endW
  have := writeD_queue d.tick f a s
  rw [tick_queue] at this
  split
  · exact Nat.le_trans (crash_queue _ _) this
  · exact this
theorem cut_queue (d : Dk) (f n : Int) : (d.cut f n).queue.length ≤ d.queue.length := by
  have hp := pre_queue d
  unfold Dk.cut; dsimp only
  split
  · omega
  · split
    · omega
    · exact Nat.le_trans (List.length_filter_le _ _) (by omega)
theorem turn_queue (d : Dk) (f g : Int) : (d.turn f g).queue.length ≤ d.queue.length := by
  have hp := pre_queue d
  unfold Dk.turn; dsimp only
  split
  · omega
  · split
    · omega
    · split
      · omega
      · exact Nat.le_trans (List.length_filter_le _ _) (Nat.le_trans (List.length_filter_le _ _) (by omega))

/-- steps one behind the other, up to the first that fails -/
def allK (S : Nat → Prop) (w0 : World) : List Value → World → (Int → World → Prop) → Prop
  | [], w, K => K 0 w
  | g :: gs, w, K => callvK Try.prog g [] w (fun v w' => ∃ e : Int, v = .int .i64 e ∧ Mod S w0 w' ∧ (e = 0 → allK S w0 gs w' K) ∧ (e ≠ 0 → K e w')) noPanic

section
variable {w : World} {next : Value → World → Prop} {QP : List PanicEntry → World → Prop}

theorem all_ {S : Nat → Prop} {v : Value} {n : Nat} {gs : List Value} {K : Int → World → Prop} (hv : Sl w v 1 n gs) (hd : 0 < n → ∀ k, v.ownBlock = some k → ¬ S k) (hn : n ≤ 1000) (h : allK S w gs w K) (k : ∀ e w', K e w' → next (.int .i64 e) w') :
    callvK Try.prog (.func (.func 86) #[] #[]) [v] w next QP := by
  refine r86 rfl ?_
  have hgl : gs.length = n := by have := hv.len; omega
  obtain ⟨va, vc, rfl, hvc, -⟩ := hv.form
  unfold h86
  try simp only [go_sem, ↓reduceIte, Nat.reduceEqDiff, Nat.reduceAdd, Nat.reduceLT, List.length_cons, List.length_nil, List.getElem?_cons_zero, List.getElem?_cons_succ, Nat.mul_one, Bool.true_eq_false, Bool.false_eq_true, false_implies, true_implies, Bool.not_true, Bool.not_false, decide_true, decide_false, Int.reduceToNat, Int.cast_ofNat_Int, Int.reduceLT, Int.reduceLE, Int.reduceEq, Int.reduceNeg, eq_self, Option.isNone_some, Option.isNone_none, Bool.bne_false, Bool.bne_true]
  refine loopN n (fun i τ w' => τ 6 = .slice va n vc ∧ τ 7 = .int .i64 n ∧ τ 8 = .int .i64 i ∧ Mod S w w' ∧ allK S w (gs.drop i) w' K) ⟨0, by omega, rfl, rfl, rfl, Mod.refl _ _, h⟩ ?_
  rintro i τ w1 hi ⟨t6, t7, t8, m1, hK⟩
  unfold h86_1
  try simp only [go_sem, ↓reduceIte, Nat.reduceEqDiff, Nat.reduceAdd, Nat.reduceLT, List.length_cons, List.length_nil, List.getElem?_cons_zero, List.getElem?_cons_succ, Nat.mul_one, Bool.true_eq_false, Bool.false_eq_true, false_implies, true_implies, Bool.not_true, Bool.not_false, decide_true, decide_false, Int.reduceToNat, Int.cast_ofNat_Int, Int.reduceLT, Int.reduceLE, Int.reduceEq, Int.reduceNeg, eq_self, Option.isNone_some, Option.isNone_none, Bool.bne_false, Bool.bne_true, t6, t7, t8]
  refine ⟨fun hlt => ?_, fun hge => ?_⟩
  · have hin : i < n := by
      have : (i : Int) < n := by simpa using hlt
      omega
    obtain ⟨-, a', c', e', -, hcell⟩ := hv.mod' m1 hd
    simp only [Value.slice.injEq] at e'
    obtain ⟨rfl, -, rfl⟩ := e'
    obtain ⟨gb, o, rfl, hc⟩ := hcell (by omega)
    have hci : w1.cell? ⟨gb, o + i, none⟩ = some (gs[i]'(by omega)) := by rw [hc i (by omega), List.getElem?_eq_getElem (by omega)]
    rw [List.drop_eq_getElem_cons (by omega)] at hK
    simp only [allK] at hK
    unfold h86_2
    try simp only [go_sem, ↓reduceIte, Nat.reduceEqDiff, Nat.reduceAdd, Nat.reduceLT, List.length_cons, List.length_nil, List.getElem?_cons_zero, List.getElem?_cons_succ, Nat.mul_one, Bool.true_eq_false, Bool.false_eq_true, false_implies, true_implies, Bool.not_true, Bool.not_false, decide_true, decide_false, Int.reduceToNat, Int.cast_ofNat_Int, Int.reduceLT, Int.reduceLE, Int.reduceEq, Int.reduceNeg, eq_self, Option.isNone_some, Option.isNone_none, Bool.bne_false, Bool.bne_true, t6, t7, t8, hci]
    repeat refine ⟨⟨by omega, by omega⟩, ?_⟩
    refine callvK_mono hK ?_
    rintro v w2 ⟨e, rfl, m2, h0, h1⟩
    try simp only [go_sem, ↓reduceIte, Nat.reduceEqDiff, Nat.reduceAdd, Nat.reduceLT, List.length_cons, List.length_nil, List.getElem?_cons_zero, List.getElem?_cons_succ, Nat.mul_one, Bool.true_eq_false, Bool.false_eq_true, false_implies, true_implies, Bool.not_true, Bool.not_false, decide_true, decide_false, Int.reduceToNat, Int.cast_ofNat_Int, Int.reduceLT, Int.reduceLE, Int.reduceEq, Int.reduceNeg, eq_self, Option.isNone_some, Option.isNone_none, Bool.bne_false, Bool.bne_true, t6, t7, t8]
    refine ⟨fun he => ?_, fun he => ?_⟩
    · have he : ¬ e = 0 := by simpa using he
      exact k e w2 (h1 he)
    · have he : e = 0 := by simpa using he
      unfold h86_3
      try simp only [go_sem, ↓reduceIte, Nat.reduceEqDiff, Nat.reduceAdd, Nat.reduceLT, List.length_cons, List.length_nil, List.getElem?_cons_zero, List.getElem?_cons_succ, Nat.mul_one, Bool.true_eq_false, Bool.false_eq_true, false_implies, true_implies, Bool.not_true, Bool.not_false, decide_true, decide_false, Int.reduceToNat, Int.cast_ofNat_Int, Int.reduceLT, Int.reduceLE, Int.reduceEq, Int.reduceNeg, eq_self, Option.isNone_some, Option.isNone_none, Bool.bne_false, Bool.bne_true, t6, t7, t8]
      rw [w64 (by omega) (by omega)]
      exact ⟨i + 1, by omega, by omega, rfl, m2, h0 he⟩
  · have hio : i = n := by
      have : ¬ (i : Int) < n := by simpa using hge
      omega
    subst hio
    rw [List.drop_of_length_le (by omega)] at hK
    unfold h86_4
    try simp only [go_sem, ↓reduceIte, Nat.reduceEqDiff, Nat.reduceAdd, Nat.reduceLT, List.length_cons, List.length_nil, List.getElem?_cons_zero, List.getElem?_cons_succ, Nat.mul_one, Bool.true_eq_false, Bool.false_eq_true, false_implies, true_implies, Bool.not_true, Bool.not_false, decide_true, decide_false, Int.reduceToNat, Int.cast_ofNat_Int, Int.reduceLT, Int.reduceLE, Int.reduceEq, Int.reduceNeg, eq_self, Option.isNone_some, Option.isNone_none, Bool.bne_false, Bool.bne_true]
    exact k 0 w1 hK

/-- what Flush asks of the disk: the end's error and the disk behind it -/
def flush3 (d : Dk) (L : Lg) (f : Nat) : Dk × Int :=
  if d.flushR f ≠ 0 then (d.flush f, d.flushR f)
  else if (d.flush f).writeR f 0 (header L.end_ L.rows.length) ≠ 0 then ((d.flush f).write f 0 (header L.end_ L.rows.length), (d.flush f).writeR f 0 (header L.end_ L.rows.length))
  else (((d.flush f).write f 0 (header L.end_ L.rows.length)).flush f, ((d.flush f).write f 0 (header L.end_ L.rows.length)).flushR f)
def flushJ (d : Dk) (L : Lg) (f : Nat) : Dk × Lg × Int :=
  if L.sure = L.rows.length then (d, L, if d.down = true then 8 else 0)
  else ((flush3 d L f).1, if (flush3 d L f).2 = 0 then ⟨L.rows, L.rows.length, L.end_⟩ else L, (flush3 d L f).2)

theorem fl92_ {w0 : Base} {p q f : Nat} {d : Dk} {L : Lg} {F : FP} {S : Nat → Prop} (h : GS w0 w p q f d L F S) (hqn : d.queue.length ≤ 1000000000) (k : ∀ w', St F w w' p (d.flush f) → next (.int .i64 (d.flushR f)) w') :
    callvK Try.prog (.func (.func 92) #[ptr q] #[]) [] w next QP := by
  refine callv (first := [ptr q]) (caps := []) c92 (q92 rfl ?_)
  simp only [List.nil_append, List.append_nil, List.cons_append]
  obtain ⟨rv, hb, ho, ho1, c0, c1, c2, c3, c4⟩ := h.lg.parts
  unfold h92
  try simp only [go_sem, ↓reduceIte, Nat.reduceEqDiff, Nat.reduceAdd, Nat.reduceLT, List.length_cons, List.length_nil, List.getElem?_cons_zero, List.getElem?_cons_succ, Nat.mul_one, Bool.true_eq_false, Bool.false_eq_true, false_implies, true_implies, Bool.not_true, Bool.not_false, decide_true, decide_false, Int.reduceToNat, Int.cast_ofNat_Int, Int.reduceLT, Int.reduceLE, Int.reduceEq, Int.reduceNeg, eq_self, Option.isNone_some, Option.isNone_none, Bool.bne_false, Bool.bne_true, c0, c1]
  refine flush_ (h.dr.mod0 (Mod.drew none' w)) (by omega) ?_
  intro w' st
  try simp only [go_sem, ↓reduceIte, Nat.reduceEqDiff, Nat.reduceAdd, Nat.reduceLT, List.length_cons, List.length_nil, List.getElem?_cons_zero, List.getElem?_cons_succ, Nat.mul_one, Bool.true_eq_false, Bool.false_eq_true, false_implies, true_implies, Bool.not_true, Bool.not_false, decide_true, decide_false, Int.reduceToNat, Int.cast_ofNat_Int, Int.reduceLT, Int.reduceLE, Int.reduceEq, Int.reduceNeg, eq_self, Option.isNone_some, Option.isNone_none, Bool.bne_false, Bool.bne_true]
  exact k w' (st.after (Mod.drew none' w))

theorem fl93_ {w0 : Base} {p q f b : Nat} {d : Dk} {L : Lg} {F : FP} {S : Nat → Prop} (h : GS w0 w p q f d L F S) (hb : Blk w b 55 [ptr q]) (hqn : d.queue.length ≤ 1000000000) (k : ∀ w', St F w w' p (d.write f 0 (header L.end_ L.rows.length)) → next (.int .i64 (d.writeR f 0 (header L.end_ L.rows.length))) w') :
    callvK Try.prog (.func (.func 93) #[] #[ptr b]) [] w next QP := by
  refine callv (first := []) (caps := [ptr b]) c93 (q93 rfl ?_)
  simp only [List.nil_append, List.append_nil, List.cons_append]
  obtain ⟨rv, hbl, ho, ho1, c0, c1, c2, c3, c4⟩ := h.lg.parts
  obtain ⟨ra, rc, rfl, -, -⟩ := ho.form
  have b0 : w.cell? ⟨b, 0, none⟩ = some (ptr q) := hb.cell 0
  unfold h93
  try simp only [go_sem, ↓reduceIte, Nat.reduceEqDiff, Nat.reduceAdd, Nat.reduceLT, List.length_cons, List.length_nil, List.getElem?_cons_zero, List.getElem?_cons_succ, Nat.mul_one, Bool.true_eq_false, Bool.false_eq_true, false_implies, true_implies, Bool.not_true, Bool.not_false, decide_true, decide_false, Int.reduceToNat, Int.cast_ofNat_Int, Int.reduceLT, Int.reduceLE, Int.reduceEq, Int.reduceNeg, eq_self, Option.isNone_some, Option.isNone_none, Bool.bne_false, Bool.bne_true, b0, c0, c1, c2, c4]
  refine header_ _ _ ?_
  intro w1 m1
  have b0' := m1.cell (show w.drew.cell? ⟨b, 0, none⟩ = _ from b0) fun h => h
  have c0' := m1.cell (show w.drew.cell? ⟨q, 0, none⟩ = _ from c0) fun h => h
  have c1' := m1.cell (show w.drew.cell? ⟨q, 1, none⟩ = _ from c1) fun h => h
  have hh := header_len L.end_ L.rows.length
  try simp only [go_sem, ↓reduceIte, Nat.reduceEqDiff, Nat.reduceAdd, Nat.reduceLT, List.length_cons, List.length_nil, List.getElem?_cons_zero, List.getElem?_cons_succ, Nat.mul_one, Bool.true_eq_false, Bool.false_eq_true, false_implies, true_implies, Bool.not_true, Bool.not_false, decide_true, decide_false, Int.reduceToNat, Int.cast_ofNat_Int, Int.reduceLT, Int.reduceLE, Int.reduceEq, Int.reduceNeg, eq_self, Option.isNone_some, Option.isNone_none, Bool.bne_false, Bool.bne_true, b0', c0', c1']
  have m01 := (Mod.drew none' w).trans' m1
  refine write_ (h.dr.mod0 m01) (by omega) (by omega) (by omega) ?_
  intro w' st
  try simp only [go_sem, ↓reduceIte, Nat.reduceEqDiff, Nat.reduceAdd, Nat.reduceLT, List.length_cons, List.length_nil, List.getElem?_cons_zero, List.getElem?_cons_succ, Nat.mul_one, Bool.true_eq_false, Bool.false_eq_true, false_implies, true_implies, Bool.not_true, Bool.not_false, decide_true, decide_false, Int.reduceToNat, Int.cast_ofNat_Int, Int.reduceLT, Int.reduceLE, Int.reduceEq, Int.reduceNeg, eq_self, Option.isNone_some, Option.isNone_none, Bool.bne_false, Bool.bne_true]
  exact k w' (st.after m01)

theorem gflushJ_ {w0 : Base} {p q f : Nat} {d : Dk} {L : Lg} {F : FP} {S : Nat → Prop} (h : GS w0 w p q f d L F S) (hqn : d.queue.length ≤ 1000000) (k : ∀ w', GT w0 w' p q f (flushJ d L f).1 (flushJ d L f).2.1 → next (.int .i64 (flushJ d L f).2.2) w') :
    callvK Try.prog (.func (.func 51) #[] #[]) [ptr q] w next QP := by
  refine r51 rfl ?_
  unfold h51
  try simp only [go_sem, ↓reduceIte, Nat.reduceEqDiff, Nat.reduceAdd, Nat.reduceLT, List.length_cons, List.length_nil, List.getElem?_cons_zero, List.getElem?_cons_succ, Nat.mul_one, Bool.true_eq_false, Bool.false_eq_true, false_implies, true_implies, Bool.not_true, Bool.not_false, decide_true, decide_false, Int.reduceToNat, Int.cast_ofNat_Int, Int.reduceLT, Int.reduceLE, Int.reduceEq, Int.reduceNeg, eq_self, Option.isNone_some, Option.isNone_none, Bool.bne_false, Bool.bne_true]
  refine box_ (cs := [ptr q]) rfl ?_
  intro b w1 hb blk1 m1 hs1
  have h1 := h.mod0 m1
  obtain ⟨rv, hbl, ho, ho1, c0, c1, c2, c3, c4⟩ := h1.lg.parts
  obtain ⟨ra, rc, rfl, -, -⟩ := ho.form
  have b0 : w1.cell? ⟨b, 0, none⟩ = some (ptr q) := blk1.cell 0
  have h2 := h1.mod0 (Mod.drew none' w1)
  try simp only [go_sem, ↓reduceIte, Nat.reduceEqDiff, Nat.reduceAdd, Nat.reduceLT, List.length_cons, List.length_nil, List.getElem?_cons_zero, List.getElem?_cons_succ, Nat.mul_one, Bool.true_eq_false, Bool.false_eq_true, false_implies, true_implies, Bool.not_true, Bool.not_false, decide_true, decide_false, Int.reduceToNat, Int.cast_ofNat_Int, Int.reduceLT, Int.reduceLE, Int.reduceEq, Int.reduceNeg, eq_self, Option.isNone_some, Option.isNone_none, Bool.bne_false, Bool.bne_true, b0, c0, c1, c2, c3, c4]
  refine ⟨fun he => ?_, fun he => ?_⟩
  · have he : L.sure = L.rows.length := by
      have h0 : (L.sure : Int) = L.rows.length := by simpa using he
      omega
    have hJ : flushJ d L f = (d, L, if d.down = true then 8 else 0) := by rw [flushJ, if_pos he]
    rw [hJ] at k
    refine down_ h2.dr ?_
    try simp only [go_sem, ↓reduceIte, Nat.reduceEqDiff, Nat.reduceAdd, Nat.reduceLT, List.length_cons, List.length_nil, List.getElem?_cons_zero, List.getElem?_cons_succ, Nat.mul_one, Bool.true_eq_false, Bool.false_eq_true, false_implies, true_implies, Bool.not_true, Bool.not_false, decide_true, decide_false, Int.reduceToNat, Int.cast_ofNat_Int, Int.reduceLT, Int.reduceLE, Int.reduceEq, Int.reduceNeg, eq_self, Option.isNone_some, Option.isNone_none, Bool.bne_false, Bool.bne_true]
    refine ⟨fun hd => ?_, fun hd => ?_⟩
    · have := k w1.drew h2.jt
      rw [hd] at this; exact this
    · unfold h51_1
      try simp only [go_sem, ↓reduceIte, Nat.reduceEqDiff, Nat.reduceAdd, Nat.reduceLT, List.length_cons, List.length_nil, List.getElem?_cons_zero, List.getElem?_cons_succ, Nat.mul_one, Bool.true_eq_false, Bool.false_eq_true, false_implies, true_implies, Bool.not_true, Bool.not_false, decide_true, decide_false, Int.reduceToNat, Int.cast_ofNat_Int, Int.reduceLT, Int.reduceLE, Int.reduceEq, Int.reduceNeg, eq_self, Option.isNone_some, Option.isNone_none, Bool.bne_false, Bool.bne_true]
      have := k w1.drew h2.jt
      rw [hd] at this; exact this
  · have he : ¬ L.sure = L.rows.length := by
      have h0 : ¬ (L.sure : Int) = L.rows.length := by simpa using he
      omega
    have hJ : flushJ d L f = ((flush3 d L f).1, if (flush3 d L f).2 = 0 then ⟨L.rows, L.rows.length, L.end_⟩ else L, (flush3 d L f).2) := by rw [flushJ, if_neg he]
    rw [hJ] at k
    have b0' : w1.drew.cell? ⟨b, 0, none⟩ = some (ptr q) := b0
    unfold h51_2
    try simp only [go_sem, ↓reduceIte, Nat.reduceEqDiff, Nat.reduceAdd, Nat.reduceLT, List.length_cons, List.length_nil, List.getElem?_cons_zero, List.getElem?_cons_succ, Nat.mul_one, Bool.true_eq_false, Bool.false_eq_true, false_implies, true_implies, Bool.not_true, Bool.not_false, decide_true, decide_false, Int.reduceToNat, Int.cast_ofNat_Int, Int.reduceLT, Int.reduceLE, Int.reduceEq, Int.reduceNeg, eq_self, Option.isNone_some, Option.isNone_none, Bool.bne_false, Bool.bne_true, b0]
    refine bsl3 (t := 128) (e := 70) (by_ := 8) (z := .nilFunc) ⟨by kernel_rfl, by kernel_rfl, rfl, by decide⟩ rfl rfl rfl ?_
    intro b2 w3 hb2 own3 blk3 m3 hs3
    have h3 := h2.mod0 m3
    have blk1' : Blk w3 b 55 [ptr q] := (blk1.mod (Mod.drew none' w1) fun h => h).mod m3 fun h => h
    have hbF : ¬ F.W b := fun hW => by have := h.dr.lt b (h.dr.sub b hW); omega
    have hb2F : ¬ F.W b2 := fun hW => by have := h2.dr.lt b2 (h2.dr.sub b2 hW); omega
    have hbl1 := blk1.lt
    refine all_ (S := F.W) (K := fun e w' => e = (flush3 d L f).2 ∧ Mod F.W w3 w' ∧ GT w0 w' p q f (flush3 d L f).1 L) own3.sl (fun _ k hk hW => hb2F (by simp [Value.ownBlock] at hk; exact hk ▸ hW)) (by omega) ?_ ?_
    · have hhl := header_len L.end_ L.rows.length
      have q1 := flush_queue d f
      have q2 := write_queue (d.flush f) f 0 (header L.end_ L.rows.length)
      simp only [allK]
      refine fl92_ h3 (by omega) ?_
      intro w4 st4
      have h4 := h3.disk st4
      have m4 : Mod F.W w3 w4 := st4.mod
      refine ⟨_, rfl, m4, fun he1 => ?_, fun he1 => ⟨by simp only [flush3, if_pos he1], m4, by simp only [flush3, if_pos he1]; exact h4.jt⟩⟩
      have n1 : ¬ (d.flushR f ≠ 0) := fun h => h he1
      refine fl93_ h4 (blk1'.mod m4 hbF) (by omega) ?_
      intro w5 st5
      have h5 := h4.disk st5
      have m5 : Mod F.W w3 w5 := m4.trans st5.mod fun k hk hW => by
        rcases st4.footW k hW with h' | h'
        · exact h'
        · omega
      refine ⟨_, rfl, m5, fun he2 => ?_, fun he2 => ⟨by simp only [flush3, if_neg n1, if_pos he2], m5, by simp only [flush3, if_neg n1, if_pos he2]; exact h5.jt⟩⟩
      have n2 : ¬ ((d.flush f).writeR f 0 (header L.end_ L.rows.length) ≠ 0) := fun h => h he2
      refine fl92_ h5 (by omega) ?_
      intro w6 st6
      have h6 := h5.disk st6
      have hs4 := m4.size
      have m6 : Mod F.W w3 w6 := m5.trans st6.mod fun k hk hW => by
        rcases st5.footW k hW with h' | h'
        · rcases st4.footW k h' with h'' | h''
          · exact h''
          · omega
        · omega
      exact ⟨_, rfl, m6, fun he3 => ⟨by simp only [flush3, if_neg n1, if_neg n2]; exact he3.symm, m6, by simp only [flush3, if_neg n1, if_neg n2]; exact h6.jt⟩, fun he3 => ⟨by simp only [flush3, if_neg n1, if_neg n2], m6, by simp only [flush3, if_neg n1, if_neg n2]; exact h6.jt⟩⟩
    · rintro e w4 ⟨rfl, m4, F4, S4, h4⟩
      have b4 : w4.cell? ⟨b, 0, none⟩ = some (ptr q) := (blk1'.mod m4 hbF).cell 0
      obtain ⟨rv, hbl, ho, ho1, c0, c1, c2, c3, c4⟩ := h4.lg.parts
      obtain ⟨ra, rc, rfl, -, -⟩ := ho.form
      try simp only [go_sem, ↓reduceIte, Nat.reduceEqDiff, Nat.reduceAdd, Nat.reduceLT, List.length_cons, List.length_nil, List.getElem?_cons_zero, List.getElem?_cons_succ, Nat.mul_one, Bool.true_eq_false, Bool.false_eq_true, false_implies, true_implies, Bool.not_true, Bool.not_false, decide_true, decide_false, Int.reduceToNat, Int.cast_ofNat_Int, Int.reduceLT, Int.reduceLE, Int.reduceEq, Int.reduceNeg, eq_self, Option.isNone_some, Option.isNone_none, Bool.bne_false, Bool.bne_true, b4]
      refine ⟨fun he => ?_, fun he => ?_⟩
      · have he : (flush3 d L f).2 = 0 := by simpa using he
        rw [if_pos he, he] at k
        try simp only [go_sem, ↓reduceIte, Nat.reduceEqDiff, Nat.reduceAdd, Nat.reduceLT, List.length_cons, List.length_nil, List.getElem?_cons_zero, List.getElem?_cons_succ, Nat.mul_one, Bool.true_eq_false, Bool.false_eq_true, false_implies, true_implies, Bool.not_true, Bool.not_false, decide_true, decide_false, Int.reduceToNat, Int.cast_ofNat_Int, Int.reduceLT, Int.reduceLE, Int.reduceEq, Int.reduceNeg, eq_self, Option.isNone_some, Option.isNone_none, Bool.bne_false, Bool.bne_true, b4, c2]
        refine store1 sz3 (hbl.mod (Mod.drew none' w4) fun h => h) (by simp) rfl ?_
        intro w5 hb5 m5 hs5
        unfold h51_3
        try simp only [go_sem, ↓reduceIte, Nat.reduceEqDiff, Nat.reduceAdd, Nat.reduceLT, List.length_cons, List.length_nil, List.getElem?_cons_zero, List.getElem?_cons_succ, Nat.mul_one, Bool.true_eq_false, Bool.false_eq_true, false_implies, true_implies, Bool.not_true, Bool.not_false, decide_true, decide_false, Int.reduceToNat, Int.cast_ofNat_Int, Int.reduceLT, Int.reduceLE, Int.reduceEq, Int.reduceNeg, eq_self, Option.isNone_some, Option.isNone_none, Bool.bne_false, Bool.bne_true, he]
        refine k _ (GS.jt ((h4.mod0 (Mod.drew none' w4)).log (S' := S4) ⟨⟨.slice ra L.rows.length rc, by simpa using hb5, (ho.mod (Mod.drew none' w4) fun _ _ h => h).mod m5 fun k hk (e : k = q) => (ho1 k hk).2 e, fun k hk => (ho1 k hk).1⟩, h4.lg.self, fun k hk => ?_, h4.lg.bd, h4.lg.rb⟩ (fun k hk => .inl hk) (m5.mono fun k _ (e : k = q) => e ▸ h4.lg.self)))
        have := h4.lg.lt k hk; have := m5.size; simp at this; omega
      · have he : ¬ (flush3 d L f).2 = 0 := by simpa using he
        rw [if_neg he] at k
        unfold h51_3
        try simp only [go_sem, ↓reduceIte, Nat.reduceEqDiff, Nat.reduceAdd, Nat.reduceLT, List.length_cons, List.length_nil, List.getElem?_cons_zero, List.getElem?_cons_succ, Nat.mul_one, Bool.true_eq_false, Bool.false_eq_true, false_implies, true_implies, Bool.not_true, Bool.not_false, decide_true, decide_false, Int.reduceToNat, Int.cast_ofNat_Int, Int.reduceLT, Int.reduceLE, Int.reduceEq, Int.reduceNeg, eq_self, Option.isNone_some, Option.isNone_none, Bool.bne_false, Bool.bne_true]
        exact k _ h4.jt
end
end Go.Proofs.Y

/- JH: the log's operations: Batch, All, Sure, Rewrite. -/
namespace Go.Proofs.Y
open Go Go.HL Go.Proofs

def batchJ (d : Dk) (L : Lg) (f : Nat) (rows : List Bytes) : Dk × Lg × Int :=
  if rows = [] then flushJ d L f
  else if addE d L f rows ≠ 0 then (addD' d L f rows, L, addE d L f rows)
  else flushJ (addD' d L f rows) (L.add rows) f

/-- the disk behind a rewriting, and the error -/
def rewr (d : Dk) (f : Nat) (rows : List Bytes) : Dk × Int :=
  let s := header (16 + (formsB rows).length : Nat) rows.length ++ formsB rows
  if d.cutR (f + 1 : Nat) 0 ≠ 0 then (d.cut (f + 1 : Nat) 0, d.cutR (f + 1 : Nat) 0)
  else if (d.cut (f + 1 : Nat) 0).writeR (f + 1 : Nat) 0 s ≠ 0 then ((d.cut (f + 1 : Nat) 0).write (f + 1 : Nat) 0 s, (d.cut (f + 1 : Nat) 0).writeR (f + 1 : Nat) 0 s)
  else if ((d.cut (f + 1 : Nat) 0).write (f + 1 : Nat) 0 s).flushR (f + 1 : Nat) ≠ 0 then (((d.cut (f + 1 : Nat) 0).write (f + 1 : Nat) 0 s).flush (f + 1 : Nat), ((d.cut (f + 1 : Nat) 0).write (f + 1 : Nat) 0 s).flushR (f + 1 : Nat))
  else ((((d.cut (f + 1 : Nat) 0).write (f + 1 : Nat) 0 s).flush (f + 1 : Nat)).turn f (f + 1 : Nat), (((d.cut (f + 1 : Nat) 0).write (f + 1 : Nat) 0 s).flush (f + 1 : Nat)).turnR f (f + 1 : Nat))
def rewriteJ (d : Dk) (L : Lg) (f : Nat) (rows : List Bytes) : Dk × Lg × Int :=
  ((rewr d f rows).1, if (rewr d f rows).2 = 0 then ⟨rows, rows.length, 16 + (formsB rows).length⟩ else L, (rewr d f rows).2)

theorem rewr_ok {d : Dk} {f : Nat} {rows : List Bytes} (h : (rewr d f rows).2 = 0) : 16 + (formsB rows).length ≤ 16777216 := by
  have hhl := header_len (16 + (formsB rows).length : Nat) rows.length
  have key : (d.cut (f + 1 : Nat) 0).writeR (f + 1 : Nat) 0 (header (16 + (formsB rows).length : Nat) rows.length ++ formsB rows) = 0 := by
    unfold rewr at h
    dsimp only at h
    split at h
    · rename_i h1; exact absurd h h1
    · split at h
      · rename_i h1; exact absurd h h1
      · rename_i h1
        exact Decidable.byContradiction fun hn => h1 hn
  have := writeR_fit key
  rw [List.length_append, hhl] at this
  omega

section
variable {w : World} {next : Value → World → Prop} {QP : List PanicEntry → World → Prop} {w0 : Base} {p q f : Nat} {d : Dk} {L : Lg} {F : FP} {S : Nat → Prop}

theorem jall_ (h : LG w q p f L S) (k : ∀ v w', Own w' v 9 1 L.rows.length (L.rows.map str) → Mod none' w w' → (∀ k, v.ownBlock = some k → w.heap.size ≤ k) → next v w') : callvK Try.prog (.func (.func 47) #[] #[]) [ptr q] w next QP := by
  refine r47 rfl ?_
  obtain ⟨rv, hb, ho, ho1, c0, c1, c2, c3, c4⟩ := h.parts
  have := h.rb; have := h.bd
  unfold h47
  try simp only [go_sem, ↓reduceIte, Nat.reduceEqDiff, Nat.reduceAdd, Nat.reduceLT, List.length_cons, List.length_nil, List.getElem?_cons_zero, List.getElem?_cons_succ, Nat.mul_one, Bool.true_eq_false, Bool.false_eq_true, false_implies, true_implies, Bool.not_true, Bool.not_false, decide_true, decide_false, Int.reduceToNat, Int.cast_ofNat_Int, Int.reduceLT, Int.reduceLE, Int.reduceEq, Int.reduceNeg, eq_self, Option.isNone_some, Option.isNone_none, Bool.bne_false, Bool.bne_true, c2]
  refine sclone_ ho.sl (by omega) ?_
  intro v w1 own1 m1 hn1
  try simp only [go_sem, ↓reduceIte, Nat.reduceEqDiff, Nat.reduceAdd, Nat.reduceLT, List.length_cons, List.length_nil, List.getElem?_cons_zero, List.getElem?_cons_succ, Nat.mul_one, Bool.true_eq_false, Bool.false_eq_true, false_implies, true_implies, Bool.not_true, Bool.not_false, decide_true, decide_false, Int.reduceToNat, Int.cast_ofNat_Int, Int.reduceLT, Int.reduceLE, Int.reduceEq, Int.reduceNeg, eq_self, Option.isNone_some, Option.isNone_none, Bool.bne_false, Bool.bne_true]
  exact k v w1 own1 m1 hn1

theorem jsure_ (h : LG w q p f L S) (k : next (.int .i64 L.sure) w) : callvK Try.prog (.func (.func 54) #[] #[]) [ptr q] w next QP := by
  refine r54 rfl ?_
  obtain ⟨rv, hb, ho, ho1, c0, c1, c2, c3, c4⟩ := h.parts
  unfold h54
  try simp only [go_sem, ↓reduceIte, Nat.reduceEqDiff, Nat.reduceAdd, Nat.reduceLT, List.length_cons, List.length_nil, List.getElem?_cons_zero, List.getElem?_cons_succ, Nat.mul_one, Bool.true_eq_false, Bool.false_eq_true, false_implies, true_implies, Bool.not_true, Bool.not_false, decide_true, decide_false, Int.reduceToNat, Int.cast_ofNat_Int, Int.reduceLT, Int.reduceLE, Int.reduceEq, Int.reduceNeg, eq_self, Option.isNone_some, Option.isNone_none, Bool.bne_false, Bool.bne_true, c3]
  exact k

theorem gbatch_ (h : GS w0 w p q f d L F S) {v : Value} {rows : List Bytes} {n : Nat} (hv : Sl w v 1 n (rows.map str)) (hvd : 0 < n → ∀ k, v.ownBlock = some k → ¬ F.R k) (hqn : d.queue.length + (formsB rows).length ≤ 1000000)
    (k : ∀ w', GT w0 w' p q f (batchJ d L f rows).1 (batchJ d L f rows).2.1 → next (.int .i64 (batchJ d L f rows).2.2) w') :
    callvK Try.prog (.func (.func 52) #[] #[]) [ptr q, v] w next QP := by
  refine r52 rfl ?_
  have hrn : rows.length = n := by have := hv.len; simpa using this
  obtain ⟨va, vc, rfl, -, -⟩ := hv.form
  unfold h52
  try simp only [go_sem, ↓reduceIte, Nat.reduceEqDiff, Nat.reduceAdd, Nat.reduceLT, List.length_cons, List.length_nil, List.getElem?_cons_zero, List.getElem?_cons_succ, Nat.mul_one, Bool.true_eq_false, Bool.false_eq_true, false_implies, true_implies, Bool.not_true, Bool.not_false, decide_true, decide_false, Int.reduceToNat, Int.cast_ofNat_Int, Int.reduceLT, Int.reduceLE, Int.reduceEq, Int.reduceNeg, eq_self, Option.isNone_some, Option.isNone_none, Bool.bne_false, Bool.bne_true]
  refine ⟨fun hn => ?_, fun hn => ?_⟩
  · have hn : 0 < n := by
      have : (0 : Int) < n := by simpa using hn
      omega
    have hne : ¬ rows = [] := by rintro rfl; simp at hrn; omega
    refine gadd_ h hv hvd (by omega) ?_
    intro w1 jt
    try simp only [go_sem, ↓reduceIte, Nat.reduceEqDiff, Nat.reduceAdd, Nat.reduceLT, List.length_cons, List.length_nil, List.getElem?_cons_zero, List.getElem?_cons_succ, Nat.mul_one, Bool.true_eq_false, Bool.false_eq_true, false_implies, true_implies, Bool.not_true, Bool.not_false, decide_true, decide_false, Int.reduceToNat, Int.cast_ofNat_Int, Int.reduceLT, Int.reduceLE, Int.reduceEq, Int.reduceNeg, eq_self, Option.isNone_some, Option.isNone_none, Bool.bne_false, Bool.bne_true]
    refine ⟨fun he => ?_, fun he => ?_⟩
    · have he : ¬ addE d L f rows = 0 := by simpa using he
      simp only [batchJ, if_neg hne, if_pos he] at k
      rw [if_neg he] at jt
      exact k _ jt
    · have he : addE d L f rows = 0 := by simpa using he
      have he' : ¬ (addE d L f rows ≠ 0) := fun h => h he
      simp only [batchJ, if_neg hne, if_neg he'] at k
      rw [if_pos he] at jt
      obtain ⟨F1, S1, h1⟩ := jt
      unfold h52_1
      try simp only [go_sem, ↓reduceIte, Nat.reduceEqDiff, Nat.reduceAdd, Nat.reduceLT, List.length_cons, List.length_nil, List.getElem?_cons_zero, List.getElem?_cons_succ, Nat.mul_one, Bool.true_eq_false, Bool.false_eq_true, false_implies, true_implies, Bool.not_true, Bool.not_false, decide_true, decide_false, Int.reduceToNat, Int.cast_ofNat_Int, Int.reduceLT, Int.reduceLE, Int.reduceEq, Int.reduceNeg, eq_self, Option.isNone_some, Option.isNone_none, Bool.bne_false, Bool.bne_true]
      have := write_queue d f L.end_ (formsB rows)
      refine gflushJ_ h1 (by show (d.write f L.end_ (formsB rows)).queue.length ≤ _; omega) ?_
      intro w2 jt2
      try simp only [go_sem, ↓reduceIte, Nat.reduceEqDiff, Nat.reduceAdd, Nat.reduceLT, List.length_cons, List.length_nil, List.getElem?_cons_zero, List.getElem?_cons_succ, Nat.mul_one, Bool.true_eq_false, Bool.false_eq_true, false_implies, true_implies, Bool.not_true, Bool.not_false, decide_true, decide_false, Int.reduceToNat, Int.cast_ofNat_Int, Int.reduceLT, Int.reduceLE, Int.reduceEq, Int.reduceNeg, eq_self, Option.isNone_some, Option.isNone_none, Bool.bne_false, Bool.bne_true]
      exact k _ jt2
  · have hn : n = 0 := by
      have : ¬ (0 : Int) < n := by simpa using hn
      omega
    have hne : rows = [] := List.eq_nil_of_length_eq_zero (by omega)
    simp only [batchJ, if_pos hne] at k
    unfold h52_1
    try simp only [go_sem, ↓reduceIte, Nat.reduceEqDiff, Nat.reduceAdd, Nat.reduceLT, List.length_cons, List.length_nil, List.getElem?_cons_zero, List.getElem?_cons_succ, Nat.mul_one, Bool.true_eq_false, Bool.false_eq_true, false_implies, true_implies, Bool.not_true, Bool.not_false, decide_true, decide_false, Int.reduceToNat, Int.cast_ofNat_Int, Int.reduceLT, Int.reduceLE, Int.reduceEq, Int.reduceNeg, eq_self, Option.isNone_some, Option.isNone_none, Bool.bne_false, Bool.bne_true]
    refine gflushJ_ h (by omega) ?_
    intro w2 jt2
    try simp only [go_sem, ↓reduceIte, Nat.reduceEqDiff, Nat.reduceAdd, Nat.reduceLT, List.length_cons, List.length_nil, List.getElem?_cons_zero, List.getElem?_cons_succ, Nat.mul_one, Bool.true_eq_false, Bool.false_eq_true, false_implies, true_implies, Bool.not_true, Bool.not_false, decide_true, decide_false, Int.reduceToNat, Int.cast_ofNat_Int, Int.reduceLT, Int.reduceLE, Int.reduceEq, Int.reduceNeg, eq_self, Option.isNone_some, Option.isNone_none, Bool.bne_false, Bool.bne_true]
    exact k _ jt2

theorem cl87_ {b : Nat} (h : GS w0 w p q f d L F S) (hf : f ≤ 6) (hb : Blk w b 55 [ptr q]) (hqn : d.queue.length ≤ 1000000000) (k : ∀ w', St F w w' p (d.cut (f + 1 : Nat) 0) → next (.int .i64 (d.cutR (f + 1 : Nat) 0)) w') :
    callvK Try.prog (.func (.func 87) #[] #[ptr b]) [] w next QP := by
  refine callv (first := []) (caps := [ptr b]) c87 (q87 rfl ?_)
  simp only [List.nil_append, List.append_nil, List.cons_append]
  obtain ⟨rv, hbl, ho, ho1, c0, c1, c2, c3, c4⟩ := h.lg.parts
  have b0 : w.cell? ⟨b, 0, none⟩ = some (ptr q) := hb.cell 0
  unfold h87
  try simp only [go_sem, ↓reduceIte, Nat.reduceEqDiff, Nat.reduceAdd, Nat.reduceLT, List.length_cons, List.length_nil, List.getElem?_cons_zero, List.getElem?_cons_succ, Nat.mul_one, Bool.true_eq_false, Bool.false_eq_true, false_implies, true_implies, Bool.not_true, Bool.not_false, decide_true, decide_false, Int.reduceToNat, Int.cast_ofNat_Int, Int.reduceLT, Int.reduceLE, Int.reduceEq, Int.reduceNeg, eq_self, Option.isNone_some, Option.isNone_none, Bool.bne_false, Bool.bne_true, b0, c0, c1]
  rw [w64 (by omega) (by omega), show (f : Int) + 1 = ((f + 1 : Nat) : Int) from rfl]
  refine cut_ (h.dr.mod0 (Mod.drew none' w)) (by omega) ?_
  intro w' st
  try simp only [go_sem, ↓reduceIte, Nat.reduceEqDiff, Nat.reduceAdd, Nat.reduceLT, List.length_cons, List.length_nil, List.getElem?_cons_zero, List.getElem?_cons_succ, Nat.mul_one, Bool.true_eq_false, Bool.false_eq_true, false_implies, true_implies, Bool.not_true, Bool.not_false, decide_true, decide_false, Int.reduceToNat, Int.cast_ofNat_Int, Int.reduceLT, Int.reduceLE, Int.reduceEq, Int.reduceNeg, eq_self, Option.isNone_some, Option.isNone_none, Bool.bne_false, Bool.bne_true]
  exact k w' (st.after (Mod.drew none' w))
theorem cl90_ {b : Nat} (h : GS w0 w p q f d L F S) (hf : f ≤ 6) (hb : Blk w b 55 [ptr q]) (hqn : d.queue.length ≤ 1000000000) (k : ∀ w', St F w w' p (d.flush (f + 1 : Nat)) → next (.int .i64 (d.flushR (f + 1 : Nat))) w') :
    callvK Try.prog (.func (.func 90) #[] #[ptr b]) [] w next QP := by
  refine callv (first := []) (caps := [ptr b]) c90 (q90 rfl ?_)
  simp only [List.nil_append, List.append_nil, List.cons_append]
  obtain ⟨rv, hbl, ho, ho1, c0, c1, c2, c3, c4⟩ := h.lg.parts
  have b0 : w.cell? ⟨b, 0, none⟩ = some (ptr q) := hb.cell 0
  unfold h90
  try simp only [go_sem, ↓reduceIte, Nat.reduceEqDiff, Nat.reduceAdd, Nat.reduceLT, List.length_cons, List.length_nil, List.getElem?_cons_zero, List.getElem?_cons_succ, Nat.mul_one, Bool.true_eq_false, Bool.false_eq_true, false_implies, true_implies, Bool.not_true, Bool.not_false, decide_true, decide_false, Int.reduceToNat, Int.cast_ofNat_Int, Int.reduceLT, Int.reduceLE, Int.reduceEq, Int.reduceNeg, eq_self, Option.isNone_some, Option.isNone_none, Bool.bne_false, Bool.bne_true, b0, c0, c1]
  rw [w64 (by omega) (by omega), show (f : Int) + 1 = ((f + 1 : Nat) : Int) from rfl]
  refine flush_ (h.dr.mod0 (Mod.drew none' w)) (by omega) ?_
  intro w' st
  try simp only [go_sem, ↓reduceIte, Nat.reduceEqDiff, Nat.reduceAdd, Nat.reduceLT, List.length_cons, List.length_nil, List.getElem?_cons_zero, List.getElem?_cons_succ, Nat.mul_one, Bool.true_eq_false, Bool.false_eq_true, false_implies, true_implies, Bool.not_true, Bool.not_false, decide_true, decide_false, Int.reduceToNat, Int.cast_ofNat_Int, Int.reduceLT, Int.reduceLE, Int.reduceEq, Int.reduceNeg, eq_self, Option.isNone_some, Option.isNone_none, Bool.bne_false, Bool.bne_true]
  exact k w' (st.after (Mod.drew none' w))
theorem cl91_ {b : Nat} (h : GS w0 w p q f d L F S) (hf : f ≤ 6) (hb : Blk w b 55 [ptr q]) (hqn : d.queue.length ≤ 1000000000) (k : ∀ w', St F w w' p (d.turn f (f + 1 : Nat)) → next (.int .i64 (d.turnR f (f + 1 : Nat))) w') :
    callvK Try.prog (.func (.func 91) #[] #[ptr b]) [] w next QP := by
  refine callv (first := []) (caps := [ptr b]) c91 (q91 rfl ?_)
  simp only [List.nil_append, List.append_nil, List.cons_append]
  obtain ⟨rv, hbl, ho, ho1, c0, c1, c2, c3, c4⟩ := h.lg.parts
  have b0 : w.cell? ⟨b, 0, none⟩ = some (ptr q) := hb.cell 0
  unfold h91
  try simp only [go_sem, ↓reduceIte, Nat.reduceEqDiff, Nat.reduceAdd, Nat.reduceLT, List.length_cons, List.length_nil, List.getElem?_cons_zero, List.getElem?_cons_succ, Nat.mul_one, Bool.true_eq_false, Bool.false_eq_true, false_implies, true_implies, Bool.not_true, Bool.not_false, decide_true, decide_false, Int.reduceToNat, Int.cast_ofNat_Int, Int.reduceLT, Int.reduceLE, Int.reduceEq, Int.reduceNeg, eq_self, Option.isNone_some, Option.isNone_none, Bool.bne_false, Bool.bne_true, b0, c0, c1]
  rw [w64 (by omega) (by omega), show (f : Int) + 1 = ((f + 1 : Nat) : Int) from rfl]
  refine turn_ (h.dr.mod0 (Mod.drew none' w)) (by omega) ?_
  intro w' st
  try simp only [go_sem, ↓reduceIte, Nat.reduceEqDiff, Nat.reduceAdd, Nat.reduceLT, List.length_cons, List.length_nil, List.getElem?_cons_zero, List.getElem?_cons_succ, Nat.mul_one, Bool.true_eq_false, Bool.false_eq_true, false_implies, true_implies, Bool.not_true, Bool.not_false, decide_true, decide_false, Int.reduceToNat, Int.cast_ofNat_Int, Int.reduceLT, Int.reduceLE, Int.reduceEq, Int.reduceNeg, eq_self, Option.isNone_some, Option.isNone_none, Bool.bne_false, Bool.bne_true]
  exact k w' (st.after (Mod.drew none' w))
theorem cl88_ {b b6 b3 b5 n c : Nat} {a : Option Addr} {en : Int} {s : Bytes} (h : GS w0 w p q f d L F S) (hf : f ≤ 6) (hb : Blk w b 55 [ptr q]) (hb6 : Blk w b6 3 [.int .i64 en]) (hb3 : Blk w b3 40 [.slice a n c]) (hb5 : Blk w b5 9 [str s]) (hs : s.length ≤ 100000000)
    (hqn : d.queue.length + s.length ≤ 100000000) (k : ∀ w', St F w w' p (d.write (f + 1 : Nat) 0 (header en n ++ s)) → next (.int .i64 (d.writeR (f + 1 : Nat) 0 (header en n ++ s))) w') :
    callvK Try.prog (.func (.func 88) #[] #[ptr b, ptr b6, ptr b3, ptr b5]) [] w next QP := by
  refine callv (first := []) (caps := [ptr b, ptr b6, ptr b3, ptr b5]) c88 (q88 rfl ?_)
  simp only [List.nil_append, List.append_nil, List.cons_append]
  obtain ⟨rv, hbl, ho, ho1, c0, c1, c2, c3, c4⟩ := h.lg.parts
  have b0 : w.cell? ⟨b, 0, none⟩ = some (ptr q) := hb.cell 0
  have x6 : w.cell? ⟨b6, 0, none⟩ = some (.int .i64 en) := hb6.cell 0
  have x3 : w.cell? ⟨b3, 0, none⟩ = some (.slice a n c) := hb3.cell 0
  have x5 : w.cell? ⟨b5, 0, none⟩ = some (str s) := hb5.cell 0
  unfold h88
  try simp only [go_sem, ↓reduceIte, Nat.reduceEqDiff, Nat.reduceAdd, Nat.reduceLT, List.length_cons, List.length_nil, List.getElem?_cons_zero, List.getElem?_cons_succ, Nat.mul_one, Bool.true_eq_false, Bool.false_eq_true, false_implies, true_implies, Bool.not_true, Bool.not_false, decide_true, decide_false, Int.reduceToNat, Int.cast_ofNat_Int, Int.reduceLT, Int.reduceLE, Int.reduceEq, Int.reduceNeg, eq_self, Option.isNone_some, Option.isNone_none, Bool.bne_false, Bool.bne_true, b0, c0, c1, x6, x3, x5]
  refine header_ _ _ ?_
  intro w1 m1
  have b0' := m1.cell (show w.drew.cell? ⟨b, 0, none⟩ = _ from b0) fun h => h
  have c0' := m1.cell (show w.drew.cell? ⟨q, 0, none⟩ = _ from c0) fun h => h
  have c1' := m1.cell (show w.drew.cell? ⟨q, 1, none⟩ = _ from c1) fun h => h
  have x5' := m1.cell (show w.drew.cell? ⟨b5, 0, none⟩ = _ from x5) fun h => h
  have hh := header_len en n
  have hh2 : (header en n ++ s).length = 16 + s.length := by rw [List.length_append, hh]
  try simp only [go_sem, ↓reduceIte, Nat.reduceEqDiff, Nat.reduceAdd, Nat.reduceLT, List.length_cons, List.length_nil, List.getElem?_cons_zero, List.getElem?_cons_succ, Nat.mul_one, Bool.true_eq_false, Bool.false_eq_true, false_implies, true_implies, Bool.not_true, Bool.not_false, decide_true, decide_false, Int.reduceToNat, Int.cast_ofNat_Int, Int.reduceLT, Int.reduceLE, Int.reduceEq, Int.reduceNeg, eq_self, Option.isNone_some, Option.isNone_none, Bool.bne_false, Bool.bne_true, b0', c0', c1', x5']
  rw [w64 (by omega) (by omega), show (f : Int) + 1 = ((f + 1 : Nat) : Int) from rfl]
  refine ⟨by omega, ?_⟩
  have m01 := (Mod.drew none' w).trans' m1
  refine write_ (h.dr.mod0 m01) (by omega) (by omega) (by omega) ?_
  intro w' st
  try simp only [go_sem, ↓reduceIte, Nat.reduceEqDiff, Nat.reduceAdd, Nat.reduceLT, List.length_cons, List.length_nil, List.getElem?_cons_zero, List.getElem?_cons_succ, Nat.mul_one, Bool.true_eq_false, Bool.false_eq_true, false_implies, true_implies, Bool.not_true, Bool.not_false, decide_true, decide_false, Int.reduceToNat, Int.cast_ofNat_Int, Int.reduceLT, Int.reduceLE, Int.reduceEq, Int.reduceNeg, eq_self, Option.isNone_some, Option.isNone_none, Bool.bne_false, Bool.bne_true]
  exact k w' (st.after m01)

theorem grewrite_ (h : GS w0 w p q f d L F S) (hf : f ≤ 6) {v : Value} {rows : List Bytes} {n : Nat} (hv : Sl w v 1 n (rows.map str)) (hvd : 0 < n → ∀ k, v.ownBlock = some k → ¬ F.R k ∧ k < w.heap.size) (hqn : d.queue.length + (formsB rows).length ≤ 100000)
    (k : ∀ w', GT w0 w' p q f (rewriteJ d L f rows).1 (rewriteJ d L f rows).2.1 → next (.int .i64 (rewriteJ d L f rows).2.2) w') :
    callvK Try.prog (.func (.func 49) #[] #[]) [ptr q, v] w next QP := by
  refine r49 rfl ?_
  have hrn : rows.length = n := by have := hv.len; simpa using this
  have hfr := formsB_rows rows
  obtain ⟨va, vc, rfl, -, -⟩ := hv.form
  unfold h49
  try simp only [go_sem, ↓reduceIte, Nat.reduceEqDiff, Nat.reduceAdd, Nat.reduceLT, List.length_cons, List.length_nil, List.getElem?_cons_zero, List.getElem?_cons_succ, Nat.mul_one, Bool.true_eq_false, Bool.false_eq_true, false_implies, true_implies, Bool.not_true, Bool.not_false, decide_true, decide_false, Int.reduceToNat, Int.cast_ofNat_Int, Int.reduceLT, Int.reduceLE, Int.reduceEq, Int.reduceNeg, eq_self, Option.isNone_some, Option.isNone_none, Bool.bne_false, Bool.bne_true]
  refine box_ (cs := [ptr q]) rfl ?_
  intro b2 w1 hb2 blk2 m1 hs1
  refine box_ (cs := [.slice va n vc]) rfl ?_
  intro b3 w2 hb3 blk3 m2 hs2
  have c3 : w2.cell? ⟨b3, 0, none⟩ = some (.slice va n vc) := blk3.cell 0
  try simp only [go_sem, ↓reduceIte, Nat.reduceEqDiff, Nat.reduceAdd, Nat.reduceLT, List.length_cons, List.length_nil, List.getElem?_cons_zero, List.getElem?_cons_succ, Nat.mul_one, Bool.true_eq_false, Bool.false_eq_true, false_implies, true_implies, Bool.not_true, Bool.not_false, decide_true, decide_false, Int.reduceToNat, Int.cast_ofNat_Int, Int.reduceLT, Int.reduceLE, Int.reduceEq, Int.reduceNeg, eq_self, Option.isNone_some, Option.isNone_none, Bool.bne_false, Bool.bne_true, c3]
  refine forms_ ((hv.mod m1 fun _ _ h => h).mod m2 fun _ _ h => h) (by omega) ?_
  intro w3 m3
  try simp only [go_sem, ↓reduceIte, Nat.reduceEqDiff, Nat.reduceAdd, Nat.reduceLT, List.length_cons, List.length_nil, List.getElem?_cons_zero, List.getElem?_cons_succ, Nat.mul_one, Bool.true_eq_false, Bool.false_eq_true, false_implies, true_implies, Bool.not_true, Bool.not_false, decide_true, decide_false, Int.reduceToNat, Int.cast_ofNat_Int, Int.reduceLT, Int.reduceLE, Int.reduceEq, Int.reduceNeg, eq_self, Option.isNone_some, Option.isNone_none, Bool.bne_false, Bool.bne_true]
  refine alloc_ (z := .string ByteArray.empty) (cs := [str []]) (by kernel_rfl) rfl ?_
  intro b5 w4 hb5 blk5 m4 hs4
  refine store1 sz9 blk5 (by simp) rfl ?_
  intro w5 blk5 m5 hs5
  have c5 : w5.cell? ⟨b5, 0, none⟩ = some (str (formsB rows)) := blk5.cell 0
  unfold h49_1
  try simp only [go_sem, ↓reduceIte, Nat.reduceEqDiff, Nat.reduceAdd, Nat.reduceLT, List.length_cons, List.length_nil, List.getElem?_cons_zero, List.getElem?_cons_succ, Nat.mul_one, Bool.true_eq_false, Bool.false_eq_true, false_implies, true_implies, Bool.not_true, Bool.not_false, decide_true, decide_false, Int.reduceToNat, Int.cast_ofNat_Int, Int.reduceLT, Int.reduceLE, Int.reduceEq, Int.reduceNeg, eq_self, Option.isNone_some, Option.isNone_none, Bool.bne_false, Bool.bne_true, c5]
  rw [w64 (by omega) (by omega)]
  refine alloc_ (z := .int .i64 0) (cs := [.int .i64 0]) (by kernel_rfl) rfl ?_
  intro b6 w6 hb6 blk6 m6 hs6
  refine store1 sz3 blk6 (by simp) rfl ?_
  intro w7 blk6 m7 hs7
  try simp only [go_sem, ↓reduceIte, Nat.reduceEqDiff, Nat.reduceAdd, Nat.reduceLT, List.length_cons, List.length_nil, List.getElem?_cons_zero, List.getElem?_cons_succ, Nat.mul_one, Bool.true_eq_false, Bool.false_eq_true, false_implies, true_implies, Bool.not_true, Bool.not_false, decide_true, decide_false, Int.reduceToNat, Int.cast_ofNat_Int, Int.reduceLT, Int.reduceLE, Int.reduceEq, Int.reduceNeg, eq_self, Option.isNone_some, Option.isNone_none, Bool.bne_false, Bool.bne_true]
  have z3 := m3.size
  have m17 : Mod none' w w7 := (((((m1.trans' m2).trans' m3).trans' m4).trans m5 fun k hk (e : k = b5) => by omega).trans' m6).trans m7 fun k hk (e : k = b6) => by omega
  have y2 : Blk w7 b2 55 [ptr q] := (((((blk2.mod m2 fun h => h).mod m3 fun h => h).mod m4 fun h => h).mod m5 fun (e : b2 = b5) => by omega).mod m6 fun h => h).mod m7 fun (e : b2 = b6) => by omega
  have y3 : Blk w7 b3 40 [.slice va n vc] := ((((blk3.mod m3 fun h => h).mod m4 fun h => h).mod m5 fun (e : b3 = b5) => by omega).mod m6 fun h => h).mod m7 fun (e : b3 = b6) => by omega
  have y5 : Blk w7 b5 9 [str (formsB rows)] := ((by simpa using blk5 : Blk w5 b5 9 [str (formsB rows)]).mod m6 fun h => h).mod m7 fun (e : b5 = b6) => by omega
  have y6 : Blk w7 b6 3 [.int .i64 (16 + (formsB rows).length : Nat)] := by simpa using blk6
  have nF : ∀ {b : Nat}, w.heap.size ≤ b → ¬ F.W b := fun hb hW => by have := h.dr.lt _ (h.dr.sub _ hW); omega
  refine bsl4 (t := 128) (e := 70) (by_ := 8) (z := .nilFunc) ⟨by kernel_rfl, by kernel_rfl, rfl, by decide⟩ rfl rfl rfl rfl ?_
  intro b8 w8 hb8 own8 blk8 m8 hs8
  have m18 := m17.trans' m8
  have h8 := h.mod0 m18
  have z7 := m17.size
  have y2 := y2.mod m8 fun h => h
  have y3 := y3.mod m8 fun h => h
  have y5 := y5.mod m8 fun h => h
  have y6 := y6.mod m8 fun h => h
  have hv8 := hv.mod m18 fun _ _ h => h
  clear blk2 blk3 blk5 blk6 c3 c5
  refine all_ (S := F.W) (K := fun e w' => e = (rewr d f rows).2 ∧ Mod F.W w8 w' ∧ GT w0 w' p q f (rewr d f rows).1 L) own8.sl (fun _ k hk hW => nF (b := k) (by simp [Value.ownBlock] at hk; omega) hW) (by omega) ?_ ?_
  · have hhl := header_len (16 + (formsB rows).length : Nat) rows.length
    have q1 := cut_queue d (f + 1 : Nat) 0
    simp only [allK]
    refine cl87_ h8 hf y2 (by omega) ?_
    intro w9 st9
    have h9 := h8.disk st9
    have m9 : Mod F.W w8 w9 := st9.mod
    have s9 := m9.size
    refine ⟨_, rfl, m9, fun he1 => ?_, fun he1 => ⟨by simp only [rewr, if_pos he1], m9, by simp only [rewr, if_pos he1]; exact h9.jt⟩⟩
    have n1 : ¬ (d.cutR (f + 1 : Nat) 0 ≠ 0) := fun h => h he1
    refine cl88_ h9 hf (y2.mod m9 (nF (by omega))) (y6.mod m9 (nF (by omega))) (y3.mod m9 (nF (by omega))) (y5.mod m9 (nF (by omega))) (by omega) (by omega) ?_
    rw [show ((n : Nat) : Int) = (rows.length : Nat) by rw [hrn]]
    intro w10 st10
    have h10 := h9.disk st10
    have m10 : Mod F.W w8 w10 := m9.trans st10.mod fun k hk hW => by
      rcases st9.footW k hW with h' | h'
      · exact h'
      · omega
    have s10 := m10.size
    have q2 := write_queue (d.cut (f + 1 : Nat) 0) (f + 1 : Nat) 0 (header (16 + (formsB rows).length : Nat) rows.length ++ formsB rows)
    rw [List.length_append, hhl] at q2
    refine ⟨_, rfl, m10, fun he2 => ?_, fun he2 => ⟨by simp only [rewr, if_neg n1, if_pos he2], m10, by simp only [rewr, if_neg n1, if_pos he2]; exact h10.jt⟩⟩
    have n2 : ¬ ((d.cut (f + 1 : Nat) 0).writeR (f + 1 : Nat) 0 (header (16 + (formsB rows).length : Nat) rows.length ++ formsB rows) ≠ 0) := fun h => h he2
    refine cl90_ h10 hf (y2.mod m10 (nF (by omega))) (by omega) ?_
    intro w11 st11
    have h11 := h10.disk st11
    have m11 : Mod F.W w8 w11 := m10.trans st11.mod fun k hk hW => by
      rcases st10.footW k hW with h' | h'
      · rcases st9.footW k h' with h'' | h''
        · exact h''
        · omega
      · omega
    have s11 := m11.size
    have q3 := flush_queue ((d.cut (f + 1 : Nat) 0).write (f + 1 : Nat) 0 (header (16 + (formsB rows).length : Nat) rows.length ++ formsB rows)) (f + 1 : Nat)
    refine ⟨_, rfl, m11, fun he3 => ?_, fun he3 => ⟨by simp only [rewr, if_neg n1, if_neg n2, if_pos he3], m11, by simp only [rewr, if_neg n1, if_neg n2, if_pos he3]; exact h11.jt⟩⟩
    have n3 : ¬ (((d.cut (f + 1 : Nat) 0).write (f + 1 : Nat) 0 (header (16 + (formsB rows).length : Nat) rows.length ++ formsB rows)).flushR (f + 1 : Nat) ≠ 0) := fun h => h he3
    refine cl91_ h11 hf (y2.mod m11 (nF (by omega))) (by omega) ?_
    intro w12 st12
    have h12 := h11.disk st12
    have m12 : Mod F.W w8 w12 := m11.trans st12.mod fun k hk hW => by
      rcases st11.footW k hW with h' | h'
      · rcases st10.footW k h' with h' | h'
        · rcases st9.footW k h' with h'' | h''
          · exact h''
          · omega
        · omega
      · omega
    exact ⟨_, rfl, m12, fun he4 => ⟨by simp only [rewr, if_neg n1, if_neg n2, if_neg n3]; exact he4.symm, m12, by simp only [rewr, if_neg n1, if_neg n2, if_neg n3]; exact h12.jt⟩, fun he4 => ⟨by simp only [rewr, if_neg n1, if_neg n2, if_neg n3], m12, by simp only [rewr, if_neg n1, if_neg n2, if_neg n3]; exact h12.jt⟩⟩
  · rintro e w9 ⟨rfl, m9, F9, S9, h9⟩
    have x2 : w9.cell? ⟨b2, 0, none⟩ = some (ptr q) := (y2.mod m9 (nF (by omega))).cell 0
    have x3 : w9.cell? ⟨b3, 0, none⟩ = some (.slice va n vc) := (y3.mod m9 (nF (by omega))).cell 0
    have x6 : w9.cell? ⟨b6, 0, none⟩ = some (.int .i64 (16 + (formsB rows).length : Nat)) := (y6.mod m9 (nF (by omega))).cell 0
    have hv9 : Sl w9 (.slice va n vc) 1 n (rows.map str) := hv8.mod' m9 fun hn k hk hW => (hvd hn k hk).1 (h.dr.sub k hW)
    unfold h49_2
    try simp only [go_sem, ↓reduceIte, Nat.reduceEqDiff, Nat.reduceAdd, Nat.reduceLT, List.length_cons, List.length_nil, List.getElem?_cons_zero, List.getElem?_cons_succ, Nat.mul_one, Bool.true_eq_false, Bool.false_eq_true, false_implies, true_implies, Bool.not_true, Bool.not_false, decide_true, decide_false, Int.reduceToNat, Int.cast_ofNat_Int, Int.reduceLT, Int.reduceLE, Int.reduceEq, Int.reduceNeg, eq_self, Option.isNone_some, Option.isNone_none, Bool.bne_false, Bool.bne_true]
    refine ⟨fun he => ?_, fun he => ?_⟩
    · have he : (rewr d f rows).2 = 0 := by simpa using he
      simp only [rewriteJ, if_pos he, he] at k
      try simp only [go_sem, ↓reduceIte, Nat.reduceEqDiff, Nat.reduceAdd, Nat.reduceLT, List.length_cons, List.length_nil, List.getElem?_cons_zero, List.getElem?_cons_succ, Nat.mul_one, Bool.true_eq_false, Bool.false_eq_true, false_implies, true_implies, Bool.not_true, Bool.not_false, decide_true, decide_false, Int.reduceToNat, Int.cast_ofNat_Int, Int.reduceLT, Int.reduceLE, Int.reduceEq, Int.reduceNeg, eq_self, Option.isNone_some, Option.isNone_none, Bool.bne_false, Bool.bne_true, x2, x3, x6]
      refine sclone_ (hv9.mod (Mod.drew none' w9) fun _ _ h => h) (by omega) ?_
      intro v10 w10 own10 m10 hn10
      have m10 := (Mod.drew none' w9).trans' m10
      have x2 := m10.cell x2 fun h => h
      have x3 := m10.cell x3 fun h => h
      have x6 := m10.cell x6 fun h => h
      have hql : q < w.heap.size := h.lg.lt q h.lg.self
      obtain ⟨rv, hbl, ho, ho1, -, -, -, -, -⟩ := h9.lg.parts
      have hok := rewr_ok he
      obtain ⟨ua, uc, rfl, -, -⟩ := own10.form
      try simp only [go_sem, ↓reduceIte, Nat.reduceEqDiff, Nat.reduceAdd, Nat.reduceLT, List.length_cons, List.length_nil, List.getElem?_cons_zero, List.getElem?_cons_succ, Nat.mul_one, Bool.true_eq_false, Bool.false_eq_true, false_implies, true_implies, Bool.not_true, Bool.not_false, decide_true, decide_false, Int.reduceToNat, Int.cast_ofNat_Int, Int.reduceLT, Int.reduceLE, Int.reduceEq, Int.reduceNeg, eq_self, Option.isNone_some, Option.isNone_none, Bool.bne_false, Bool.bne_true, x2, x3, x6]
      refine store1 sz40 (hbl.mod m10 fun h => h) (by simp) rfl ?_
      intro w11 hb11 m11 hs11
      have x2 := m11.cell x2 fun (e : b2 = q) => by omega
      have x3 := m11.cell x3 fun (e : b3 = q) => by omega
      have x6 := m11.cell x6 fun (e : b6 = q) => by omega
      try simp only [go_sem, ↓reduceIte, Nat.reduceEqDiff, Nat.reduceAdd, Nat.reduceLT, List.length_cons, List.length_nil, List.getElem?_cons_zero, List.getElem?_cons_succ, Nat.mul_one, Bool.true_eq_false, Bool.false_eq_true, false_implies, true_implies, Bool.not_true, Bool.not_false, decide_true, decide_false, Int.reduceToNat, Int.cast_ofNat_Int, Int.reduceLT, Int.reduceLE, Int.reduceEq, Int.reduceNeg, eq_self, Option.isNone_some, Option.isNone_none, Bool.bne_false, Bool.bne_true, x2, x3, x6]
      refine store1 sz3 hb11 (by simp) rfl ?_
      intro w12 hb12 m12 hs12
      have x2 := m12.cell x2 fun (e : b2 = q) => by omega
      have x6 := m12.cell x6 fun (e : b6 = q) => by omega
      try simp only [go_sem, ↓reduceIte, Nat.reduceEqDiff, Nat.reduceAdd, Nat.reduceLT, List.length_cons, List.length_nil, List.getElem?_cons_zero, List.getElem?_cons_succ, Nat.mul_one, Bool.true_eq_false, Bool.false_eq_true, false_implies, true_implies, Bool.not_true, Bool.not_false, decide_true, decide_false, Int.reduceToNat, Int.cast_ofNat_Int, Int.reduceLT, Int.reduceLE, Int.reduceEq, Int.reduceNeg, eq_self, Option.isNone_some, Option.isNone_none, Bool.bne_false, Bool.bne_true, x2, x3, x6]
      refine store1 sz3 hb12 (by simp) rfl ?_
      intro w13 hb13 m13 hs13
      have m1113 : Mod (fun k => k = q) w10 w13 := (m11.trans' m12).trans' m13
      have hs9 := m9.size
      have hs10 := m10.size
      have hnq : ∀ k, (Value.slice ua n uc).ownBlock = some k → k ≠ q := by
        intro k hk e
        have := hn10 k hk
        simp at this
        omega
      unfold h49_3
      try simp only [go_sem, ↓reduceIte, Nat.reduceEqDiff, Nat.reduceAdd, Nat.reduceLT, List.length_cons, List.length_nil, List.getElem?_cons_zero, List.getElem?_cons_succ, Nat.mul_one, Bool.true_eq_false, Bool.false_eq_true, false_implies, true_implies, Bool.not_true, Bool.not_false, decide_true, decide_false, Int.reduceToNat, Int.cast_ofNat_Int, Int.reduceLT, Int.reduceLE, Int.reduceEq, Int.reduceNeg, eq_self, Option.isNone_some, Option.isNone_none, Bool.bne_false, Bool.bne_true, he]
      refine k _ (GS.jt (h9.log (S' := fun k => S9 k ∨ (Value.slice ua n uc).ownBlock = some k) ⟨⟨.slice ua n uc, ?_, ?_, fun k hk => .inr hk⟩, .inl h9.lg.self, fun k hk => ?_, hok, by show rows.length * 16 + 16 ≤ 16 + (formsB rows).length; omega⟩ (fun k hk => ?_) ((m10.mono fun _ _ h => h.elim).trans m1113 fun k _ (e : k = q) => e ▸ h9.lg.self)))
      · show Blk w13 q 102 [ptr p, .int .i64 f, .slice ua n uc, .int .i64 (rows.length : Nat), .int .i64 (16 + (formsB rows).length : Nat)]
        rw [hrn]; simpa using hb13
      · show Own w13 (.slice ua n uc) 9 1 rows.length (rows.map str)
        rw [hrn]; exact own10.mod m1113 fun k hk (e : k = q) => hnq k hk e
      · have hz := m1113.size
        rcases hk with h' | h'
        · have := h9.lg.lt k h'; have := m10.size; omega
        · have := own10.lt k h'; omega
      · rcases hk with h' | h'
        · exact .inl h'
        · have := hn10 k h'
          simp at this
          exact .inr this
    · have he : ¬ (rewr d f rows).2 = 0 := by simpa using he
      simp only [rewriteJ, if_neg he] at k
      unfold h49_3
      try simp only [go_sem, ↓reduceIte, Nat.reduceEqDiff, Nat.reduceAdd, Nat.reduceLT, List.length_cons, List.length_nil, List.getElem?_cons_zero, List.getElem?_cons_succ, Nat.mul_one, Bool.true_eq_false, Bool.false_eq_true, false_implies, true_implies, Bool.not_true, Bool.not_false, decide_true, decide_false, Int.reduceToNat, Int.cast_ofNat_Int, Int.reduceLT, Int.reduceLE, Int.reduceEq, Int.reduceNeg, eq_self, Option.isNone_some, Option.isNone_none, Bool.bne_false, Bool.bne_true]
      exact k _ h9.jt
end
end Go.Proofs.Y

/- JHb: the log's operations, over a world whose blocks are all left alone. -/
namespace Go.Proofs.Y
open Go Go.HL Go.Proofs

structure JS (w0 w : World) (p q f : Nat) (d : Dk) (L : Lg) (F : FP) (S : Nat → Prop) : Prop where
  dr : DR w p d F
  lg : LG w q p f L S
  ap : ∀ k, F.R k → ¬ S k
  f0 : ∀ k, F.R k → w0.heap.size ≤ k
  s0 : ∀ k, S k → w0.heap.size ≤ k
  m : Mod none' w0 w
def Base.of (w : World) : Base := ⟨w, fun k => k < w.heap.size, fun _ h => h⟩

section
variable {w0 w w' : World} {p q f : Nat} {d d' : Dk} {L L' : Lg} {F : FP} {S : Nat → Prop}
theorem JS.gs (h : JS w0 w p q f d L F S) : GS (.of w0) w p q f d L F S := ⟨h.dr, h.lg, h.ap, fun k hk => Nat.not_lt.2 (h.f0 k hk), fun k hk => Nat.not_lt.2 (h.s0 k hk), h.m.mono fun _ _ h => h.elim⟩
theorem GS.js (h : GS (.of w0) w p q f d L F S) : JS w0 w p q f d L F S := ⟨h.dr, h.lg, h.ap, fun k hk => Nat.not_lt.1 (h.f0 k hk), fun k hk => Nat.not_lt.1 (h.s0 k hk), h.m.mono fun _ hk h => h hk⟩
theorem JS.disk (h : JS w0 w p q f d L F S) (st : St F w w' p d') : JS w0 w' p q f d' L st.foot S := (h.gs.disk st).js
theorem JS.log (h : JS w0 w p q f d L F S) {S' : Nat → Prop} (lg : LG w' q p f L' S') (hS : ∀ k, S' k → S k ∨ w.heap.size ≤ k) (m : Mod S w w') : JS w0 w' p q f d L' F S' := (h.gs.log lg hS m).js
theorem JS.mod0 (h : JS w0 w p q f d L F S) (m : Mod none' w w') : JS w0 w' p q f d L F S := (h.gs.mod0 m).js
end
def JT (w0 w' : World) (p q f : Nat) (d : Dk) (L : Lg) : Prop := ∃ F S, JS w0 w' p q f d L F S
theorem JS.jt {w0 w' : World} {p q f : Nat} {d : Dk} {L : Lg} {F : FP} {S : Nat → Prop} (h : JS w0 w' p q f d L F S) : JT w0 w' p q f d L := ⟨F, S, h⟩
theorem GT.js {w0 w' : World} {p q f : Nat} {d : Dk} {L : Lg} (h : GT (.of w0) w' p q f d L) : JT w0 w' p q f d L := by
  obtain ⟨F, S, h⟩ := h
  exact ⟨F, S, h.js⟩

section
variable {w w0 : World} {next : Value → World → Prop} {QP : List PanicEntry → World → Prop} {p q f : Nat} {d : Dk} {L : Lg} {F : FP} {S : Nat → Prop}
theorem append1_ (h : JS w0 w p q f d L F S) {row : Bytes} (hqn : d.queue.length + (formsB [row]).length ≤ 1000000000)
    (k : ∀ w', JT w0 w' p q f (addD' d L f [row]) (if addE d L f [row] = 0 then L.add [row] else L) → next (.int .i64 (addE d L f [row])) w') :
    callvK Try.prog (.func (.func 53) #[] #[]) [ptr q, str row] w next QP := gappend1_ h.gs hqn fun w' t => k w' t.js
theorem flushJ_ (h : JS w0 w p q f d L F S) (hqn : d.queue.length ≤ 1000000) (k : ∀ w', JT w0 w' p q f (flushJ d L f).1 (flushJ d L f).2.1 → next (.int .i64 (flushJ d L f).2.2) w') :
    callvK Try.prog (.func (.func 51) #[] #[]) [ptr q] w next QP := gflushJ_ h.gs hqn fun w' t => k w' t.js
theorem batch_ (h : JS w0 w p q f d L F S) {v : Value} {rows : List Bytes} {n : Nat} (hv : Sl w v 1 n (rows.map str)) (hvd : 0 < n → ∀ k, v.ownBlock = some k → ¬ F.R k) (hqn : d.queue.length + (formsB rows).length ≤ 1000000)
    (k : ∀ w', JT w0 w' p q f (batchJ d L f rows).1 (batchJ d L f rows).2.1 → next (.int .i64 (batchJ d L f rows).2.2) w') :
    callvK Try.prog (.func (.func 52) #[] #[]) [ptr q, v] w next QP := gbatch_ h.gs hv hvd hqn fun w' t => k w' t.js
theorem rewrite_ (h : JS w0 w p q f d L F S) (hf : f ≤ 6) {v : Value} {rows : List Bytes} {n : Nat} (hv : Sl w v 1 n (rows.map str)) (hvd : 0 < n → ∀ k, v.ownBlock = some k → ¬ F.R k ∧ k < w.heap.size) (hqn : d.queue.length + (formsB rows).length ≤ 100000)
    (k : ∀ w', JT w0 w' p q f (rewriteJ d L f rows).1 (rewriteJ d L f rows).2.1 → next (.int .i64 (rewriteJ d L f rows).2.2) w') :
    callvK Try.prog (.func (.func 49) #[] #[]) [ptr q, v] w next QP := grewrite_ h.gs hf hv hvd hqn fun w' t => k w' t.js
end
end Go.Proofs.Y
