/- RC: the reference's disk: small functions. -/
import Derived.Test.YtgalileklafbbaaRB
set_option linter.unusedSimpArgs false
set_option linter.unusedVariables false
set_option maxRecDepth 100000
namespace Go.Proofs.Y
open Go Go.HL Go.Proofs
theorem sl118 : SlTy Try.prog 97 118 3 32 (.agg #[.int .i64 0, .int .i64 0, str []]) := ⟨by kernel_rfl, by kernel_rfl, rfl, by decide⟩
theorem sl40 : SlTy Try.prog 40 9 1 16 (str []) := ⟨by kernel_rfl, by kernel_rfl, rfl, by decide⟩
theorem sz97 : szOf Try.prog 97 = some 1 := by kernel_rfl
theorem sz118 : szOf Try.prog 118 = some 3 := by kernel_rfl
theorem sz40 : szOf Try.prog 40 = some 1 := by kernel_rfl

section
variable {w : World} {next : Value → World → Prop} {QP : List PanicEntry → World → Prop} {p : Nat} {d : Dk} {S : Nat → Prop}

theorem isF_int (f : Int) : (if decide (f < 0) = true then true else decide (11 < f)) = !isF f := by
  unfold isF
  by_cases h : f < 0
  · have : ¬ 0 ≤ f := by omega
    simp [h, this]
  · have h0 : 0 ≤ f := by omega
    by_cases h2 : 11 < f
    · have : ¬ f < 12 := by omega
      simp [h, h0, h2, this]
    · have : f < 12 := by omega
      simp [h, h0, h2, this]

theorem rmay_ (h : RR w p d S) (f : Int) (k : next (.int .i64 (d.may [f])) w) : callvK Try.prog (.func (.func 79) #[] #[]) [ptr p, .int .i64 f] w next QP := by
  refine r79 rfl ?_
  obtain ⟨lv, qv, kv, hb, hl, hq, hk, h1, h2, h3, c0, c1, c2, c3, c4, c5⟩ := h.parts
  unfold h79
  try simp only [go_sem, ↓reduceIte, Nat.reduceEqDiff, Nat.reduceAdd, Nat.reduceLT, List.length_cons, List.length_nil, List.getElem?_cons_zero, List.getElem?_cons_succ, Nat.mul_one, Bool.true_eq_false, Bool.false_eq_true, false_implies, true_implies, Bool.not_true, Bool.not_false, decide_true, decide_false, Int.reduceToNat, Int.cast_ofNat_Int, Int.reduceLT, Int.reduceLE, Int.reduceEq, Int.reduceNeg, eq_self, Option.isNone_some, Option.isNone_none, Bool.bne_false, Bool.bne_true, c3]
  refine ⟨fun hd => by simpa [Dk.may, hd, go_sem] using k, fun hd => ?_⟩
  unfold h79_1
  try simp only [go_sem, ↓reduceIte, Nat.reduceEqDiff, Nat.reduceAdd, Nat.reduceLT, List.length_cons, List.length_nil, List.getElem?_cons_zero, List.getElem?_cons_succ, Nat.mul_one, Bool.true_eq_false, Bool.false_eq_true, false_implies, true_implies, Bool.not_true, Bool.not_false, decide_true, decide_false, Int.reduceToNat, Int.cast_ofNat_Int, Int.reduceLT, Int.reduceLE, Int.reduceEq, Int.reduceNeg, eq_self, Option.isNone_some, Option.isNone_none, Bool.bne_false, Bool.bne_true, isF_int]
  refine ⟨fun hf => ?_, fun hf => ?_⟩
  · have hf : isF f = false := by simpa using hf
    simpa [Dk.may, hd, hf] using k
  · have hf : isF f = true := by simpa using hf
    unfold h79_2
    try simp only [go_sem, ↓reduceIte, Nat.reduceEqDiff, Nat.reduceAdd, Nat.reduceLT, List.length_cons, List.length_nil, List.getElem?_cons_zero, List.getElem?_cons_succ, Nat.mul_one, Bool.true_eq_false, Bool.false_eq_true, false_implies, true_implies, Bool.not_true, Bool.not_false, decide_true, decide_false, Int.reduceToNat, Int.cast_ofNat_Int, Int.reduceLT, Int.reduceLE, Int.reduceEq, Int.reduceNeg, eq_self, Option.isNone_some, Option.isNone_none, Bool.bne_false, Bool.bne_true]
    simpa [Dk.may, hd, hf] using k

theorem rdown_ (h : RR w p d S) (k : next (.bool d.down) w) : callvK Try.prog (.func (.func 38) #[] #[]) [ptr p] w next QP := by
  refine r38 rfl ?_
  obtain ⟨lv, qv, kv, hb, hl, hq, hk, h1, h2, h3, c0, c1, c2, c3, c4, c5⟩ := h.parts
  unfold h38
  try simp only [go_sem, ↓reduceIte, Nat.reduceEqDiff, Nat.reduceAdd, Nat.reduceLT, List.length_cons, List.length_nil, List.getElem?_cons_zero, List.getElem?_cons_succ, Nat.mul_one, Bool.true_eq_false, Bool.false_eq_true, false_implies, true_implies, Bool.not_true, Bool.not_false, decide_true, decide_false, Int.reduceToNat, Int.cast_ofNat_Int, Int.reduceLT, Int.reduceLE, Int.reduceEq, Int.reduceNeg, eq_self, Option.isNone_some, Option.isNone_none, Bool.bne_false, Bool.bne_true, c3]
  exact k

theorem OK.start (ok : d.OK) : d.start.OK := ⟨ok.nl, ok.nf, ok.bl, ok.bf, ok.bq, ok.lost, ok.armed⟩

theorem rstart_ (h : RR w p d S) (k : ∀ w', RR w' p d.start S → Mod S w w' → next (.tuple #[]) w') : callvK Try.prog (.func (.func 40) #[] #[]) [ptr p] w next QP := by
  refine r40 rfl ?_
  obtain ⟨lv, qv, kv, hb, hl, hq, hk, h1, h2, h3, c0, c1, c2, c3, c4, c5⟩ := h.parts
  unfold h40
  try simp only [go_sem, ↓reduceIte, Nat.reduceEqDiff, Nat.reduceAdd, Nat.reduceLT, List.length_cons, List.length_nil, List.getElem?_cons_zero, List.getElem?_cons_succ, Nat.mul_one, Bool.true_eq_false, Bool.false_eq_true, false_implies, true_implies, Bool.not_true, Bool.not_false, decide_true, decide_false, Int.reduceToNat, Int.cast_ofNat_Int, Int.reduceLT, Int.reduceLE, Int.reduceEq, Int.reduceNeg, eq_self, Option.isNone_some, Option.isNone_none, Bool.bne_false, Bool.bne_true]
  refine store1 sz4 hb (by simp) rfl ?_
  intro w1 hb1 m1 _
  try simp only [go_sem, ↓reduceIte, Nat.reduceEqDiff, Nat.reduceAdd, Nat.reduceLT, List.length_cons, List.length_nil, List.getElem?_cons_zero, List.getElem?_cons_succ, Nat.mul_one, Bool.true_eq_false, Bool.false_eq_true, false_implies, true_implies, Bool.not_true, Bool.not_false, decide_true, decide_false, Int.reduceToNat, Int.cast_ofNat_Int, Int.reduceLT, Int.reduceLE, Int.reduceEq, Int.reduceNeg, eq_self, Option.isNone_some, Option.isNone_none, Bool.bne_false, Bool.bne_true]
  exact k _ (h.again m1 (OK.start h.ok) h.sync hb1 hl hq hk (fun k hk => ⟨(h1 k hk).1, (h1 k hk).2.1⟩) (fun k hk => ⟨(h2 k hk).1, (h2 k hk).2.1⟩) (fun k hk => ⟨(h3 k hk).1, (h3 k hk).2.1⟩)) (m1.mono fun k _ (e : k = p) => e ▸ h.self)

theorem rlose_ (h : RR w p d S) {n : Int} (hn : n ≤ 9223372036854775807) (k : ∀ w', RR w' p (d.lose n) S → Mod S w w' → next (.tuple #[]) w') : callvK Try.prog (.func (.func 60) #[] #[]) [ptr p, .int .i64 n] w next QP := by
  refine r60 rfl ?_
  obtain ⟨lv, qv, kv, hb, hl, hq, hk, h1, h2, h3, c0, c1, c2, c3, c4, c5⟩ := h.parts
  unfold h60
  try simp only [go_sem, ↓reduceIte, Nat.reduceEqDiff, Nat.reduceAdd, Nat.reduceLT, List.length_cons, List.length_nil, List.getElem?_cons_zero, List.getElem?_cons_succ, Nat.mul_one, Bool.true_eq_false, Bool.false_eq_true, false_implies, true_implies, Bool.not_true, Bool.not_false, decide_true, decide_false, Int.reduceToNat, Int.cast_ofNat_Int, Int.reduceLT, Int.reduceLE, Int.reduceEq, Int.reduceNeg, eq_self, Option.isNone_some, Option.isNone_none, Bool.bne_false, Bool.bne_true]
  refine store1 sz3 hb (by simp) rfl ?_
  intro w1 hb1 m1 _
  try simp only [go_sem, ↓reduceIte, Nat.reduceEqDiff, Nat.reduceAdd, Nat.reduceLT, List.length_cons, List.length_nil, List.getElem?_cons_zero, List.getElem?_cons_succ, Nat.mul_one, Bool.true_eq_false, Bool.false_eq_true, false_implies, true_implies, Bool.not_true, Bool.not_false, decide_true, decide_false, Int.reduceToNat, Int.cast_ofNat_Int, Int.reduceLT, Int.reduceLE, Int.reduceEq, Int.reduceNeg, eq_self, Option.isNone_some, Option.isNone_none, Bool.bne_false, Bool.bne_true]
  have e : (if n < 0 then 0 else n) = (n.toNat : Int) := by split <;> omega
  refine k _ (h.again m1 (d' := d.lose n) ⟨h.ok.nl, h.ok.nf, h.ok.bl, h.ok.bf, h.ok.bq, by simp only [Dk.lose]; omega, h.ok.armed⟩ h.sync ?_ hl hq hk (fun k hk => ⟨(h1 k hk).1, (h1 k hk).2.1⟩) (fun k hk => ⟨(h2 k hk).1, (h2 k hk).2.1⟩) (fun k hk => ⟨(h3 k hk).1, (h3 k hk).2.1⟩)) (m1.mono fun k _ (e : k = p) => e ▸ h.self)
  simpa [e, Dk.lose] using hb1

theorem OK.new : Dk.new.OK := by
  refine ⟨rfl, rfl, ?_, ?_, ?_, by simp [Dk.new], by simp [Dk.new]⟩
  · intro s hs; rw [List.eq_of_mem_replicate hs]; simp
  · intro s hs; rw [List.eq_of_mem_replicate hs]; simp
  · intro p hp; cases hp

theorem rnew_ (k : ∀ p w', w.heap.size ≤ p → RT none' w w' p Dk.new → next (ptr p) w') : callvK Try.prog (.func (.func 35) #[] #[]) [] w next QP := by
  refine r35 rfl ?_
  unfold h35
  try simp only [go_sem, ↓reduceIte, Nat.reduceEqDiff, Nat.reduceAdd, Nat.reduceLT, List.length_cons, List.length_nil, List.getElem?_cons_zero, List.getElem?_cons_succ, Nat.mul_one, Bool.true_eq_false, Bool.false_eq_true, false_implies, true_implies, Bool.not_true, Bool.not_false, decide_true, decide_false, Int.reduceToNat, Int.cast_ofNat_Int, Int.reduceLT, Int.reduceLE, Int.reduceEq, Int.reduceNeg, eq_self, Option.isNone_some, Option.isNone_none, Bool.bne_false, Bool.bne_true]
  refine msl1 sl40 rfl 12 rfl (by omega) (by unfold maxLen; omega) ?_
  intro b w1 hb own1 _ m1 hs1
  try simp only [go_sem, ↓reduceIte, Nat.reduceEqDiff, Nat.reduceAdd, Nat.reduceLT, List.length_cons, List.length_nil, List.getElem?_cons_zero, List.getElem?_cons_succ, Nat.mul_one, Bool.true_eq_false, Bool.false_eq_true, false_implies, true_implies, Bool.not_true, Bool.not_false, decide_true, decide_false, Int.reduceToNat, Int.cast_ofNat_Int, Int.reduceLT, Int.reduceLE, Int.reduceEq, Int.reduceNeg, eq_self, Option.isNone_some, Option.isNone_none, Bool.bne_false, Bool.bne_true]
  refine ⟨by omega, ?_⟩
  refine box_ (cs := [.slice (some ⟨b, 0, none⟩) 12 12, .slice none 0 0, .int .i64 0, .bool false, .int .i64 0, .slice none 0 0]) rfl ?_
  intro p w2 hp blk2 m2 hs2
  try simp only [go_sem, ↓reduceIte, Nat.reduceEqDiff, Nat.reduceAdd, Nat.reduceLT, List.length_cons, List.length_nil, List.getElem?_cons_zero, List.getElem?_cons_succ, Nat.mul_one, Bool.true_eq_false, Bool.false_eq_true, false_implies, true_implies, Bool.not_true, Bool.not_false, decide_true, decide_false, Int.reduceToNat, Int.cast_ofNat_Int, Int.reduceLT, Int.reduceLE, Int.reduceEq, Int.reduceNeg, eq_self, Option.isNone_some, Option.isNone_none, Bool.bne_false, Bool.bne_true]
  refine k p w2 (by have := m1.size; omega) ⟨fun k => k = p ∨ k = b, ⟨OK.new, Sync.new, ⟨_, _, _, blk2, ?_, Own.nil _ _ _, Own.nil _ _ _, fun k hk => ?_, fun k hk => (nomatch (hk : none = some k)), fun k hk => (nomatch (hk : none = some k))⟩, .inl rfl, ?_⟩, ?_, m1.trans' m2⟩
  · have : Dk.new.lasts.map str = List.replicate 12 (str []) := by simp [Dk.new]
    rw [this]; exact own1.mod m2 fun _ _ h => h
  · right; simpa [Value.ownBlock, eq_comm] using hk
  · rintro k (rfl | rfl) <;> omega
  · rintro k (rfl | rfl) <;> right <;> omega

theorem rfits_ {a : Int} {s : Bytes} (hs : (s.length : Int) ≤ 1000000000000) (k : next (.bool (decide (0 ≤ a) && decide (a ≤ 16777216) && decide (a + s.length ≤ 16777216))) w) : callvK Try.prog (.func (.func 102) #[] #[]) [.int .i64 a, str s] w next QP := by
  refine r102 rfl ?_
  unfold h102
  try simp only [go_sem, ↓reduceIte, Nat.reduceEqDiff, Nat.reduceAdd, Nat.reduceLT, List.length_cons, List.length_nil, List.getElem?_cons_zero, List.getElem?_cons_succ, Nat.mul_one, Bool.true_eq_false, Bool.false_eq_true, false_implies, true_implies, Bool.not_true, Bool.not_false, decide_true, decide_false, Int.reduceToNat, Int.cast_ofNat_Int, Int.reduceLT, Int.reduceLE, Int.reduceEq, Int.reduceNeg, eq_self, Option.isNone_some, Option.isNone_none, Bool.bne_false, Bool.bne_true]
  have e : (if (if decide (0 ≤ a) = true then decide (a ≤ 16777216) else false) = true then decide (IntKind.i64.wrap (a + (s.length : Int)) ≤ 16777216) else false) = (decide (0 ≤ a) && decide (a ≤ 16777216) && decide (a + s.length ≤ 16777216)) := by
    by_cases h0 : 0 ≤ a
    · by_cases h1 : a ≤ 16777216
      · rw [w64 (by omega) (by omega)]; simp [h0, h1]
      · simp [h0, h1]
    · simp [h0]
  rw [e]; exact k

/-- the file out of the durable part and what is pending -/
theorem rread0_ (h : RR w p d S) {f : Nat} (hf : f < 12) (hqn : d.queue.length ≤ 1000000000000) (k : ∀ w', Mod none' w w' → next (str (d.file f)) w') : callvK Try.prog (.func (.func 78) #[] #[]) [ptr p, .int .i64 f] w next QP := by
  refine r78 rfl ?_
  obtain ⟨lv, qv, kv, hb, hl, hq, hk, h1, h2, h3, c0, c1, c2, c3, c4, c5⟩ := h.parts
  rcases hl.blk with ⟨-, h0, -⟩ | ⟨g, c, rest, rfl, hlb, hr, hc, hm⟩
  · omega
  have hlf : w.cell? ⟨g, f, none⟩ = some (str (d.last f)) := by
    rw [hlb.cell, List.getElem?_append_left (by simp [h.ok.nl]; omega)]
    simp [Dk.last, h.ok.nl, hf]
  obtain ⟨qa, qc, rfl, hqc, -⟩ := hq.form
  unfold h78
  try simp only [go_sem, ↓reduceIte, Nat.reduceEqDiff, Nat.reduceAdd, Nat.reduceLT, List.length_cons, List.length_nil, List.getElem?_cons_zero, List.getElem?_cons_succ, Nat.mul_one, Bool.true_eq_false, Bool.false_eq_true, false_implies, true_implies, Bool.not_true, Bool.not_false, decide_true, decide_false, Int.reduceToNat, Int.cast_ofNat_Int, Int.reduceLT, Int.reduceLE, Int.reduceEq, Int.reduceNeg, eq_self, Option.isNone_some, Option.isNone_none, Bool.bne_false, Bool.bne_true, c0, hlf]
  refine ⟨⟨by omega, by omega⟩, ?_⟩
  have hlast : (d.last f).length ≤ 16777216 := by
    have : d.last f = d.lasts[f]'(by rw [h.ok.nl]; exact hf) := by simp [Dk.last, h.ok.nl, hf]
    rw [this]; exact h.ok.bl _ (List.getElem_mem _)
  refine loopN d.queue.length (fun i τ w' => τ 0 = ptr p ∧ τ 1 = .int .i64 f ∧ τ 5 = str (putAll (d.last f) (d.queue.take i) f) ∧ τ 6 = .int .i64 i ∧ Mod none' w w') ⟨0, by omega, rfl, rfl, rfl, rfl, Mod.refl _ _⟩ ?_
  rintro i τ w1 hi ⟨t0, t1, t5, t6, m1⟩
  have c1 : w1.cell? ⟨p, 1, none⟩ = _ := m1.cell c1 fun h => h
  unfold h78_1
  try simp only [go_sem, ↓reduceIte, Nat.reduceEqDiff, Nat.reduceAdd, Nat.reduceLT, List.length_cons, List.length_nil, List.getElem?_cons_zero, List.getElem?_cons_succ, Nat.mul_one, Bool.true_eq_false, Bool.false_eq_true, false_implies, true_implies, Bool.not_true, Bool.not_false, decide_true, decide_false, Int.reduceToNat, Int.cast_ofNat_Int, Int.reduceLT, Int.reduceLE, Int.reduceEq, Int.reduceNeg, eq_self, Option.isNone_some, Option.isNone_none, Bool.bne_false, Bool.bne_true, t0, t1, t5, t6, c1]
  refine ⟨fun hlt => ?_, fun hge => ?_⟩
  · have hil : i < d.queue.length := by have : (i : Int) < d.queue.length := by simpa using hlt
                                        omega
    obtain ⟨gb, o, c', hva, hcc, hcell⟩ := (hq.mod m1 fun _ _ h => h).sl.get Pd.cells_len rfl (by omega)
    simp only [Value.slice.injEq] at hva
    obtain ⟨rfl, -, rfl⟩ := hva
    have x0 : w1.cell? ⟨gb, o + i * 3, none⟩ = some (.int .i64 d.queue[i].file) := (hcell i 0 hil (by omega)).trans rfl
    have x1 : w1.cell? ⟨gb, o + i * 3 + 1, none⟩ = some (.int .i64 d.queue[i].at_) := (hcell i 1 hil (by omega)).trans rfl
    have x2 : w1.cell? ⟨gb, o + i * 3 + 2, none⟩ = some (str d.queue[i].bytes) := (hcell i 2 hil (by omega)).trans rfl
    have hbq := h.ok.bq _ (List.getElem_mem hil)
    have hput : putAll (d.last f) (d.queue.take (i + 1)) f = if d.queue[i].file = f then put (putAll (d.last f) (d.queue.take i) f) d.queue[i].at_ d.queue[i].bytes else putAll (d.last f) (d.queue.take i) f := by
      rw [List.take_succ_eq_append_getElem hil, putAll_app]; rfl
    have hple : (putAll (d.last f) (d.queue.take i) f).length ≤ 16777216 := putAll_le _ _ hlast fun p hp => (h.ok.bq p (List.mem_of_mem_take hp)).2
    unfold h78_2
    try simp only [go_sem, ↓reduceIte, Nat.reduceEqDiff, Nat.reduceAdd, Nat.reduceLT, List.length_cons, List.length_nil, List.getElem?_cons_zero, List.getElem?_cons_succ, Nat.mul_one, Bool.true_eq_false, Bool.false_eq_true, false_implies, true_implies, Bool.not_true, Bool.not_false, decide_true, decide_false, Int.reduceToNat, Int.cast_ofNat_Int, Int.reduceLT, Int.reduceLE, Int.reduceEq, Int.reduceNeg, eq_self, Option.isNone_some, Option.isNone_none, Bool.bne_false, Bool.bne_true, t0, t1, t5, t6, c1, x0, x1, x2]
    repeat refine ⟨⟨by omega, by omega⟩, ?_⟩
    refine ⟨fun he => ?_, fun he => ?_⟩
    · have he : (d.queue[i].file : Int) = f := by simpa using he
      repeat refine ⟨⟨by omega, by omega⟩, ?_⟩
      refine rput_ _ _ _ hple hbq.2 ?_
      intro w2 m2
      unfold h78_3
      try simp only [go_sem, ↓reduceIte, Nat.reduceEqDiff, Nat.reduceAdd, Nat.reduceLT, List.length_cons, List.length_nil, List.getElem?_cons_zero, List.getElem?_cons_succ, Nat.mul_one, Bool.true_eq_false, Bool.false_eq_true, false_implies, true_implies, Bool.not_true, Bool.not_false, decide_true, decide_false, Int.reduceToNat, Int.cast_ofNat_Int, Int.reduceLT, Int.reduceLE, Int.reduceEq, Int.reduceNeg, eq_self, Option.isNone_some, Option.isNone_none, Bool.bne_false, Bool.bne_true, t0, t1, t5, t6]
      rw [w64 (by omega) (by omega)]
      exact ⟨i + 1, by omega, by omega, by rw [hput, if_pos (by omega)], rfl, m1.trans' ((Mod.drew none' w1).trans' m2)⟩
    · have he : ¬ (d.queue[i].file : Int) = f := by simpa using he
      unfold h78_3
      try simp only [go_sem, ↓reduceIte, Nat.reduceEqDiff, Nat.reduceAdd, Nat.reduceLT, List.length_cons, List.length_nil, List.getElem?_cons_zero, List.getElem?_cons_succ, Nat.mul_one, Bool.true_eq_false, Bool.false_eq_true, false_implies, true_implies, Bool.not_true, Bool.not_false, decide_true, decide_false, Int.reduceToNat, Int.cast_ofNat_Int, Int.reduceLT, Int.reduceLE, Int.reduceEq, Int.reduceNeg, eq_self, Option.isNone_some, Option.isNone_none, Bool.bne_false, Bool.bne_true, t0, t1, t5, t6]
      rw [w64 (by omega) (by omega)]
      exact ⟨i + 1, by omega, by omega, by rw [hput, if_neg (by omega)], rfl, m1⟩
  · have hio : i = d.queue.length := by have : ¬ (i : Int) < d.queue.length := by simpa using hge
                                        omega
    subst hio
    unfold h78_4
    try simp only [go_sem, ↓reduceIte, Nat.reduceEqDiff, Nat.reduceAdd, Nat.reduceLT, List.length_cons, List.length_nil, List.getElem?_cons_zero, List.getElem?_cons_succ, Nat.mul_one, Bool.true_eq_false, Bool.false_eq_true, false_implies, true_implies, Bool.not_true, Bool.not_false, decide_true, decide_false, Int.reduceToNat, Int.cast_ofNat_Int, Int.reduceLT, Int.reduceLE, Int.reduceEq, Int.reduceNeg, eq_self, Option.isNone_some, Option.isNone_none, Bool.bne_false, Bool.bne_true, t5]
    rw [List.take_length, ← h.sync f hf]
    exact k _ m1

theorem rsize_ (h : RR w p d S) (f : Int) (hqn : d.queue.length ≤ 1000000000000) (k : ∀ w', Mod none' w w' → next (.int .i64 (d.size f)) w') : callvK Try.prog (.func (.func 39) #[] #[]) [ptr p, .int .i64 f] w next QP := by
  refine r39 rfl ?_
  unfold h39
  try simp only [go_sem, ↓reduceIte, Nat.reduceEqDiff, Nat.reduceAdd, Nat.reduceLT, List.length_cons, List.length_nil, List.getElem?_cons_zero, List.getElem?_cons_succ, Nat.mul_one, Bool.true_eq_false, Bool.false_eq_true, false_implies, true_implies, Bool.not_true, Bool.not_false, decide_true, decide_false, Int.reduceToNat, Int.cast_ofNat_Int, Int.reduceLT, Int.reduceLE, Int.reduceEq, Int.reduceNeg, eq_self, Option.isNone_some, Option.isNone_none, Bool.bne_false, Bool.bne_true, isF_int]
  refine ⟨fun hf => ?_, fun hf => ?_⟩
  · have hf : isF f = false := by simpa using hf
    have := k w (Mod.refl _ _)
    simpa [Dk.size, hf] using this
  · have hf : isF f = true := by simpa using hf
    obtain ⟨h0, h12⟩ : 0 ≤ f ∧ f < 12 := by simpa [isF] using hf
    obtain ⟨g, rfl⟩ := Int.eq_ofNat_of_zero_le h0
    unfold h39_1
    try simp only [go_sem, ↓reduceIte, Nat.reduceEqDiff, Nat.reduceAdd, Nat.reduceLT, List.length_cons, List.length_nil, List.getElem?_cons_zero, List.getElem?_cons_succ, Nat.mul_one, Bool.true_eq_false, Bool.false_eq_true, false_implies, true_implies, Bool.not_true, Bool.not_false, decide_true, decide_false, Int.reduceToNat, Int.cast_ofNat_Int, Int.reduceLT, Int.reduceLE, Int.reduceEq, Int.reduceNeg, eq_self, Option.isNone_some, Option.isNone_none, Bool.bne_false, Bool.bne_true]
    refine rread0_ h (f := g) (by omega) hqn ?_
    intro w1 m1
    try simp only [go_sem, ↓reduceIte, Nat.reduceEqDiff, Nat.reduceAdd, Nat.reduceLT, List.length_cons, List.length_nil, List.getElem?_cons_zero, List.getElem?_cons_succ, Nat.mul_one, Bool.true_eq_false, Bool.false_eq_true, false_implies, true_implies, Bool.not_true, Bool.not_false, decide_true, decide_false, Int.reduceToNat, Int.cast_ofNat_Int, Int.reduceLT, Int.reduceLE, Int.reduceEq, Int.reduceNeg, eq_self, Option.isNone_some, Option.isNone_none, Bool.bne_false, Bool.bne_true]
    have := k w1 m1
    simpa [Dk.size, hf] using this

theorem rread_ (h : RR w p d S) (f : Int) (hqn : d.queue.length ≤ 1000000000000) (k : ∀ w', Mod none' w w' → next (.tuple #[str (d.read f), .int .i64 (d.may [f])]) w') : callvK Try.prog (.func (.func 41) #[] #[]) [ptr p, .int .i64 f] w next QP := by
  refine r41 rfl ?_
  unfold h41
  try simp only [go_sem, ↓reduceIte, Nat.reduceEqDiff, Nat.reduceAdd, Nat.reduceLT, List.length_cons, List.length_nil, List.getElem?_cons_zero, List.getElem?_cons_succ, Nat.mul_one, Bool.true_eq_false, Bool.false_eq_true, false_implies, true_implies, Bool.not_true, Bool.not_false, decide_true, decide_false, Int.reduceToNat, Int.cast_ofNat_Int, Int.reduceLT, Int.reduceLE, Int.reduceEq, Int.reduceNeg, eq_self, Option.isNone_some, Option.isNone_none, Bool.bne_false, Bool.bne_true]
  refine rmay_ h f ?_
  try simp only [go_sem, ↓reduceIte, Nat.reduceEqDiff, Nat.reduceAdd, Nat.reduceLT, List.length_cons, List.length_nil, List.getElem?_cons_zero, List.getElem?_cons_succ, Nat.mul_one, Bool.true_eq_false, Bool.false_eq_true, false_implies, true_implies, Bool.not_true, Bool.not_false, decide_true, decide_false, Int.reduceToNat, Int.cast_ofNat_Int, Int.reduceLT, Int.reduceLE, Int.reduceEq, Int.reduceNeg, eq_self, Option.isNone_some, Option.isNone_none, Bool.bne_false, Bool.bne_true]
  refine ⟨fun hm => ?_, fun hm => ?_⟩
  · have hm : ¬ d.may [f] = 0 := by simpa using hm
    have := k w (Mod.refl _ _)
    simpa [Dk.read, hm] using this
  · have hm : d.may [f] = 0 := by simpa using hm
    have hf : 0 ≤ f ∧ f < 12 := by
      unfold Dk.may at hm
      split at hm
      · omega
      · split at hm
        · rename_i hh; simpa [isF] using hh
        · omega
    obtain ⟨g, rfl⟩ := Int.eq_ofNat_of_zero_le hf.1
    unfold h41_1
    try simp only [go_sem, ↓reduceIte, Nat.reduceEqDiff, Nat.reduceAdd, Nat.reduceLT, List.length_cons, List.length_nil, List.getElem?_cons_zero, List.getElem?_cons_succ, Nat.mul_one, Bool.true_eq_false, Bool.false_eq_true, false_implies, true_implies, Bool.not_true, Bool.not_false, decide_true, decide_false, Int.reduceToNat, Int.cast_ofNat_Int, Int.reduceLT, Int.reduceLE, Int.reduceEq, Int.reduceNeg, eq_self, Option.isNone_some, Option.isNone_none, Bool.bne_false, Bool.bne_true]
    refine rread0_ h (f := g) (by omega) hqn ?_
    intro w1 m1
    try simp only [go_sem, ↓reduceIte, Nat.reduceEqDiff, Nat.reduceAdd, Nat.reduceLT, List.length_cons, List.length_nil, List.getElem?_cons_zero, List.getElem?_cons_succ, Nat.mul_one, Bool.true_eq_false, Bool.false_eq_true, false_implies, true_implies, Bool.not_true, Bool.not_false, decide_true, decide_false, Int.reduceToNat, Int.cast_ofNat_Int, Int.reduceLT, Int.reduceLE, Int.reduceEq, Int.reduceNeg, eq_self, Option.isNone_some, Option.isNone_none, Bool.bne_false, Bool.bne_true]
    have := k w1 m1
    simpa [Dk.read, hm] using this
end
end Go.Proofs.Y
