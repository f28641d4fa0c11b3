/- RJ: an operation on the reference. -/
import Derived.Test.YtgalileklafbbaaRI
set_option linter.unusedSimpArgs false
set_option linter.unusedVariables false
set_option maxRecDepth 100000
namespace Go.Proofs.Y
open Go Go.HL Go.Proofs
section
variable {w : World} {next : Value → World → Prop} {QP : List PanicEntry → World → Prop}
theorem twin_ {p : Nat} {d : Dk} {S : Nat → Prop} (h : RR w p d S) {a : Act} (ha : a.OK w) (hk0 : 0 < a.ks.length → a.kv.ownBlock ≠ some p) (hqn : d.queue.length ≤ 100000000)
    (k : ∀ w', RT S w w' p (d.act a) → next (.tuple #[str (d.actS a), .int .i64 (d.actE a)]) w') : callvK Try.prog (.func (.func 37) #[] #[]) [ptr p, .agg a.cells.toArray] w next QP := by
  refine r37 rfl ?_
  unfold h37
  try simp only [go_sem, ↓reduceIte, Nat.reduceEqDiff, Nat.reduceAdd, Nat.reduceLT, List.length_cons, List.length_nil, List.getElem?_cons_zero, List.getElem?_cons_succ, Nat.mul_one, Bool.true_eq_false, Bool.false_eq_true, false_implies, true_implies, Bool.not_true, Bool.not_false, decide_true, decide_false, Int.reduceToNat, Int.cast_ofNat_Int, Int.reduceLT, Int.reduceLE, Int.reduceEq, Int.reduceNeg, eq_self, Option.isNone_some, Option.isNone_none, Bool.bne_false, Bool.bne_true]
  refine box_ (cs := a.cells) rfl ?_
  intro b w1 hb hbb m1 hsz1
  obtain ⟨x0, x1, x2, x3, x4, x5⟩ := Act.get hbb
  have rr1 : RR w1 p d S := h.mod0 m1
  have ha1 := ha.mod0 m1
  have hr := pk_range a.Do
  try simp only [go_sem, ↓reduceIte, Nat.reduceEqDiff, Nat.reduceAdd, Nat.reduceLT, List.length_cons, List.length_nil, List.getElem?_cons_zero, List.getElem?_cons_succ, Nat.mul_one, Bool.true_eq_false, Bool.false_eq_true, false_implies, true_implies, Bool.not_true, Bool.not_false, decide_true, decide_false, Int.reduceToNat, Int.cast_ofNat_Int, Int.reduceLT, Int.reduceLE, Int.reduceEq, Int.reduceNeg, eq_self, Option.isNone_some, Option.isNone_none, Bool.bne_false, Bool.bne_true, x0]
  refine pick_ ha.d ?_
  try simp only [go_sem, ↓reduceIte, Nat.reduceEqDiff, Nat.reduceAdd, Nat.reduceLT, List.length_cons, List.length_nil, List.getElem?_cons_zero, List.getElem?_cons_succ, Nat.mul_one, Bool.true_eq_false, Bool.false_eq_true, false_implies, true_implies, Bool.not_true, Bool.not_false, decide_true, decide_false, Int.reduceToNat, Int.cast_ofNat_Int, Int.reduceLT, Int.reduceLE, Int.reduceEq, Int.reduceNeg, eq_self, Option.isNone_some, Option.isNone_none, Bool.bne_false, Bool.bne_true]
  have fin : ∀ (τ : Env) w', τ 4 = str [] → τ 5 = .int .i64 0 → RT S w w' p (d.act a) → d.actS a = [] → d.actE a = 0 → hw Try.prog noPanic h37_2 (endV [.tmp 4, .tmp 5] next) τ w' := by
    intro τ w' t4 t5 st e1 e2
    unfold h37_2
    try simp only [go_sem, ↓reduceIte, Nat.reduceEqDiff, Nat.reduceAdd, Nat.reduceLT, List.length_cons, List.length_nil, List.getElem?_cons_zero, List.getElem?_cons_succ, Nat.mul_one, Bool.true_eq_false, Bool.false_eq_true, false_implies, true_implies, Bool.not_true, Bool.not_false, decide_true, decide_false, Int.reduceToNat, Int.cast_ofNat_Int, Int.reduceLT, Int.reduceLE, Int.reduceEq, Int.reduceNeg, eq_self, Option.isNone_some, Option.isNone_none, Bool.bne_false, Bool.bne_true]
    have := k w' st
    rw [e1, e2] at this
    exact this
  have wr : ∀ τ : Env, τ 0 = ptr p → τ 3 = ptr b → τ 9 = .bool true → (pk a.Do = 0 ∨ pk a.Do = 1) → hw Try.prog noPanic h37_1 (blockX 0 (seqX (hw Try.prog noPanic h37_2 (endV [.tmp 4, .tmp 5] next)) (endV [.tmp 4, .tmp 5] next))) τ w1 := by
    intro τ t0 t3 t9 hk
    unfold h37_1
    try simp only [go_sem, ↓reduceIte, Nat.reduceEqDiff, Nat.reduceAdd, Nat.reduceLT, List.length_cons, List.length_nil, List.getElem?_cons_zero, List.getElem?_cons_succ, Nat.mul_one, Bool.true_eq_false, Bool.false_eq_true, false_implies, true_implies, Bool.not_true, Bool.not_false, decide_true, decide_false, Int.reduceToNat, Int.cast_ofNat_Int, Int.reduceLT, Int.reduceLE, Int.reduceEq, Int.reduceNeg, eq_self, Option.isNone_some, Option.isNone_none, Bool.bne_false, Bool.bne_true, t0, t3, t9, x0, x1, x2, x3, x4, x5]
    have hw := ha.sl
    refine rwrite_ rr1 (by omega) ?_
    intro w2 st2
    try simp only [go_sem, ↓reduceIte, Nat.reduceEqDiff, Nat.reduceAdd, Nat.reduceLT, List.length_cons, List.length_nil, List.getElem?_cons_zero, List.getElem?_cons_succ, Nat.mul_one, Bool.true_eq_false, Bool.false_eq_true, false_implies, true_implies, Bool.not_true, Bool.not_false, decide_true, decide_false, Int.reduceToNat, Int.cast_ofNat_Int, Int.reduceLT, Int.reduceLE, Int.reduceEq, Int.reduceNeg, eq_self, Option.isNone_some, Option.isNone_none, Bool.bne_false, Bool.bne_true]
    have := k w2
    simp only [Dk.act, Dk.actE, Dk.actS, if_pos hk, if_neg (show ¬ pk a.Do = 8 by omega)] at this
    exact this (RT.after m1 st2)
  refine ⟨fun h0 => ?_, fun h0 => ?_⟩
  · have h0 : pk a.Do = 0 := by simpa using h0
    exact wr _ rfl rfl (by simp [upd_at, h0]) (.inl h0)
  have h0 : pk a.Do ≠ 0 := by simpa using h0
  by_cases h1 : pk a.Do = 1
  · exact wr _ rfl rfl (by simp [upd_at, h1]) (.inr h1)
  have hn01 : ¬ (pk a.Do = 0 ∨ pk a.Do = 1) := by omega
  unfold h37_1
  have hd1 : decide (pk a.Do = 1) = false := by simp [h1]
  try simp only [go_sem, ↓reduceIte, Nat.reduceEqDiff, Nat.reduceAdd, Nat.reduceLT, List.length_cons, List.length_nil, List.getElem?_cons_zero, List.getElem?_cons_succ, Nat.mul_one, Bool.true_eq_false, Bool.false_eq_true, false_implies, true_implies, Bool.not_true, Bool.not_false, decide_true, decide_false, Int.reduceToNat, Int.cast_ofNat_Int, Int.reduceLT, Int.reduceLE, Int.reduceEq, Int.reduceNeg, eq_self, Option.isNone_some, Option.isNone_none, Bool.bne_false, Bool.bne_true, x0, x1, x2, x3, x4, x5, hd1]
  simp only [Dk.act, Dk.actE, Dk.actS, if_neg hn01] at k fin
  refine ⟨fun h2 => ?_, fun h2 => ?_⟩
  · have h2 : pk a.Do = 2 := by simpa using h2
    refine rflush_ rr1 (by omega) ?_
    intro w2 st2
    try simp only [go_sem, ↓reduceIte, Nat.reduceEqDiff, Nat.reduceAdd, Nat.reduceLT, List.length_cons, List.length_nil, List.getElem?_cons_zero, List.getElem?_cons_succ, Nat.mul_one, Bool.true_eq_false, Bool.false_eq_true, false_implies, true_implies, Bool.not_true, Bool.not_false, decide_true, decide_false, Int.reduceToNat, Int.cast_ofNat_Int, Int.reduceLT, Int.reduceLE, Int.reduceEq, Int.reduceNeg, eq_self, Option.isNone_some, Option.isNone_none, Bool.bne_false, Bool.bne_true]
    have := k w2
    simp only [h2, if_true, if_neg (show ¬ (2 : Int) = 8 by omega)] at this
    exact this (RT.after m1 st2)
  have h2 : ¬ pk a.Do = 2 := by simpa using h2
  simp only [if_neg h2] at k fin
  refine ⟨fun h3 => ?_, fun h3 => ?_⟩
  · have h3 : pk a.Do = 3 := by simpa using h3
    refine rcut_ rr1 (by omega) ?_
    intro w2 st2
    try simp only [go_sem, ↓reduceIte, Nat.reduceEqDiff, Nat.reduceAdd, Nat.reduceLT, List.length_cons, List.length_nil, List.getElem?_cons_zero, List.getElem?_cons_succ, Nat.mul_one, Bool.true_eq_false, Bool.false_eq_true, false_implies, true_implies, Bool.not_true, Bool.not_false, decide_true, decide_false, Int.reduceToNat, Int.cast_ofNat_Int, Int.reduceLT, Int.reduceLE, Int.reduceEq, Int.reduceNeg, eq_self, Option.isNone_some, Option.isNone_none, Bool.bne_false, Bool.bne_true]
    have := k w2
    simp only [h3, if_true, if_neg (show ¬ (3 : Int) = 8 by omega)] at this
    exact this (RT.after m1 st2)
  have h3 : ¬ pk a.Do = 3 := by simpa using h3
  simp only [if_neg h3] at k fin
  refine ⟨fun h4 => ?_, fun h4 => ?_⟩
  · have h4 : pk a.Do = 4 := by simpa using h4
    refine rturn_ rr1 (by omega) ?_
    intro w2 st2
    try simp only [go_sem, ↓reduceIte, Nat.reduceEqDiff, Nat.reduceAdd, Nat.reduceLT, List.length_cons, List.length_nil, List.getElem?_cons_zero, List.getElem?_cons_succ, Nat.mul_one, Bool.true_eq_false, Bool.false_eq_true, false_implies, true_implies, Bool.not_true, Bool.not_false, decide_true, decide_false, Int.reduceToNat, Int.cast_ofNat_Int, Int.reduceLT, Int.reduceLE, Int.reduceEq, Int.reduceNeg, eq_self, Option.isNone_some, Option.isNone_none, Bool.bne_false, Bool.bne_true]
    have := k w2
    simp only [h4, if_true, if_neg (show ¬ (4 : Int) = 8 by omega)] at this
    exact this (RT.after m1 st2)
  have h4 : ¬ pk a.Do = 4 := by simpa using h4
  simp only [if_neg h4] at k fin
  refine ⟨fun h5 => ?_, fun h5 => ?_⟩
  · have h5 : pk a.Do = 5 := by simpa using h5
    refine rcrash_ rr1 ha1.k hk0 (by omega) ?_
    intro w2 st2
    try simp only [go_sem, ↓reduceIte, Nat.reduceEqDiff, Nat.reduceAdd, Nat.reduceLT, List.length_cons, List.length_nil, List.getElem?_cons_zero, List.getElem?_cons_succ, Nat.mul_one, Bool.true_eq_false, Bool.false_eq_true, false_implies, true_implies, Bool.not_true, Bool.not_false, decide_true, decide_false, Int.reduceToNat, Int.cast_ofNat_Int, Int.reduceLT, Int.reduceLE, Int.reduceEq, Int.reduceNeg, eq_self, Option.isNone_some, Option.isNone_none, Bool.bne_false, Bool.bne_true]
    simp only [h5, if_true, if_neg (show ¬ (5 : Int) = 8 by omega), true_implies] at fin
    exact fin _ _ rfl rfl (RT.after m1 st2)
  have h5 : ¬ pk a.Do = 5 := by simpa using h5
  simp only [if_neg h5] at k fin
  refine ⟨fun h6 => ?_, fun h6 => ?_⟩
  · have h6 : pk a.Do = 6 := by simpa using h6
    refine rlose_ rr1 ha.n.2 ?_
    intro w2 dr2 m2
    try simp only [go_sem, ↓reduceIte, Nat.reduceEqDiff, Nat.reduceAdd, Nat.reduceLT, List.length_cons, List.length_nil, List.getElem?_cons_zero, List.getElem?_cons_succ, Nat.mul_one, Bool.true_eq_false, Bool.false_eq_true, false_implies, true_implies, Bool.not_true, Bool.not_false, decide_true, decide_false, Int.reduceToNat, Int.cast_ofNat_Int, Int.reduceLT, Int.reduceLE, Int.reduceEq, Int.reduceNeg, eq_self, Option.isNone_some, Option.isNone_none, Bool.bne_false, Bool.bne_true]
    simp only [h6, if_true, if_neg (show ¬ (6 : Int) = 8 by omega), true_implies] at fin
    exact fin _ _ rfl rfl (RT.after m1 (.of dr2 m2))
  have h6 : ¬ pk a.Do = 6 := by simpa using h6
  simp only [if_neg h6] at k fin
  refine ⟨fun h7 => ?_, fun h7 => ?_⟩
  · have h7 : pk a.Do = 7 := by simpa using h7
    refine rstart_ rr1 ?_
    intro w2 dr2 m2
    try simp only [go_sem, ↓reduceIte, Nat.reduceEqDiff, Nat.reduceAdd, Nat.reduceLT, List.length_cons, List.length_nil, List.getElem?_cons_zero, List.getElem?_cons_succ, Nat.mul_one, Bool.true_eq_false, Bool.false_eq_true, false_implies, true_implies, Bool.not_true, Bool.not_false, decide_true, decide_false, Int.reduceToNat, Int.cast_ofNat_Int, Int.reduceLT, Int.reduceLE, Int.reduceEq, Int.reduceNeg, eq_self, Option.isNone_some, Option.isNone_none, Bool.bne_false, Bool.bne_true]
    simp only [h7, if_true, if_neg (show ¬ (7 : Int) = 8 by omega), true_implies] at fin
    exact fin _ _ rfl rfl (RT.after m1 (.of dr2 m2))
  have h7 : ¬ pk a.Do = 7 := by simpa using h7
  simp only [if_neg h7] at k fin
  refine ⟨fun h8 => ?_, fun h8 => ?_⟩
  · have h8 : pk a.Do = 8 := by simpa using h8
    refine rread_ rr1 a.F (by omega) ?_
    intro w2 m2
    try simp only [go_sem, ↓reduceIte, Nat.reduceEqDiff, Nat.reduceAdd, Nat.reduceLT, List.length_cons, List.length_nil, List.getElem?_cons_zero, List.getElem?_cons_succ, Nat.mul_one, Bool.true_eq_false, Bool.false_eq_true, false_implies, true_implies, Bool.not_true, Bool.not_false, decide_true, decide_false, Int.reduceToNat, Int.cast_ofNat_Int, Int.reduceLT, Int.reduceLE, Int.reduceEq, Int.reduceNeg, eq_self, Option.isNone_some, Option.isNone_none, Bool.bne_false, Bool.bne_true]
    have := k w2
    simp only [h8, if_true] at this
    exact this (RT.after m1 (.of (rr1.mod0 m2) (m2.mono fun _ _ h => h.elim)))
  have h8 : ¬ pk a.Do = 8 := by simpa using h8
  simp only [if_neg h8] at k fin
  refine ⟨fun h10 => ?_, fun h10 => ?_⟩
  · have h10 : pk a.Do = 10 := by simpa using h10
    refine rarm_ rr1 ha.n.2 ha1.k hk0 (by have := ha.kl; omega) ?_
    intro w2 st2
    try simp only [go_sem, ↓reduceIte, Nat.reduceEqDiff, Nat.reduceAdd, Nat.reduceLT, List.length_cons, List.length_nil, List.getElem?_cons_zero, List.getElem?_cons_succ, Nat.mul_one, Bool.true_eq_false, Bool.false_eq_true, false_implies, true_implies, Bool.not_true, Bool.not_false, decide_true, decide_false, Int.reduceToNat, Int.cast_ofNat_Int, Int.reduceLT, Int.reduceLE, Int.reduceEq, Int.reduceNeg, eq_self, Option.isNone_some, Option.isNone_none, Bool.bne_false, Bool.bne_true]
    simp only [h10, if_true, true_implies] at fin
    exact fin _ _ rfl rfl (RT.after m1 st2)
  have h10 : ¬ pk a.Do = 10 := by simpa using h10
  simp only [if_neg h10, true_implies] at k fin
  exact fin _ _ rfl rfl (RT.after m1 (.refl rr1))

end
end Go.Proofs.Y
