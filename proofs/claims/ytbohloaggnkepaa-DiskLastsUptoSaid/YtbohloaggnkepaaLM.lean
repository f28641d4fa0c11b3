/- LM: DiskLasts: the head, and the whole. -/
import Derived.Test.YtbohloaggnkepaaLL
set_option linter.unusedSimpArgs false
set_option linter.unusedVariables false
namespace Go.Proofs.Y
open Go Go.HL Go.Proofs
theorem sl40 : SlTy Try.prog 40 9 1 16 (str []) := ⟨by kernel_rfl, by kernel_rfl, rfl, by decide⟩
theorem few_fits {al : List Act} (h : few al = true) : ∀ x ∈ al, fits x = true := by
  simp [few] at h; exact h.1.1
section
variable {w : World} {next : Value → World → Prop} {QP : List PanicEntry → World → Prop}
theorem lasts_ {lv kv : Value} {al : List Act} {ks : List Int} {m : Nat} (hl : Sl w lv 6 al.length (rows Act.cells al)) (hal : ∀ x ∈ al, x.OK w) (hn : al.length ≤ 1048576) (hh : heft al ≤ 1048576) (hk : Sl w kv 1 m (ints ks)) (k : ∀ w', Mod none' w w' → next (.bool true) w') :
    callK Try.prog 5 [lv, kv] w next QP := by
  refine q5 rfl ?_
  unfold h5
  try simp only [go_sem, ↓reduceIte, Nat.reduceEqDiff, Nat.reduceAdd, Nat.reduceLT, List.length_cons, List.length_nil, List.getElem?_cons_zero, List.getElem?_cons_succ, Nat.mul_one, Bool.true_eq_false, Bool.false_eq_true, false_implies, true_implies, Bool.not_true, Bool.not_false, decide_true, decide_false, Int.reduceToNat, Int.cast_ofNat_Int, Int.reduceLT, Int.reduceLE, Int.reduceEq, Int.reduceNeg, eq_self, Option.isNone_some, Option.isNone_none, Bool.bne_false, Bool.bne_true]
  refine small_ ?_
  intro w1 m1
  try simp only [go_sem, ↓reduceIte, Nat.reduceEqDiff, Nat.reduceAdd, Nat.reduceLT, List.length_cons, List.length_nil, List.getElem?_cons_zero, List.getElem?_cons_succ, Nat.mul_one, Bool.true_eq_false, Bool.false_eq_true, false_implies, true_implies, Bool.not_true, Bool.not_false, decide_true, decide_false, Int.reduceToNat, Int.cast_ofNat_Int, Int.reduceLT, Int.reduceLE, Int.reduceEq, Int.reduceNeg, eq_self, Option.isNone_some, Option.isNone_none, Bool.bne_false, Bool.bne_true]
  refine new_ ?_
  intro p w2 hp st0
  have st : St FP0 w w2 p Dk.new := st0.after m1
  try simp only [go_sem, ↓reduceIte, Nat.reduceEqDiff, Nat.reduceAdd, Nat.reduceLT, List.length_cons, List.length_nil, List.getElem?_cons_zero, List.getElem?_cons_succ, Nat.mul_one, Bool.true_eq_false, Bool.false_eq_true, false_implies, true_implies, Bool.not_true, Bool.not_false, decide_true, decide_false, Int.reduceToNat, Int.cast_ofNat_Int, Int.reduceLT, Int.reduceLE, Int.reduceEq, Int.reduceNeg, eq_self, Option.isNone_some, Option.isNone_none, Bool.bne_false, Bool.bne_true]
  refine few_ (hl.mod st.mod fun _ _ h => h) (fun x hx => (hal x hx).mod0 st.mod) hn (by omega) ?_
  intro w3 m3
  have st := st.mod0 m3
  cases hfew : few al
  · try simp only [go_sem, ↓reduceIte, Nat.reduceEqDiff, Nat.reduceAdd, Nat.reduceLT, List.length_cons, List.length_nil, List.getElem?_cons_zero, List.getElem?_cons_succ, Nat.mul_one, Bool.true_eq_false, Bool.false_eq_true, false_implies, true_implies, Bool.not_true, Bool.not_false, decide_true, decide_false, Int.reduceToNat, Int.cast_ofNat_Int, Int.reduceLT, Int.reduceLE, Int.reduceEq, Int.reduceNeg, eq_self, Option.isNone_some, Option.isNone_none, Bool.bne_false, Bool.bne_true]
    exact k _ st.mod
  try simp only [go_sem, ↓reduceIte, Nat.reduceEqDiff, Nat.reduceAdd, Nat.reduceLT, List.length_cons, List.length_nil, List.getElem?_cons_zero, List.getElem?_cons_succ, Nat.mul_one, Bool.true_eq_false, Bool.false_eq_true, false_implies, true_implies, Bool.not_true, Bool.not_false, decide_true, decide_false, Int.reduceToNat, Int.cast_ofNat_Int, Int.reduceLT, Int.reduceLE, Int.reduceEq, Int.reduceNeg, eq_self, Option.isNone_some, Option.isNone_none, Bool.bne_false, Bool.bne_true]
  obtain ⟨h200, h5000⟩ := few_le hfew
  unfold h5_1
  try simp only [go_sem, ↓reduceIte, Nat.reduceEqDiff, Nat.reduceAdd, Nat.reduceLT, List.length_cons, List.length_nil, List.getElem?_cons_zero, List.getElem?_cons_succ, Nat.mul_one, Bool.true_eq_false, Bool.false_eq_true, false_implies, true_implies, Bool.not_true, Bool.not_false, decide_true, decide_false, Int.reduceToNat, Int.cast_ofNat_Int, Int.reduceLT, Int.reduceLE, Int.reduceEq, Int.reduceNeg, eq_self, Option.isNone_some, Option.isNone_none, Bool.bne_false, Bool.bne_true]
  refine msl1 sl40 rfl 12 rfl (by omega) (by unfold maxLen; omega) ?_
  intro b w4 hb own4 _ m4 _
  have hpw : w.heap.size ≤ p := by have := m1.size; omega
  have hls : LS w w4 p Dk.new st.foot (.slice (some ⟨b, 0, none⟩) 12 12) (.slice none 0 0) (List.replicate 12 []) [] := by
    refine ⟨st.dr.mod0 m4, ?_, Own.nil _ _ _, fun k hk => ?_, (fun k hk => nomatch (hk : none = some k)), fun k hk => ?_, st.mod.trans' m4⟩
    · simpa using own4
    · have hk' : b = k := by simpa [Value.ownBlock] using hk
      have := m1.size
      have := st0.mod.size
      have := m3.size
      refine ⟨fun hR => ?_, by omega⟩
      have := st.dr.lt k hR; omega
    · rcases st.footR k hk with h' | h'
      · exact h'.elim
      · omega
  try simp only [go_sem, ↓reduceIte, Nat.reduceEqDiff, Nat.reduceAdd, Nat.reduceLT, List.length_cons, List.length_nil, List.getElem?_cons_zero, List.getElem?_cons_succ, Nat.mul_one, Bool.true_eq_false, Bool.false_eq_true, false_implies, true_implies, Bool.not_true, Bool.not_false, decide_true, decide_false, Int.reduceToNat, Int.cast_ofNat_Int, Int.reduceLT, Int.reduceLE, Int.reduceEq, Int.reduceNeg, eq_self, Option.isNone_some, Option.isNone_none, Bool.bne_false, Bool.bne_true]
  refine lasts_loop hl hal (few_fits hfew) h200 h5000 (d := Dk.new) (safe := List.replicate 12 []) ⟨hls, ?_, fun a ha => (nomatch ha), Nat.zero_le _, Nat.zero_le _⟩ rfl hpw rfl rfl rfl rfl rfl rfl rfl ?_
  · exact LInv.rest rfl rfl rfl
  intro τ w' D' F' nv' safe' al' t0 t1 t5 t6 t7 t8 h
  refine lasts_end h hk (fun hm e => ?_) (by omega) (by omega) t1 t5 t6 t7 t8 k
  have := hk.lt (by omega) hm p e; omega
end
end Go.Proofs.Y
