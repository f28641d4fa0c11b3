/- DJ: the small example, printed by mksmall.py. -/
import Derived.Test.YtgalileklafbbaaDI
set_option linter.unusedSimpArgs false
set_option linter.unusedVariables false
set_option maxRecDepth 100000
namespace Go.Proofs.Y
open Go Go.HL Go.Proofs
namespace Small
instance : DecidableEq Pd := fun a b => by
  cases a; cases b; simp only [Pd.mk.injEq]; infer_instance
def y1 : Dk := Dk.new.write 1 0 [104, 101, 108, 108, 111]
theorem z1 : Dk.new.writeR 1 0 [104, 101, 108, 108, 111] = 0 := by decide +kernel
theorem u1 : Dk.new.write 1 0 [104, 101, 108, 108, 111] = y1 := rfl
def y2 : Dk := y1.flush 1
theorem z2 : y1.flushR 1 = 0 := by decide +kernel
theorem u2 : y1.flush 1 = y2 := rfl
def y3 : Dk := y2.write 1 5 [121]
theorem z3 : y2.writeR 1 5 [121] = 0 := by decide +kernel
theorem u3 : y2.write 1 5 [121] = y3 := rfl
def y4 : Dk := y3.write 1 8 [122]
theorem z4 : y3.writeR 1 8 [122] = 0 := by decide +kernel
theorem u4 : y3.write 1 8 [122] = y4 := rfl
def y5 : Dk := y4.crash [1]
theorem u5 : y4.crash [1] = y5 := rfl
theorem z6 : y5.read 1 = [] := by decide +kernel
theorem zz6 : y5.may [1] = 8 := by decide +kernel
def y8 : Dk := y5.start
theorem u8 : y5.start = y8 := rfl
theorem z9 : y8.read 1 = [104, 101, 108, 108, 111, 121] := by decide +kernel
theorem zz9 : y8.may [1] = 0 := by decide +kernel
def y10 : Dk := y8.lose 1
theorem u10 : y8.lose 1 = y10 := rfl
def y11 : Dk := y10.flush 1
theorem z11 : y10.flushR 1 = 9 := by decide +kernel
theorem u11 : y10.flush 1 = y11 := rfl
def y12 : Dk := y11.write 2 0 [120]
theorem z12 : y11.writeR 2 0 [120] = 0 := by decide +kernel
theorem u12 : y11.write 2 0 [120] = y12 := rfl
def y13 : Dk := y12.turn 1 2
theorem z13 : y12.turnR 1 2 = 7 := by decide +kernel
theorem u13 : y12.turn 1 2 = y13 := rfl
def y14 : Dk := y13.flush 2
theorem z14 : y13.flushR 2 = 0 := by decide +kernel
theorem u14 : y13.flush 2 = y14 := rfl
def y15 : Dk := y14.turn 1 2
theorem z15 : y14.turnR 1 2 = 0 := by decide +kernel
theorem u15 : y14.turn 1 2 = y15 := rfl
theorem z16 : y15.read 1 = [120] := by decide +kernel
theorem zz16 : y15.may [1] = 0 := by decide +kernel
def y17 : Dk := y15.write 3 62 [97, 98, 99, 100]
theorem z17 : y15.writeR 3 62 [97, 98, 99, 100] = 0 := by decide +kernel
theorem u17 : y15.write 3 62 [97, 98, 99, 100] = y17 := rfl
def y18 : Dk := y17.crash [0, 1]
theorem u18 : y17.crash [0, 1] = y18 := rfl
def y19 : Dk := y18.start
theorem u19 : y18.start = y19 := rfl
theorem z20 : y19.read 3 = List.replicate 64 0 ++ [99, 100] := by decide +kernel
theorem zz20 : y19.may [3] = 0 := by decide +kernel
end Small
section
open Small
variable {w : World} {next : Value → World → Prop} {QP : List PanicEntry → World → Prop}

theorem small_ (k : ∀ w', Mod none' w w' → next (.bool true) w') : callvK Try.prog (.func (.func 16) #[] #[]) [] w next QP := by
  refine r16 rfl ?_
  unfold h16
  try simp only [go_sem, ↓reduceIte, Nat.reduceEqDiff, Nat.reduceAdd, Nat.reduceLT, List.length_cons, List.length_nil, List.getElem?_cons_zero, List.getElem?_cons_succ, Nat.mul_one, Bool.true_eq_false, Bool.false_eq_true, false_implies, true_implies, Bool.not_true, Bool.not_false, decide_true, decide_false, Int.reduceToNat, Int.cast_ofNat_Int, Int.reduceLT, Int.reduceLE, Int.reduceEq, Int.reduceNeg, eq_self]
  refine new_ ?_
  intro p w0 hp st
  try simp only [go_sem, ↓reduceIte, Nat.reduceEqDiff, Nat.reduceAdd, Nat.reduceLT, List.length_cons, List.length_nil, List.getElem?_cons_zero, List.getElem?_cons_succ, Nat.mul_one, Bool.true_eq_false, Bool.false_eq_true, false_implies, true_implies, Bool.not_true, Bool.not_false, decide_true, decide_false, Int.reduceToNat, Int.cast_ofNat_Int, Int.reduceLT, Int.reduceLE, Int.reduceEq, Int.reduceNeg, eq_self]
  refine ⟨fun h => absurd h (by simp), fun _ => ?_⟩
  unfold h16_1
  try simp only [go_sem, ↓reduceIte, Nat.reduceEqDiff, Nat.reduceAdd, Nat.reduceLT, List.length_cons, List.length_nil, List.getElem?_cons_zero, List.getElem?_cons_succ, Nat.mul_one, Bool.true_eq_false, Bool.false_eq_true, false_implies, true_implies, Bool.not_true, Bool.not_false, decide_true, decide_false, Int.reduceToNat, Int.cast_ofNat_Int, Int.reduceLT, Int.reduceLE, Int.reduceEq, Int.reduceNeg, eq_self]
  refine write_ st.dr (f := 1) (a := 0) (s := [104, 101, 108, 108, 111]) (by decide) (by decide) (by decide +kernel) ?_
  intro w1 st'
  have st := st.trans st'
  rw [u1] at st
  rw [z1]
  try simp only [go_sem, ↓reduceIte, Nat.reduceEqDiff, Nat.reduceAdd, Nat.reduceLT, List.length_cons, List.length_nil, List.getElem?_cons_zero, List.getElem?_cons_succ, Nat.mul_one, Bool.true_eq_false, Bool.false_eq_true, false_implies, true_implies, Bool.not_true, Bool.not_false, decide_true, decide_false, Int.reduceToNat, Int.cast_ofNat_Int, Int.reduceLT, Int.reduceLE, Int.reduceEq, Int.reduceNeg, eq_self]
  refine flush_ st.dr (f := 1) (by decide +kernel) ?_
  intro w2 st'
  have st := st.trans st'
  rw [u2] at st
  rw [z2]
  try simp only [go_sem, ↓reduceIte, Nat.reduceEqDiff, Nat.reduceAdd, Nat.reduceLT, List.length_cons, List.length_nil, List.getElem?_cons_zero, List.getElem?_cons_succ, Nat.mul_one, Bool.true_eq_false, Bool.false_eq_true, false_implies, true_implies, Bool.not_true, Bool.not_false, decide_true, decide_false, Int.reduceToNat, Int.cast_ofNat_Int, Int.reduceLT, Int.reduceLE, Int.reduceEq, Int.reduceNeg, eq_self]
  refine write_ st.dr (f := 1) (a := 5) (s := [121]) (by decide) (by decide) (by decide +kernel) ?_
  intro w3 st'
  have st := st.trans st'
  rw [u3] at st
  rw [z3]
  try simp only [go_sem, ↓reduceIte, Nat.reduceEqDiff, Nat.reduceAdd, Nat.reduceLT, List.length_cons, List.length_nil, List.getElem?_cons_zero, List.getElem?_cons_succ, Nat.mul_one, Bool.true_eq_false, Bool.false_eq_true, false_implies, true_implies, Bool.not_true, Bool.not_false, decide_true, decide_false, Int.reduceToNat, Int.cast_ofNat_Int, Int.reduceLT, Int.reduceLE, Int.reduceEq, Int.reduceNeg, eq_self]
  refine write_ st.dr (f := 1) (a := 8) (s := [122]) (by decide) (by decide) (by decide +kernel) ?_
  intro w4 st'
  have st := st.trans st'
  rw [u4] at st
  rw [z4]
  try simp only [go_sem, ↓reduceIte, Nat.reduceEqDiff, Nat.reduceAdd, Nat.reduceLT, List.length_cons, List.length_nil, List.getElem?_cons_zero, List.getElem?_cons_succ, Nat.mul_one, Bool.true_eq_false, Bool.false_eq_true, false_implies, true_implies, Bool.not_true, Bool.not_false, decide_true, decide_false, Int.reduceToNat, Int.cast_ofNat_Int, Int.reduceLT, Int.reduceLE, Int.reduceEq, Int.reduceNeg, eq_self]
  unfold h16_2
  try simp only [go_sem, ↓reduceIte, Nat.reduceEqDiff, Nat.reduceAdd, Nat.reduceLT, List.length_cons, List.length_nil, List.getElem?_cons_zero, List.getElem?_cons_succ, Nat.mul_one, Bool.true_eq_false, Bool.false_eq_true, false_implies, true_implies, Bool.not_true, Bool.not_false, decide_true, decide_false, Int.reduceToNat, Int.cast_ofNat_Int, Int.reduceLT, Int.reduceLE, Int.reduceEq, Int.reduceNeg, eq_self]
  have hp := st.dr.plt
  refine bsl1 sl22 rfl rfl (by decide) ?_
  intro b5 x5 hb5 own5 blk5 m5 sz5
  have st := st.mod0 m5
  try simp only [go_sem, ↓reduceIte, Nat.reduceEqDiff, Nat.reduceAdd, Nat.reduceLT, List.length_cons, List.length_nil, List.getElem?_cons_zero, List.getElem?_cons_succ, Nat.mul_one, Bool.true_eq_false, Bool.false_eq_true, false_implies, true_implies, Bool.not_true, Bool.not_false, decide_true, decide_false, Int.reduceToNat, Int.cast_ofNat_Int, Int.reduceLT, Int.reduceLE, Int.reduceEq, Int.reduceNeg, eq_self]
  refine crash_ st.dr (ks := [1]) own5.sl (fun _ e => by simp [Value.ownBlock] at e; omega) (by decide +kernel) ?_
  intro w5 st'
  have st := st.trans st'
  rw [u5] at st
  try simp only [go_sem, ↓reduceIte, Nat.reduceEqDiff, Nat.reduceAdd, Nat.reduceLT, List.length_cons, List.length_nil, List.getElem?_cons_zero, List.getElem?_cons_succ, Nat.mul_one, Bool.true_eq_false, Bool.false_eq_true, false_implies, true_implies, Bool.not_true, Bool.not_false, decide_true, decide_false, Int.reduceToNat, Int.cast_ofNat_Int, Int.reduceLT, Int.reduceLE, Int.reduceEq, Int.reduceNeg, eq_self]
  refine read_ st.dr 1 ?_
  intro w6 dr m
  have st := st.mod0 m
  rw [show y5.read 1 = _ from z6, show y5.may [1] = _ from zz6]
  try simp only [go_sem, ↓reduceIte, Nat.reduceEqDiff, Nat.reduceAdd, Nat.reduceLT, List.length_cons, List.length_nil, List.getElem?_cons_zero, List.getElem?_cons_succ, Nat.mul_one, Bool.true_eq_false, Bool.false_eq_true, false_implies, true_implies, Bool.not_true, Bool.not_false, decide_true, decide_false, Int.reduceToNat, Int.cast_ofNat_Int, Int.reduceLT, Int.reduceLE, Int.reduceEq, Int.reduceNeg, eq_self]
  refine down_ st.dr ?_
  rw [show y5.down = true from by decide +kernel]
  try simp only [go_sem, ↓reduceIte, Nat.reduceEqDiff, Nat.reduceAdd, Nat.reduceLT, List.length_cons, List.length_nil, List.getElem?_cons_zero, List.getElem?_cons_succ, Nat.mul_one, Bool.true_eq_false, Bool.false_eq_true, false_implies, true_implies, Bool.not_true, Bool.not_false, decide_true, decide_false, Int.reduceToNat, Int.cast_ofNat_Int, Int.reduceLT, Int.reduceLE, Int.reduceEq, Int.reduceNeg, eq_self]
  unfold h16_3
  try simp only [go_sem, ↓reduceIte, Nat.reduceEqDiff, Nat.reduceAdd, Nat.reduceLT, List.length_cons, List.length_nil, List.getElem?_cons_zero, List.getElem?_cons_succ, Nat.mul_one, Bool.true_eq_false, Bool.false_eq_true, false_implies, true_implies, Bool.not_true, Bool.not_false, decide_true, decide_false, Int.reduceToNat, Int.cast_ofNat_Int, Int.reduceLT, Int.reduceLE, Int.reduceEq, Int.reduceNeg, eq_self]
  refine start_ st.dr ?_
  intro w8 dr m _
  have st := st.trans (.of dr m)
  rw [u8] at st
  try simp only [go_sem, ↓reduceIte, Nat.reduceEqDiff, Nat.reduceAdd, Nat.reduceLT, List.length_cons, List.length_nil, List.getElem?_cons_zero, List.getElem?_cons_succ, Nat.mul_one, Bool.true_eq_false, Bool.false_eq_true, false_implies, true_implies, Bool.not_true, Bool.not_false, decide_true, decide_false, Int.reduceToNat, Int.cast_ofNat_Int, Int.reduceLT, Int.reduceLE, Int.reduceEq, Int.reduceNeg, eq_self]
  refine read_ st.dr 1 ?_
  intro w9 dr m
  have st := st.mod0 m
  rw [show y8.read 1 = _ from z9, show y8.may [1] = _ from zz9]
  try simp only [go_sem, ↓reduceIte, Nat.reduceEqDiff, Nat.reduceAdd, Nat.reduceLT, List.length_cons, List.length_nil, List.getElem?_cons_zero, List.getElem?_cons_succ, Nat.mul_one, Bool.true_eq_false, Bool.false_eq_true, false_implies, true_implies, Bool.not_true, Bool.not_false, decide_true, decide_false, Int.reduceToNat, Int.cast_ofNat_Int, Int.reduceLT, Int.reduceLE, Int.reduceEq, Int.reduceNeg, eq_self]
  refine lose_ st.dr (n := 1) (by decide) ?_
  intro w10 dr m _
  have st := st.trans (.of dr m)
  rw [u10] at st
  try simp only [go_sem, ↓reduceIte, Nat.reduceEqDiff, Nat.reduceAdd, Nat.reduceLT, List.length_cons, List.length_nil, List.getElem?_cons_zero, List.getElem?_cons_succ, Nat.mul_one, Bool.true_eq_false, Bool.false_eq_true, false_implies, true_implies, Bool.not_true, Bool.not_false, decide_true, decide_false, Int.reduceToNat, Int.cast_ofNat_Int, Int.reduceLT, Int.reduceLE, Int.reduceEq, Int.reduceNeg, eq_self]
  refine flush_ st.dr (f := 1) (by decide +kernel) ?_
  intro w11 st'
  have st := st.trans st'
  rw [u11] at st
  rw [z11]
  try simp only [go_sem, ↓reduceIte, Nat.reduceEqDiff, Nat.reduceAdd, Nat.reduceLT, List.length_cons, List.length_nil, List.getElem?_cons_zero, List.getElem?_cons_succ, Nat.mul_one, Bool.true_eq_false, Bool.false_eq_true, false_implies, true_implies, Bool.not_true, Bool.not_false, decide_true, decide_false, Int.reduceToNat, Int.cast_ofNat_Int, Int.reduceLT, Int.reduceLE, Int.reduceEq, Int.reduceNeg, eq_self]
  unfold h16_4
  try simp only [go_sem, ↓reduceIte, Nat.reduceEqDiff, Nat.reduceAdd, Nat.reduceLT, List.length_cons, List.length_nil, List.getElem?_cons_zero, List.getElem?_cons_succ, Nat.mul_one, Bool.true_eq_false, Bool.false_eq_true, false_implies, true_implies, Bool.not_true, Bool.not_false, decide_true, decide_false, Int.reduceToNat, Int.cast_ofNat_Int, Int.reduceLT, Int.reduceLE, Int.reduceEq, Int.reduceNeg, eq_self]
  refine write_ st.dr (f := 2) (a := 0) (s := [120]) (by decide) (by decide) (by decide +kernel) ?_
  intro w12 st'
  have st := st.trans st'
  rw [u12] at st
  rw [z12]
  try simp only [go_sem, ↓reduceIte, Nat.reduceEqDiff, Nat.reduceAdd, Nat.reduceLT, List.length_cons, List.length_nil, List.getElem?_cons_zero, List.getElem?_cons_succ, Nat.mul_one, Bool.true_eq_false, Bool.false_eq_true, false_implies, true_implies, Bool.not_true, Bool.not_false, decide_true, decide_false, Int.reduceToNat, Int.cast_ofNat_Int, Int.reduceLT, Int.reduceLE, Int.reduceEq, Int.reduceNeg, eq_self]
  refine turn_ st.dr (f := 1) (g := 2) (by decide +kernel) ?_
  intro w13 st'
  have st := st.trans st'
  rw [u13] at st
  rw [z13]
  try simp only [go_sem, ↓reduceIte, Nat.reduceEqDiff, Nat.reduceAdd, Nat.reduceLT, List.length_cons, List.length_nil, List.getElem?_cons_zero, List.getElem?_cons_succ, Nat.mul_one, Bool.true_eq_false, Bool.false_eq_true, false_implies, true_implies, Bool.not_true, Bool.not_false, decide_true, decide_false, Int.reduceToNat, Int.cast_ofNat_Int, Int.reduceLT, Int.reduceLE, Int.reduceEq, Int.reduceNeg, eq_self]
  refine flush_ st.dr (f := 2) (by decide +kernel) ?_
  intro w14 st'
  have st := st.trans st'
  rw [u14] at st
  rw [z14]
  try simp only [go_sem, ↓reduceIte, Nat.reduceEqDiff, Nat.reduceAdd, Nat.reduceLT, List.length_cons, List.length_nil, List.getElem?_cons_zero, List.getElem?_cons_succ, Nat.mul_one, Bool.true_eq_false, Bool.false_eq_true, false_implies, true_implies, Bool.not_true, Bool.not_false, decide_true, decide_false, Int.reduceToNat, Int.cast_ofNat_Int, Int.reduceLT, Int.reduceLE, Int.reduceEq, Int.reduceNeg, eq_self]
  refine turn_ st.dr (f := 1) (g := 2) (by decide +kernel) ?_
  intro w15 st'
  have st := st.trans st'
  rw [u15] at st
  rw [z15]
  try simp only [go_sem, ↓reduceIte, Nat.reduceEqDiff, Nat.reduceAdd, Nat.reduceLT, List.length_cons, List.length_nil, List.getElem?_cons_zero, List.getElem?_cons_succ, Nat.mul_one, Bool.true_eq_false, Bool.false_eq_true, false_implies, true_implies, Bool.not_true, Bool.not_false, decide_true, decide_false, Int.reduceToNat, Int.cast_ofNat_Int, Int.reduceLT, Int.reduceLE, Int.reduceEq, Int.reduceNeg, eq_self]
  unfold h16_5
  try simp only [go_sem, ↓reduceIte, Nat.reduceEqDiff, Nat.reduceAdd, Nat.reduceLT, List.length_cons, List.length_nil, List.getElem?_cons_zero, List.getElem?_cons_succ, Nat.mul_one, Bool.true_eq_false, Bool.false_eq_true, false_implies, true_implies, Bool.not_true, Bool.not_false, decide_true, decide_false, Int.reduceToNat, Int.cast_ofNat_Int, Int.reduceLT, Int.reduceLE, Int.reduceEq, Int.reduceNeg, eq_self]
  refine read_ st.dr 1 ?_
  intro w16 dr m
  have st := st.mod0 m
  rw [show y15.read 1 = _ from z16, show y15.may [1] = _ from zz16]
  try simp only [go_sem, ↓reduceIte, Nat.reduceEqDiff, Nat.reduceAdd, Nat.reduceLT, List.length_cons, List.length_nil, List.getElem?_cons_zero, List.getElem?_cons_succ, Nat.mul_one, Bool.true_eq_false, Bool.false_eq_true, false_implies, true_implies, Bool.not_true, Bool.not_false, decide_true, decide_false, Int.reduceToNat, Int.cast_ofNat_Int, Int.reduceLT, Int.reduceLE, Int.reduceEq, Int.reduceNeg, eq_self]
  refine write_ st.dr (f := 3) (a := 62) (s := [97, 98, 99, 100]) (by decide) (by decide) (by decide +kernel) ?_
  intro w17 st'
  have st := st.trans st'
  rw [u17] at st
  rw [z17]
  try simp only [go_sem, ↓reduceIte, Nat.reduceEqDiff, Nat.reduceAdd, Nat.reduceLT, List.length_cons, List.length_nil, List.getElem?_cons_zero, List.getElem?_cons_succ, Nat.mul_one, Bool.true_eq_false, Bool.false_eq_true, false_implies, true_implies, Bool.not_true, Bool.not_false, decide_true, decide_false, Int.reduceToNat, Int.cast_ofNat_Int, Int.reduceLT, Int.reduceLE, Int.reduceEq, Int.reduceNeg, eq_self]
  have hp := st.dr.plt
  refine bsl2 sl22 rfl rfl ?_
  intro b18 x18 hb18 own18 blk18 m18 sz18
  have st := st.mod0 m18
  try simp only [go_sem, ↓reduceIte, Nat.reduceEqDiff, Nat.reduceAdd, Nat.reduceLT, List.length_cons, List.length_nil, List.getElem?_cons_zero, List.getElem?_cons_succ, Nat.mul_one, Bool.true_eq_false, Bool.false_eq_true, false_implies, true_implies, Bool.not_true, Bool.not_false, decide_true, decide_false, Int.reduceToNat, Int.cast_ofNat_Int, Int.reduceLT, Int.reduceLE, Int.reduceEq, Int.reduceNeg, eq_self]
  refine crash_ st.dr (ks := [0, 1]) own18.sl (fun _ e => by simp [Value.ownBlock] at e; omega) (by decide +kernel) ?_
  intro w18 st'
  have st := st.trans st'
  rw [u18] at st
  try simp only [go_sem, ↓reduceIte, Nat.reduceEqDiff, Nat.reduceAdd, Nat.reduceLT, List.length_cons, List.length_nil, List.getElem?_cons_zero, List.getElem?_cons_succ, Nat.mul_one, Bool.true_eq_false, Bool.false_eq_true, false_implies, true_implies, Bool.not_true, Bool.not_false, decide_true, decide_false, Int.reduceToNat, Int.cast_ofNat_Int, Int.reduceLT, Int.reduceLE, Int.reduceEq, Int.reduceNeg, eq_self]
  unfold h16_6
  try simp only [go_sem, ↓reduceIte, Nat.reduceEqDiff, Nat.reduceAdd, Nat.reduceLT, List.length_cons, List.length_nil, List.getElem?_cons_zero, List.getElem?_cons_succ, Nat.mul_one, Bool.true_eq_false, Bool.false_eq_true, false_implies, true_implies, Bool.not_true, Bool.not_false, decide_true, decide_false, Int.reduceToNat, Int.cast_ofNat_Int, Int.reduceLT, Int.reduceLE, Int.reduceEq, Int.reduceNeg, eq_self]
  refine start_ st.dr ?_
  intro w19 dr m _
  have st := st.trans (.of dr m)
  rw [u19] at st
  try simp only [go_sem, ↓reduceIte, Nat.reduceEqDiff, Nat.reduceAdd, Nat.reduceLT, List.length_cons, List.length_nil, List.getElem?_cons_zero, List.getElem?_cons_succ, Nat.mul_one, Bool.true_eq_false, Bool.false_eq_true, false_implies, true_implies, Bool.not_true, Bool.not_false, decide_true, decide_false, Int.reduceToNat, Int.cast_ofNat_Int, Int.reduceLT, Int.reduceLE, Int.reduceEq, Int.reduceNeg, eq_self]
  refine read_ st.dr 3 ?_
  intro w20 dr m
  have st := st.mod0 m
  rw [show y19.read 3 = _ from z20, show y19.may [3] = _ from zz20]
  try simp only [go_sem, ↓reduceIte, Nat.reduceEqDiff, Nat.reduceAdd, Nat.reduceLT, List.length_cons, List.length_nil, List.getElem?_cons_zero, List.getElem?_cons_succ, Nat.mul_one, Bool.true_eq_false, Bool.false_eq_true, false_implies, true_implies, Bool.not_true, Bool.not_false, decide_true, decide_false, Int.reduceToNat, Int.cast_ofNat_Int, Int.reduceLT, Int.reduceLE, Int.reduceEq, Int.reduceNeg, eq_self]
  try simp only [List.length_append, List.length_replicate, List.drop_left', Nat.reduceAdd, List.length_cons, List.length_nil]
  refine ⟨fun _ => by omega, fun _ => by omega, fun _ => by omega, fun h => absurd h (by decide +kernel), fun _ => ?_⟩
  unfold h16_7
  try simp only [go_sem, ↓reduceIte, Nat.reduceEqDiff, Nat.reduceAdd, Nat.reduceLT, List.length_cons, List.length_nil, List.getElem?_cons_zero, List.getElem?_cons_succ, Nat.mul_one, Bool.true_eq_false, Bool.false_eq_true, false_implies, true_implies, Bool.not_true, Bool.not_false, decide_true, decide_false, Int.reduceToNat, Int.cast_ofNat_Int, Int.reduceLT, Int.reduceLE, Int.reduceEq, Int.reduceNeg, eq_self]
  try simp only [decide_true, ↓reduceIte, Bool.true_eq_false, false_implies, true_implies, and_true, true_and]
  refine size_ st.dr 2 ?_
  rw [show y19.size 2 = 0 from by decide +kernel]
  unfold l16_11
  try simp only [go_sem, ↓reduceIte, Nat.reduceEqDiff, Nat.reduceAdd, Nat.reduceLT, List.length_cons, List.length_nil, List.getElem?_cons_zero, List.getElem?_cons_succ, Nat.mul_one, Bool.true_eq_false, Bool.false_eq_true, false_implies, true_implies, Bool.not_true, Bool.not_false, decide_true, decide_false, Int.reduceToNat, Int.cast_ofNat_Int, Int.reduceLT, Int.reduceLE, Int.reduceEq, Int.reduceNeg, eq_self]
  try simp only [decide_true, ↓reduceIte, Bool.true_eq_false, false_implies, true_implies, and_true, true_and, Int.cast_ofNat_Int, Int.natCast_zero]
  refine write_ st.dr (f := 12) (a := 0) (s := []) (by decide) (by decide) (by decide +kernel) ?_
  intro w21 st'
  have st := st.trans st'
  rw [show y19.write 12 0 [] = y19 from rfl] at st
  rw [show y19.writeR 12 0 [] = 1 from by decide +kernel]
  unfold l16_10
  try simp only [go_sem, ↓reduceIte, Nat.reduceEqDiff, Nat.reduceAdd, Nat.reduceLT, List.length_cons, List.length_nil, List.getElem?_cons_zero, List.getElem?_cons_succ, Nat.mul_one, Bool.true_eq_false, Bool.false_eq_true, false_implies, true_implies, Bool.not_true, Bool.not_false, decide_true, decide_false, Int.reduceToNat, Int.cast_ofNat_Int, Int.reduceLT, Int.reduceLE, Int.reduceEq, Int.reduceNeg, eq_self]
  try simp only [decide_true, ↓reduceIte, Bool.true_eq_false, false_implies, true_implies, and_true, true_and, Int.cast_ofNat_Int, Int.natCast_zero]
  refine write_ st.dr (f := 0) (a := -1) (s := []) (by decide) (by decide) (by decide +kernel) ?_
  intro w22 st'
  have st := st.trans st'
  rw [show y19.write 0 (-1) [] = y19 from rfl] at st
  rw [show y19.writeR 0 (-1) [] = 1 from by decide +kernel]
  unfold l16_9
  try simp only [go_sem, ↓reduceIte, Nat.reduceEqDiff, Nat.reduceAdd, Nat.reduceLT, List.length_cons, List.length_nil, List.getElem?_cons_zero, List.getElem?_cons_succ, Nat.mul_one, Bool.true_eq_false, Bool.false_eq_true, false_implies, true_implies, Bool.not_true, Bool.not_false, decide_true, decide_false, Int.reduceToNat, Int.cast_ofNat_Int, Int.reduceLT, Int.reduceLE, Int.reduceEq, Int.reduceNeg, eq_self]
  try simp only [decide_true, ↓reduceIte, Bool.true_eq_false, false_implies, true_implies, and_true, true_and, Int.cast_ofNat_Int, Int.natCast_zero]
  refine cut_ st.dr (f := 1) (n := 2) (by decide +kernel) ?_
  intro w23 st'
  have st := st.trans st'
  rw [show y19.cutR 1 2 = 1 from by decide +kernel]
  unfold l16_8
  try simp only [go_sem, ↓reduceIte, Nat.reduceEqDiff, Nat.reduceAdd, Nat.reduceLT, List.length_cons, List.length_nil, List.getElem?_cons_zero, List.getElem?_cons_succ, Nat.mul_one, Bool.true_eq_false, Bool.false_eq_true, false_implies, true_implies, Bool.not_true, Bool.not_false, decide_true, decide_false, Int.reduceToNat, Int.cast_ofNat_Int, Int.reduceLT, Int.reduceLE, Int.reduceEq, Int.reduceNeg, eq_self]
  try simp only [decide_true, ↓reduceIte, Bool.true_eq_false, false_implies, true_implies, and_true, true_and, Int.cast_ofNat_Int, Int.natCast_zero]
  exact k _ st.mod
end
end Go.Proofs.Y
