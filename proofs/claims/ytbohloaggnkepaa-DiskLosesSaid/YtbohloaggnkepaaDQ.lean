/- DQ: the walk of DiskLoses. -/
import Derived.Test.YtbohloaggnkepaaDO
import Derived.Test.YtbohloaggnkepaaDP
set_option linter.unusedSimpArgs false
set_option linter.unusedVariables false
namespace Go.Proofs.Y
open Go Go.HL Go.Proofs
section
variable {w : World} {next : Value → World → Prop} {QP : List PanicEntry → World → Prop}

theorem sl_nil : Sl w (.slice none 0 0) 1 0 (ints []) := (Own.nil w 3 1).sl
theorem loses_queue {s : Bytes} {m : Nat} : (Loses.L s m).queue.length ≤ s.length := pieces_len 0 s.length 0 s

theorem loses_ {s : Bytes} {n : Int} (hn64 : n ≤ 9223372036854775807) (k : ∀ w', Mod none' w w' → next (.bool true) w') :
    callK Try.prog 7 [str s, .int .i64 n] w next QP := by
  refine q7 rfl ?_
  unfold h7
  try simp only [go_sem, ↓reduceIte, Nat.reduceEqDiff, Nat.reduceAdd, Nat.reduceLT, List.length_cons, List.length_nil, List.getElem?_cons_zero, List.getElem?_cons_succ, Nat.mul_one, Bool.true_eq_false, Bool.false_eq_true, false_implies, true_implies, Bool.not_true, Bool.not_false, decide_true, decide_false, Int.reduceToNat, Int.cast_ofNat_Int, Int.reduceLT, Int.reduceLE, Int.reduceEq, Int.reduceNeg, eq_self, Option.isNone_some, Option.isNone_none, Bool.bne_false, Bool.bne_true]
  refine small_ ?_
  intro w1 m1
  try simp only [go_sem, ↓reduceIte, Nat.reduceEqDiff, Nat.reduceAdd, Nat.reduceLT, List.length_cons, List.length_nil, List.getElem?_cons_zero, List.getElem?_cons_succ, Nat.mul_one, Bool.true_eq_false, Bool.false_eq_true, false_implies, true_implies, Bool.not_true, Bool.not_false, decide_true, decide_false, Int.reduceToNat, Int.cast_ofNat_Int, Int.reduceLT, Int.reduceLE, Int.reduceEq, Int.reduceNeg, eq_self, Option.isNone_some, Option.isNone_none, Bool.bne_false, Bool.bne_true]
  refine new_ ?_
  intro p w2 hp st0
  have st : St FP0 w w2 p Dk.new := st0.after m1
  try simp only [go_sem, ↓reduceIte, Nat.reduceEqDiff, Nat.reduceAdd, Nat.reduceLT, List.length_cons, List.length_nil, List.getElem?_cons_zero, List.getElem?_cons_succ, Nat.mul_one, Bool.true_eq_false, Bool.false_eq_true, false_implies, true_implies, Bool.not_true, Bool.not_false, decide_true, decide_false, Int.reduceToNat, Int.cast_ofNat_Int, Int.reduceLT, Int.reduceLE, Int.reduceEq, Int.reduceNeg, eq_self, Option.isNone_some, Option.isNone_none, Bool.bne_false, Bool.bne_true]
  refine ⟨fun hbig => k _ st.mod, fun hsmall => ?_⟩
  have hs : s.length ≤ 50000 ∧ n ≤ 20 := by simp at hsmall; omega
  unfold h7_1
  try simp only [go_sem, ↓reduceIte, Nat.reduceEqDiff, Nat.reduceAdd, Nat.reduceLT, List.length_cons, List.length_nil, List.getElem?_cons_zero, List.getElem?_cons_succ, Nat.mul_one, Bool.true_eq_false, Bool.false_eq_true, false_implies, true_implies, Bool.not_true, Bool.not_false, decide_true, decide_false, Int.reduceToNat, Int.cast_ofNat_Int, Int.reduceLT, Int.reduceLE, Int.reduceEq, Int.reduceNeg, eq_self, Option.isNone_some, Option.isNone_none, Bool.bne_false, Bool.bne_true]
  refine lose_ st.dr hn64 ?_
  intro w3 dr m _
  have st := st.trans (.of dr m)
  clear dr m
  try simp only [go_sem, ↓reduceIte, Nat.reduceEqDiff, Nat.reduceAdd, Nat.reduceLT, List.length_cons, List.length_nil, List.getElem?_cons_zero, List.getElem?_cons_succ, Nat.mul_one, Bool.true_eq_false, Bool.false_eq_true, false_implies, true_implies, Bool.not_true, Bool.not_false, decide_true, decide_false, Int.reduceToNat, Int.cast_ofNat_Int, Int.reduceLT, Int.reduceLE, Int.reduceEq, Int.reduceNeg, eq_self, Option.isNone_some, Option.isNone_none, Bool.bne_false, Bool.bne_true]
  refine write_ st.dr (f := 0) (a := 0) (s := s) (by omega) (by omega) (by show 0 + _ ≤ _; omega) ?_
  intro w4 st'
  have st := st.trans st'
  clear st'
  rw [Loses.wE hs.1]
  rw [Loses.w hs.1] at st
  try simp only [go_sem, ↓reduceIte, Nat.reduceEqDiff, Nat.reduceAdd, Nat.reduceLT, List.length_cons, List.length_nil, List.getElem?_cons_zero, List.getElem?_cons_succ, Nat.mul_one, Bool.true_eq_false, Bool.false_eq_true, false_implies, true_implies, Bool.not_true, Bool.not_false, decide_true, decide_false, Int.reduceToNat, Int.cast_ofNat_Int, Int.reduceLT, Int.reduceLE, Int.reduceEq, Int.reduceNeg, eq_self, Option.isNone_some, Option.isNone_none, Bool.bne_false, Bool.bne_true]
  unfold h7_2
  try simp only [go_sem, ↓reduceIte, Nat.reduceEqDiff, Nat.reduceAdd, Nat.reduceLT, List.length_cons, List.length_nil, List.getElem?_cons_zero, List.getElem?_cons_succ, Nat.mul_one, Bool.true_eq_false, Bool.false_eq_true, false_implies, true_implies, Bool.not_true, Bool.not_false, decide_true, decide_false, Int.reduceToNat, Int.cast_ofNat_Int, Int.reduceLT, Int.reduceLE, Int.reduceEq, Int.reduceNeg, eq_self, Option.isNone_some, Option.isNone_none, Bool.bne_false, Bool.bne_true]
  refine loopN n.toNat (fun i τ w' => τ 0 = str s ∧ τ 1 = .int .i64 n ∧ τ 5 = .bool true ∧ τ 6 = ptr p ∧ τ 7 = .int .i64 i ∧ St FP0 w w' p (Loses.L s (n.toNat - i))) ⟨0, by omega, rfl, rfl, rfl, rfl, rfl, st⟩ ?_
  rintro i τ w5 hi ⟨t0, t1, t5, t6, t7, st⟩
  have hq := loses_queue (s := s) (m := n.toNat - i)
  unfold h7_3
  try simp only [go_sem, ↓reduceIte, Nat.reduceEqDiff, Nat.reduceAdd, Nat.reduceLT, List.length_cons, List.length_nil, List.getElem?_cons_zero, List.getElem?_cons_succ, Nat.mul_one, Bool.true_eq_false, Bool.false_eq_true, false_implies, true_implies, Bool.not_true, Bool.not_false, decide_true, decide_false, Int.reduceToNat, Int.cast_ofNat_Int, Int.reduceLT, Int.reduceLE, Int.reduceEq, Int.reduceNeg, eq_self, Option.isNone_some, Option.isNone_none, Bool.bne_false, Bool.bne_true, t0, t1, t5, t6, t7]
  refine ⟨fun hlt => ?_, fun hge => ?_⟩
  · have hlt : (i : Int) < n := by simpa using hlt
    obtain ⟨r, hr⟩ : ∃ r, n.toNat - i = r + 1 := ⟨n.toNat - i - 1, by omega⟩
    rw [hr] at st hq
    unfold h7_4
    try simp only [go_sem, ↓reduceIte, Nat.reduceEqDiff, Nat.reduceAdd, Nat.reduceLT, List.length_cons, List.length_nil, List.getElem?_cons_zero, List.getElem?_cons_succ, Nat.mul_one, Bool.true_eq_false, Bool.false_eq_true, false_implies, true_implies, Bool.not_true, Bool.not_false, decide_true, decide_false, Int.reduceToNat, Int.cast_ofNat_Int, Int.reduceLT, Int.reduceLE, Int.reduceEq, Int.reduceNeg, eq_self, Option.isNone_some, Option.isNone_none, Bool.bne_false, Bool.bne_true, t0, t1, t5, t6, t7]
    refine copyd_ st.dr (by omega) ?_
    intro p' w6 stc
    have dr6 : DR w6 p (Loses.L s (r + 1)) st.foot := st.dr.mod0 stc.mod
    try simp only [go_sem, ↓reduceIte, Nat.reduceEqDiff, Nat.reduceAdd, Nat.reduceLT, List.length_cons, List.length_nil, List.getElem?_cons_zero, List.getElem?_cons_succ, Nat.mul_one, Bool.true_eq_false, Bool.false_eq_true, false_implies, true_implies, Bool.not_true, Bool.not_false, decide_true, decide_false, Int.reduceToNat, Int.cast_ofNat_Int, Int.reduceLT, Int.reduceLE, Int.reduceEq, Int.reduceNeg, eq_self, Option.isNone_some, Option.isNone_none, Bool.bne_false, Bool.bne_true, t0, t1, t5, t6, t7]
    refine flush_ dr6 (f := 0) (by omega) ?_
    intro w7 stf
    rw [Loses.fR]
    rw [Loses.f] at stf
    try simp only [go_sem, ↓reduceIte, Nat.reduceEqDiff, Nat.reduceAdd, Nat.reduceLT, List.length_cons, List.length_nil, List.getElem?_cons_zero, List.getElem?_cons_succ, Nat.mul_one, Bool.true_eq_false, Bool.false_eq_true, false_implies, true_implies, Bool.not_true, Bool.not_false, decide_true, decide_false, Int.reduceToNat, Int.cast_ofNat_Int, Int.reduceLT, Int.reduceLE, Int.reduceEq, Int.reduceNeg, eq_self, Option.isNone_some, Option.isNone_none, Bool.bne_false, Bool.bne_true, t0, t1, t5, t6, t7]
    -- the copy, behind the flush of the first
    have drc7 : DR w7 p' (Loses.L s (r + 1)) stc.foot := stc.dr.mod stf.mod fun k hk hW => by
      rcases stc.footR k hk with h | h
      · exact h.2 hW
      · have := st.dr.lt k (st.dr.sub k hW); omega
    unfold h7_5
    try simp only [go_sem, ↓reduceIte, Nat.reduceEqDiff, Nat.reduceAdd, Nat.reduceLT, List.length_cons, List.length_nil, List.getElem?_cons_zero, List.getElem?_cons_succ, Nat.mul_one, Bool.true_eq_false, Bool.false_eq_true, false_implies, true_implies, Bool.not_true, Bool.not_false, decide_true, decide_false, Int.reduceToNat, Int.cast_ofNat_Int, Int.reduceLT, Int.reduceLE, Int.reduceEq, Int.reduceNeg, eq_self, Option.isNone_some, Option.isNone_none, Bool.bne_false, Bool.bne_true, t0, t1, t5, t6, t7]
    refine flush_ drc7 (f := 0) (by omega) ?_
    intro w8 st8
    rw [Loses.f] at st8
    try simp only [go_sem, ↓reduceIte, Nat.reduceEqDiff, Nat.reduceAdd, Nat.reduceLT, List.length_cons, List.length_nil, List.getElem?_cons_zero, List.getElem?_cons_succ, Nat.mul_one, Bool.true_eq_false, Bool.false_eq_true, false_implies, true_implies, Bool.not_true, Bool.not_false, decide_true, decide_false, Int.reduceToNat, Int.cast_ofNat_Int, Int.reduceLT, Int.reduceLE, Int.reduceEq, Int.reduceNeg, eq_self, Option.isNone_some, Option.isNone_none, Bool.bne_false, Bool.bne_true, t0, t1, t5, t6, t7]
    refine crash_ st8.dr sl_nil (fun h => by omega) (by have := loses_queue (s := s) (m := r); omega) ?_
    intro w9 st'
    have st8 := st8.trans st'
    clear st'
    try simp only [go_sem, ↓reduceIte, Nat.reduceEqDiff, Nat.reduceAdd, Nat.reduceLT, List.length_cons, List.length_nil, List.getElem?_cons_zero, List.getElem?_cons_succ, Nat.mul_one, Bool.true_eq_false, Bool.false_eq_true, false_implies, true_implies, Bool.not_true, Bool.not_false, decide_true, decide_false, Int.reduceToNat, Int.cast_ofNat_Int, Int.reduceLT, Int.reduceLE, Int.reduceEq, Int.reduceNeg, eq_self, Option.isNone_some, Option.isNone_none, Bool.bne_false, Bool.bne_true, t0, t1, t5, t6, t7]
    refine start_ st8.dr ?_
    intro w10 dr m _
    have st8 := st8.trans (.of dr m)
    clear dr m
    try simp only [go_sem, ↓reduceIte, Nat.reduceEqDiff, Nat.reduceAdd, Nat.reduceLT, List.length_cons, List.length_nil, List.getElem?_cons_zero, List.getElem?_cons_succ, Nat.mul_one, Bool.true_eq_false, Bool.false_eq_true, false_implies, true_implies, Bool.not_true, Bool.not_false, decide_true, decide_false, Int.reduceToNat, Int.cast_ofNat_Int, Int.reduceLT, Int.reduceLE, Int.reduceEq, Int.reduceNeg, eq_self, Option.isNone_some, Option.isNone_none, Bool.bne_false, Bool.bne_true, t0, t1, t5, t6, t7]
    refine read_ st8.dr 0 ?_
    intro w11 dr m
    have st8 := st8.mod0 m
    clear dr m
    rw [Loses.lost.1, Loses.lost.2]
    try simp only [go_sem, ↓reduceIte, Nat.reduceEqDiff, Nat.reduceAdd, Nat.reduceLT, List.length_cons, List.length_nil, List.getElem?_cons_zero, List.getElem?_cons_succ, Nat.mul_one, Bool.true_eq_false, Bool.false_eq_true, false_implies, true_implies, Bool.not_true, Bool.not_false, decide_true, decide_false, Int.reduceToNat, Int.cast_ofNat_Int, Int.reduceLT, Int.reduceLE, Int.reduceEq, Int.reduceNeg, eq_self, Option.isNone_some, Option.isNone_none, Bool.bne_false, Bool.bne_true, t0, t1, t5, t6, t7]
    unfold h7_6
    try simp only [go_sem, ↓reduceIte, Nat.reduceEqDiff, Nat.reduceAdd, Nat.reduceLT, List.length_cons, List.length_nil, List.getElem?_cons_zero, List.getElem?_cons_succ, Nat.mul_one, Bool.true_eq_false, Bool.false_eq_true, false_implies, true_implies, Bool.not_true, Bool.not_false, decide_true, decide_false, Int.reduceToNat, Int.cast_ofNat_Int, Int.reduceLT, Int.reduceLE, Int.reduceEq, Int.reduceNeg, eq_self, Option.isNone_some, Option.isNone_none, Bool.bne_false, Bool.bne_true, t0, t1, t5, t6, t7]
    unfold h7_7
    try simp only [go_sem, ↓reduceIte, Nat.reduceEqDiff, Nat.reduceAdd, Nat.reduceLT, List.length_cons, List.length_nil, List.getElem?_cons_zero, List.getElem?_cons_succ, Nat.mul_one, Bool.true_eq_false, Bool.false_eq_true, false_implies, true_implies, Bool.not_true, Bool.not_false, decide_true, decide_false, Int.reduceToNat, Int.cast_ofNat_Int, Int.reduceLT, Int.reduceLE, Int.reduceEq, Int.reduceNeg, eq_self, Option.isNone_some, Option.isNone_none, Bool.bne_false, Bool.bne_true, t0, t1, t5, t6, t7]
    rw [w64 (by omega) (by omega)]
    have stm := st.trans (St.join stc.mod stf st8.mod (fun k hk hW => by
      rcases stc.footW k hW with h | h
      · exact h
      · rcases stf.footR k hk with h' | h'
        · have := st.dr.lt k h'; omega
        · have := stc.dr.lt k (stc.dr.sub k hW); omega) fun k hk hW => by
      rcases stc.footW k hW with h | h
      · exact h.elim
      · omega)
    refine ⟨i + 1, by omega, by omega, rfl, ?_⟩
    have hr' : n.toNat - (i + 1) = r := by omega
    rw [hr']
    exact stm
  · have hge : n ≤ i := by simpa using hge
    have hr : n.toNat - i = 0 := by omega
    rw [hr] at st hq
    unfold h7_8
    try simp only [go_sem, ↓reduceIte, Nat.reduceEqDiff, Nat.reduceAdd, Nat.reduceLT, List.length_cons, List.length_nil, List.getElem?_cons_zero, List.getElem?_cons_succ, Nat.mul_one, Bool.true_eq_false, Bool.false_eq_true, false_implies, true_implies, Bool.not_true, Bool.not_false, decide_true, decide_false, Int.reduceToNat, Int.cast_ofNat_Int, Int.reduceLT, Int.reduceLE, Int.reduceEq, Int.reduceNeg, eq_self, Option.isNone_some, Option.isNone_none, Bool.bne_false, Bool.bne_true, t0, t1, t5, t6, t7]
    refine flush_ st.dr (f := 0) (by omega) ?_
    intro w6 st'
    have st := st.trans st'
    clear st'
    rw [Loses.f0R]
    rw [Loses.f0] at st
    try simp only [go_sem, ↓reduceIte, Nat.reduceEqDiff, Nat.reduceAdd, Nat.reduceLT, List.length_cons, List.length_nil, List.getElem?_cons_zero, List.getElem?_cons_succ, Nat.mul_one, Bool.true_eq_false, Bool.false_eq_true, false_implies, true_implies, Bool.not_true, Bool.not_false, decide_true, decide_false, Int.reduceToNat, Int.cast_ofNat_Int, Int.reduceLT, Int.reduceLE, Int.reduceEq, Int.reduceNeg, eq_self, Option.isNone_some, Option.isNone_none, Bool.bne_false, Bool.bne_true, t0, t1, t5, t6, t7]
    refine crash_ st.dr sl_nil (fun h => by omega) (by show (0 : Nat) ≤ _; omega) ?_
    intro w7 st'
    have st := st.trans st'
    clear st'
    try simp only [go_sem, ↓reduceIte, Nat.reduceEqDiff, Nat.reduceAdd, Nat.reduceLT, List.length_cons, List.length_nil, List.getElem?_cons_zero, List.getElem?_cons_succ, Nat.mul_one, Bool.true_eq_false, Bool.false_eq_true, false_implies, true_implies, Bool.not_true, Bool.not_false, decide_true, decide_false, Int.reduceToNat, Int.cast_ofNat_Int, Int.reduceLT, Int.reduceLE, Int.reduceEq, Int.reduceNeg, eq_self, Option.isNone_some, Option.isNone_none, Bool.bne_false, Bool.bne_true, t0, t1, t5, t6, t7]
    refine start_ st.dr ?_
    intro w8 dr m _
    have st := st.trans (.of dr m)
    clear dr m
    try simp only [go_sem, ↓reduceIte, Nat.reduceEqDiff, Nat.reduceAdd, Nat.reduceLT, List.length_cons, List.length_nil, List.getElem?_cons_zero, List.getElem?_cons_succ, Nat.mul_one, Bool.true_eq_false, Bool.false_eq_true, false_implies, true_implies, Bool.not_true, Bool.not_false, decide_true, decide_false, Int.reduceToNat, Int.cast_ofNat_Int, Int.reduceLT, Int.reduceLE, Int.reduceEq, Int.reduceNeg, eq_self, Option.isNone_some, Option.isNone_none, Bool.bne_false, Bool.bne_true, t0, t1, t5, t6, t7]
    refine read_ st.dr 0 ?_
    intro w9 dr m
    have st := st.mod0 m
    clear dr m
    rw [Loses.kept.1, Loses.kept.2]
    try simp only [go_sem, ↓reduceIte, Nat.reduceEqDiff, Nat.reduceAdd, Nat.reduceLT, List.length_cons, List.length_nil, List.getElem?_cons_zero, List.getElem?_cons_succ, Nat.mul_one, Bool.true_eq_false, Bool.false_eq_true, false_implies, true_implies, Bool.not_true, Bool.not_false, decide_true, decide_false, Int.reduceToNat, Int.cast_ofNat_Int, Int.reduceLT, Int.reduceLE, Int.reduceEq, Int.reduceNeg, eq_self, Option.isNone_some, Option.isNone_none, Bool.bne_false, Bool.bne_true, t0, t1, t5, t6, t7]
    unfold h7_9
    try simp only [go_sem, ↓reduceIte, Nat.reduceEqDiff, Nat.reduceAdd, Nat.reduceLT, List.length_cons, List.length_nil, List.getElem?_cons_zero, List.getElem?_cons_succ, Nat.mul_one, Bool.true_eq_false, Bool.false_eq_true, false_implies, true_implies, Bool.not_true, Bool.not_false, decide_true, decide_false, Int.reduceToNat, Int.cast_ofNat_Int, Int.reduceLT, Int.reduceLE, Int.reduceEq, Int.reduceNeg, eq_self, Option.isNone_some, Option.isNone_none, Bool.bne_false, Bool.bne_true, t0, t1, t5, t6, t7]
    exact k _ st.mod
end
end Go.Proofs.Y
