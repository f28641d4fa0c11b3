/- DN: the walk of DiskReorders. -/
import Derived.Test.YtbohloaggnkepaaDJ
import Derived.Test.YtbohloaggnkepaaDM
set_option linter.unusedSimpArgs false
set_option linter.unusedVariables false
namespace Go.Proofs.Y
open Go Go.HL Go.Proofs
section
variable {w : World} {next : Value → World → Prop} {QP : List PanicEntry → World → Prop}

theorem part_ (s : Bytes) (a : Int) (hs : s.length ≤ 1000000) (k : next (str (Reo.part s a)) w) : callvK Try.prog (.func (.func 19) #[] #[]) [str s, .int .i64 a] w next QP := by
  refine r19 rfl ?_
  unfold h19
  try simp only [go_sem, ↓reduceIte, Nat.reduceEqDiff, Nat.reduceAdd, Nat.reduceLT, List.length_cons, List.length_nil, List.getElem?_cons_zero, List.getElem?_cons_succ, Nat.mul_one, Bool.true_eq_false, Bool.false_eq_true, false_implies, true_implies, Bool.not_true, Bool.not_false, decide_true, decide_false, Int.reduceToNat, Int.cast_ofNat_Int, Int.reduceLT, Int.reduceLE, Int.reduceEq, Int.reduceNeg, eq_self]
  refine ⟨fun h1 => ?_, fun h1 => ?_⟩
  · have h1 : a = 1 := by simpa using h1
    simpa [Reo.part, h1] using k
  · have h1 : a ≠ 1 := by simpa using h1
    unfold h19_1
    try simp only [go_sem, ↓reduceIte, Nat.reduceEqDiff, Nat.reduceAdd, Nat.reduceLT, List.length_cons, List.length_nil, List.getElem?_cons_zero, List.getElem?_cons_succ, Nat.mul_one, Bool.true_eq_false, Bool.false_eq_true, false_implies, true_implies, Bool.not_true, Bool.not_false, decide_true, decide_false, Int.reduceToNat, Int.cast_ofNat_Int, Int.reduceLT, Int.reduceLE, Int.reduceEq, Int.reduceNeg, eq_self]
    refine ⟨fun h2 => ?_, fun h2 => ?_⟩
    · have h2 : a = 2 := by simpa using h2
      have e : (if (s.length : Int) < 24 then (s.length : Int) else 24).toNat = min 24 s.length := by split <;> omega
      refine ⟨⟨by split <;> omega, by split <;> omega⟩, ?_⟩
      rw [e]
      have : Reo.part s a = s.take (min 24 s.length) := by simp [Reo.part, h2]
      rw [this] at k; exact k
    · have h2 : a ≠ 2 := by simpa using h2
      unfold h19_2
      try simp only [go_sem, ↓reduceIte, Nat.reduceEqDiff, Nat.reduceAdd, Nat.reduceLT, List.length_cons, List.length_nil, List.getElem?_cons_zero, List.getElem?_cons_succ, Nat.mul_one, Bool.true_eq_false, Bool.false_eq_true, false_implies, true_implies, Bool.not_true, Bool.not_false, decide_true, decide_false, Int.reduceToNat, Int.cast_ofNat_Int, Int.reduceLT, Int.reduceLE, Int.reduceEq, Int.reduceNeg, eq_self]
      have : Reo.part s a = [] := by simp [Reo.part, h1, h2]
      rw [this] at k; exact k

theorem zeros_ {n : Nat} (hn : n ≤ 1000000) {v : Value} (hv : ∃ b, v = .slice (some ⟨b, 0, none⟩) n n ∧ Own w v 5 1 n (List.replicate n (.int .u8 0))) (k : next (str (List.replicate n 0)) w) : convK Try.prog 36 9 v w next QP := by
  obtain ⟨b, rfl, ho⟩ := hv
  refine b2s (e := 5) (by kernel_rfl) (by kernel_rfl) (by kernel_rfl) (n := n) (l := List.replicate n 0) ?_ k
  rw [bys_rep]; exact ho.sl

theorem reo_tail {a b c x y z : Bytes} {b15 o15 vc : Nat} {k0 k1 k2 : Int} {p : Nat} {D : Dk} {τ : Env} {w11 : World} (hla : a.length ≤ 64) (hlb : b.length ≤ 64) (hlc : c.length ≤ 64) (hx64 : x.length ≤ 64)
    (e0 : w.cell? ⟨b15, o15, none⟩ = some (.int .i64 k0)) (e1 : w.cell? ⟨b15, o15 + 1, none⟩ = some (.int .i64 k1)) (e2 : w.cell? ⟨b15, o15 + 2, none⟩ = some (.int .i64 k2))
    (t0 : τ 0 = str a) (t1 : τ 1 = str b) (t2 : τ 2 = str c) (t3 : τ 3 = .slice (some ⟨b15, o15, none⟩) 3 vc) (t9 : τ 9 = .bool true) (t10 : τ 10 = ptr p)
    (hx : x = Reo.part a k0) (hy : y = Reo.part c k1) (hz : z = Reo.part b k2) (st : St FP0 w w11 p D)
    (hr5 : D.start.read 5 = if z = [] then x else x ++ List.replicate (64 - x.length) 0 ++ z) (hr6 : D.start.read 6 = if y = [] then [] else List.replicate 128 0 ++ y)
    (k : ∀ w', Mod none' w w' → next (.bool true) w') : hw Try.prog noPanic h4_3 (endV [.tmp 8] next) τ w11 := by
  unfold h4_3
  try simp only [go_sem, ↓reduceIte, Nat.reduceEqDiff, Nat.reduceAdd, Nat.reduceLT, List.length_cons, List.length_nil, List.getElem?_cons_zero, List.getElem?_cons_succ, Nat.mul_one, Bool.true_eq_false, Bool.false_eq_true, false_implies, true_implies, Bool.not_true, Bool.not_false, decide_true, decide_false, Int.reduceToNat, Int.cast_ofNat_Int, Int.reduceLT, Int.reduceLE, Int.reduceEq, Int.reduceNeg, eq_self, t0, t1, t2, t3, t9, t10]
  refine start_ st.dr ?_
  intro w12 dr m _
  have st := st.trans (.of dr m)
  clear dr m
  try simp only [go_sem, ↓reduceIte, Nat.reduceEqDiff, Nat.reduceAdd, Nat.reduceLT, List.length_cons, List.length_nil, List.getElem?_cons_zero, List.getElem?_cons_succ, Nat.mul_one, Bool.true_eq_false, Bool.false_eq_true, false_implies, true_implies, Bool.not_true, Bool.not_false, decide_true, decide_false, Int.reduceToNat, Int.cast_ofNat_Int, Int.reduceLT, Int.reduceLE, Int.reduceEq, Int.reduceNeg, eq_self, t0, t1, t2, t3, t9, t10]
  refine read_ st.dr 5 ?_
  intro w13 dr m
  have st := st.mod0 m
  clear dr m
  try simp only [go_sem, ↓reduceIte, Nat.reduceEqDiff, Nat.reduceAdd, Nat.reduceLT, List.length_cons, List.length_nil, List.getElem?_cons_zero, List.getElem?_cons_succ, Nat.mul_one, Bool.true_eq_false, Bool.false_eq_true, false_implies, true_implies, Bool.not_true, Bool.not_false, decide_true, decide_false, Int.reduceToNat, Int.cast_ofNat_Int, Int.reduceLT, Int.reduceLE, Int.reduceEq, Int.reduceNeg, eq_self, t0, t1, t2, t3, t9, t10]
  refine read_ st.dr 6 ?_
  intro w14 dr m
  have st := st.mod0 m
  clear dr m
  rw [hr5, hr6]
  have x0 : w14.cell? ⟨b15, o15, none⟩ = some (.int .i64 k0) := st.mod.cell e0 fun h => h
  have x1 : w14.cell? ⟨b15, o15 + 1, none⟩ = some (.int .i64 k1) := st.mod.cell e1 fun h => h
  have x2 : w14.cell? ⟨b15, o15 + 2, none⟩ = some (.int .i64 k2) := st.mod.cell e2 fun h => h
  try simp only [go_sem, ↓reduceIte, Nat.reduceEqDiff, Nat.reduceAdd, Nat.reduceLT, List.length_cons, List.length_nil, List.getElem?_cons_zero, List.getElem?_cons_succ, Nat.mul_one, Bool.true_eq_false, Bool.false_eq_true, false_implies, true_implies, Bool.not_true, Bool.not_false, decide_true, decide_false, Int.reduceToNat, Int.cast_ofNat_Int, Int.reduceLT, Int.reduceLE, Int.reduceEq, Int.reduceNeg, eq_self, t0, t1, t2, t3, t9, t10, x0, x1, x2]
  refine part_ _ _ (by omega) ?_
  try simp only [go_sem, ↓reduceIte, Nat.reduceEqDiff, Nat.reduceAdd, Nat.reduceLT, List.length_cons, List.length_nil, List.getElem?_cons_zero, List.getElem?_cons_succ, Nat.mul_one, Bool.true_eq_false, Bool.false_eq_true, false_implies, true_implies, Bool.not_true, Bool.not_false, decide_true, decide_false, Int.reduceToNat, Int.cast_ofNat_Int, Int.reduceLT, Int.reduceLE, Int.reduceEq, Int.reduceNeg, eq_self, t0, t1, t2, t3, t9, t10, x0, x1, x2]
  rw [← hx]
  generalize hσ : (upd (upd _ _ _) 15 (str x)) = σ
  have s0 : σ 0 = str a := by rw [← hσ]; exact t0
  have s1 : σ 1 = str b := by rw [← hσ]; exact t1
  have s2 : σ 2 = str c := by rw [← hσ]; exact t2
  have s3 : σ 3 = .slice (some ⟨b15, o15, none⟩) 3 vc := by rw [← hσ]; exact t3
  have s9 : σ 9 = .bool true := by rw [← hσ]; exact t9
  have s11 : σ 11 = str (if z = [] then x else x ++ List.replicate (64 - x.length) 0 ++ z) := by rw [← hσ]; rfl
  have s13 : σ 13 = str (if y = [] then [] else List.replicate 128 0 ++ y) := by rw [← hσ]; rfl
  have s15 : σ 15 = str x := by rw [← hσ]; rfl
  clear hσ
  unfold h4_4
  try simp only [go_sem, ↓reduceIte, Nat.reduceEqDiff, Nat.reduceAdd, Nat.reduceLT, List.length_cons, List.length_nil, List.getElem?_cons_zero, List.getElem?_cons_succ, Nat.mul_one, Bool.true_eq_false, Bool.false_eq_true, false_implies, true_implies, Bool.not_true, Bool.not_false, decide_true, decide_false, Int.reduceToNat, Int.cast_ofNat_Int, Int.reduceLT, Int.reduceLE, Int.reduceEq, Int.reduceNeg, eq_self, s0, s1, s2, s3, s9, s11, s13, s15, x0, x1, x2]
  refine part_ _ _ (by omega) ?_
  try simp only [go_sem, ↓reduceIte, Nat.reduceEqDiff, Nat.reduceAdd, Nat.reduceLT, List.length_cons, List.length_nil, List.getElem?_cons_zero, List.getElem?_cons_succ, Nat.mul_one, Bool.true_eq_false, Bool.false_eq_true, false_implies, true_implies, Bool.not_true, Bool.not_false, decide_true, decide_false, Int.reduceToNat, Int.cast_ofNat_Int, Int.reduceLT, Int.reduceLE, Int.reduceEq, Int.reduceNeg, eq_self, s0, s1, s2, s3, s9, s11, s13, s15, x0, x1, x2]
  refine part_ _ _ (by omega) ?_
  try simp only [go_sem, ↓reduceIte, Nat.reduceEqDiff, Nat.reduceAdd, Nat.reduceLT, List.length_cons, List.length_nil, List.getElem?_cons_zero, List.getElem?_cons_succ, Nat.mul_one, Bool.true_eq_false, Bool.false_eq_true, false_implies, true_implies, Bool.not_true, Bool.not_false, decide_true, decide_false, Int.reduceToNat, Int.cast_ofNat_Int, Int.reduceLT, Int.reduceLE, Int.reduceEq, Int.reduceNeg, eq_self, s0, s1, s2, s3, s9, s11, s13, s15, x0, x1, x2]
  rw [← hy, ← hz]
  -- behind the test of the other file
  have rest : ∀ (σ : Env) w', σ 9 = .bool true → σ 11 = str (if z = [] then x else x ++ List.replicate (64 - x.length) 0 ++ z) → σ 15 = str x → σ 17 = str z → St FP0 w w' p D.start → hw Try.prog noPanic h4_7 (endV [.tmp 8] next) σ w' := by
    intro σ w' s9 s11 s15 s17 st
    unfold h4_7
    try simp only [go_sem, ↓reduceIte, Nat.reduceEqDiff, Nat.reduceAdd, Nat.reduceLT, List.length_cons, List.length_nil, List.getElem?_cons_zero, List.getElem?_cons_succ, Nat.mul_one, Bool.true_eq_false, Bool.false_eq_true, false_implies, true_implies, Bool.not_true, Bool.not_false, decide_true, decide_false, Int.reduceToNat, Int.cast_ofNat_Int, Int.reduceLT, Int.reduceLE, Int.reduceEq, Int.reduceNeg, eq_self, s9, s11, s15, s17]
    refine ⟨fun hz0 => ?_, fun hz0 => ?_⟩
    · have hz0 : z = [] := by simpa using hz0
      subst hz0
      try simp only [go_sem, ↓reduceIte, Nat.reduceEqDiff, Nat.reduceAdd, Nat.reduceLT, List.length_cons, List.length_nil, List.getElem?_cons_zero, List.getElem?_cons_succ, Nat.mul_one, Bool.true_eq_false, Bool.false_eq_true, false_implies, true_implies, Bool.not_true, Bool.not_false, decide_true, decide_false, Int.reduceToNat, Int.cast_ofNat_Int, Int.reduceLT, Int.reduceLE, Int.reduceEq, Int.reduceNeg, eq_self]
      exact k _ st.mod
    · have hz0 : z ≠ [] := by simpa using hz0
      unfold h4_8
      try simp only [go_sem, ↓reduceIte, Nat.reduceEqDiff, Nat.reduceAdd, Nat.reduceLT, List.length_cons, List.length_nil, List.getElem?_cons_zero, List.getElem?_cons_succ, Nat.mul_one, Bool.true_eq_false, Bool.false_eq_true, false_implies, true_implies, Bool.not_true, Bool.not_false, decide_true, decide_false, Int.reduceToNat, Int.cast_ofNat_Int, Int.reduceLT, Int.reduceLE, Int.reduceEq, Int.reduceNeg, eq_self, s9, s11, s15, s17]
      rw [w64 (by omega) (by omega)]
      refine msl1 sl36 rfl (64 - x.length) (by omega) (by omega) (by unfold maxLen; omega) ?_
      intro b20 w20 hb20 own20 _ m20 _
      have st := st.mod0 m20
      unfold l4_10
      try simp only [go_sem, ↓reduceIte, Nat.reduceEqDiff, Nat.reduceAdd, Nat.reduceLT, List.length_cons, List.length_nil, List.getElem?_cons_zero, List.getElem?_cons_succ, Nat.mul_one, Bool.true_eq_false, Bool.false_eq_true, false_implies, true_implies, Bool.not_true, Bool.not_false, decide_true, decide_false, Int.reduceToNat, Int.cast_ofNat_Int, Int.reduceLT, Int.reduceLE, Int.reduceEq, Int.reduceNeg, eq_self, s9, s11, s15, s17]
      refine zeros_ (by omega) ⟨_, rfl, own20⟩ ?_
      unfold l4_9
      try simp only [go_sem, ↓reduceIte, Nat.reduceEqDiff, Nat.reduceAdd, Nat.reduceLT, List.length_cons, List.length_nil, List.getElem?_cons_zero, List.getElem?_cons_succ, Nat.mul_one, Bool.true_eq_false, Bool.false_eq_true, false_implies, true_implies, Bool.not_true, Bool.not_false, decide_true, decide_false, Int.reduceToNat, Int.cast_ofNat_Int, Int.reduceLT, Int.reduceLE, Int.reduceEq, Int.reduceNeg, eq_self, s9, s11, s15, s17]
      rw [if_neg hz0]
      have hzl : z.length ≤ 64 := by rw [hz]; exact Nat.le_trans (Reo.part_len _ _) hlb
      refine ⟨by simp; omega, by simp; omega, ?_⟩
      try simp only [go_sem, ↓reduceIte, Nat.reduceEqDiff, Nat.reduceAdd, Nat.reduceLT, List.length_cons, List.length_nil, List.getElem?_cons_zero, List.getElem?_cons_succ, Nat.mul_one, Bool.true_eq_false, Bool.false_eq_true, false_implies, true_implies, Bool.not_true, Bool.not_false, decide_true, decide_false, Int.reduceToNat, Int.cast_ofNat_Int, Int.reduceLT, Int.reduceLE, Int.reduceEq, Int.reduceNeg, eq_self]
      exact k _ st.mod
  by_cases hy0 : y = []
  · have d1 : decide (y = []) = true := by simp [hy0]
    have d2 : (if y = [] then [] else List.replicate 128 0 ++ y) = [] := if_pos hy0
    try simp only [go_sem, ↓reduceIte, Nat.reduceEqDiff, Nat.reduceAdd, Nat.reduceLT, List.length_cons, List.length_nil, List.getElem?_cons_zero, List.getElem?_cons_succ, Nat.mul_one, Bool.true_eq_false, Bool.false_eq_true, false_implies, true_implies, Bool.not_true, Bool.not_false, decide_true, decide_false, Int.reduceToNat, Int.cast_ofNat_Int, Int.reduceLT, Int.reduceLE, Int.reduceEq, Int.reduceNeg, eq_self, d1, d2]
    unfold l4_6
    try simp only [go_sem, ↓reduceIte, Nat.reduceEqDiff, Nat.reduceAdd, Nat.reduceLT, List.length_cons, List.length_nil, List.getElem?_cons_zero, List.getElem?_cons_succ, Nat.mul_one, Bool.true_eq_false, Bool.false_eq_true, false_implies, true_implies, Bool.not_true, Bool.not_false, decide_true, decide_false, Int.reduceToNat, Int.cast_ofNat_Int, Int.reduceLT, Int.reduceLE, Int.reduceEq, Int.reduceNeg, eq_self, d1, d2, s13]
    unfold l4_5
    try simp only [go_sem, ↓reduceIte, Nat.reduceEqDiff, Nat.reduceAdd, Nat.reduceLT, List.length_cons, List.length_nil, List.getElem?_cons_zero, List.getElem?_cons_succ, Nat.mul_one, Bool.true_eq_false, Bool.false_eq_true, false_implies, true_implies, Bool.not_true, Bool.not_false, decide_true, decide_false, Int.reduceToNat, Int.cast_ofNat_Int, Int.reduceLT, Int.reduceLE, Int.reduceEq, Int.reduceNeg, eq_self, d1, d2, s13]
    exact rest _ _ s9 s11 s15 rfl st
  · have d1 : decide (y = []) = false := by simp [hy0]
    have d2 : (if y = [] then [] else List.replicate 128 0 ++ y) = List.replicate 128 0 ++ y := if_neg hy0
    have hyl : y.length ≤ 64 := by rw [hy]; exact Nat.le_trans (Reo.part_len _ _) hlc
    try simp only [go_sem, ↓reduceIte, Nat.reduceEqDiff, Nat.reduceAdd, Nat.reduceLT, List.length_cons, List.length_nil, List.getElem?_cons_zero, List.getElem?_cons_succ, Nat.mul_one, Bool.true_eq_false, Bool.false_eq_true, false_implies, true_implies, Bool.not_true, Bool.not_false, decide_true, decide_false, Int.reduceToNat, Int.cast_ofNat_Int, Int.reduceLT, Int.reduceLE, Int.reduceEq, Int.reduceNeg, eq_self, d1, d2]
    refine msl1 sl36 rfl 128 rfl (by omega) (by unfold maxLen; omega) ?_
    intro b20 w20 hb20 own20 _ m20 _
    have st := st.mod0 m20
    unfold l4_6
    try simp only [go_sem, ↓reduceIte, Nat.reduceEqDiff, Nat.reduceAdd, Nat.reduceLT, List.length_cons, List.length_nil, List.getElem?_cons_zero, List.getElem?_cons_succ, Nat.mul_one, Bool.true_eq_false, Bool.false_eq_true, false_implies, true_implies, Bool.not_true, Bool.not_false, decide_true, decide_false, Int.reduceToNat, Int.cast_ofNat_Int, Int.reduceLT, Int.reduceLE, Int.reduceEq, Int.reduceNeg, eq_self, d1, d2, s13]
    refine zeros_ (n := 128) (by omega) ⟨_, rfl, own20⟩ ?_
    unfold l4_5
    try simp only [go_sem, ↓reduceIte, Nat.reduceEqDiff, Nat.reduceAdd, Nat.reduceLT, List.length_cons, List.length_nil, List.getElem?_cons_zero, List.getElem?_cons_succ, Nat.mul_one, Bool.true_eq_false, Bool.false_eq_true, false_implies, true_implies, Bool.not_true, Bool.not_false, decide_true, decide_false, Int.reduceToNat, Int.cast_ofNat_Int, Int.reduceLT, Int.reduceLE, Int.reduceEq, Int.reduceNeg, eq_self, d1, d2, s13]
    refine ⟨by simp; omega, ?_⟩
    exact rest _ _ s9 s11 s15 rfl st

theorem reorders_ {a b c : Bytes} {kv : Value} {ks : List Int} {m : Nat} (hv : Sl w kv 1 m (ints ks)) (k : ∀ w', Mod none' w w' → next (.bool true) w') :
    callK Try.prog 4 [str a, str b, str c, kv] w next QP := by
  refine q4 rfl ?_
  unfold h4
  obtain ⟨va, vc, rfl, hvc, hvcell⟩ := hv.form
  try simp only [go_sem, ↓reduceIte, Nat.reduceEqDiff, Nat.reduceAdd, Nat.reduceLT, List.length_cons, List.length_nil, List.getElem?_cons_zero, List.getElem?_cons_succ, Nat.mul_one, Bool.true_eq_false, Bool.false_eq_true, false_implies, true_implies, Bool.not_true, Bool.not_false, decide_true, decide_false, Int.reduceToNat, Int.cast_ofNat_Int, Int.reduceLT, Int.reduceLE, Int.reduceEq, Int.reduceNeg, eq_self]
  refine small_ ?_
  intro w1 m1
  try simp only [go_sem, ↓reduceIte, Nat.reduceEqDiff, Nat.reduceAdd, Nat.reduceLT, List.length_cons, List.length_nil, List.getElem?_cons_zero, List.getElem?_cons_succ, Nat.mul_one, Bool.true_eq_false, Bool.false_eq_true, false_implies, true_implies, Bool.not_true, Bool.not_false, decide_true, decide_false, Int.reduceToNat, Int.cast_ofNat_Int, Int.reduceLT, Int.reduceLE, Int.reduceEq, Int.reduceNeg, eq_self]
  refine new_ ?_
  intro p w2 hp st0
  have st : St FP0 w w2 p Dk.new := st0.after m1
  have hpp : 0 < m → (Value.slice va m vc).ownBlock ≠ some p := fun hm e => by have := hv.lt (by omega) hm p e; have := m1.size; omega
  try simp only [go_sem, ↓reduceIte, Nat.reduceEqDiff, Nat.reduceAdd, Nat.reduceLT, List.length_cons, List.length_nil, List.getElem?_cons_zero, List.getElem?_cons_succ, Nat.mul_one, Bool.true_eq_false, Bool.false_eq_true, false_implies, true_implies, Bool.not_true, Bool.not_false, decide_true, decide_false, Int.reduceToNat, Int.cast_ofNat_Int, Int.reduceLT, Int.reduceLE, Int.reduceEq, Int.reduceNeg, eq_self]
  refine ⟨fun hbig => k _ st.mod, fun hsmall => ?_⟩
  have hs : a ≠ [] ∧ b ≠ [] ∧ c ≠ [] ∧ a.length ≤ 64 ∧ b.length ≤ 64 ∧ c.length ≤ 64 ∧ m = 3 := by
    simp at hsmall
    refine ⟨hsmall.1.1.1.1.1.1, hsmall.1.1.1.1.1.2, hsmall.1.1.1.1.2, ?_, ?_, ?_, ?_⟩ <;> omega
  obtain ⟨ha, hb, hc, hla, hlb, hlc, rfl⟩ := hs
  obtain ⟨hq1, hq2, hw1, hw2, hw3⟩ := Reo.wr_facts ha hb hc hla hlb hlc
  unfold h4_1
  try simp only [go_sem, ↓reduceIte, Nat.reduceEqDiff, Nat.reduceAdd, Nat.reduceLT, List.length_cons, List.length_nil, List.getElem?_cons_zero, List.getElem?_cons_succ, Nat.mul_one, Bool.true_eq_false, Bool.false_eq_true, false_implies, true_implies, Bool.not_true, Bool.not_false, decide_true, decide_false, Int.reduceToNat, Int.cast_ofNat_Int, Int.reduceLT, Int.reduceLE, Int.reduceEq, Int.reduceNeg, eq_self]
  refine write_ st.dr (f := 5) (a := 0) (s := a) (by omega) (by omega) (by show 0 + _ ≤ _; omega) ?_
  intro w3 st'
  have st := st.trans st'
  clear st'
  try simp only [go_sem, ↓reduceIte, Nat.reduceEqDiff, Nat.reduceAdd, Nat.reduceLT, List.length_cons, List.length_nil, List.getElem?_cons_zero, List.getElem?_cons_succ, Nat.mul_one, Bool.true_eq_false, Bool.false_eq_true, false_implies, true_implies, Bool.not_true, Bool.not_false, decide_true, decide_false, Int.reduceToNat, Int.cast_ofNat_Int, Int.reduceLT, Int.reduceLE, Int.reduceEq, Int.reduceNeg, eq_self]
  refine write_ st.dr (f := 6) (a := 128) (s := c) (by omega) (by omega) (by omega) ?_
  intro w4 st'
  have st := st.trans st'
  clear st'
  try simp only [go_sem, ↓reduceIte, Nat.reduceEqDiff, Nat.reduceAdd, Nat.reduceLT, List.length_cons, List.length_nil, List.getElem?_cons_zero, List.getElem?_cons_succ, Nat.mul_one, Bool.true_eq_false, Bool.false_eq_true, false_implies, true_implies, Bool.not_true, Bool.not_false, decide_true, decide_false, Int.reduceToNat, Int.cast_ofNat_Int, Int.reduceLT, Int.reduceLE, Int.reduceEq, Int.reduceNeg, eq_self]
  refine write_ st.dr (f := 5) (a := 64) (s := b) (by omega) (by omega) (by omega) ?_
  intro w5 st'
  have st : St FP0 w w5 p (Reo.wr a b c) := st.trans st'
  clear st'
  try simp only [go_sem, ↓reduceIte, Nat.reduceEqDiff, Nat.reduceAdd, Nat.reduceLT, List.length_cons, List.length_nil, List.getElem?_cons_zero, List.getElem?_cons_succ, Nat.mul_one, Bool.true_eq_false, Bool.false_eq_true, false_implies, true_implies, Bool.not_true, Bool.not_false, decide_true, decide_false, Int.reduceToNat, Int.cast_ofNat_Int, Int.reduceLT, Int.reduceLE, Int.reduceEq, Int.reduceNeg, eq_self]
  have hq3 : (Reo.wr a b c).queue.length = 3 := by rw [hw2]; rfl
  obtain ⟨hc1, hc2, hc3⟩ := Reo.crash2_queue hw3 ks [1, 1, 1] [1, 1, 1]
  refine crash_ st.dr (hv.mod' st.mod fun _ _ _ h => h) hpp (by omega) ?_
  intro w6 st'
  have st := st.trans st'
  clear st'
  try simp only [go_sem, ↓reduceIte, Nat.reduceEqDiff, Nat.reduceAdd, Nat.reduceLT, List.length_cons, List.length_nil, List.getElem?_cons_zero, List.getElem?_cons_succ, Nat.mul_one, Bool.true_eq_false, Bool.false_eq_true, false_implies, true_implies, Bool.not_true, Bool.not_false, decide_true, decide_false, Int.reduceToNat, Int.cast_ofNat_Int, Int.reduceLT, Int.reduceLE, Int.reduceEq, Int.reduceNeg, eq_self]
  unfold h4_2
  try simp only [go_sem, ↓reduceIte, Nat.reduceEqDiff, Nat.reduceAdd, Nat.reduceLT, List.length_cons, List.length_nil, List.getElem?_cons_zero, List.getElem?_cons_succ, Nat.mul_one, Bool.true_eq_false, Bool.false_eq_true, false_implies, true_implies, Bool.not_true, Bool.not_false, decide_true, decide_false, Int.reduceToNat, Int.cast_ofNat_Int, Int.reduceLT, Int.reduceLE, Int.reduceEq, Int.reduceNeg, eq_self]
  have hp6 := st.dr.plt
  refine bsl3 sl22 rfl rfl rfl ?_
  intro b7 w7 hb7 own7 _ m7 _
  have st := st.mod0 m7
  try simp only [go_sem, ↓reduceIte, Nat.reduceEqDiff, Nat.reduceAdd, Nat.reduceLT, List.length_cons, List.length_nil, List.getElem?_cons_zero, List.getElem?_cons_succ, Nat.mul_one, Bool.true_eq_false, Bool.false_eq_true, false_implies, true_implies, Bool.not_true, Bool.not_false, decide_true, decide_false, Int.reduceToNat, Int.cast_ofNat_Int, Int.reduceLT, Int.reduceLE, Int.reduceEq, Int.reduceNeg, eq_self]
  refine crash_ st.dr (ks := [1, 1, 1]) own7.sl (fun _ e => by simp [Value.ownBlock] at e; omega) (by rw [hc1]; simp) ?_
  intro w8 st'
  have st := st.trans st'
  clear st'
  try simp only [go_sem, ↓reduceIte, Nat.reduceEqDiff, Nat.reduceAdd, Nat.reduceLT, List.length_cons, List.length_nil, List.getElem?_cons_zero, List.getElem?_cons_succ, Nat.mul_one, Bool.true_eq_false, Bool.false_eq_true, false_implies, true_implies, Bool.not_true, Bool.not_false, decide_true, decide_false, Int.reduceToNat, Int.cast_ofNat_Int, Int.reduceLT, Int.reduceLE, Int.reduceEq, Int.reduceNeg, eq_self]
  refine start_ st.dr ?_
  intro w9 dr m _
  have st := st.trans (.of dr m)
  clear dr m
  try simp only [go_sem, ↓reduceIte, Nat.reduceEqDiff, Nat.reduceAdd, Nat.reduceLT, List.length_cons, List.length_nil, List.getElem?_cons_zero, List.getElem?_cons_succ, Nat.mul_one, Bool.true_eq_false, Bool.false_eq_true, false_implies, true_implies, Bool.not_true, Bool.not_false, decide_true, decide_false, Int.reduceToNat, Int.cast_ofNat_Int, Int.reduceLT, Int.reduceLE, Int.reduceEq, Int.reduceNeg, eq_self]
  have hp9 := st.dr.plt
  refine bsl3 sl22 rfl rfl rfl ?_
  intro b10 w10 hb10 own10 _ m10 _
  have st := st.mod0 m10
  try simp only [go_sem, ↓reduceIte, Nat.reduceEqDiff, Nat.reduceAdd, Nat.reduceLT, List.length_cons, List.length_nil, List.getElem?_cons_zero, List.getElem?_cons_succ, Nat.mul_one, Bool.true_eq_false, Bool.false_eq_true, false_implies, true_implies, Bool.not_true, Bool.not_false, decide_true, decide_false, Int.reduceToNat, Int.cast_ofNat_Int, Int.reduceLT, Int.reduceLE, Int.reduceEq, Int.reduceNeg, eq_self]
  refine crash_ st.dr (ks := [1, 1, 1]) own10.sl (fun _ e => by simp [Value.ownBlock] at e; omega) (by rw [hc3]; simp) ?_
  intro w11 st'
  have st := st.trans st'
  clear st'
  try simp only [go_sem, ↓reduceIte, Nat.reduceEqDiff, Nat.reduceAdd, Nat.reduceLT, List.length_cons, List.length_nil, List.getElem?_cons_zero, List.getElem?_cons_succ, Nat.mul_one, Bool.true_eq_false, Bool.false_eq_true, false_implies, true_implies, Bool.not_true, Bool.not_false, decide_true, decide_false, Int.reduceToNat, Int.cast_ofNat_Int, Int.reduceLT, Int.reduceLE, Int.reduceEq, Int.reduceNeg, eq_self]
  obtain ⟨b15, o15, e15, hcell⟩ := hvcell (by omega)
  subst e15
  have hks : ∃ k0 k1 k2, ks = [k0, k1, k2] := by
    have hl := hv.len
    rw [ints_len] at hl
    match ks, hl with
    | [k0, k1, k2], _ => exact ⟨k0, k1, k2, rfl⟩
  obtain ⟨k0, k1, k2, rfl⟩ := hks
  have hr5 := Reo.crash2 hw3 [k0, k1, k2] [1, 1, 1] [1, 1, 1] 5
  have hr6 := Reo.crash2 hw3 [k0, k1, k2] [1, 1, 1] [1, 1, 1] 6
  rw [hw1, hw2, if_pos (show isF 5 = true from rfl)] at hr5
  rw [hw1, hw2, if_pos (show isF 6 = true from rfl)] at hr6
  rw [show (5 : Int).toNat = 5 from rfl, Reo.five ha hb hla] at hr5
  rw [show (6 : Int).toNat = 6 from rfl, Reo.six hc] at hr6
  exact reo_tail (x := Reo.part a k0) (y := Reo.part c k1) (z := Reo.part b k2) hla hlb hlc (Nat.le_trans (Reo.part_len a k0) hla) (hcell 0 (by omega)) (hcell 1 (by omega)) (hcell 2 (by omega)) rfl rfl rfl rfl rfl rfl rfl rfl rfl st hr5 hr6 k
end
end Go.Proofs.Y
