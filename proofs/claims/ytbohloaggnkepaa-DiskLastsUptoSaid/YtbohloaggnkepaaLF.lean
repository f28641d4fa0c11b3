/- LF: DiskLasts: what is looked at behind a crash. -/
import Derived.Test.YtbohloaggnkepaaLE
set_option linter.unusedSimpArgs false
set_option linter.unusedVariables false
namespace Go.Proofs.Y
open Go Go.HL Go.Proofs

theorem mix_get {A B : List Bytes} {i f : Nat} (hA : A.length = 12) (hf : f < 12) : (A.take i ++ B.drop i).getD f [] = if f < i then A.getD f [] else B.getD f [] := by
  simp only [List.getD_eq_getElem?_getD]
  split
  · rw [List.getElem?_append_left (by simp; omega), List.getElem?_take_of_lt (by assumption)]
  · rcases Nat.le_total i 12 with hi | hi
    · rw [List.getElem?_append_right (by simp; omega), List.getElem?_drop, List.length_take, Nat.min_eq_left (by omega)]
      congr 2; omega
    · omega
theorem mix_set {A B : List Bytes} {i : Nat} (hA : A.length = 12) (hB : B.length = 12) (hi : i < 12) : (A.take i ++ B.drop i).set i (A.getD i []) = A.take (i + 1) ++ B.drop (i + 1) := by
  rw [List.set_append_right _ _ (by simp; omega), List.length_take, Nat.min_eq_left (by omega), Nat.sub_self, List.drop_eq_getElem_cons (by omega), List.set_cons_zero, List.take_succ_eq_append_getElem (by omega)]
  have e : A.getD i [] = A[i] := by simp [hA, hi]
  rw [e, List.append_assoc]; rfl

section
variable {w0 : World} {QP : List PanicEntry → World → Prop}

theorem check_ {Q : HX → Env → World → Prop} {w1 : World} {p : Nat} {D : Dk} {F : FP} {sv nv lv kv hd nn : Value} {safe : List Bytes} {al : List Act} {σ : Env} (h : LS w0 w1 p D F sv nv safe al) (hup : D.down = false) (hq : D.queue = [])
    (hsafe : safe.length = 12) (hH : ∀ f, f < 12 → Here (D.file f) (safe.getD f []) al f) (hN : ∀ a ∈ al, 0 ≤ a.N ∧ a.N < 4000) (hn : al.length ≤ 1048576)
    (s0 : σ 0 = lv) (s1 : σ 1 = kv) (s5 : σ 5 = hd) (s6 : σ 6 = ptr p) (s7 : σ 7 = sv) (s8 : σ 8 = nv) (s9 : σ 9 = nn) (s15 : σ 15 = .int .i64 0)
    (hQ : ∀ τ w' F', τ 0 = lv → τ 1 = kv → τ 5 = hd → τ 6 = ptr p → τ 7 = sv → τ 8 = .slice none 0 0 → τ 9 = nn → LS w0 w' p (D.crash []) F' sv (.slice none 0 0) D.files [] → Q .normal τ w') :
    hloop (hw Try.prog noPanic h5_8) (blockX 2 (seqX (hw Try.prog noPanic h5_12 Q) Q)) σ w1 := by
  have ok := h.dr.ok
  refine loopN 12 (fun i τ w' => τ 0 = lv ∧ τ 1 = kv ∧ τ 5 = hd ∧ τ 6 = ptr p ∧ τ 7 = sv ∧ τ 8 = nv ∧ τ 9 = nn ∧ τ 15 = .int .i64 i ∧ LS w0 w' p D F sv nv (D.files.take i ++ safe.drop i) al) ⟨0, by omega, s0, s1, s5, s6, s7, s8, s9, s15, by simpa using h⟩ ?_
  rintro i τ w2 hi ⟨t0, t1, t5, t6, t7, t8, t9, t15, h⟩
  unfold h5_8
  try simp only [go_sem, ↓reduceIte, Nat.reduceEqDiff, Nat.reduceAdd, Nat.reduceLT, List.length_cons, List.length_nil, List.getElem?_cons_zero, List.getElem?_cons_succ, Nat.mul_one, Bool.true_eq_false, Bool.false_eq_true, false_implies, true_implies, Bool.not_true, Bool.not_false, decide_true, decide_false, Int.reduceToNat, Int.cast_ofNat_Int, Int.reduceLT, Int.reduceLE, Int.reduceEq, Int.reduceNeg, eq_self, Option.isNone_some, Option.isNone_none, Bool.bne_false, Bool.bne_true, t0, t1, t5, t6, t7, t8, t9, t15]
  refine ⟨fun hlt => ?_, fun hge => ?_⟩
  · have hi12 : i < 12 := by have : (i : Int) < 12 := by simpa using hlt
                             omega
    have hm : D.may [(i : Int)] = 0 := by
      have : isF (i : Int) = true := by simp [isF]; omega
      simp [Dk.may, hup, this]
    have hr : D.read (i : Int) = D.file i := by simp only [Dk.read, hm]; rfl
    unfold h5_9
    try simp only [go_sem, ↓reduceIte, Nat.reduceEqDiff, Nat.reduceAdd, Nat.reduceLT, List.length_cons, List.length_nil, List.getElem?_cons_zero, List.getElem?_cons_succ, Nat.mul_one, Bool.true_eq_false, Bool.false_eq_true, false_implies, true_implies, Bool.not_true, Bool.not_false, decide_true, decide_false, Int.reduceToNat, Int.cast_ofNat_Int, Int.reduceLT, Int.reduceLE, Int.reduceEq, Int.reduceNeg, eq_self, Option.isNone_some, Option.isNone_none, Bool.bne_false, Bool.bne_true, t0, t1, t5, t6, t7, t8, t9, t15]
    refine read_ h.dr i ?_
    intro w3 _ m3
    have h := h.mod0 m3
    rw [hr]
    obtain ⟨g, c, rfl, cs, -⟩ := h.set (next := fun _ _ => True) (QP := noPanic) hi12 []
    rw [mix_get ok.nf hi12, if_neg (Nat.lt_irrefl i)] at cs
    try simp only [go_sem, ↓reduceIte, Nat.reduceEqDiff, Nat.reduceAdd, Nat.reduceLT, List.length_cons, List.length_nil, List.getElem?_cons_zero, List.getElem?_cons_succ, Nat.mul_one, Bool.true_eq_false, Bool.false_eq_true, false_implies, true_implies, Bool.not_true, Bool.not_false, decide_true, decide_false, Int.reduceToNat, Int.cast_ofNat_Int, Int.reduceLT, Int.reduceLE, Int.reduceEq, Int.reduceNeg, eq_self, Option.isNone_some, Option.isNone_none, Bool.bne_false, Bool.bne_true, t0, t1, t5, t6, t7, t8, t9, t15, cs]
    refine ⟨⟨by omega, by omega⟩, ?_⟩
    refine here_ (hH i hi12) (getD_le ok.bf i) h.nown.sl hn hN ?_
    intro w4 m4
    have h := h.mod0 m4
    try simp only [go_sem, ↓reduceIte, Nat.reduceEqDiff, Nat.reduceAdd, Nat.reduceLT, List.length_cons, List.length_nil, List.getElem?_cons_zero, List.getElem?_cons_succ, Nat.mul_one, Bool.true_eq_false, Bool.false_eq_true, false_implies, true_implies, Bool.not_true, Bool.not_false, decide_true, decide_false, Int.reduceToNat, Int.cast_ofNat_Int, Int.reduceLT, Int.reduceLE, Int.reduceEq, Int.reduceNeg, eq_self, Option.isNone_some, Option.isNone_none, Bool.bne_false, Bool.bne_true, t0, t1, t5, t6, t7, t8, t9, t15]
    unfold h5_10
    try simp only [go_sem, ↓reduceIte, Nat.reduceEqDiff, Nat.reduceAdd, Nat.reduceLT, List.length_cons, List.length_nil, List.getElem?_cons_zero, List.getElem?_cons_succ, Nat.mul_one, Bool.true_eq_false, Bool.false_eq_true, false_implies, true_implies, Bool.not_true, Bool.not_false, decide_true, decide_false, Int.reduceToNat, Int.cast_ofNat_Int, Int.reduceLT, Int.reduceLE, Int.reduceEq, Int.reduceNeg, eq_self, Option.isNone_some, Option.isNone_none, Bool.bne_false, Bool.bne_true, t0, t1, t5, t6, t7, t8, t9, t15]
    refine ⟨⟨by omega, by omega⟩, ?_⟩
    obtain ⟨g', c', e', -, hst⟩ := h.set (QP := noPanic) hi12 (D.file i)
    simp only [Value.slice.injEq, Option.some.injEq, Addr.mk.injEq, true_and, and_true] at e'
    obtain ⟨rfl, rfl⟩ := e'
    refine hst ?_
    intro w5 h _
    have hms : (D.files.take i ++ safe.drop i).set i (D.file i) = D.files.take (i + 1) ++ safe.drop (i + 1) := mix_set ok.nf hsafe hi12
    rw [hms] at h
    unfold h5_11
    try simp only [go_sem, ↓reduceIte, Nat.reduceEqDiff, Nat.reduceAdd, Nat.reduceLT, List.length_cons, List.length_nil, List.getElem?_cons_zero, List.getElem?_cons_succ, Nat.mul_one, Bool.true_eq_false, Bool.false_eq_true, false_implies, true_implies, Bool.not_true, Bool.not_false, decide_true, decide_false, Int.reduceToNat, Int.cast_ofNat_Int, Int.reduceLT, Int.reduceLE, Int.reduceEq, Int.reduceNeg, eq_self, Option.isNone_some, Option.isNone_none, Bool.bne_false, Bool.bne_true, t0, t1, t5, t6, t7, t8, t9, t15]
    rw [w64 (by omega) (by omega)]
    exact ⟨i + 1, by omega, by omega, rfl, h⟩
  · have hi12 : i = 12 := by have : ¬ (i : Int) < 12 := by simpa using hge
                             omega
    subst hi12
    have e : D.files.take 12 ++ safe.drop 12 = D.files := by
      rw [List.take_of_length_le (by rw [ok.nf]; omega), List.drop_of_length_le (by omega), List.append_nil]
    rw [e] at h
    unfold h5_12
    try simp only [go_sem, ↓reduceIte, Nat.reduceEqDiff, Nat.reduceAdd, Nat.reduceLT, List.length_cons, List.length_nil, List.getElem?_cons_zero, List.getElem?_cons_succ, Nat.mul_one, Bool.true_eq_false, Bool.false_eq_true, false_implies, true_implies, Bool.not_true, Bool.not_false, decide_true, decide_false, Int.reduceToNat, Int.cast_ofNat_Int, Int.reduceLT, Int.reduceLE, Int.reduceEq, Int.reduceNeg, eq_self, Option.isNone_some, Option.isNone_none, Bool.bne_false, Bool.bne_true, t0, t1, t5, t6, t7, t8, t9, t15]
    refine crash_ h.dr sl_nil (fun h => by omega) (by rw [hq]; simp) ?_
    intro w3 st
    have h := (h.step st).since0 (bl := []) (Own.nil _ _ _) (Mod.refl _ _) (fun k hk => nomatch (hk : none = some k))
    try simp only [go_sem, ↓reduceIte, Nat.reduceEqDiff, Nat.reduceAdd, Nat.reduceLT, List.length_cons, List.length_nil, List.getElem?_cons_zero, List.getElem?_cons_succ, Nat.mul_one, Bool.true_eq_false, Bool.false_eq_true, false_implies, true_implies, Bool.not_true, Bool.not_false, decide_true, decide_false, Int.reduceToNat, Int.cast_ofNat_Int, Int.reduceLT, Int.reduceLE, Int.reduceEq, Int.reduceNeg, eq_self, Option.isNone_some, Option.isNone_none, Bool.bne_false, Bool.bne_true, t0, t1, t5, t6, t7, t8, t9, t15]
    exact hQ _ _ _ t0 t1 t5 t6 t7 rfl t9 h
end
end Go.Proofs.Y
