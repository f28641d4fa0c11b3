/- LG: DiskLasts: a round of the loop. -/
import Derived.Test.YtbohloaggnkepaaLF
set_option linter.unusedSimpArgs false
set_option linter.unusedVariables false
namespace Go.Proofs.Y
open Go Go.HL Go.Proofs

/-- what holds between the rounds -/
structure RI (w0 w : World) (p : Nat) (sv nv : Value) (N M : Nat) (d : Dk) (F : FP) (safe : List Bytes) (al : List Act) : Prop where
  ls : LS w0 w p d F sv nv safe al
  inv : LInv d safe al
  acts : ∀ a ∈ al, (0 ≤ a.N ∧ a.N < 4000) ∧ a.OK w0
  len : al.length ≤ N
  q : d.queue.length ≤ M

theorem RI.safe12 {w0 w : World} {p N M : Nat} {sv nv : Value} {d : Dk} {F : FP} {safe : List Bytes} {al : List Act} (h : RI w0 w p sv nv N M d F safe al) : safe.length = 12 := by rw [← h.inv.last]; exact h.inv.nl
theorem without_sub {al : List Act} {f : Int} : (∀ a ∈ without al f, a ∈ al) ∧ (without al f).length ≤ al.length := ⟨fun a ha => (List.mem_filter.1 ha).1, List.length_filter_le _ _⟩

section
variable {w0 : World}

theorem part7 {Q : HX → Env → World → Prop} {w1 : World} {p N M : Nat} {D : Dk} {F : FP} {sv nv lv kv hd nn : Value} {safe : List Bytes} {al : List Act} {σ : Env} {up : Bool} (h : LS w0 w1 p D F sv nv safe al)
    (hcase : (up = true ∧ D.down = true ∧ Fell D safe al ∧ (∀ a ∈ al, 0 ≤ a.N ∧ a.N < 4000) ∧ al.length ≤ 1048576 ∧ safe.length = 12) ∨ (¬ (up = true ∧ D.down = true) ∧ RI w0 w1 p sv nv N M D F safe al))
    (s0 : σ 0 = lv) (s1 : σ 1 = kv) (s5 : σ 5 = hd) (s6 : σ 6 = ptr p) (s7 : σ 7 = sv) (s8 : σ 8 = nv) (s9 : σ 9 = nn) (s11 : σ 11 = .bool up)
    (hQ : ∀ τ w' D' F' nv' safe' al', τ 0 = lv → τ 1 = kv → τ 5 = hd → τ 6 = ptr p → τ 7 = sv → τ 8 = nv' → τ 9 = nn → RI w0 w' p sv nv' N M D' F' safe' al' → Q .normal τ w') :
    hw Try.prog noPanic h5_7 Q σ w1 := by
  unfold h5_7
  try simp only [go_sem, ↓reduceIte, Nat.reduceEqDiff, Nat.reduceAdd, Nat.reduceLT, List.length_cons, List.length_nil, List.getElem?_cons_zero, List.getElem?_cons_succ, Nat.mul_one, Bool.true_eq_false, Bool.false_eq_true, false_implies, true_implies, Bool.not_true, Bool.not_false, decide_true, decide_false, Int.reduceToNat, Int.cast_ofNat_Int, Int.reduceLT, Int.reduceLE, Int.reduceEq, Int.reduceNeg, eq_self, Option.isNone_some, Option.isNone_none, Bool.bne_false, Bool.bne_true, s0, s1, s5, s6, s7, s8, s9, s11]
  rcases hcase with ⟨rfl, hd1, hf, hN, hn, h12⟩ | ⟨hno, hR⟩
  · try simp only [go_sem, ↓reduceIte, Nat.reduceEqDiff, Nat.reduceAdd, Nat.reduceLT, List.length_cons, List.length_nil, List.getElem?_cons_zero, List.getElem?_cons_succ, Nat.mul_one, Bool.true_eq_false, Bool.false_eq_true, false_implies, true_implies, Bool.not_true, Bool.not_false, decide_true, decide_false, Int.reduceToNat, Int.cast_ofNat_Int, Int.reduceLT, Int.reduceLE, Int.reduceEq, Int.reduceNeg, eq_self, Option.isNone_some, Option.isNone_none, Bool.bne_false, Bool.bne_true]
    refine down_ h.dr ?_
    rw [hd1]
    try simp only [go_sem, ↓reduceIte, Nat.reduceEqDiff, Nat.reduceAdd, Nat.reduceLT, List.length_cons, List.length_nil, List.getElem?_cons_zero, List.getElem?_cons_succ, Nat.mul_one, Bool.true_eq_false, Bool.false_eq_true, false_implies, true_implies, Bool.not_true, Bool.not_false, decide_true, decide_false, Int.reduceToNat, Int.cast_ofNat_Int, Int.reduceLT, Int.reduceLE, Int.reduceEq, Int.reduceNeg, eq_self, Option.isNone_some, Option.isNone_none, Bool.bne_false, Bool.bne_true, s0, s1, s5, s6, s7, s8, s9, s11]
    refine start_ h.dr ?_
    intro w2 dr m _
    have h := h.step (.of dr m)
    try simp only [go_sem, ↓reduceIte, Nat.reduceEqDiff, Nat.reduceAdd, Nat.reduceLT, List.length_cons, List.length_nil, List.getElem?_cons_zero, List.getElem?_cons_succ, Nat.mul_one, Bool.true_eq_false, Bool.false_eq_true, false_implies, true_implies, Bool.not_true, Bool.not_false, decide_true, decide_false, Int.reduceToNat, Int.cast_ofNat_Int, Int.reduceLT, Int.reduceLE, Int.reduceEq, Int.reduceNeg, eq_self, Option.isNone_some, Option.isNone_none, Bool.bne_false, Bool.bne_true, s0, s1, s5, s6, s7, s8, s9, s11]
    refine check_ (D := D.start) h rfl hf.queue h12 hf.here hN hn s0 s1 s5 s6 s7 s8 s9 rfl ?_
    intro τ w' F' t0 t1 t5 t6 t7 t8 t9 h
    have e : D.start.crash [] = ⟨D.lasts, D.lasts, [], D.lost, true, 0, D.keep⟩ := by
      rw [crash_eq rfl]
      show Dk.mk (survs D.lasts D.queue []) (survs D.lasts D.queue []) [] D.lost true 0 D.keep = _
      rw [hf.queue]; rfl
    have hfl : D.start.files = D.lasts := hf.files
    rw [e, hfl] at h
    exact hQ τ w' _ F' _ _ _ t0 t1 t5 t6 t7 t8 t9 ⟨h, LInv.rest hf.nl rfl rfl, fun a ha => (nomatch ha), Nat.zero_le _, Nat.zero_le _⟩
  · cases up
    · try simp only [go_sem, ↓reduceIte, Nat.reduceEqDiff, Nat.reduceAdd, Nat.reduceLT, List.length_cons, List.length_nil, List.getElem?_cons_zero, List.getElem?_cons_succ, Nat.mul_one, Bool.true_eq_false, Bool.false_eq_true, false_implies, true_implies, Bool.not_true, Bool.not_false, decide_true, decide_false, Int.reduceToNat, Int.cast_ofNat_Int, Int.reduceLT, Int.reduceLE, Int.reduceEq, Int.reduceNeg, eq_self, Option.isNone_some, Option.isNone_none, Bool.bne_false, Bool.bne_true]
      exact hQ _ _ _ _ _ _ _ s0 s1 s5 s6 s7 s8 s9 hR
    · have hd1 : D.down = false := by
        cases hd : D.down
        · rfl
        · exact absurd ⟨rfl, hd⟩ hno
      try simp only [go_sem, ↓reduceIte, Nat.reduceEqDiff, Nat.reduceAdd, Nat.reduceLT, List.length_cons, List.length_nil, List.getElem?_cons_zero, List.getElem?_cons_succ, Nat.mul_one, Bool.true_eq_false, Bool.false_eq_true, false_implies, true_implies, Bool.not_true, Bool.not_false, decide_true, decide_false, Int.reduceToNat, Int.cast_ofNat_Int, Int.reduceLT, Int.reduceLE, Int.reduceEq, Int.reduceNeg, eq_self, Option.isNone_some, Option.isNone_none, Bool.bne_false, Bool.bne_true]
      refine down_ h.dr ?_
      rw [hd1]
      try simp only [go_sem, ↓reduceIte, Nat.reduceEqDiff, Nat.reduceAdd, Nat.reduceLT, List.length_cons, List.length_nil, List.getElem?_cons_zero, List.getElem?_cons_succ, Nat.mul_one, Bool.true_eq_false, Bool.false_eq_true, false_implies, true_implies, Bool.not_true, Bool.not_false, decide_true, decide_false, Int.reduceToNat, Int.cast_ofNat_Int, Int.reduceLT, Int.reduceLE, Int.reduceEq, Int.reduceNeg, eq_self, Option.isNone_some, Option.isNone_none, Bool.bne_false, Bool.bne_true]
      exact hQ _ _ _ _ _ _ _ s0 s1 s5 s6 s7 s8 s9 hR
end

theorem eF {d : Dk} {a : Act} (hk : pk a.Do = 2 ∨ pk a.Do = 3) (he : d.actE a = 0) : ∃ f : Nat, a.F = f ∧ f < 12 := by
  unfold Dk.actE at he
  rw [if_neg (by omega)] at he
  have hm : d.pre.may [a.F] = 0 := by
    rcases hk with hk | hk
    · rw [if_pos hk] at he
      by_cases hm : d.pre.may [a.F] ≠ 0
      · simp only [Dk.flushR, if_pos hm] at he; exact absurd he hm
      · simpa using hm
    · rw [if_neg (by omega), if_pos hk] at he
      by_cases hm : d.pre.may [a.F] ≠ 0
      · simp only [Dk.cutR, if_pos hm] at he; exact absurd he hm
      · simpa using hm
  exact may_ok hm
theorem eFG {d : Dk} {a : Act} (hk : pk a.Do = 4) (he : d.actE a = 0) : (∃ f : Nat, a.F = f ∧ f < 12) ∧ ∃ g : Nat, a.G = g ∧ g < 12 := by
  unfold Dk.actE at he
  rw [if_neg (by omega), if_neg (by omega), if_neg (by omega), if_pos hk] at he
  by_cases hm : d.pre.may [a.F, a.G] ≠ 0
  · simp only [Dk.turnR, if_pos hm] at he; exact absurd he hm
  · exact may_ok2 (by simpa using hm)
end Go.Proofs.Y
