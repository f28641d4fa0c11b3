/- LH: DiskLasts: the two updates of what is safe. -/
import Derived.Test.YtbohloaggnkepaaLG
set_option linter.unusedSimpArgs false
set_option linter.unusedVariables false
namespace Go.Proofs.Y
open Go Go.HL Go.Proofs
section
variable {w0 : World}

theorem part6 {Q : HX → Env → World → Prop} {w1 : World} {p N M b : Nat} {D : Dk} {F : FP} {sv nv lv kv hd nn : Value} {safe : List Bytes} {al : List Act} {σ : Env} {up : Bool} {a : Act} {k e : Int} (h : LS w0 w1 p D F sv nv safe al) (hb : Blk w1 b 42 a.cells)
    (hN : ∀ a ∈ al, (0 ≤ a.N ∧ a.N < 4000) ∧ a.OK w0) (hn : al.length ≤ N) (hNb : N ≤ 1048576) (h12 : safe.length = 12) (hq : D.queue.length ≤ M)
    (hFG : k = 4 → e = 0 → (∃ f : Nat, a.F = f ∧ f < 12) ∧ ∃ g : Nat, a.G = g ∧ g < 12)
    (hcase : (up = true ∧ D.down = true ∧ Fell D safe al ∧ ¬ (k = 4 ∧ e = 0)) ∨ (¬ (up = true ∧ D.down = true) ∧ LInv D (if k = 4 ∧ e = 0 then (safe.set a.F.toNat (safe.getD a.G.toNat [])).set a.G.toNat [] else safe) (if k = 4 ∧ e = 0 then without (without al a.F) a.G else al)))
    (s0 : σ 0 = lv) (s1 : σ 1 = kv) (s5 : σ 5 = hd) (s6 : σ 6 = ptr p) (s7 : σ 7 = sv) (s8 : σ 8 = nv) (s9 : σ 9 = nn) (s10 : σ 10 = ptr b) (s11 : σ 11 = .bool up) (s12 : σ 12 = .int .i64 k) (s14 : σ 14 = .int .i64 e)
    (hQ : ∀ τ w' D' F' nv' safe' al', τ 0 = lv → τ 1 = kv → τ 5 = hd → τ 6 = ptr p → τ 7 = sv → τ 8 = nv' → τ 9 = nn → RI w0 w' p sv nv' N M D' F' safe' al' → Q .normal τ w') :
    hw Try.prog noPanic h5_6 Q σ w1 := by
  unfold h5_6
  try simp only [go_sem, ↓reduceIte, Nat.reduceEqDiff, Nat.reduceAdd, Nat.reduceLT, List.length_cons, List.length_nil, List.getElem?_cons_zero, List.getElem?_cons_succ, Nat.mul_one, Bool.true_eq_false, Bool.false_eq_true, false_implies, true_implies, Bool.not_true, Bool.not_false, decide_true, decide_false, Int.reduceToNat, Int.cast_ofNat_Int, Int.reduceLT, Int.reduceLE, Int.reduceEq, Int.reduceNeg, eq_self, Option.isNone_some, Option.isNone_none, Bool.bne_false, Bool.bne_true, s0, s1, s5, s6, s7, s8, s9, s10, s11, s12, s14]
  by_cases hk : k = 4 ∧ e = 0
  · obtain ⟨rfl, rfl⟩ := hk
    obtain ⟨⟨f, hf, hf12⟩, g, hg, hg12⟩ := hFG rfl rfl
    rcases hcase with ⟨-, -, -, h4⟩ | ⟨hno, hI⟩
    · exact absurd ⟨rfl, rfl⟩ h4
    rw [if_pos ⟨rfl, rfl⟩, if_pos ⟨rfl, rfl⟩] at hI
    obtain ⟨x0, x1, x2, x3, x4, x5⟩ := Act.get hb
    rw [hf] at x1
    rw [hg] at x2
    have h := h.mod0 (Mod.drew _ _)
    have hb := hb.drew
    obtain ⟨gg, c, rfl, cs, -⟩ := h.set (next := fun _ _ => True) (QP := noPanic) hg12 []
    have hsb : (Value.slice (some ⟨gg, 0, none⟩) 12 c).ownBlock ≠ some b := own_neb h.sown hb (by decide)
    have cs1 : w1.cell? ⟨gg, g, none⟩ = some (str (safe.getD g [])) := cs
    try simp only [go_sem, ↓reduceIte, Nat.reduceEqDiff, Nat.reduceAdd, Nat.reduceLT, List.length_cons, List.length_nil, List.getElem?_cons_zero, List.getElem?_cons_succ, Nat.mul_one, Bool.true_eq_false, Bool.false_eq_true, false_implies, true_implies, Bool.not_true, Bool.not_false, decide_true, decide_false, Int.reduceToNat, Int.cast_ofNat_Int, Int.reduceLT, Int.reduceLE, Int.reduceEq, Int.reduceNeg, eq_self, Option.isNone_some, Option.isNone_none, Bool.bne_false, Bool.bne_true, x1, x2, cs1]
    refine ⟨⟨by omega, by omega⟩, ⟨by omega, by omega⟩, ?_⟩
    obtain ⟨g', c', e', -, hst⟩ := h.set (QP := noPanic) hf12 (safe.getD g [])
    simp only [Value.slice.injEq, Option.some.injEq, Addr.mk.injEq, true_and, and_true] at e'
    obtain ⟨rfl, rfl⟩ := e'
    refine hst ?_
    intro w2 h m2
    have hb := hb.mod m2 fun e => hsb e
    obtain ⟨x0, x1, x2, x3, x4, x5⟩ := Act.get hb
    rw [hf] at x1
    rw [hg] at x2
    try simp only [go_sem, ↓reduceIte, Nat.reduceEqDiff, Nat.reduceAdd, Nat.reduceLT, List.length_cons, List.length_nil, List.getElem?_cons_zero, List.getElem?_cons_succ, Nat.mul_one, Bool.true_eq_false, Bool.false_eq_true, false_implies, true_implies, Bool.not_true, Bool.not_false, decide_true, decide_false, Int.reduceToNat, Int.cast_ofNat_Int, Int.reduceLT, Int.reduceLE, Int.reduceEq, Int.reduceNeg, eq_self, Option.isNone_some, Option.isNone_none, Bool.bne_false, Bool.bne_true, x1, x2]
    refine ⟨⟨by omega, by omega⟩, ?_⟩
    obtain ⟨g', c', e', -, hst⟩ := h.set (QP := noPanic) hg12 []
    simp only [Value.slice.injEq, Option.some.injEq, Addr.mk.injEq, true_and, and_true] at e'
    obtain ⟨rfl, rfl⟩ := e'
    refine hst ?_
    intro w3 h m3
    have hb := hb.mod m3 fun e => hsb e
    obtain ⟨x0, x1, x2, x3, x4, x5⟩ := Act.get hb
    rw [hf] at x1
    rw [hg] at x2
    try simp only [go_sem, ↓reduceIte, Nat.reduceEqDiff, Nat.reduceAdd, Nat.reduceLT, List.length_cons, List.length_nil, List.getElem?_cons_zero, List.getElem?_cons_succ, Nat.mul_one, Bool.true_eq_false, Bool.false_eq_true, false_implies, true_implies, Bool.not_true, Bool.not_false, decide_true, decide_false, Int.reduceToNat, Int.cast_ofNat_Int, Int.reduceLT, Int.reduceLE, Int.reduceEq, Int.reduceNeg, eq_self, Option.isNone_some, Option.isNone_none, Bool.bne_false, Bool.bne_true, x1, x2]
    have h := h.mod0 (Mod.drew _ _)
    have hb := hb.drew
    have hw1 := without_sub (al := al) (f := (f : Int))
    refine without_ h.nown.sl (fun a ha => (hN a ha).2.mod0 h.mod) (by omega) ?_
    intro nv1 w4 own4 m4 hfr4
    have h := h.since0 own4 m4 hfr4
    have hb := hb.mod m4 fun h => h
    obtain ⟨x0, x1, x2, x3, x4, x5⟩ := Act.get hb
    rw [hg] at x2
    try simp only [go_sem, ↓reduceIte, Nat.reduceEqDiff, Nat.reduceAdd, Nat.reduceLT, List.length_cons, List.length_nil, List.getElem?_cons_zero, List.getElem?_cons_succ, Nat.mul_one, Bool.true_eq_false, Bool.false_eq_true, false_implies, true_implies, Bool.not_true, Bool.not_false, decide_true, decide_false, Int.reduceToNat, Int.cast_ofNat_Int, Int.reduceLT, Int.reduceLE, Int.reduceEq, Int.reduceNeg, eq_self, Option.isNone_some, Option.isNone_none, Bool.bne_false, Bool.bne_true, x1, x2]
    have hw2 := without_sub (al := without al (f : Int)) (f := (g : Int))
    refine without_ h.nown.sl (fun a ha => (hN a (hw1.1 a ha)).2.mod0 h.mod) (by omega) ?_
    intro nv2 w5 own5 m5 hfr5
    have h := h.since0 own5 m5 hfr5
    rw [hf, hg, Int.toNat_natCast, Int.toNat_natCast] at hI
    exact part7 h (.inr ⟨hno, h, hI, fun a ha => hN a (hw1.1 a (hw2.1 a ha)), by omega, hq⟩) s0 s1 s5 s6 s7 rfl s9 s11 hQ
  · have e1 : (if decide (k = 4) = true then decide (e = 0) else false) = false := by
      by_cases h4 : k = 4
      · simp [h4]; exact fun h => hk ⟨h4, h⟩
      · simp [h4]
    try simp only [go_sem, ↓reduceIte, Nat.reduceEqDiff, Nat.reduceAdd, Nat.reduceLT, List.length_cons, List.length_nil, List.getElem?_cons_zero, List.getElem?_cons_succ, Nat.mul_one, Bool.true_eq_false, Bool.false_eq_true, false_implies, true_implies, Bool.not_true, Bool.not_false, decide_true, decide_false, Int.reduceToNat, Int.cast_ofNat_Int, Int.reduceLT, Int.reduceLE, Int.reduceEq, Int.reduceNeg, eq_self, Option.isNone_some, Option.isNone_none, Bool.bne_false, Bool.bne_true, e1]
    rw [if_neg hk, if_neg hk] at hcase
    refine part7 h ?_ s0 s1 s5 s6 s7 s8 s9 s11 hQ
    rcases hcase with ⟨h1, h2, h3, -⟩ | ⟨h1, h2⟩
    · exact .inl ⟨h1, h2, h3, fun a ha => (hN a ha).1, by omega, h12⟩
    · exact .inr ⟨h1, h, h2, hN, hn, hq⟩
end
end Go.Proofs.Y
