/- JL: the journal's small example. -/
import Derived.Test.YtgalileklafbbaaJK
set_option linter.unusedSimpArgs false
set_option linter.unusedVariables false
set_option maxRecDepth 100000
namespace Go.Proofs.Y
open Go Go.HL Go.Proofs

theorem JS.opened {w0 w w' : World} {p q g : Nat} {d : Dk} {L : Lg} {F : FP} {S : Nat → Prop} (dr : DR w p d F) (f0 : ∀ k, F.R k → w0.heap.size ≤ k) (m : Mod none' w0 w) (lg : LG w' q p g L S) (hS : ∀ k, S k → w.heap.size ≤ k) (m' : Mod none' w w') : JS w0 w' p q g d L F S := by
  have hs := m.size
  exact ⟨dr.mod0 m', lg, fun k hk hS' => by have := dr.lt k hk; have := hS k hS'; omega, f0, fun k hk => by have := hS k hk; omega, m.trans' m'⟩

/-! ### the example's states -/
def L0 : Lg := ⟨[], 0, 16⟩
def dA : Dk := addD' Dk.new L0 2 [[97]]
def LA : Lg := L0.add [[97]]
def dB : Dk := (flushJ dA LA 2).1
def LB : Lg := ⟨[[97]], 1, 33⟩
def dC : Dk := addD' dB LB 2 [[98]]
def dD : Dk := (dC.crash []).start
def dE : Dk := (rewr dD 2 [[98], [99]]).1
def dF : Dk := (dE.crash []).start
theorem xA : addE Dk.new L0 2 [[97]] = 0 := by decide +kernel
theorem xB : (flushJ dA LA 2).2.2 = 0 := by decide +kernel
theorem xB2 : (flushJ dA LA 2).2.1 = LB := by
  have h1 : ¬ LA.sure = LA.rows.length := by decide
  have h2 : (flush3 dA LA 2).2 = 0 := by decide +kernel
  rw [flushJ, if_neg h1]
  simp only [h2, if_true]
  rfl
theorem xC : addE dB LB 2 [[98]] = 0 := by decide +kernel
theorem xD0 : dD.may [2] = 0 := by decide +kernel
theorem xD : dD.file 2 = header (16 + (formsB [[97]]).length : Nat) ([[97]] : List Bytes).length ++ formsB [[97]] ++ [] := by decide +kernel
theorem xDo : openB (dD.file 2) = some ⟨[[97]], 1, 33⟩ := by
  have h := openB_core (Core.full [[97]] []) (by decide +kernel)
  rw [← xD] at h
  have e : 16 + (formsB [[97]]).length = 33 := by decide +kernel
  rw [h, e]; rfl
theorem xE : (rewr dD 2 [[98], [99]]).2 = 0 := by decide +kernel
theorem xF0 : dF.may [2] = 0 := by decide +kernel
theorem xF : dF.file 2 = header (16 + (formsB [[98], [99]]).length : Nat) ([[98], [99]] : List Bytes).length ++ formsB [[98], [99]] ++ [] := by decide +kernel
theorem xFo : openB (dF.file 2) = some ⟨[[98], [99]], 2, 50⟩ := by
  have h := openB_core (Core.full [[98], [99]] []) (by decide +kernel)
  rw [← xF] at h
  have e : 16 + (formsB [[98], [99]]).length = 50 := by decide +kernel
  rw [h, e]; rfl

theorem St.reopen {w0 w w' : World} {p q f : Nat} {d d' : Dk} {L : Lg} {F : FP} {S : Nat → Prop} (h : JS w0 w p q f d L F S) (st : St F w w' p d') : ∃ F', DR w' p d' F' ∧ (∀ k, F'.R k → w0.heap.size ≤ k) ∧ Mod none' w0 w' := ⟨_, (h.disk st).dr, (h.disk st).f0, (h.disk st).m⟩

section
variable {w : World} {next : Value → World → Prop} {QP : List PanicEntry → World → Prop}

theorem jsmall5 {w1 : World} {p q : Nat} {L : Lg} {σ : Env} (h : JT w w1 p q 2 dF ⟨[[98], [99]], 2, 50⟩) (s2 : σ 4 = .int .i64 0) (s5 : σ 5 = .int .i64 0) (s6 : σ 6 = .int .i64 0) (s7 : σ 7 = .int .i64 1) (s10 : σ 10 = .bool true) (s11 : σ 11 = .int .i64 0) (s12 : σ 12 = ptr q) (k : ∀ w', Mod none' w w' → next (.bool true) w') :
    hw Try.prog noPanic h43_5 (endV [.tmp 0] next) σ w1 := by
  obtain ⟨F, S, h⟩ := h
  unfold h43_5
  try simp only [go_sem, ↓reduceIte, Nat.reduceEqDiff, Nat.reduceAdd, Nat.reduceLT, List.length_cons, List.length_nil, List.getElem?_cons_zero, List.getElem?_cons_succ, Nat.mul_one, Bool.true_eq_false, Bool.false_eq_true, false_implies, true_implies, Bool.not_true, Bool.not_false, decide_true, decide_false, Int.reduceToNat, Int.cast_ofNat_Int, Int.reduceLT, Int.reduceLE, Int.reduceEq, Int.reduceNeg, eq_self, Option.isNone_some, Option.isNone_none, Bool.bne_false, Bool.bne_true, s2, s5, s6, s7, s10, s11, s12]
  refine jall_ h.lg ?_
  intro v2 w2 own2 m2 _
  try simp only [go_sem, ↓reduceIte, Nat.reduceEqDiff, Nat.reduceAdd, Nat.reduceLT, List.length_cons, List.length_nil, List.getElem?_cons_zero, List.getElem?_cons_succ, Nat.mul_one, Bool.true_eq_false, Bool.false_eq_true, false_implies, true_implies, Bool.not_true, Bool.not_false, decide_true, decide_false, Int.reduceToNat, Int.cast_ofNat_Int, Int.reduceLT, Int.reduceLE, Int.reduceEq, Int.reduceNeg, eq_self, Option.isNone_some, Option.isNone_none, Bool.bne_false, Bool.bne_true, s2, s5, s6, s7, s10, s11, s12]
  refine bsl2 sl40 rfl rfl ?_
  intro b3 w3 _ own3 _ m3 _
  refine same__ (a := [[98], [99]]) (b := [[98], [99]]) (n := 2) (m := 2) (own2.sl.mod m3 fun _ _ h => h) own3.sl (by omega) ?_
  intro w4 m4
  have h4 := ((h.mod0 m2).mod0 m3).mod0 m4
  try simp only [go_sem, ↓reduceIte, Nat.reduceEqDiff, Nat.reduceAdd, Nat.reduceLT, List.length_cons, List.length_nil, List.getElem?_cons_zero, List.getElem?_cons_succ, Nat.mul_one, Bool.true_eq_false, Bool.false_eq_true, false_implies, true_implies, Bool.not_true, Bool.not_false, decide_true, decide_false, Int.reduceToNat, Int.cast_ofNat_Int, Int.reduceLT, Int.reduceLE, Int.reduceEq, Int.reduceNeg, eq_self, Option.isNone_some, Option.isNone_none, Bool.bne_false, Bool.bne_true, s2, s5, s6, s7, s10, s11, s12]
  refine jsure_ h4.lg ?_
  try simp only [go_sem, ↓reduceIte, Nat.reduceEqDiff, Nat.reduceAdd, Nat.reduceLT, List.length_cons, List.length_nil, List.getElem?_cons_zero, List.getElem?_cons_succ, Nat.mul_one, Bool.true_eq_false, Bool.false_eq_true, false_implies, true_implies, Bool.not_true, Bool.not_false, decide_true, decide_false, Int.reduceToNat, Int.cast_ofNat_Int, Int.reduceLT, Int.reduceLE, Int.reduceEq, Int.reduceNeg, eq_self, Option.isNone_some, Option.isNone_none, Bool.bne_false, Bool.bne_true]
  exact k _ h4.m

theorem jsmall3 {w1 : World} {p q : Nat} {σ : Env} (h : JT w w1 p q 2 dD ⟨[[97]], 1, 33⟩) (s1 : σ 1 = ptr p) (s2 : σ 4 = .int .i64 0) (s5 : σ 5 = .int .i64 0) (s6 : σ 6 = .int .i64 0) (s7 : σ 7 = .int .i64 1) (s8 : σ 8 = ptr q) (k : ∀ w', Mod none' w w' → next (.bool true) w') :
    hw Try.prog noPanic h43_3 (endV [.tmp 0] next) σ w1 := by
  obtain ⟨F, S, h⟩ := h
  unfold h43_3
  try simp only [go_sem, ↓reduceIte, Nat.reduceEqDiff, Nat.reduceAdd, Nat.reduceLT, List.length_cons, List.length_nil, List.getElem?_cons_zero, List.getElem?_cons_succ, Nat.mul_one, Bool.true_eq_false, Bool.false_eq_true, false_implies, true_implies, Bool.not_true, Bool.not_false, decide_true, decide_false, Int.reduceToNat, Int.cast_ofNat_Int, Int.reduceLT, Int.reduceLE, Int.reduceEq, Int.reduceNeg, eq_self, Option.isNone_some, Option.isNone_none, Bool.bne_false, Bool.bne_true, s1, s2, s5, s6, s7, s8]
  refine jall_ h.lg ?_
  intro v2 w2 own2 m2 _
  try simp only [go_sem, ↓reduceIte, Nat.reduceEqDiff, Nat.reduceAdd, Nat.reduceLT, List.length_cons, List.length_nil, List.getElem?_cons_zero, List.getElem?_cons_succ, Nat.mul_one, Bool.true_eq_false, Bool.false_eq_true, false_implies, true_implies, Bool.not_true, Bool.not_false, decide_true, decide_false, Int.reduceToNat, Int.cast_ofNat_Int, Int.reduceLT, Int.reduceLE, Int.reduceEq, Int.reduceNeg, eq_self, Option.isNone_some, Option.isNone_none, Bool.bne_false, Bool.bne_true, s1, s2, s5, s6, s7, s8]
  refine bsl1 sl40 (cs := [str [97]]) rfl rfl (by omega) ?_
  intro b3 w3 _ own3 _ m3 _
  refine same__ (a := [[97]]) (b := [[97]]) (n := 1) (m := 1) (own2.sl.mod m3 fun _ _ h => h) own3.sl (by omega) ?_
  intro w4 m4
  have h4 := ((h.mod0 m2).mod0 m3).mod0 m4
  try simp only [go_sem, ↓reduceIte, Nat.reduceEqDiff, Nat.reduceAdd, Nat.reduceLT, List.length_cons, List.length_nil, List.getElem?_cons_zero, List.getElem?_cons_succ, Nat.mul_one, Bool.true_eq_false, Bool.false_eq_true, false_implies, true_implies, Bool.not_true, Bool.not_false, decide_true, decide_false, Int.reduceToNat, Int.cast_ofNat_Int, Int.reduceLT, Int.reduceLE, Int.reduceEq, Int.reduceNeg, eq_self, Option.isNone_some, Option.isNone_none, Bool.bne_false, Bool.bne_true, s1, s2, s5, s6, s7, s8]
  refine bsl2 sl40 rfl rfl ?_
  intro b5 w5 hb5 own5 _ m5 hs5
  have h5 := h4.mod0 m5
  refine rewrite_ h5 (by omega) (rows := [[98], [99]]) (n := 2) own5.sl (fun _ k hk => ?_) (by decide +kernel) ?_
  · have e : b5 = k := by simpa [Value.ownBlock] using hk
    refine ⟨fun hR => ?_, by omega⟩
    have := h4.dr.lt k hR; omega
  intro w6 ⟨F6, S6, h6⟩
  have e6 : (rewriteJ dD ⟨[[97]], 1, 33⟩ 2 [[98], [99]]).2.2 = 0 := xE
  rw [e6]
  have h6 : JS w w6 p q 2 dE _ F6 S6 := h6
  unfold h43_4
  try simp only [go_sem, ↓reduceIte, Nat.reduceEqDiff, Nat.reduceAdd, Nat.reduceLT, List.length_cons, List.length_nil, List.getElem?_cons_zero, List.getElem?_cons_succ, Nat.mul_one, Bool.true_eq_false, Bool.false_eq_true, false_implies, true_implies, Bool.not_true, Bool.not_false, decide_true, decide_false, Int.reduceToNat, Int.cast_ofNat_Int, Int.reduceLT, Int.reduceLE, Int.reduceEq, Int.reduceNeg, eq_self, Option.isNone_some, Option.isNone_none, Bool.bne_false, Bool.bne_true, s1, s2, s5, s6, s7, s8]
  refine crash_ h6.dr sl_nil (fun h => by omega) (by decide +kernel) ?_
  intro w7 st7
  have h7 := h6.disk st7
  try simp only [go_sem, ↓reduceIte, Nat.reduceEqDiff, Nat.reduceAdd, Nat.reduceLT, List.length_cons, List.length_nil, List.getElem?_cons_zero, List.getElem?_cons_succ, Nat.mul_one, Bool.true_eq_false, Bool.false_eq_true, false_implies, true_implies, Bool.not_true, Bool.not_false, decide_true, decide_false, Int.reduceToNat, Int.cast_ofNat_Int, Int.reduceLT, Int.reduceLE, Int.reduceEq, Int.reduceNeg, eq_self, Option.isNone_some, Option.isNone_none, Bool.bne_false, Bool.bne_true, s1, s2, s5, s6, s7, s8]
  refine start_ h7.dr ?_
  intro w8 dr8 m8 _
  have h8 := h7.disk (.of dr8 m8)
  have h8d : DR w8 p dF _ := h8.dr
  try simp only [go_sem, ↓reduceIte, Nat.reduceEqDiff, Nat.reduceAdd, Nat.reduceLT, List.length_cons, List.length_nil, List.getElem?_cons_zero, List.getElem?_cons_succ, Nat.mul_one, Bool.true_eq_false, Bool.false_eq_true, false_implies, true_implies, Bool.not_true, Bool.not_false, decide_true, decide_false, Int.reduceToNat, Int.cast_ofNat_Int, Int.reduceLT, Int.reduceLE, Int.reduceEq, Int.reduceNeg, eq_self, Option.isNone_some, Option.isNone_none, Bool.bne_false, Bool.bne_true, s1, s2, s5, s6, s7, s8]
  have hE0 : openE dF 2 = 0 := by
    have := xF0
    simp only [openE, this, show ((2 : Int)).toNat = 2 from rfl, xFo]; decide
  refine open_ h8d (fun w9 m9 hne => absurd hE0 hne) ?_
  intro g L hg _ _ hL q9 w9 S9 lg9 hS9 m9
  obtain rfl : g = 2 := by omega
  rw [xFo] at hL
  obtain rfl := Option.some.inj hL
  have h9 := JS.opened h8d h8.f0 h8.m lg9 hS9 m9
  try simp only [go_sem, ↓reduceIte, Nat.reduceEqDiff, Nat.reduceAdd, Nat.reduceLT, List.length_cons, List.length_nil, List.getElem?_cons_zero, List.getElem?_cons_succ, Nat.mul_one, Bool.true_eq_false, Bool.false_eq_true, false_implies, true_implies, Bool.not_true, Bool.not_false, decide_true, decide_false, Int.reduceToNat, Int.cast_ofNat_Int, Int.reduceLT, Int.reduceLE, Int.reduceEq, Int.reduceNeg, eq_self, Option.isNone_some, Option.isNone_none, Bool.bne_false, Bool.bne_true, s1, s2, s5, s6, s7, s8]
  exact jsmall5 (L := L0) h9.jt s2 s5 s6 s7 rfl rfl rfl k

theorem jsmall_ (k : ∀ w', Mod none' w w' → next (.bool true) w') : callvK Try.prog (.func (.func 43) #[] #[]) [] w next QP := by
  refine r43 rfl ?_
  unfold h43
  try simp only [go_sem, ↓reduceIte, Nat.reduceEqDiff, Nat.reduceAdd, Nat.reduceLT, List.length_cons, List.length_nil, List.getElem?_cons_zero, List.getElem?_cons_succ, Nat.mul_one, Bool.true_eq_false, Bool.false_eq_true, false_implies, true_implies, Bool.not_true, Bool.not_false, decide_true, decide_false, Int.reduceToNat, Int.cast_ofNat_Int, Int.reduceLT, Int.reduceLE, Int.reduceEq, Int.reduceNeg, eq_self, Option.isNone_some, Option.isNone_none, Bool.bne_false, Bool.bne_true]
  refine new_ ?_
  intro p w1 hp st1
  try simp only [go_sem, ↓reduceIte, Nat.reduceEqDiff, Nat.reduceAdd, Nat.reduceLT, List.length_cons, List.length_nil, List.getElem?_cons_zero, List.getElem?_cons_succ, Nat.mul_one, Bool.true_eq_false, Bool.false_eq_true, false_implies, true_implies, Bool.not_true, Bool.not_false, decide_true, decide_false, Int.reduceToNat, Int.cast_ofNat_Int, Int.reduceLT, Int.reduceLE, Int.reduceEq, Int.reduceNeg, eq_self, Option.isNone_some, Option.isNone_none, Bool.bne_false, Bool.bne_true]
  have hE0 : openE Dk.new 2 = 0 := by decide +kernel
  have hO : openB (Dk.new.file 2) = some L0 := openB_core (s := []) .nil (by decide)
  refine open_ st1.dr (fun w9 m9 hne => absurd hE0 hne) ?_
  intro g L hg _ _ hL q w2 S2 lg2 hS2 m2
  obtain rfl : g = 2 := by omega
  rw [hO] at hL
  obtain rfl := Option.some.inj hL
  have h2 : JS w w2 p q 2 Dk.new L0 st1.foot S2 := JS.opened st1.dr (fun k hk => by rcases st1.footR k hk with h | h; exact h.elim; exact h) (st1.mod.mono fun _ _ h => h) lg2 hS2 m2
  try simp only [go_sem, ↓reduceIte, Nat.reduceEqDiff, Nat.reduceAdd, Nat.reduceLT, List.length_cons, List.length_nil, List.getElem?_cons_zero, List.getElem?_cons_succ, Nat.mul_one, Bool.true_eq_false, Bool.false_eq_true, false_implies, true_implies, Bool.not_true, Bool.not_false, decide_true, decide_false, Int.reduceToNat, Int.cast_ofNat_Int, Int.reduceLT, Int.reduceLE, Int.reduceEq, Int.reduceNeg, eq_self, Option.isNone_some, Option.isNone_none, Bool.bne_false, Bool.bne_true]
  unfold h43_1
  try simp only [go_sem, ↓reduceIte, Nat.reduceEqDiff, Nat.reduceAdd, Nat.reduceLT, List.length_cons, List.length_nil, List.getElem?_cons_zero, List.getElem?_cons_succ, Nat.mul_one, Bool.true_eq_false, Bool.false_eq_true, false_implies, true_implies, Bool.not_true, Bool.not_false, decide_true, decide_false, Int.reduceToNat, Int.cast_ofNat_Int, Int.reduceLT, Int.reduceLE, Int.reduceEq, Int.reduceNeg, eq_self, Option.isNone_some, Option.isNone_none, Bool.bne_false, Bool.bne_true]
  refine append1_ h2 (by decide +kernel) ?_
  intro w3 jt3
  rw [if_pos xA] at jt3
  rw [xA]
  obtain ⟨F3, S3, h3⟩ := jt3
  have h3 : JS w w3 p q 2 dA LA F3 S3 := h3
  try simp only [go_sem, ↓reduceIte, Nat.reduceEqDiff, Nat.reduceAdd, Nat.reduceLT, List.length_cons, List.length_nil, List.getElem?_cons_zero, List.getElem?_cons_succ, Nat.mul_one, Bool.true_eq_false, Bool.false_eq_true, false_implies, true_implies, Bool.not_true, Bool.not_false, decide_true, decide_false, Int.reduceToNat, Int.cast_ofNat_Int, Int.reduceLT, Int.reduceLE, Int.reduceEq, Int.reduceNeg, eq_self, Option.isNone_some, Option.isNone_none, Bool.bne_false, Bool.bne_true]
  refine flushJ_ h3 (by decide +kernel) ?_
  intro w4 jt4
  rw [xB2] at jt4
  rw [xB]
  obtain ⟨F4, S4, h4⟩ := jt4
  have h4 : JS w w4 p q 2 dB LB F4 S4 := h4
  try simp only [go_sem, ↓reduceIte, Nat.reduceEqDiff, Nat.reduceAdd, Nat.reduceLT, List.length_cons, List.length_nil, List.getElem?_cons_zero, List.getElem?_cons_succ, Nat.mul_one, Bool.true_eq_false, Bool.false_eq_true, false_implies, true_implies, Bool.not_true, Bool.not_false, decide_true, decide_false, Int.reduceToNat, Int.cast_ofNat_Int, Int.reduceLT, Int.reduceLE, Int.reduceEq, Int.reduceNeg, eq_self, Option.isNone_some, Option.isNone_none, Bool.bne_false, Bool.bne_true]
  refine append1_ h4 (by decide +kernel) ?_
  intro w5 jt5
  rw [if_pos xC] at jt5
  rw [xC]
  obtain ⟨F5, S5, h5⟩ := jt5
  have h5 : JS w w5 p q 2 dC (LB.add [[98]]) F5 S5 := h5
  try simp only [go_sem, ↓reduceIte, Nat.reduceEqDiff, Nat.reduceAdd, Nat.reduceLT, List.length_cons, List.length_nil, List.getElem?_cons_zero, List.getElem?_cons_succ, Nat.mul_one, Bool.true_eq_false, Bool.false_eq_true, false_implies, true_implies, Bool.not_true, Bool.not_false, decide_true, decide_false, Int.reduceToNat, Int.cast_ofNat_Int, Int.reduceLT, Int.reduceLE, Int.reduceEq, Int.reduceNeg, eq_self, Option.isNone_some, Option.isNone_none, Bool.bne_false, Bool.bne_true]
  refine jsure_ h5.lg ?_
  have e1 : (LB.add [[98]]).sure = 1 := rfl
  rw [e1]
  unfold h43_2
  try simp only [go_sem, ↓reduceIte, Nat.reduceEqDiff, Nat.reduceAdd, Nat.reduceLT, List.length_cons, List.length_nil, List.getElem?_cons_zero, List.getElem?_cons_succ, Nat.mul_one, Bool.true_eq_false, Bool.false_eq_true, false_implies, true_implies, Bool.not_true, Bool.not_false, decide_true, decide_false, Int.reduceToNat, Int.cast_ofNat_Int, Int.reduceLT, Int.reduceLE, Int.reduceEq, Int.reduceNeg, eq_self, Option.isNone_some, Option.isNone_none, Bool.bne_false, Bool.bne_true]
  refine crash_ h5.dr sl_nil (fun h => by omega) (by decide +kernel) ?_
  intro w7 st7
  have h7 := h5.disk st7
  try simp only [go_sem, ↓reduceIte, Nat.reduceEqDiff, Nat.reduceAdd, Nat.reduceLT, List.length_cons, List.length_nil, List.getElem?_cons_zero, List.getElem?_cons_succ, Nat.mul_one, Bool.true_eq_false, Bool.false_eq_true, false_implies, true_implies, Bool.not_true, Bool.not_false, decide_true, decide_false, Int.reduceToNat, Int.cast_ofNat_Int, Int.reduceLT, Int.reduceLE, Int.reduceEq, Int.reduceNeg, eq_self, Option.isNone_some, Option.isNone_none, Bool.bne_false, Bool.bne_true]
  refine start_ h7.dr ?_
  intro w8 dr8 m8 _
  have h8 := h7.disk (.of dr8 m8)
  have h8d : DR w8 p dD _ := h8.dr
  try simp only [go_sem, ↓reduceIte, Nat.reduceEqDiff, Nat.reduceAdd, Nat.reduceLT, List.length_cons, List.length_nil, List.getElem?_cons_zero, List.getElem?_cons_succ, Nat.mul_one, Bool.true_eq_false, Bool.false_eq_true, false_implies, true_implies, Bool.not_true, Bool.not_false, decide_true, decide_false, Int.reduceToNat, Int.cast_ofNat_Int, Int.reduceLT, Int.reduceLE, Int.reduceEq, Int.reduceNeg, eq_self, Option.isNone_some, Option.isNone_none, Bool.bne_false, Bool.bne_true]
  have hE1 : openE dD 2 = 0 := by
    have := xD0
    simp only [openE, this, show ((2 : Int)).toNat = 2 from rfl, xDo]; decide
  refine open_ h8d (fun w9 m9 hne => absurd hE1 hne) ?_
  intro g L hg _ _ hL q9 w9 S9 lg9 hS9 m9
  obtain rfl : g = 2 := by omega
  rw [xDo] at hL
  obtain rfl := Option.some.inj hL
  have h9 := JS.opened h8d h8.f0 h8.m lg9 hS9 m9
  try simp only [go_sem, ↓reduceIte, Nat.reduceEqDiff, Nat.reduceAdd, Nat.reduceLT, List.length_cons, List.length_nil, List.getElem?_cons_zero, List.getElem?_cons_succ, Nat.mul_one, Bool.true_eq_false, Bool.false_eq_true, false_implies, true_implies, Bool.not_true, Bool.not_false, decide_true, decide_false, Int.reduceToNat, Int.cast_ofNat_Int, Int.reduceLT, Int.reduceLE, Int.reduceEq, Int.reduceNeg, eq_self, Option.isNone_some, Option.isNone_none, Bool.bne_false, Bool.bne_true]
  exact jsmall3 h9.jt rfl rfl rfl rfl rfl rfl k
end
end Go.Proofs.Y
