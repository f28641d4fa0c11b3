/- JD: strings.Builder, the forms of rows, and their reading. -/
import Derived.Test.YtgalileklafbbaaJC
set_option linter.unusedSimpArgs false
set_option linter.unusedVariables false
set_option maxRecDepth 100000
namespace Go.Proofs.Y
open Go Go.HL Go.Proofs

structure BR (w0 w : World) (b : Nat) (l : List UInt8) : Prop where
  inv : ∃ pv bv, Blk w b 122 [pv, bv] ∧ (pv = .pointer none ∨ pv = ptr b) ∧ Own w bv 5 1 l.length (bys l) ∧ (∀ k, bv.ownBlock = some k → w0.heap.size ≤ k)
  fb : w0.heap.size ≤ b
  m : Mod none' w0 w

theorem sz120 : szOf Try.prog 120 = some 1 := by kernel_rfl
theorem sz36 : szOf Try.prog 36 = some 1 := by kernel_rfl
theorem ext112a : Extern.findNext Try.f112 = none := by kernel_rfl
theorem ext112b : Extern.find Try.f112 = some Extern.AbiNoEscape.same := by kernel_rfl

section
variable {w : World} {next : Value → World → Prop} {QP : List PanicEntry → World → Prop}

theorem copycheck_ {b : Nat} {pv bv : Value} (h : Blk w b 122 [pv, bv]) (hp : pv = .pointer none ∨ pv = ptr b) (k : ∀ w', Blk w' b 122 [ptr b, bv] → Mod (fun k => k = b) w w' → next (.tuple #[]) w') :
    callvK Try.prog (.func (.func 111) #[] #[]) [ptr b] w next QP := by
  refine r111 rfl ?_
  have c0 := h.cell 0
  have c0 : w.cell? ⟨b, 0, none⟩ = some pv := c0
  unfold h111
  rcases hp with rfl | rfl
  · try simp only [go_sem, ↓reduceIte, Nat.reduceEqDiff, Nat.reduceAdd, Nat.reduceLT, List.length_cons, List.length_nil, List.getElem?_cons_zero, List.getElem?_cons_succ, Nat.mul_one, Bool.true_eq_false, Bool.false_eq_true, false_implies, true_implies, Bool.not_true, Bool.not_false, decide_true, decide_false, Int.reduceToNat, Int.cast_ofNat_Int, Int.reduceLT, Int.reduceLE, Int.reduceEq, Int.reduceNeg, eq_self, Option.isNone_some, Option.isNone_none, Bool.bne_false, Bool.bne_true, c0]
    refine conv_up (t := 122) (by kernel_rfl) (by kernel_rfl) (by kernel_rfl) h (by simp) ?_
    try simp only [go_sem, ↓reduceIte, Nat.reduceEqDiff, Nat.reduceAdd, Nat.reduceLT, List.length_cons, List.length_nil, List.getElem?_cons_zero, List.getElem?_cons_succ, Nat.mul_one, Bool.true_eq_false, Bool.false_eq_true, false_implies, true_implies, Bool.not_true, Bool.not_false, decide_true, decide_false, Int.reduceToNat, Int.cast_ofNat_Int, Int.reduceLT, Int.reduceLE, Int.reduceEq, Int.reduceNeg, eq_self, Option.isNone_some, Option.isNone_none, Bool.bne_false, Bool.bne_true]
    refine same_ Try.func112 (by kernel_rfl) (by kernel_rfl) ext112a ext112b ?_
    try simp only [go_sem, ↓reduceIte, Nat.reduceEqDiff, Nat.reduceAdd, Nat.reduceLT, List.length_cons, List.length_nil, List.getElem?_cons_zero, List.getElem?_cons_succ, Nat.mul_one, Bool.true_eq_false, Bool.false_eq_true, false_implies, true_implies, Bool.not_true, Bool.not_false, decide_true, decide_false, Int.reduceToNat, Int.cast_ofNat_Int, Int.reduceLT, Int.reduceLE, Int.reduceEq, Int.reduceNeg, eq_self, Option.isNone_some, Option.isNone_none, Bool.bne_false, Bool.bne_true]
    refine conv_dn (u := 122) (by kernel_rfl) (by kernel_rfl) (by kernel_rfl) h (by kernel_rfl) ?_
    try simp only [go_sem, ↓reduceIte, Nat.reduceEqDiff, Nat.reduceAdd, Nat.reduceLT, List.length_cons, List.length_nil, List.getElem?_cons_zero, List.getElem?_cons_succ, Nat.mul_one, Bool.true_eq_false, Bool.false_eq_true, false_implies, true_implies, Bool.not_true, Bool.not_false, decide_true, decide_false, Int.reduceToNat, Int.cast_ofNat_Int, Int.reduceLT, Int.reduceLE, Int.reduceEq, Int.reduceNeg, eq_self, Option.isNone_some, Option.isNone_none, Bool.bne_false, Bool.bne_true]
    refine store1 sz120 h (by simp) rfl ?_
    intro w1 h1 m1 _
    try simp only [go_sem, ↓reduceIte, Nat.reduceEqDiff, Nat.reduceAdd, Nat.reduceLT, List.length_cons, List.length_nil, List.getElem?_cons_zero, List.getElem?_cons_succ, Nat.mul_one, Bool.true_eq_false, Bool.false_eq_true, false_implies, true_implies, Bool.not_true, Bool.not_false, decide_true, decide_false, Int.reduceToNat, Int.cast_ofNat_Int, Int.reduceLT, Int.reduceLE, Int.reduceEq, Int.reduceNeg, eq_self, Option.isNone_some, Option.isNone_none, Bool.bne_false, Bool.bne_true]
    exact k _ h1 m1
  · try simp only [go_sem, ↓reduceIte, Nat.reduceEqDiff, Nat.reduceAdd, Nat.reduceLT, List.length_cons, List.length_nil, List.getElem?_cons_zero, List.getElem?_cons_succ, Nat.mul_one, Bool.true_eq_false, Bool.false_eq_true, false_implies, true_implies, Bool.not_true, Bool.not_false, decide_true, decide_false, Int.reduceToNat, Int.cast_ofNat_Int, Int.reduceLT, Int.reduceLE, Int.reduceEq, Int.reduceNeg, eq_self, Option.isNone_some, Option.isNone_none, Bool.bne_false, Bool.bne_true, c0]
    exact k _ h (Mod.refl _ _)

theorem wstr_ {w0 : World} {b : Nat} {l s : List UInt8} (h : BR w0 w b l) (hm : l.length + s.length ≤ 140737488355328) (k : ∀ w' v, BR w0 w' b (l ++ s) → next v w') : callvK Try.prog (.func (.func 107) #[] #[]) [ptr b, str s] w next QP := by
  refine r107 rfl ?_
  obtain ⟨⟨pv, bv, hb, hp, ho, hf⟩, hfb, m⟩ := h
  have hbb : bv.ownBlock ≠ some b := fun e => own_neb ho hb (by decide) e
  unfold h107
  try simp only [go_sem, ↓reduceIte, Nat.reduceEqDiff, Nat.reduceAdd, Nat.reduceLT, List.length_cons, List.length_nil, List.getElem?_cons_zero, List.getElem?_cons_succ, Nat.mul_one, Bool.true_eq_false, Bool.false_eq_true, false_implies, true_implies, Bool.not_true, Bool.not_false, decide_true, decide_false, Int.reduceToNat, Int.cast_ofNat_Int, Int.reduceLT, Int.reduceLE, Int.reduceEq, Int.reduceNeg, eq_self, Option.isNone_some, Option.isNone_none, Bool.bne_false, Bool.bne_true]
  refine copycheck_ hb hp ?_
  intro w1 hb1 m1
  have ho1 := ho.mod m1 fun k hk (e : k = b) => hbb (e ▸ hk)
  have c1 : w1.cell? ⟨b, 1, none⟩ = some bv := hb1.cell 1
  try simp only [go_sem, ↓reduceIte, Nat.reduceEqDiff, Nat.reduceAdd, Nat.reduceLT, List.length_cons, List.length_nil, List.getElem?_cons_zero, List.getElem?_cons_succ, Nat.mul_one, Bool.true_eq_false, Bool.false_eq_true, false_implies, true_implies, Bool.not_true, Bool.not_false, decide_true, decide_false, Int.reduceToNat, Int.cast_ofNat_Int, Int.reduceLT, Int.reduceLE, Int.reduceEq, Int.reduceNeg, eq_self, Option.isNone_some, Option.isNone_none, Bool.bne_false, Bool.bne_true, c1]
  refine appS_ sl36 u9 ho1 hm ?_
  intro v2 w2 own2 m2 hb2
  obtain ⟨ua, uc, rfl, -, -⟩ := own2.form
  have hb2' := hb1.mod m2 fun hS => hbb hS
  refine store1 sz36 hb2' (by simp) rfl ?_
  intro w3 hb3 m3 _
  try simp only [go_sem, ↓reduceIte, Nat.reduceEqDiff, Nat.reduceAdd, Nat.reduceLT, List.length_cons, List.length_nil, List.getElem?_cons_zero, List.getElem?_cons_succ, Nat.mul_one, Bool.true_eq_false, Bool.false_eq_true, false_implies, true_implies, Bool.not_true, Bool.not_false, decide_true, decide_false, Int.reduceToNat, Int.cast_ofNat_Int, Int.reduceLT, Int.reduceLE, Int.reduceEq, Int.reduceNeg, eq_self, Option.isNone_some, Option.isNone_none, Bool.bne_false, Bool.bne_true]
  have hs := m.size
  have hs1 := m1.size
  have hnew : ∀ k, (Value.slice ua (l.length + s.length) uc).ownBlock = some k → w0.heap.size ≤ k ∧ k ≠ b := by
    intro k hk
    rcases hb2 k hk with h' | h'
    · exact ⟨hf k h', fun e => hbb (e ▸ h')⟩
    · have := hb1.lt; exact ⟨by omega, by omega⟩
  refine k _ _ ⟨⟨_, _, by simpa using hb3, .inr rfl, ?_, fun k hk => (hnew k hk).1⟩, hfb, ((m.trans m1 fun k hk (e : k = b) => by omega).trans m2 fun k hk hS => ?_).trans m3 fun k hk (e : k = b) => by omega⟩
  · have := own2.mod m3 fun k hk (e : k = b) => (hnew k hk).2 e
    simpa [bys] using this
  · have := hf k hS; omega

theorem bstr_ {w0 : World} {b : Nat} {l : List UInt8} (h : BR w0 w b l) (hm : l.length ≤ 9223372036854775807) (k : ∀ w', Mod none' w0 w' → next (str l) w') : callvK Try.prog (.func (.func 109) #[] #[]) [ptr b] w next QP := by
  refine r109 rfl ?_
  obtain ⟨⟨pv, bv, hb, hp, ho, hf⟩, hfb, m⟩ := h
  have c1 : w.cell? ⟨b, 1, none⟩ = some bv := hb.cell 1
  obtain ⟨ua, uc, rfl, -, -⟩ := ho.form
  unfold h109
  try simp only [go_sem, ↓reduceIte, Nat.reduceEqDiff, Nat.reduceAdd, Nat.reduceLT, List.length_cons, List.length_nil, List.getElem?_cons_zero, List.getElem?_cons_succ, Nat.mul_one, Bool.true_eq_false, Bool.false_eq_true, false_implies, true_implies, Bool.not_true, Bool.not_false, decide_true, decide_false, Int.reduceToNat, Int.cast_ofNat_Int, Int.reduceLT, Int.reduceLE, Int.reduceEq, Int.reduceNeg, eq_self, Option.isNone_some, Option.isNone_none, Bool.bne_false, Bool.bne_true, c1]
  refine usd_ (e := 5) (by kernel_rfl) (ho.mod (Mod.drew none' w) fun _ _ h => h) ?_
  intro p w1 m1 hpv
  have c1' := (m1.cell (show w.drew.cell? ⟨b, 1, none⟩ = _ from c1) fun h => h)
  try simp only [go_sem, ↓reduceIte, Nat.reduceEqDiff, Nat.reduceAdd, Nat.reduceLT, List.length_cons, List.length_nil, List.getElem?_cons_zero, List.getElem?_cons_succ, Nat.mul_one, Bool.true_eq_false, Bool.false_eq_true, false_implies, true_implies, Bool.not_true, Bool.not_false, decide_true, decide_false, Int.reduceToNat, Int.cast_ofNat_Int, Int.reduceLT, Int.reduceLE, Int.reduceEq, Int.reduceNeg, eq_self, Option.isNone_some, Option.isNone_none, Bool.bne_false, Bool.bne_true, c1']
  refine us_ (e := 5) (by kernel_rfl) (by kernel_rfl) (ho.mod ((Mod.drew none' w).trans' m1) fun _ _ h => h) hpv hm ?_
  intro w2 m2
  try simp only [go_sem, ↓reduceIte, Nat.reduceEqDiff, Nat.reduceAdd, Nat.reduceLT, List.length_cons, List.length_nil, List.getElem?_cons_zero, List.getElem?_cons_succ, Nat.mul_one, Bool.true_eq_false, Bool.false_eq_true, false_implies, true_implies, Bool.not_true, Bool.not_false, decide_true, decide_false, Int.reduceToNat, Int.cast_ofNat_Int, Int.reduceLT, Int.reduceLE, Int.reduceEq, Int.reduceNeg, eq_self, Option.isNone_some, Option.isNone_none, Bool.bne_false, Bool.bne_true]
  refine k _ (((m.trans' (Mod.drew none' w)).trans' m1).trans m2 fun k hk hS => ?_)
  have := hf k hS; omega

def formB (r : List UInt8) : List UInt8 := num r.length ++ num (crc r : Nat) ++ r
def formsB (l : List (List UInt8)) : List UInt8 := l.flatMap formB
theorem formB_len (r : List UInt8) : (formB r).length = 16 + r.length := by simp [formB, num_len]; omega
theorem formsB_app (l m : List (List UInt8)) : formsB (l ++ m) = formsB l ++ formsB m := by simp [formsB]
theorem formsB_take {l : List (List UInt8)} {i : Nat} (h : i < l.length) : formsB (l.take (i + 1)) = formsB (l.take i) ++ formB l[i] := by
  rw [List.take_succ_eq_append_getElem h, formsB_app]; simp [formsB]
theorem formsB_le {l : List (List UInt8)} {i : Nat} : (formsB (l.take i)).length ≤ (formsB l).length := by
  have : formsB l = formsB (l.take i) ++ formsB (l.drop i) := by rw [← formsB_app, List.take_append_drop]
  rw [this, List.length_append]; omega

theorem forms_ {v : Value} {l : List (List UInt8)} {n : Nat} (hl : Sl w v 1 n (l.map str)) (hm : (formsB l).length ≤ 1000000000000) (k : ∀ w', Mod none' w w' → next (str (formsB l)) w') :
    callvK Try.prog (.func (.func 85) #[] #[]) [v] w next QP := by
  refine r85 rfl ?_
  have hln : l.length = n := by have := hl.len; simpa using this
  obtain ⟨a, c, rfl, hc, hcell⟩ := hl.form
  unfold h85
  try simp only [go_sem, ↓reduceIte, Nat.reduceEqDiff, Nat.reduceAdd, Nat.reduceLT, List.length_cons, List.length_nil, List.getElem?_cons_zero, List.getElem?_cons_succ, Nat.mul_one, Bool.true_eq_false, Bool.false_eq_true, false_implies, true_implies, Bool.not_true, Bool.not_false, decide_true, decide_false, Int.reduceToNat, Int.cast_ofNat_Int, Int.reduceLT, Int.reduceLE, Int.reduceEq, Int.reduceNeg, eq_self, Option.isNone_some, Option.isNone_none, Bool.bne_false, Bool.bne_true]
  refine alloc_ (z := .agg #[.pointer none, .slice none 0 0]) (cs := [.pointer none, .slice none 0 0]) (by kernel_rfl) rfl ?_
  intro b w1 hb blk1 m1 hs1
  have hbr : BR w w1 b [] := ⟨⟨_, _, blk1, .inl rfl, Own.nil _ _ _, fun k hk => (nomatch (hk : none = some k))⟩, by omega, m1⟩
  try simp only [go_sem, ↓reduceIte, Nat.reduceEqDiff, Nat.reduceAdd, Nat.reduceLT, List.length_cons, List.length_nil, List.getElem?_cons_zero, List.getElem?_cons_succ, Nat.mul_one, Bool.true_eq_false, Bool.false_eq_true, false_implies, true_implies, Bool.not_true, Bool.not_false, decide_true, decide_false, Int.reduceToNat, Int.cast_ofNat_Int, Int.reduceLT, Int.reduceLE, Int.reduceEq, Int.reduceNeg, eq_self, Option.isNone_some, Option.isNone_none, Bool.bne_false, Bool.bne_true]
  refine loopN n (fun i τ w' => τ 3 = ptr b ∧ τ 6 = .slice a n c ∧ τ 7 = .int .i64 n ∧ τ 8 = .int .i64 i ∧ BR w w' b (formsB (l.take i))) ⟨0, by omega, rfl, rfl, rfl, rfl, hbr⟩ ?_
  rintro i τ w2 hi ⟨t3, t6, t7, t8, hbr⟩
  have hle := formsB_le (l := l) (i := i)
  have hnb : n ≤ 1000000000000 := by
    have : ∀ l : List (List UInt8), l.length ≤ (formsB l).length := by
      intro l
      induction l with
      | nil => simp
      | cons x l ih => simp only [formsB, List.flatMap_cons, List.length_append, List.length_cons, formB_len] at ih ⊢; omega
    have := this l; omega
  unfold h85_1
  try simp only [go_sem, ↓reduceIte, Nat.reduceEqDiff, Nat.reduceAdd, Nat.reduceLT, List.length_cons, List.length_nil, List.getElem?_cons_zero, List.getElem?_cons_succ, Nat.mul_one, Bool.true_eq_false, Bool.false_eq_true, false_implies, true_implies, Bool.not_true, Bool.not_false, decide_true, decide_false, Int.reduceToNat, Int.cast_ofNat_Int, Int.reduceLT, Int.reduceLE, Int.reduceEq, Int.reduceNeg, eq_self, Option.isNone_some, Option.isNone_none, Bool.bne_false, Bool.bne_true, t3, t6, t7, t8]
  refine ⟨fun hlt => ?_, fun hge => ?_⟩
  · have hin : i < n := by
      have : (i : Int) < n := by simpa using hlt
      omega
    obtain ⟨g, o, rfl, hcl⟩ := hcell (by omega)
    have hci : w2.cell? ⟨g, o + i, none⟩ = some (str (l[i]'(by omega))) := by
      have h1 := hcl i (by omega)
      rw [List.getElem?_map, List.getElem?_eq_getElem (by omega)] at h1
      exact hbr.m.cell h1 fun h => h
    have hfs := formsB_take (l := l) (i := i) (by omega)
    have hle1 := formsB_le (l := l) (i := i + 1)
    have hfl := formB_len (l[i]'(by omega))
    have hlen1 := congrArg List.length hfs
    rw [List.length_append] at hlen1
    unfold h85_2
    try simp only [go_sem, ↓reduceIte, Nat.reduceEqDiff, Nat.reduceAdd, Nat.reduceLT, List.length_cons, List.length_nil, List.getElem?_cons_zero, List.getElem?_cons_succ, Nat.mul_one, Bool.true_eq_false, Bool.false_eq_true, false_implies, true_implies, Bool.not_true, Bool.not_false, decide_true, decide_false, Int.reduceToNat, Int.cast_ofNat_Int, Int.reduceLT, Int.reduceLE, Int.reduceEq, Int.reduceNeg, eq_self, Option.isNone_some, Option.isNone_none, Bool.bne_false, Bool.bne_true, t3, t6, t7, t8, hci]
    repeat refine ⟨⟨by omega, by omega⟩, ?_⟩
    refine number_ _ ?_
    intro w3 m3
    try simp only [go_sem, ↓reduceIte, Nat.reduceEqDiff, Nat.reduceAdd, Nat.reduceLT, List.length_cons, List.length_nil, List.getElem?_cons_zero, List.getElem?_cons_succ, Nat.mul_one, Bool.true_eq_false, Bool.false_eq_true, false_implies, true_implies, Bool.not_true, Bool.not_false, decide_true, decide_false, Int.reduceToNat, Int.cast_ofNat_Int, Int.reduceLT, Int.reduceLE, Int.reduceEq, Int.reduceNeg, eq_self, Option.isNone_some, Option.isNone_none, Bool.bne_false, Bool.bne_true, t3, t6, t7, t8]
    refine crc_ _ (by omega) ?_
    try simp only [go_sem, ↓reduceIte, Nat.reduceEqDiff, Nat.reduceAdd, Nat.reduceLT, List.length_cons, List.length_nil, List.getElem?_cons_zero, List.getElem?_cons_succ, Nat.mul_one, Bool.true_eq_false, Bool.false_eq_true, false_implies, true_implies, Bool.not_true, Bool.not_false, decide_true, decide_false, Int.reduceToNat, Int.cast_ofNat_Int, Int.reduceLT, Int.reduceLE, Int.reduceEq, Int.reduceNeg, eq_self, Option.isNone_some, Option.isNone_none, Bool.bne_false, Bool.bne_true, t3, t6, t7, t8]
    refine number_ _ ?_
    intro w4 m4
    have hn1 := num_len ((l[i]'(by omega)).length : Nat)
    have hn2 := num_len (crc (l[i]'(by omega)) : Nat)
    try simp only [go_sem, ↓reduceIte, Nat.reduceEqDiff, Nat.reduceAdd, Nat.reduceLT, List.length_cons, List.length_nil, List.getElem?_cons_zero, List.getElem?_cons_succ, Nat.mul_one, Bool.true_eq_false, Bool.false_eq_true, false_implies, true_implies, Bool.not_true, Bool.not_false, decide_true, decide_false, Int.reduceToNat, Int.cast_ofNat_Int, Int.reduceLT, Int.reduceLE, Int.reduceEq, Int.reduceNeg, eq_self, Option.isNone_some, Option.isNone_none, Bool.bne_false, Bool.bne_true, t3, t6, t7, t8]
    simp only [List.length_append]
    refine ⟨by omega, by omega, ?_⟩
    have hbr4 : BR w w4 b (formsB (l.take i)) := by
      obtain ⟨⟨pv, bv, hb, hp, ho, hf⟩, hfb, m⟩ := hbr
      have m34 := m3.trans' m4
      exact ⟨⟨pv, bv, hb.mod m34 fun h => h, hp, ho.mod m34 fun _ _ h => h, hf⟩, hfb, m.trans' m34⟩
    refine wstr_ hbr4 (by rw [List.length_append, List.length_append]; omega) ?_
    intro w5 v5 hbr5
    unfold h85_3
    try simp only [go_sem, ↓reduceIte, Nat.reduceEqDiff, Nat.reduceAdd, Nat.reduceLT, List.length_cons, List.length_nil, List.getElem?_cons_zero, List.getElem?_cons_succ, Nat.mul_one, Bool.true_eq_false, Bool.false_eq_true, false_implies, true_implies, Bool.not_true, Bool.not_false, decide_true, decide_false, Int.reduceToNat, Int.cast_ofNat_Int, Int.reduceLT, Int.reduceLE, Int.reduceEq, Int.reduceNeg, eq_self, Option.isNone_some, Option.isNone_none, Bool.bne_false, Bool.bne_true, t3, t6, t7, t8]
    rw [w64 (by omega) (by omega)]
    refine ⟨i + 1, by omega, by omega, rfl, ?_⟩
    rw [hfs]; exact hbr5
  · have hio : i = n := by
      have : ¬ (i : Int) < n := by simpa using hge
      omega
    subst hio
    rw [List.take_of_length_le (by omega)] at hbr
    unfold h85_4
    try simp only [go_sem, ↓reduceIte, Nat.reduceEqDiff, Nat.reduceAdd, Nat.reduceLT, List.length_cons, List.length_nil, List.getElem?_cons_zero, List.getElem?_cons_succ, Nat.mul_one, Bool.true_eq_false, Bool.false_eq_true, false_implies, true_implies, Bool.not_true, Bool.not_false, decide_true, decide_false, Int.reduceToNat, Int.cast_ofNat_Int, Int.reduceLT, Int.reduceLE, Int.reduceEq, Int.reduceNeg, eq_self, Option.isNone_some, Option.isNone_none, Bool.bne_false, Bool.bne_true, t3]
    refine bstr_ hbr (by omega) ?_
    intro w3 m3
    try simp only [go_sem, ↓reduceIte, Nat.reduceEqDiff, Nat.reduceAdd, Nat.reduceLT, List.length_cons, List.length_nil, List.getElem?_cons_zero, List.getElem?_cons_succ, Nat.mul_one, Bool.true_eq_false, Bool.false_eq_true, false_implies, true_implies, Bool.not_true, Bool.not_false, decide_true, decide_false, Int.reduceToNat, Int.cast_ofNat_Int, Int.reduceLT, Int.reduceLE, Int.reduceEq, Int.reduceNeg, eq_self, Option.isNone_some, Option.isNone_none, Bool.bne_false, Bool.bne_true]
    exact k _ m3

/-! ### the reading of forms -/
def splitB (s : List UInt8) : Option (List (List UInt8)) :=
  if h0 : s = [] then some []
  else if h : s.length < 16 then none
  else if val s < 0 ∨ ((s.drop 16).length : Int) < val s then none
  else if (crc ((s.drop 16).take (val s).toNat) : Int) ≠ val (s.drop 8) then none
  else (splitB ((s.drop 16).drop (val s).toNat)).map fun l => (s.drop 16).take (val s).toNat :: l
termination_by s.length
decreasing_by
  have := List.length_pos_iff.2 h0
  simp; omega

theorem split_ {s : List UInt8} (hs : s.length ≤ 1000000000000) (kn : splitB s = none → ∀ w', Mod none' w w' → next (.tuple #[.slice none 0 0, .bool false]) w')
    (ks : ∀ l, splitB s = some l → ∀ v w', Mod none' w w' → Own w' v 9 1 l.length (l.map str) → (∀ k, v.ownBlock = some k → w.heap.size ≤ k) → next (.tuple #[v, .bool true]) w') :
    callvK Try.prog (.func (.func 81) #[] #[]) [str s] w next QP := by
  refine r81 rfl ?_
  unfold h81
  try simp only [go_sem, ↓reduceIte, Nat.reduceEqDiff, Nat.reduceAdd, Nat.reduceLT, List.length_cons, List.length_nil, List.getElem?_cons_zero, List.getElem?_cons_succ, Nat.mul_one, Bool.true_eq_false, Bool.false_eq_true, false_implies, true_implies, Bool.not_true, Bool.not_false, decide_true, decide_false, Int.reduceToNat, Int.cast_ofNat_Int, Int.reduceLT, Int.reduceLE, Int.reduceEq, Int.reduceNeg, eq_self, Option.isNone_some, Option.isNone_none, Bool.bne_false, Bool.bne_true]
  refine loopN s.length (fun i τ w' => Mod none' w w' ∧ ∃ (r : List UInt8) (l : List (List UInt8)) (v : Value), τ 0 = str r ∧ τ 2 = v ∧ r.length = s.length - i ∧ l.length ≤ i ∧ splitB s = (splitB r).map (fun m => l ++ m) ∧ Own w' v 9 1 l.length (l.map str) ∧ (∀ k, v.ownBlock = some k → w.heap.size ≤ k))
    ⟨0, by omega, Mod.refl _ _, s, [], .slice none 0 0, rfl, rfl, rfl, Nat.le_refl _, by simp, Own.nil _ _ _, fun k hk => (nomatch (hk : none = some k))⟩ ?_
  rintro i τ w1 hi ⟨m1, r, l, v, t0, t2, hr, hli, hsp, hv, hvn⟩
  unfold h81_1
  try simp only [go_sem, ↓reduceIte, Nat.reduceEqDiff, Nat.reduceAdd, Nat.reduceLT, List.length_cons, List.length_nil, List.getElem?_cons_zero, List.getElem?_cons_succ, Nat.mul_one, Bool.true_eq_false, Bool.false_eq_true, false_implies, true_implies, Bool.not_true, Bool.not_false, decide_true, decide_false, Int.reduceToNat, Int.cast_ofNat_Int, Int.reduceLT, Int.reduceLE, Int.reduceEq, Int.reduceNeg, eq_self, Option.isNone_some, Option.isNone_none, Bool.bne_false, Bool.bne_true, t0, t2]
  refine ⟨fun hgt => ?_, fun hle => ?_⟩
  · have hr0 : 0 < r.length := by
      have : (0 : Int) < r.length := by simpa using hgt
      omega
    have hrne : r ≠ [] := List.length_pos_iff.1 hr0
    unfold h81_2
    try simp only [go_sem, ↓reduceIte, Nat.reduceEqDiff, Nat.reduceAdd, Nat.reduceLT, List.length_cons, List.length_nil, List.getElem?_cons_zero, List.getElem?_cons_succ, Nat.mul_one, Bool.true_eq_false, Bool.false_eq_true, false_implies, true_implies, Bool.not_true, Bool.not_false, decide_true, decide_false, Int.reduceToNat, Int.cast_ofNat_Int, Int.reduceLT, Int.reduceLE, Int.reduceEq, Int.reduceNeg, eq_self, Option.isNone_some, Option.isNone_none, Bool.bne_false, Bool.bne_true, t0, t2]
    refine ⟨fun h16 => ?_, fun h16 => ?_⟩
    · have h16 : r.length < 16 := by
        have : (r.length : Int) < 16 := by simpa using h16
        omega
      refine kn ?_ w1 m1
      rw [hsp, splitB]; simp [hrne, h16]
    · have h16 : ¬ r.length < 16 := by
        have : ¬ (r.length : Int) < 16 := by simpa using h16
        omega
      unfold h81_3
      try simp only [go_sem, ↓reduceIte, Nat.reduceEqDiff, Nat.reduceAdd, Nat.reduceLT, List.length_cons, List.length_nil, List.getElem?_cons_zero, List.getElem?_cons_succ, Nat.mul_one, Bool.true_eq_false, Bool.false_eq_true, false_implies, true_implies, Bool.not_true, Bool.not_false, decide_true, decide_false, Int.reduceToNat, Int.cast_ofNat_Int, Int.reduceLT, Int.reduceLE, Int.reduceEq, Int.reduceNeg, eq_self, Option.isNone_some, Option.isNone_none, Bool.bne_false, Bool.bne_true, t0, t2]
      refine ⟨by omega, ?_⟩
      refine value_ r (by omega) ?_
      have hd8 : (r.drop 8).length = r.length - 8 := List.length_drop
      have hd16 : (r.drop 16).length = r.length - 16 := List.length_drop
      try simp only [go_sem, ↓reduceIte, Nat.reduceEqDiff, Nat.reduceAdd, Nat.reduceLT, List.length_cons, List.length_nil, List.getElem?_cons_zero, List.getElem?_cons_succ, Nat.mul_one, Bool.true_eq_false, Bool.false_eq_true, false_implies, true_implies, Bool.not_true, Bool.not_false, decide_true, decide_false, Int.reduceToNat, Int.cast_ofNat_Int, Int.reduceLT, Int.reduceLE, Int.reduceEq, Int.reduceNeg, eq_self, Option.isNone_some, Option.isNone_none, Bool.bne_false, Bool.bne_true, t0, t2]
      refine value_ (r.drop 8) (by omega) ?_
      have eb : (if decide (val r < 0) = true then true else decide (((r.drop 16).length : Int) < val r)) = decide (val r < 0 ∨ ((r.drop 16).length : Int) < val r) := by
        by_cases h : val r < 0 <;> simp [h]
      have m1d := m1.trans' (Mod.drew none' w1)
      by_cases hbad : val r < 0 ∨ ((r.drop 16).length : Int) < val r
      · have hd := decide_eq_true hbad
        try simp only [go_sem, ↓reduceIte, Nat.reduceEqDiff, Nat.reduceAdd, Nat.reduceLT, List.length_cons, List.length_nil, List.getElem?_cons_zero, List.getElem?_cons_succ, Nat.mul_one, Bool.true_eq_false, Bool.false_eq_true, false_implies, true_implies, Bool.not_true, Bool.not_false, decide_true, decide_false, Int.reduceToNat, Int.cast_ofNat_Int, Int.reduceLT, Int.reduceLE, Int.reduceEq, Int.reduceNeg, eq_self, Option.isNone_some, Option.isNone_none, Bool.bne_false, Bool.bne_true, eb, hd]
        refine ⟨by omega, ?_⟩
        refine kn ?_ _ m1d
        rw [hsp, splitB]; simp only [hrne, dif_neg, not_false_eq_true, h16, if_pos hbad, Option.map_none]
      · have hd := decide_eq_false hbad
        obtain ⟨x, hx⟩ := Int.eq_ofNat_of_zero_le (show 0 ≤ val r by omega)
        have hsx : splitB r = if (crc ((r.drop 16).take x) : Int) ≠ val (r.drop 8) then none else (splitB ((r.drop 16).drop x)).map fun l => (r.drop 16).take x :: l := by
          rw [splitB]; simp only [hrne, dif_neg, not_false_eq_true, h16, if_neg hbad]; simp only [hx, Int.toNat_natCast]
        rw [hx] at eb hd
        try simp only [go_sem, ↓reduceIte, Nat.reduceEqDiff, Nat.reduceAdd, Nat.reduceLT, List.length_cons, List.length_nil, List.getElem?_cons_zero, List.getElem?_cons_succ, Nat.mul_one, Bool.true_eq_false, Bool.false_eq_true, false_implies, true_implies, Bool.not_true, Bool.not_false, decide_true, decide_false, Int.reduceToNat, Int.cast_ofNat_Int, Int.reduceLT, Int.reduceLE, Int.reduceEq, Int.reduceNeg, eq_self, Option.isNone_some, Option.isNone_none, Bool.bne_false, Bool.bne_true, hx, eb, hd]
        refine ⟨by omega, ⟨by omega, by omega⟩, ?_⟩
        refine crc_ _ (by rw [List.length_take]; omega) ?_
        try simp only [go_sem, ↓reduceIte, Nat.reduceEqDiff, Nat.reduceAdd, Nat.reduceLT, List.length_cons, List.length_nil, List.getElem?_cons_zero, List.getElem?_cons_succ, Nat.mul_one, Bool.true_eq_false, Bool.false_eq_true, false_implies, true_implies, Bool.not_true, Bool.not_false, decide_true, decide_false, Int.reduceToNat, Int.cast_ofNat_Int, Int.reduceLT, Int.reduceLE, Int.reduceEq, Int.reduceNeg, eq_self, Option.isNone_some, Option.isNone_none, Bool.bne_false, Bool.bne_true, hx, eb, hd]
        refine ⟨fun hc => ?_, fun hc => ?_⟩
        · have hc : ¬ (crc ((r.drop 16).take x) : Int) = val (r.drop 8) := by simpa using hc
          refine kn ?_ _ m1d
          rw [hsp, hsx, if_pos hc]; rfl
        · have hc : (crc ((r.drop 16).take x) : Int) = val (r.drop 8) := by simpa using hc
          rw [if_neg (fun h => h hc)] at hsx
          have hdx : ((r.drop 16).drop x).length = r.length - 16 - x := by rw [List.length_drop, hd16]
          unfold h81_4
          try simp only [go_sem, ↓reduceIte, Nat.reduceEqDiff, Nat.reduceAdd, Nat.reduceLT, List.length_cons, List.length_nil, List.getElem?_cons_zero, List.getElem?_cons_succ, Nat.mul_one, Bool.true_eq_false, Bool.false_eq_true, false_implies, true_implies, Bool.not_true, Bool.not_false, decide_true, decide_false, Int.reduceToNat, Int.cast_ofNat_Int, Int.reduceLT, Int.reduceLE, Int.reduceEq, Int.reduceNeg, eq_self, Option.isNone_some, Option.isNone_none, Bool.bne_false, Bool.bne_true, t0, t2, hx]
          repeat refine ⟨⟨by omega, by omega⟩, ?_⟩
          refine bsl1 sl40 (cs := [str ((r.drop 16).take x)]) rfl rfl (by omega) ?_
          intro b2 w2 hb2 own2 _ m2 _
          refine append_ sl40 ((hv.mod (Mod.drew none' w1) fun _ _ h => h).mod ((Mod.drew none' _).trans' m2) fun _ _ h => h) own2.sl (by intro u hu; rw [List.mem_singleton.1 hu]; rfl) (by omega) (by unfold maxLen; omega) ?_
          intro v3 w3 own3 m3 hb3 _
          try simp only [go_sem, ↓reduceIte, Nat.reduceEqDiff, Nat.reduceAdd, Nat.reduceLT, List.length_cons, List.length_nil, List.getElem?_cons_zero, List.getElem?_cons_succ, Nat.mul_one, Bool.true_eq_false, Bool.false_eq_true, false_implies, true_implies, Bool.not_true, Bool.not_false, decide_true, decide_false, Int.reduceToNat, Int.cast_ofNat_Int, Int.reduceLT, Int.reduceLE, Int.reduceEq, Int.reduceNeg, eq_self, Option.isNone_some, Option.isNone_none, Bool.bne_false, Bool.bne_true, t0, t2, hx]
          repeat refine ⟨⟨by omega, by omega⟩, ?_⟩
          have m2' : Mod none' w w2 := (m1d.trans' (Mod.drew none' _)).trans' m2
          refine ⟨s.length - ((r.drop 16).drop x).length, by omega, by omega, m2'.trans m3 fun k hk hS => ?_, (r.drop 16).drop x, l ++ [(r.drop 16).take x], v3, rfl, rfl, by omega, by simp; omega, ?_, ?_, ?_⟩
          · have := hvn k hS; omega
          · rw [hsp, hsx, Option.map_map]; congr 1; funext m; simp
          · have : (l ++ [(r.drop 16).take x]).map str = l.map str ++ [str ((r.drop 16).take x)] := by simp
            rw [this, List.length_append]; exact own3
          · intro k hk
            rcases hb3 k hk with h' | h'
            · exact hvn k h'
            · have := m2'.size; omega
  · have hr0 : r = [] := by
      have : ¬ (0 : Int) < r.length := by simpa using hle
      exact List.eq_nil_of_length_eq_zero (by omega)
    subst hr0
    have hsn : splitB s = some l := by rw [hsp, splitB]; simp
    unfold h81_5
    try simp only [go_sem, ↓reduceIte, Nat.reduceEqDiff, Nat.reduceAdd, Nat.reduceLT, List.length_cons, List.length_nil, List.getElem?_cons_zero, List.getElem?_cons_succ, Nat.mul_one, Bool.true_eq_false, Bool.false_eq_true, false_implies, true_implies, Bool.not_true, Bool.not_false, decide_true, decide_false, Int.reduceToNat, Int.cast_ofNat_Int, Int.reduceLT, Int.reduceLE, Int.reduceEq, Int.reduceNeg, eq_self, Option.isNone_some, Option.isNone_none, Bool.bne_false, Bool.bne_true, t2]
    exact ks l hsn v w1 m1 hv hvn
end
end Go.Proofs.Y
