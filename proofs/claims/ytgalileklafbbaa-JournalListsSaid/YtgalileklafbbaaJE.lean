/- JE: the log in memory; Open. -/
import Derived.Test.YtgalileklafbbaaJD
import Derived.Test.YtgalileklafbbaaDO
set_option linter.unusedSimpArgs false
set_option linter.unusedVariables false
set_option maxRecDepth 100000
namespace Go.Proofs.Y
open Go Go.HL Go.Proofs

structure Lg where
  rows : List Bytes
  sure : Nat
  end_ : Nat

structure LG (w : World) (q p f : Nat) (L : Lg) (S : Nat → Prop) : Prop where
  inv : ∃ rv, Blk w q 102 [ptr p, .int .i64 f, rv, .int .i64 L.sure, .int .i64 L.end_] ∧ Own w rv 9 1 L.rows.length (L.rows.map str) ∧ (∀ k, rv.ownBlock = some k → S k)
  self : S q
  lt : ∀ k, S k → k < w.heap.size
  bd : L.end_ ≤ 16777216
  rb : L.rows.length * 16 + 16 ≤ L.end_

theorem splitB_len : ∀ (n : Nat) (s : Bytes) (l : List Bytes), s.length ≤ n → splitB s = some l → l.length * 16 ≤ s.length
  | 0, s, l, hn, h => by
    obtain rfl : s = [] := List.eq_nil_of_length_eq_zero (by omega)
    rw [splitB] at h; simp at h; subst h; simp
  | n + 1, s, l, hn, h => by
    rw [splitB] at h
    by_cases h0 : s = []
    · rw [dif_pos h0] at h; simp at h; subst h; simp
    rw [dif_neg h0] at h
    by_cases h1 : s.length < 16
    · rw [dif_pos h1] at h; cases h
    rw [dif_neg h1] at h
    split at h
    · cases h
    split at h
    · cases h
    obtain ⟨l', h2, rfl⟩ := Option.map_eq_some_iff.1 h
    have := splitB_len n _ l' (by simp; omega) h2
    simp at this ⊢; omega

theorem LG.mod {w w' : World} {q p f : Nat} {L : Lg} {S T : Nat → Prop} (h : LG w q p f L S) (m : Mod T w w') (hd : ∀ k, S k → ¬ T k) : LG w' q p f L S := by
  obtain ⟨⟨rv, hb, ho, h1⟩, hs, hl, b1, b2⟩ := h
  exact ⟨⟨rv, hb.mod m (hd _ hs), ho.mod m fun k hk => hd _ (h1 k hk), h1⟩, hs, fun k hk => Nat.lt_of_lt_of_le (hl k hk) m.size, b1, b2⟩
theorem LG.mod0 {w w' : World} {q p f : Nat} {L : Lg} {S : Nat → Prop} (h : LG w q p f L S) (m : Mod none' w w') : LG w' q p f L S := h.mod m fun _ _ h => h
theorem LG.parts {w : World} {q p f : Nat} {L : Lg} {S : Nat → Prop} (h : LG w q p f L S) : ∃ rv, Blk w q 102 [ptr p, .int .i64 f, rv, .int .i64 L.sure, .int .i64 L.end_] ∧ Own w rv 9 1 L.rows.length (L.rows.map str) ∧ (∀ k, rv.ownBlock = some k → S k ∧ k ≠ q) ∧
    w.cell? ⟨q, 0, none⟩ = some (ptr p) ∧ w.cell? ⟨q, 1, none⟩ = some (.int .i64 f) ∧ w.cell? ⟨q, 2, none⟩ = some rv ∧ w.cell? ⟨q, 3, none⟩ = some (.int .i64 L.sure) ∧ w.cell? ⟨q, 4, none⟩ = some (.int .i64 L.end_) := by
  obtain ⟨⟨rv, hb, ho, h1⟩, hs, hl, -, -⟩ := h
  refine ⟨rv, hb, ho, fun k hk => ⟨h1 k hk, ?_⟩, hb.cell 0, hb.cell 1, hb.cell 2, hb.cell 3, hb.cell 4⟩
  rintro rfl; exact own_neb ho hb (by decide) hk

def openB (s : Bytes) : Option Lg :=
  if s.length < 16 ∨ val s = 0 then some ⟨[], 0, 16⟩
  else if val s < 16 ∨ (s.length : Int) < val s then none
  else match splitB ((s.take (val s).toNat).drop 16) with
    | none => none
    | some l => if (l.length : Int) = val (s.drop 8) then some ⟨l, l.length, (val s).toNat⟩ else none

def openE (d : Dk) (f : Int) : Int := if f < 0 ∨ 6 < f then 1 else if d.may [f] ≠ 0 then d.may [f] else if (openB (d.file f.toNat)).isNone then 2 else 0

theorem sz3' : szOf Try.prog 3 = some 1 := by kernel_rfl
theorem sz40 : szOf Try.prog 40 = some 1 := by kernel_rfl

section
variable {w : World} {next : Value → World → Prop} {QP : List PanicEntry → World → Prop}

theorem open_ {p : Nat} {d : Dk} {F : FP} (h : DR w p d F) {f : Int}
    (kn : ∀ w', Mod none' w w' → openE d f ≠ 0 → next (.tuple #[.pointer none, .int .i64 (openE d f)]) w')
    (ks : ∀ (g : Nat) (L : Lg), f = g → g ≤ 6 → d.may [f] = 0 → openB (d.file g) = some L → ∀ q w' S, LG w' q p g L S → (∀ k, S k → w.heap.size ≤ k) → Mod none' w w' → next (.tuple #[ptr q, .int .i64 0]) w') :
    callvK Try.prog (.func (.func 44) #[] #[]) [ptr p, .int .i64 f] w next QP := by
  refine r44 rfl ?_
  have ef : (if decide (f < 0) = true then true else decide (6 < f)) = decide (f < 0 ∨ 6 < f) := by by_cases h : f < 0 <;> simp [h]
  unfold h44
  try simp only [go_sem, ↓reduceIte, Nat.reduceEqDiff, Nat.reduceAdd, Nat.reduceLT, List.length_cons, List.length_nil, List.getElem?_cons_zero, List.getElem?_cons_succ, Nat.mul_one, Bool.true_eq_false, Bool.false_eq_true, false_implies, true_implies, Bool.not_true, Bool.not_false, decide_true, decide_false, Int.reduceToNat, Int.cast_ofNat_Int, Int.reduceLT, Int.reduceLE, Int.reduceEq, Int.reduceNeg, eq_self, Option.isNone_some, Option.isNone_none, Bool.bne_false, Bool.bne_true, ef]
  refine ⟨fun hf => ?_, fun hf => ?_⟩
  · have hf : f < 0 ∨ 6 < f := by simpa using hf
    have := kn w (Mod.refl _ _)
    simp only [openE, if_pos hf] at this
    exact this (by decide)
  have hf : ¬ (f < 0 ∨ 6 < f) := by simpa using hf
  obtain ⟨g, rfl⟩ := Int.eq_ofNat_of_zero_le (show 0 ≤ f by omega)
  unfold h44_1
  try simp only [go_sem, ↓reduceIte, Nat.reduceEqDiff, Nat.reduceAdd, Nat.reduceLT, List.length_cons, List.length_nil, List.getElem?_cons_zero, List.getElem?_cons_succ, Nat.mul_one, Bool.true_eq_false, Bool.false_eq_true, false_implies, true_implies, Bool.not_true, Bool.not_false, decide_true, decide_false, Int.reduceToNat, Int.cast_ofNat_Int, Int.reduceLT, Int.reduceLE, Int.reduceEq, Int.reduceNeg, eq_self, Option.isNone_some, Option.isNone_none, Bool.bne_false, Bool.bne_true]
  refine read_ h g ?_
  intro w1 h1 m1
  try simp only [go_sem, ↓reduceIte, Nat.reduceEqDiff, Nat.reduceAdd, Nat.reduceLT, List.length_cons, List.length_nil, List.getElem?_cons_zero, List.getElem?_cons_succ, Nat.mul_one, Bool.true_eq_false, Bool.false_eq_true, false_implies, true_implies, Bool.not_true, Bool.not_false, decide_true, decide_false, Int.reduceToNat, Int.cast_ofNat_Int, Int.reduceLT, Int.reduceLE, Int.reduceEq, Int.reduceNeg, eq_self, Option.isNone_some, Option.isNone_none, Bool.bne_false, Bool.bne_true]
  refine ⟨fun hm => ?_, fun hm => ?_⟩
  · have hm : ¬ d.may [(g : Int)] = 0 := by simpa using hm
    have := kn w1 m1
    simp only [openE, if_neg hf, if_pos hm] at this
    exact this hm
  have hm : d.may [(g : Int)] = 0 := by simpa using hm
  have hne : ¬ (d.may [(g : Int)] ≠ 0) := fun h => h hm
  have hr : d.read g = d.file g := by simp only [Dk.read, if_neg hne, Int.toNat_natCast]
  rw [hr]
  have kn' : ∀ w', Mod none' w w' → openB (d.file g) = none → next (.tuple #[.pointer none, .int .i64 2]) w' := by
    intro w' m hn
    have := kn w' m
    simp only [openE, if_neg hf, if_neg hne, Int.toNat_natCast, hn, Option.isNone_none, if_true] at this
    exact this (by decide)
  have hfl : (d.file g).length ≤ 16777216 := by
    by_cases hg : g < 12
    · have : d.file g = d.files[g]'(by rw [h.ok.nf]; exact hg) := by simp [Dk.file, h.ok.nf, hg]
      rw [this]; exact h.ok.bf _ (List.getElem_mem _)
    · omega
  have ks' := fun (L : Lg) => ks g L rfl (by omega) hm
  clear ks kn
  generalize hsd : d.file g = s at *
  unfold h44_2
  try simp only [go_sem, ↓reduceIte, Nat.reduceEqDiff, Nat.reduceAdd, Nat.reduceLT, List.length_cons, List.length_nil, List.getElem?_cons_zero, List.getElem?_cons_succ, Nat.mul_one, Bool.true_eq_false, Bool.false_eq_true, false_implies, true_implies, Bool.not_true, Bool.not_false, decide_true, decide_false, Int.reduceToNat, Int.cast_ofNat_Int, Int.reduceLT, Int.reduceLE, Int.reduceEq, Int.reduceNeg, eq_self, Option.isNone_some, Option.isNone_none, Bool.bne_false, Bool.bne_true]
  refine ⟨by omega, by simp, by simp, ?_⟩
  refine box_ (cs := [ptr p, .int .i64 g, .slice none 0 0, .int .i64 0, .int .i64 16]) rfl ?_
  intro q w2 hq blk2 m2 hs2
  have m12 := m1.trans' m2
  have hs12 := m1.size
  have fin0 : ∀ w', Mod none' w w' → Blk w' q 102 [ptr p, .int .i64 g, .slice none 0 0, .int .i64 0, .int .i64 16] → (s.length < 16 ∨ val s = 0) → next (.tuple #[ptr q, .int .i64 0]) w' := by
    intro w' m hb hc
    refine ks' ⟨[], 0, 16⟩ (by rw [openB, if_pos hc]) q w' (fun k => k = q) ⟨⟨_, hb, Own.nil _ _ _, fun k hk => (nomatch (hk : none = some k))⟩, rfl, fun k hk => hk ▸ hb.lt, by simp, by simp⟩ (fun k hk => by omega) m
  try simp only [go_sem, ↓reduceIte, Nat.reduceEqDiff, Nat.reduceAdd, Nat.reduceLT, List.length_cons, List.length_nil, List.getElem?_cons_zero, List.getElem?_cons_succ, Nat.mul_one, Bool.true_eq_false, Bool.false_eq_true, false_implies, true_implies, Bool.not_true, Bool.not_false, decide_true, decide_false, Int.reduceToNat, Int.cast_ofNat_Int, Int.reduceLT, Int.reduceLE, Int.reduceEq, Int.reduceNeg, eq_self, Option.isNone_some, Option.isNone_none, Bool.bne_false, Bool.bne_true]
  by_cases h16 : s.length < 16
  · have hd : decide ((s.length : Int) < 16) = true := by simpa using by omega
    try simp only [go_sem, ↓reduceIte, Nat.reduceEqDiff, Nat.reduceAdd, Nat.reduceLT, List.length_cons, List.length_nil, List.getElem?_cons_zero, List.getElem?_cons_succ, Nat.mul_one, Bool.true_eq_false, Bool.false_eq_true, false_implies, true_implies, Bool.not_true, Bool.not_false, decide_true, decide_false, Int.reduceToNat, Int.cast_ofNat_Int, Int.reduceLT, Int.reduceLE, Int.reduceEq, Int.reduceNeg, eq_self, Option.isNone_some, Option.isNone_none, Bool.bne_false, Bool.bne_true, hd]
    exact fin0 _ m12 blk2 (.inl h16)
  have hd : decide ((s.length : Int) < 16) = false := by simpa using by omega
  try simp only [go_sem, ↓reduceIte, Nat.reduceEqDiff, Nat.reduceAdd, Nat.reduceLT, List.length_cons, List.length_nil, List.getElem?_cons_zero, List.getElem?_cons_succ, Nat.mul_one, Bool.true_eq_false, Bool.false_eq_true, false_implies, true_implies, Bool.not_true, Bool.not_false, decide_true, decide_false, Int.reduceToNat, Int.cast_ofNat_Int, Int.reduceLT, Int.reduceLE, Int.reduceEq, Int.reduceNeg, eq_self, Option.isNone_some, Option.isNone_none, Bool.bne_false, Bool.bne_true, hd]
  refine value_ s (by omega) ?_
  try simp only [go_sem, ↓reduceIte, Nat.reduceEqDiff, Nat.reduceAdd, Nat.reduceLT, List.length_cons, List.length_nil, List.getElem?_cons_zero, List.getElem?_cons_succ, Nat.mul_one, Bool.true_eq_false, Bool.false_eq_true, false_implies, true_implies, Bool.not_true, Bool.not_false, decide_true, decide_false, Int.reduceToNat, Int.cast_ofNat_Int, Int.reduceLT, Int.reduceLE, Int.reduceEq, Int.reduceNeg, eq_self, Option.isNone_some, Option.isNone_none, Bool.bne_false, Bool.bne_true, hd]
  refine ⟨fun h0 => ?_, fun h0 => ?_⟩
  · have h0 : val s = 0 := by simpa using h0
    exact fin0 _ m12 blk2 (.inr h0)
  have h0 : ¬ val s = 0 := by simpa using h0
  have hob : openB s = if val s < 16 ∨ (s.length : Int) < val s then none
      else match splitB ((s.take (val s).toNat).drop 16) with
        | none => none
        | some l => if (l.length : Int) = val (s.drop 8) then some ⟨l, l.length, (val s).toNat⟩ else none := by
    rw [openB, if_neg (by omega)]
  unfold h44_3
  try simp only [go_sem, ↓reduceIte, Nat.reduceEqDiff, Nat.reduceAdd, Nat.reduceLT, List.length_cons, List.length_nil, List.getElem?_cons_zero, List.getElem?_cons_succ, Nat.mul_one, Bool.true_eq_false, Bool.false_eq_true, false_implies, true_implies, Bool.not_true, Bool.not_false, decide_true, decide_false, Int.reduceToNat, Int.cast_ofNat_Int, Int.reduceLT, Int.reduceLE, Int.reduceEq, Int.reduceNeg, eq_self, Option.isNone_some, Option.isNone_none, Bool.bne_false, Bool.bne_true]
  refine value_ s (by omega) ?_
  refine store1 sz3 blk2 (by simp) rfl ?_
  intro w3 blk3 m3 hs3
  have m13 : Mod none' w w3 := m12.trans m3 fun k hk (e : k = q) => by omega
  have blk3 : Blk w3 q 102 [ptr p, .int .i64 g, .slice none 0 0, .int .i64 0, .int .i64 (val s)] := by simpa using blk3
  have c4 : w3.cell? ⟨q, 4, none⟩ = some (.int .i64 (val s)) := blk3.cell 4
  have ec : (if decide (val s < 16) = true then true else decide ((s.length : Int) < val s)) = decide (val s < 16 ∨ (s.length : Int) < val s) := by
    by_cases h : val s < 16 <;> simp [h]
  try simp only [go_sem, ↓reduceIte, Nat.reduceEqDiff, Nat.reduceAdd, Nat.reduceLT, List.length_cons, List.length_nil, List.getElem?_cons_zero, List.getElem?_cons_succ, Nat.mul_one, Bool.true_eq_false, Bool.false_eq_true, false_implies, true_implies, Bool.not_true, Bool.not_false, decide_true, decide_false, Int.reduceToNat, Int.cast_ofNat_Int, Int.reduceLT, Int.reduceLE, Int.reduceEq, Int.reduceNeg, eq_self, Option.isNone_some, Option.isNone_none, Bool.bne_false, Bool.bne_true, c4, ec]
  refine ⟨fun hb => ?_, fun hb => ?_⟩
  · have hb : val s < 16 ∨ (s.length : Int) < val s := by simpa using hb
    exact kn' _ m13 (by rw [hob, if_pos hb])
  have hb : ¬ (val s < 16 ∨ (s.length : Int) < val s) := by simpa using hb
  rw [if_neg hb] at hob
  obtain ⟨x, hx⟩ := Int.eq_ofNat_of_zero_le (show 0 ≤ val s by omega)
  rw [hx] at hob hb c4 blk3
  simp only [Int.toNat_natCast] at hob
  have hxl : ((s.take x).drop 16).length = x - 16 := by rw [List.length_drop, List.length_take]; omega
  unfold h44_4
  try simp only [go_sem, ↓reduceIte, Nat.reduceEqDiff, Nat.reduceAdd, Nat.reduceLT, List.length_cons, List.length_nil, List.getElem?_cons_zero, List.getElem?_cons_succ, Nat.mul_one, Bool.true_eq_false, Bool.false_eq_true, false_implies, true_implies, Bool.not_true, Bool.not_false, decide_true, decide_false, Int.reduceToNat, Int.cast_ofNat_Int, Int.reduceLT, Int.reduceLE, Int.reduceEq, Int.reduceNeg, eq_self, Option.isNone_some, Option.isNone_none, Bool.bne_false, Bool.bne_true, c4, hx]
  have e16 : (16 : Int).toNat = 16 := rfl
  have edt : (s.drop 16).take (x - 16) = (s.take x).drop 16 := by rw [List.drop_take]
  rw [edt]
  refine ⟨⟨⟨by omega, by omega⟩, by omega⟩, ?_⟩
  refine split_ (by omega) (fun hn w4 m4 => ?_) (fun l hl v w4 m4 own4 hn4 => ?_)
  · try simp only [go_sem, ↓reduceIte, Nat.reduceEqDiff, Nat.reduceAdd, Nat.reduceLT, List.length_cons, List.length_nil, List.getElem?_cons_zero, List.getElem?_cons_succ, Nat.mul_one, Bool.true_eq_false, Bool.false_eq_true, false_implies, true_implies, Bool.not_true, Bool.not_false, decide_true, decide_false, Int.reduceToNat, Int.cast_ofNat_Int, Int.reduceLT, Int.reduceLE, Int.reduceEq, Int.reduceNeg, eq_self, Option.isNone_some, Option.isNone_none, Bool.bne_false, Bool.bne_true]
    refine kn' _ (m13.trans' m4) ?_
    rw [hob, hn]
  · obtain ⟨va, vc, rfl, -, -⟩ := own4.form
    rw [hl] at hob
    simp only at hob
    try simp only [go_sem, ↓reduceIte, Nat.reduceEqDiff, Nat.reduceAdd, Nat.reduceLT, List.length_cons, List.length_nil, List.getElem?_cons_zero, List.getElem?_cons_succ, Nat.mul_one, Bool.true_eq_false, Bool.false_eq_true, false_implies, true_implies, Bool.not_true, Bool.not_false, decide_true, decide_false, Int.reduceToNat, Int.cast_ofNat_Int, Int.reduceLT, Int.reduceLE, Int.reduceEq, Int.reduceNeg, eq_self, Option.isNone_some, Option.isNone_none, Bool.bne_false, Bool.bne_true]
    refine ⟨by omega, ?_⟩
    refine value_ (s.drop 8) (by rw [List.length_drop]; omega) ?_
    try simp only [go_sem, ↓reduceIte, Nat.reduceEqDiff, Nat.reduceAdd, Nat.reduceLT, List.length_cons, List.length_nil, List.getElem?_cons_zero, List.getElem?_cons_succ, Nat.mul_one, Bool.true_eq_false, Bool.false_eq_true, false_implies, true_implies, Bool.not_true, Bool.not_false, decide_true, decide_false, Int.reduceToNat, Int.cast_ofNat_Int, Int.reduceLT, Int.reduceLE, Int.reduceEq, Int.reduceNeg, eq_self, Option.isNone_some, Option.isNone_none, Bool.bne_false, Bool.bne_true]
    refine ⟨fun hc => ?_, fun hc => ?_⟩
    · have hc : ¬ (l.length : Int) = val (s.drop 8) := by simpa using hc
      exact kn' _ (m13.trans' m4) (by rw [hob, if_neg hc])
    · have hc : (l.length : Int) = val (s.drop 8) := by simpa using hc
      rw [if_pos hc] at hob
      unfold h44_5
      try simp only [go_sem, ↓reduceIte, Nat.reduceEqDiff, Nat.reduceAdd, Nat.reduceLT, List.length_cons, List.length_nil, List.getElem?_cons_zero, List.getElem?_cons_succ, Nat.mul_one, Bool.true_eq_false, Bool.false_eq_true, false_implies, true_implies, Bool.not_true, Bool.not_false, decide_true, decide_false, Int.reduceToNat, Int.cast_ofNat_Int, Int.reduceLT, Int.reduceLE, Int.reduceEq, Int.reduceNeg, eq_self, Option.isNone_some, Option.isNone_none, Bool.bne_false, Bool.bne_true]
      have blk4 := blk3.mod m4 fun h => h
      refine store1 sz40 blk4 (by simp) rfl ?_
      intro w5 blk5 m5 hs5
      try simp only [go_sem, ↓reduceIte, Nat.reduceEqDiff, Nat.reduceAdd, Nat.reduceLT, List.length_cons, List.length_nil, List.getElem?_cons_zero, List.getElem?_cons_succ, Nat.mul_one, Bool.true_eq_false, Bool.false_eq_true, false_implies, true_implies, Bool.not_true, Bool.not_false, decide_true, decide_false, Int.reduceToNat, Int.cast_ofNat_Int, Int.reduceLT, Int.reduceLE, Int.reduceEq, Int.reduceNeg, eq_self, Option.isNone_some, Option.isNone_none, Bool.bne_false, Bool.bne_true]
      refine store1 sz3 blk5 (by simp) rfl ?_
      intro w6 blk6 m6 hs6
      try simp only [go_sem, ↓reduceIte, Nat.reduceEqDiff, Nat.reduceAdd, Nat.reduceLT, List.length_cons, List.length_nil, List.getElem?_cons_zero, List.getElem?_cons_succ, Nat.mul_one, Bool.true_eq_false, Bool.false_eq_true, false_implies, true_implies, Bool.not_true, Bool.not_false, decide_true, decide_false, Int.reduceToNat, Int.cast_ofNat_Int, Int.reduceLT, Int.reduceLE, Int.reduceEq, Int.reduceNeg, eq_self, Option.isNone_some, Option.isNone_none, Bool.bne_false, Bool.bne_true]
      have m56 : Mod (fun k => k = q) w4 w6 := m5.trans' m6
      have m14 := m13.trans' m4
      have hs14 := m14.size
      have hs13 := m13.size
      have hvq : ∀ k, (Value.slice va l.length vc).ownBlock = some k → k ≠ q := by
        intro k hk e
        have := hn4 k hk
        have := blk3.lt
        omega
      refine ks' _ hob q w6 (fun k => k = q ∨ (Value.slice va l.length vc).ownBlock = some k) ⟨⟨.slice va l.length vc, by simpa using blk6, own4.mod m56 fun k hk (e : k = q) => hvq k hk e, fun k hk => .inr hk⟩, .inl rfl, ?_, by simp only; omega, by have := splitB_len _ _ _ (Nat.le_refl _) hl; simp only; omega⟩ ?_ (m14.trans m56 fun k hk (e : k = q) => by omega)
      · rintro k (rfl | hk)
        · exact blk6.lt
        · have := own4.lt k hk; omega
      · rintro k (rfl | hk)
        · omega
        · have := hn4 k hk; omega
end
end Go.Proofs.Y
