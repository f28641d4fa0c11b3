/- JM: JournalForms. -/
import Derived.Test.YtgalileklafbbaaJL
set_option linter.unusedSimpArgs false
set_option linter.unusedVariables false
set_option maxRecDepth 100000
namespace Go.Proofs.Y
open Go Go.HL Go.Proofs

theorem val_app (s t : Bytes) (h : 8 ≤ s.length) : val (s ++ t) = val s := by
  have hv : ∀ i, i < 8 → valAt (s ++ t) i = valAt s i := by
    intro i hi
    unfold valAt
    rw [List.getElem?_append_left (by omega)]
  have key : ∀ k, k ≤ 8 → valFrom (s ++ t) k = valFrom s k := by
    intro k
    induction k with
    | zero => intro _; rfl
    | succ k ih =>
      intro hk
      show wr (valFrom _ k * 256 + valAt _ (7 - k)) = wr (valFrom _ k * 256 + valAt _ (7 - k))
      rw [ih (by omega), hv (7 - k) (by omega)]
  exact key 8 (Nat.le_refl _)
theorem openB_more {s : Bytes} {L : Lg} (h : openB s = some L) (h16 : 16 ≤ s.length) (t : Bytes) : openB (s ++ t) = some L := by
  have e1 : val (s ++ t) = val s := val_app s t (by omega)
  have e2 : val ((s ++ t).drop 8) = val (s.drop 8) := by rw [List.drop_append_of_le_length (by omega)]; exact val_app _ _ (by rw [List.length_drop]; omega)
  rw [openB] at h ⊢
  rw [e1, e2]
  by_cases h0 : val s = 0
  · rw [if_pos (.inr h0)] at h ⊢; exact h
  · rw [if_neg (by omega)] at h
    rw [if_neg (by rw [List.length_append]; omega)]
    by_cases hb : val s < 16 ∨ (s.length : Int) < val s
    · rw [if_pos hb] at h; cases h
    · rw [if_neg hb] at h
      rw [if_neg (by rw [List.length_append]; omega), List.take_append_of_le_length (by omega)]
      exact h

/-! ### the disk at rest -/
theorem idle_writeR {d : Dk} (ha : d.armed = 0) {f a : Int} {s : Bytes} (hm : d.may [f] = 0) (h0 : 0 ≤ a) (hfit : a + s.length ≤ 16777216) : d.writeR f a s = 0 := by
  rw [Dk.writeR_idle ha]
  unfold Dk.writeE
  rw [hm, if_neg (by simp), if_neg (by omega), if_neg (by omega)]
theorem idle_write {d : Dk} (ha : d.armed = 0) {f a : Int} {s : Bytes} (hm : d.may [f] = 0) (h0 : 0 ≤ a) (hfit : a + s.length ≤ 16777216) : d.write f a s = if s = [] then d else { d with files := d.files.set f.toNat (put (d.file f.toNat) a.toNat s), queue := d.queue ++ pieces f.toNat s.length a.toNat s } := by
  have h := idle_writeR ha hm h0 hfit
  rw [Dk.writeR_idle ha] at h
  rw [Dk.write_idle ha]
  unfold Dk.writeD
  by_cases hs : s = []
  · rw [if_pos (.inr hs), if_pos hs]
  · rw [if_neg (by simp [h, hs]), if_neg hs]
theorem idle_file {d : Dk} (ha : d.armed = 0) {f a : Nat} {s : Bytes} (hf : f < 12) (hn : d.files.length = 12) (hm : d.may [(f : Int)] = 0) (hfit : a + s.length ≤ 16777216) : (d.write f a s).file f = if s = [] then d.file f else put (d.file f) a s := by
  rw [idle_write ha hm (by omega) (by omega)]
  split
  · rfl
  · simp [Dk.file, hn, hf]
theorem idle_same {d : Dk} (ha : d.armed = 0) {f a : Int} {s : Bytes} (hm : d.may [f] = 0) (h0 : 0 ≤ a) (hfit : a + s.length ≤ 16777216) : (d.write f a s).armed = 0 ∧ (d.write f a s).down = d.down ∧ (d.write f a s).files.length = d.files.length := by
  rw [idle_write ha hm h0 hfit]
  split
  · exact ⟨ha, rfl, rfl⟩
  · exact ⟨ha, rfl, by simp⟩
theorem may_up {d : Dk} (h : d.down = false) {f : Nat} (hf : f < 12) : d.may [(f : Int)] = 0 := by
  have : isF (f : Int) = true := by simp [isF]; omega
  simp [Dk.may, h, this]

section
variable {w : World} {next : Value → World → Prop} {QP : List PanicEntry → World → Prop}

theorem forms2 {w1 : World} {p : Nat} {s m : Bytes} {d : Dk} {L : Lg} {vr : Value} {σ : Env} (hs : s.length ≤ 1000) (hm : m.length ≤ 1000) (h16 : 16 ≤ s.length) {F : FP} (dr : DR w1 p d F) (f0 : ∀ k, F.R k → w.heap.size ≤ k) (mw : Mod none' w w1)
    (ha : d.armed = 0) (hd : d.down = false) (hfs : d.file 1 = s) (hq : d.queue.length ≤ 1000) (hO : openB s = some L) (hv : Own w1 vr 9 1 L.rows.length (L.rows.map str)) (hvF : ∀ k, vr.ownBlock = some k → ¬ F.R k) (s0 : σ 0 = str s) (s1 : σ 1 = str m) (s5 : σ 5 = .bool true) (s6 : σ 6 = ptr p) (s9 : σ 9 = vr) (s11 : σ 11 = .bool true)
    (k : ∀ w', Mod none' w w' → next (.bool true) w') : hw Try.prog noPanic h10_5 (endV [.tmp 4] next) σ w1 := by
  have hm0 := may_up hd (f := 1) (by omega)
  have hm0 : d.may [(1 : Int)] = 0 := hm0
  have hr := idle_writeR ha hm0 (a := s.length) (s := m) (by omega) (by omega)
  have hfile : (d.write 1 s.length m).file 1 = s ++ m := by
    have := idle_file ha (f := 1) (a := s.length) (s := m) (by omega) dr.ok.nf hm0 (by omega)
    rw [show ((1 : Nat) : Int) = 1 from rfl, hfs] at this
    rw [this]
    split
    · rename_i h; simp [h]
    · have h2 := put_append s [] m (Nat.le_refl s.length)
      rw [List.append_nil, Nat.sub_self, put_nil] at h2
      exact h2
  have hsame := idle_same ha hm0 (a := s.length) (s := m) (by omega) (by omega)
  have hO2 := openB_more hO h16 m
  unfold h10_5
  try simp only [go_sem, ↓reduceIte, Nat.reduceEqDiff, Nat.reduceAdd, Nat.reduceLT, List.length_cons, List.length_nil, List.getElem?_cons_zero, List.getElem?_cons_succ, Nat.mul_one, Bool.true_eq_false, Bool.false_eq_true, false_implies, true_implies, Bool.not_true, Bool.not_false, decide_true, decide_false, Int.reduceToNat, Int.cast_ofNat_Int, Int.reduceLT, Int.reduceLE, Int.reduceEq, Int.reduceNeg, eq_self, Option.isNone_some, Option.isNone_none, Bool.bne_false, Bool.bne_true, s0, s1, s5, s6, s9, s11]
  refine write_ dr (by omega) (by omega) (by omega) ?_
  intro w2 st2
  rw [hr]
  have f2 : ∀ k, st2.foot.R k → w.heap.size ≤ k := fun k hk => by
    have := mw.size
    rcases st2.footR k hk with h | h
    · exact f0 k h
    · omega
  have m2 : Mod none' w w2 := mw.trans st2.mod fun k hk hW => by have := f0 k (dr.sub k hW); omega
  have hv2 := hv.mod st2.mod fun k hk hW => hvF k hk (dr.sub k hW)
  try simp only [go_sem, ↓reduceIte, Nat.reduceEqDiff, Nat.reduceAdd, Nat.reduceLT, List.length_cons, List.length_nil, List.getElem?_cons_zero, List.getElem?_cons_succ, Nat.mul_one, Bool.true_eq_false, Bool.false_eq_true, false_implies, true_implies, Bool.not_true, Bool.not_false, decide_true, decide_false, Int.reduceToNat, Int.cast_ofNat_Int, Int.reduceLT, Int.reduceLE, Int.reduceEq, Int.reduceNeg, eq_self, Option.isNone_some, Option.isNone_none, Bool.bne_false, Bool.bne_true, s0, s1, s5, s6, s9, s11]
  unfold h10_6
  try simp only [go_sem, ↓reduceIte, Nat.reduceEqDiff, Nat.reduceAdd, Nat.reduceLT, List.length_cons, List.length_nil, List.getElem?_cons_zero, List.getElem?_cons_succ, Nat.mul_one, Bool.true_eq_false, Bool.false_eq_true, false_implies, true_implies, Bool.not_true, Bool.not_false, decide_true, decide_false, Int.reduceToNat, Int.cast_ofNat_Int, Int.reduceLT, Int.reduceLE, Int.reduceEq, Int.reduceNeg, eq_self, Option.isNone_some, Option.isNone_none, Bool.bne_false, Bool.bne_true, s0, s1, s5, s6, s9, s11]
  have hm2 : (d.write 1 s.length m).may [(1 : Int)] = 0 := may_up (hsame.2.1.trans hd) (f := 1) (by omega)
  have hE : openE (d.write 1 s.length m) 1 = 0 := by
    have h1 : ¬ ((1 : Int) < 0 ∨ (6 : Int) < 1) := by decide
    have h2 : ¬ ((d.write 1 s.length m).may [(1 : Int)] ≠ 0) := fun h => h hm2
    simp only [openE, if_neg h1, if_neg h2, show ((1 : Int)).toNat = 1 from rfl, hfile, hO2]; rfl
  refine open_ st2.dr (fun w9 m9 hne => absurd hE hne) ?_
  intro g L' hg _ _ hL q9 w9 S9 lg9 hS9 m9
  obtain rfl : g = 1 := by omega
  rw [hfile, hO2] at hL
  obtain rfl := Option.some.inj hL
  try simp only [go_sem, ↓reduceIte, Nat.reduceEqDiff, Nat.reduceAdd, Nat.reduceLT, List.length_cons, List.length_nil, List.getElem?_cons_zero, List.getElem?_cons_succ, Nat.mul_one, Bool.true_eq_false, Bool.false_eq_true, false_implies, true_implies, Bool.not_true, Bool.not_false, decide_true, decide_false, Int.reduceToNat, Int.cast_ofNat_Int, Int.reduceLT, Int.reduceLE, Int.reduceEq, Int.reduceNeg, eq_self, Option.isNone_some, Option.isNone_none, Bool.bne_false, Bool.bne_true, s0, s1, s5, s6, s9, s11]
  unfold h10_7
  try simp only [go_sem, ↓reduceIte, Nat.reduceEqDiff, Nat.reduceAdd, Nat.reduceLT, List.length_cons, List.length_nil, List.getElem?_cons_zero, List.getElem?_cons_succ, Nat.mul_one, Bool.true_eq_false, Bool.false_eq_true, false_implies, true_implies, Bool.not_true, Bool.not_false, decide_true, decide_false, Int.reduceToNat, Int.cast_ofNat_Int, Int.reduceLT, Int.reduceLE, Int.reduceEq, Int.reduceNeg, eq_self, Option.isNone_some, Option.isNone_none, Bool.bne_false, Bool.bne_true, s0, s1, s5, s6, s9, s11]
  refine jall_ lg9 ?_
  intro v10 w10 own10 m10 _
  have hrb := lg9.rb
  have hbd := lg9.bd
  try simp only [go_sem, ↓reduceIte, Nat.reduceEqDiff, Nat.reduceAdd, Nat.reduceLT, List.length_cons, List.length_nil, List.getElem?_cons_zero, List.getElem?_cons_succ, Nat.mul_one, Bool.true_eq_false, Bool.false_eq_true, false_implies, true_implies, Bool.not_true, Bool.not_false, decide_true, decide_false, Int.reduceToNat, Int.cast_ofNat_Int, Int.reduceLT, Int.reduceLE, Int.reduceEq, Int.reduceNeg, eq_self, Option.isNone_some, Option.isNone_none, Bool.bne_false, Bool.bne_true, s0, s1, s5, s6, s9, s11]
  refine same__ own10.sl ((hv2.mod m9 fun _ _ h => h).mod m10 fun _ _ h => h).sl (by omega) ?_
  intro w11 m11
  try simp only [go_sem, ↓reduceIte, Nat.reduceEqDiff, Nat.reduceAdd, Nat.reduceLT, List.length_cons, List.length_nil, List.getElem?_cons_zero, List.getElem?_cons_succ, Nat.mul_one, Bool.true_eq_false, Bool.false_eq_true, false_implies, true_implies, Bool.not_true, Bool.not_false, decide_true, decide_false, Int.reduceToNat, Int.cast_ofNat_Int, Int.reduceLT, Int.reduceLE, Int.reduceEq, Int.reduceNeg, eq_self, Option.isNone_some, Option.isNone_none, Bool.bne_false, Bool.bne_true, s0, s1, s5, s6, s9, s11]
  exact k _ (((m2.trans' m9).trans' m10).trans' m11)

theorem jforms_ {s m : Bytes} (k : ∀ w', Mod none' w w' → next (.bool true) w') : callK Try.prog 10 [str s, str m] w next QP := by
  refine q10 rfl ?_
  unfold h10
  try simp only [go_sem, ↓reduceIte, Nat.reduceEqDiff, Nat.reduceAdd, Nat.reduceLT, List.length_cons, List.length_nil, List.getElem?_cons_zero, List.getElem?_cons_succ, Nat.mul_one, Bool.true_eq_false, Bool.false_eq_true, false_implies, true_implies, Bool.not_true, Bool.not_false, decide_true, decide_false, Int.reduceToNat, Int.cast_ofNat_Int, Int.reduceLT, Int.reduceLE, Int.reduceEq, Int.reduceNeg, eq_self, Option.isNone_some, Option.isNone_none, Bool.bne_false, Bool.bne_true]
  refine jsmall_ ?_
  intro w1 m1
  have ec : (if decide ((1000 : Int) < s.length) = true then true else decide ((1000 : Int) < m.length)) = decide (1000 < s.length ∨ 1000 < m.length) := by
    by_cases h : (1000 : Int) < s.length
    · simp only [h, decide_true, if_true]; symm; rw [decide_eq_true_eq]; omega
    · simp only [h, decide_false, Bool.false_eq_true, if_false]; congr 1; apply propext; omega
  try simp only [go_sem, ↓reduceIte, Nat.reduceEqDiff, Nat.reduceAdd, Nat.reduceLT, List.length_cons, List.length_nil, List.getElem?_cons_zero, List.getElem?_cons_succ, Nat.mul_one, Bool.true_eq_false, Bool.false_eq_true, false_implies, true_implies, Bool.not_true, Bool.not_false, decide_true, decide_false, Int.reduceToNat, Int.cast_ofNat_Int, Int.reduceLT, Int.reduceLE, Int.reduceEq, Int.reduceNeg, eq_self, Option.isNone_some, Option.isNone_none, Bool.bne_false, Bool.bne_true, ec]
  refine ⟨fun _ => k _ m1, fun hb => ?_⟩
  have hb : ¬ (1000 < s.length ∨ 1000 < m.length) := by simpa using hb
  unfold h10_1
  try simp only [go_sem, ↓reduceIte, Nat.reduceEqDiff, Nat.reduceAdd, Nat.reduceLT, List.length_cons, List.length_nil, List.getElem?_cons_zero, List.getElem?_cons_succ, Nat.mul_one, Bool.true_eq_false, Bool.false_eq_true, false_implies, true_implies, Bool.not_true, Bool.not_false, decide_true, decide_false, Int.reduceToNat, Int.cast_ofNat_Int, Int.reduceLT, Int.reduceLE, Int.reduceEq, Int.reduceNeg, eq_self, Option.isNone_some, Option.isNone_none, Bool.bne_false, Bool.bne_true]
  refine new_ ?_
  intro p w2 hp st0
  have st2 : St FP0 w w2 p Dk.new := st0.after m1
  try simp only [go_sem, ↓reduceIte, Nat.reduceEqDiff, Nat.reduceAdd, Nat.reduceLT, List.length_cons, List.length_nil, List.getElem?_cons_zero, List.getElem?_cons_succ, Nat.mul_one, Bool.true_eq_false, Bool.false_eq_true, false_implies, true_implies, Bool.not_true, Bool.not_false, decide_true, decide_false, Int.reduceToNat, Int.cast_ofNat_Int, Int.reduceLT, Int.reduceLE, Int.reduceEq, Int.reduceNeg, eq_self, Option.isNone_some, Option.isNone_none, Bool.bne_false, Bool.bne_true]
  have hr := idle_writeR (d := Dk.new) rfl (f := 1) (a := 0) (s := s) rfl (by omega) (by omega)
  have hfile : (Dk.new.write 1 0 s).file 1 = s := by
    have := idle_file (d := Dk.new) rfl (f := 1) (a := 0) (s := s) (by omega) rfl rfl (by omega)
    rw [show ((1 : Nat) : Int) = 1 from rfl, show ((0 : Nat) : Int) = 0 from rfl] at this
    rw [this]
    split
    · rename_i h; rw [h]; rfl
    · exact put_nil s
  have hsame := idle_same (d := Dk.new) rfl (f := 1) (a := 0) (s := s) rfl (by omega) (by omega)
  have hqn := write_queue Dk.new 1 0 s
  have hq0 : Dk.new.queue.length = 0 := rfl
  refine write_ st2.dr (by omega) (by omega) (by omega) ?_
  intro w3 st3
  have st3 := st2.trans st3
  rw [hr]
  try simp only [go_sem, ↓reduceIte, Nat.reduceEqDiff, Nat.reduceAdd, Nat.reduceLT, List.length_cons, List.length_nil, List.getElem?_cons_zero, List.getElem?_cons_succ, Nat.mul_one, Bool.true_eq_false, Bool.false_eq_true, false_implies, true_implies, Bool.not_true, Bool.not_false, decide_true, decide_false, Int.reduceToNat, Int.cast_ofNat_Int, Int.reduceLT, Int.reduceLE, Int.reduceEq, Int.reduceNeg, eq_self, Option.isNone_some, Option.isNone_none, Bool.bne_false, Bool.bne_true]
  have hm3 : (Dk.new.write 1 0 s).may [(1 : Int)] = 0 := may_up hsame.2.1 (f := 1) (by omega)
  generalize Dk.new.write 1 0 s = d at *
  have hE : openE d 1 = if (openB s).isNone = true then 2 else 0 := by
    have h1 : ¬ ((1 : Int) < 0 ∨ (6 : Int) < 1) := by decide
    have h2 : ¬ (d.may [(1 : Int)] ≠ 0) := fun h => h hm3
    simp only [openE, if_neg h1, if_neg h2, show ((1 : Int)).toNat = 1 from rfl, hfile]
  unfold h10_2
  try simp only [go_sem, ↓reduceIte, Nat.reduceEqDiff, Nat.reduceAdd, Nat.reduceLT, List.length_cons, List.length_nil, List.getElem?_cons_zero, List.getElem?_cons_succ, Nat.mul_one, Bool.true_eq_false, Bool.false_eq_true, false_implies, true_implies, Bool.not_true, Bool.not_false, decide_true, decide_false, Int.reduceToNat, Int.cast_ofNat_Int, Int.reduceLT, Int.reduceLE, Int.reduceEq, Int.reduceNeg, eq_self, Option.isNone_some, Option.isNone_none, Bool.bne_false, Bool.bne_true]
  refine open_ st3.dr (fun w4 m4 hne => ?_) (fun g L hg _ _ hL q4 w4 S4 lg4 hS4 m4 => ?_)
  · cases hO : openB s with
    | some L => rw [hE, hO] at hne; exact absurd rfl hne
    | none =>
      rw [hE, hO]
      try simp only [go_sem, ↓reduceIte, Nat.reduceEqDiff, Nat.reduceAdd, Nat.reduceLT, List.length_cons, List.length_nil, List.getElem?_cons_zero, List.getElem?_cons_succ, Nat.mul_one, Bool.true_eq_false, Bool.false_eq_true, false_implies, true_implies, Bool.not_true, Bool.not_false, decide_true, decide_false, Int.reduceToNat, Int.cast_ofNat_Int, Int.reduceLT, Int.reduceLE, Int.reduceEq, Int.reduceNeg, eq_self, Option.isNone_some, Option.isNone_none, Bool.bne_false, Bool.bne_true]
      refine rrows_ s (by omega) (fun _ w5 v5 m5 => ?_) (fun L hL => by rw [hO] at hL; cases hL)
      have m25 := (st3.mod.trans' (m4.mono fun _ _ h => h.elim)).trans' (m5.mono fun _ _ h => h.elim)
      try simp only [go_sem, ↓reduceIte, Nat.reduceEqDiff, Nat.reduceAdd, Nat.reduceLT, List.length_cons, List.length_nil, List.getElem?_cons_zero, List.getElem?_cons_succ, Nat.mul_one, Bool.true_eq_false, Bool.false_eq_true, false_implies, true_implies, Bool.not_true, Bool.not_false, decide_true, decide_false, Int.reduceToNat, Int.cast_ofNat_Int, Int.reduceLT, Int.reduceLE, Int.reduceEq, Int.reduceNeg, eq_self, Option.isNone_some, Option.isNone_none, Bool.bne_false, Bool.bne_true, beq_self_eq_true, Bool.true_beq, Bool.false_beq]
      unfold h10_3
      try simp only [go_sem, ↓reduceIte, Nat.reduceEqDiff, Nat.reduceAdd, Nat.reduceLT, List.length_cons, List.length_nil, List.getElem?_cons_zero, List.getElem?_cons_succ, Nat.mul_one, Bool.true_eq_false, Bool.false_eq_true, false_implies, true_implies, Bool.not_true, Bool.not_false, decide_true, decide_false, Int.reduceToNat, Int.cast_ofNat_Int, Int.reduceLT, Int.reduceLE, Int.reduceEq, Int.reduceNeg, eq_self, Option.isNone_some, Option.isNone_none, Bool.bne_false, Bool.bne_true]
      exact k _ (m25.mono fun _ _ h => h)
  · obtain rfl : g = 1 := by omega
    rw [hfile] at hL
    have hvF : ∀ k, st3.foot.R k → w.heap.size ≤ k := fun k hk => by
      rcases st3.footR k hk with h | h
      · exact h.elim
      · exact h
    have mw : Mod none' w w3 := st3.mod.mono fun _ _ h => h
    try simp only [go_sem, ↓reduceIte, Nat.reduceEqDiff, Nat.reduceAdd, Nat.reduceLT, List.length_cons, List.length_nil, List.getElem?_cons_zero, List.getElem?_cons_succ, Nat.mul_one, Bool.true_eq_false, Bool.false_eq_true, false_implies, true_implies, Bool.not_true, Bool.not_false, decide_true, decide_false, Int.reduceToNat, Int.cast_ofNat_Int, Int.reduceLT, Int.reduceLE, Int.reduceEq, Int.reduceNeg, eq_self, Option.isNone_some, Option.isNone_none, Bool.bne_false, Bool.bne_true]
    refine rrows_ s (by omega) (fun hn => by rw [hL] at hn; cases hn) (fun L' hL' v5 w5 m5 own5 hn5 => ?_)
    rw [hL] at hL'
    obtain rfl := Option.some.inj hL'
    have lg5 := lg4.mod0 m5
    try simp only [go_sem, ↓reduceIte, Nat.reduceEqDiff, Nat.reduceAdd, Nat.reduceLT, List.length_cons, List.length_nil, List.getElem?_cons_zero, List.getElem?_cons_succ, Nat.mul_one, Bool.true_eq_false, Bool.false_eq_true, false_implies, true_implies, Bool.not_true, Bool.not_false, decide_true, decide_false, Int.reduceToNat, Int.cast_ofNat_Int, Int.reduceLT, Int.reduceLE, Int.reduceEq, Int.reduceNeg, eq_self, Option.isNone_some, Option.isNone_none, Bool.bne_false, Bool.bne_true, beq_self_eq_true, Bool.true_beq, Bool.false_beq]
    unfold h10_3
    try simp only [go_sem, ↓reduceIte, Nat.reduceEqDiff, Nat.reduceAdd, Nat.reduceLT, List.length_cons, List.length_nil, List.getElem?_cons_zero, List.getElem?_cons_succ, Nat.mul_one, Bool.true_eq_false, Bool.false_eq_true, false_implies, true_implies, Bool.not_true, Bool.not_false, decide_true, decide_false, Int.reduceToNat, Int.cast_ofNat_Int, Int.reduceLT, Int.reduceLE, Int.reduceEq, Int.reduceNeg, eq_self, Option.isNone_some, Option.isNone_none, Bool.bne_false, Bool.bne_true]
    unfold h10_4
    try simp only [go_sem, ↓reduceIte, Nat.reduceEqDiff, Nat.reduceAdd, Nat.reduceLT, List.length_cons, List.length_nil, List.getElem?_cons_zero, List.getElem?_cons_succ, Nat.mul_one, Bool.true_eq_false, Bool.false_eq_true, false_implies, true_implies, Bool.not_true, Bool.not_false, decide_true, decide_false, Int.reduceToNat, Int.cast_ofNat_Int, Int.reduceLT, Int.reduceLE, Int.reduceEq, Int.reduceNeg, eq_self, Option.isNone_some, Option.isNone_none, Bool.bne_false, Bool.bne_true]
    refine jall_ lg5 ?_
    intro v6 w6 own6 m6 _
    have hrb := lg4.rb
    have hbd := lg4.bd
    try simp only [go_sem, ↓reduceIte, Nat.reduceEqDiff, Nat.reduceAdd, Nat.reduceLT, List.length_cons, List.length_nil, List.getElem?_cons_zero, List.getElem?_cons_succ, Nat.mul_one, Bool.true_eq_false, Bool.false_eq_true, false_implies, true_implies, Bool.not_true, Bool.not_false, decide_true, decide_false, Int.reduceToNat, Int.cast_ofNat_Int, Int.reduceLT, Int.reduceLE, Int.reduceEq, Int.reduceNeg, eq_self, Option.isNone_some, Option.isNone_none, Bool.bne_false, Bool.bne_true]
    refine same__ own6.sl (own5.mod m6 fun _ _ h => h).sl (by omega) ?_
    intro w7 m7
    have m37 := ((m4.trans' m5).trans' m6).trans' m7
    try simp only [go_sem, ↓reduceIte, Nat.reduceEqDiff, Nat.reduceAdd, Nat.reduceLT, List.length_cons, List.length_nil, List.getElem?_cons_zero, List.getElem?_cons_succ, Nat.mul_one, Bool.true_eq_false, Bool.false_eq_true, false_implies, true_implies, Bool.not_true, Bool.not_false, decide_true, decide_false, Int.reduceToNat, Int.cast_ofNat_Int, Int.reduceLT, Int.reduceLE, Int.reduceEq, Int.reduceNeg, eq_self, Option.isNone_some, Option.isNone_none, Bool.bne_false, Bool.bne_true, decide_true]
    refine ⟨fun h16 => ?_, fun h16 => ?_⟩
    · exact k _ (mw.trans' m37)
    · have h16 : 16 ≤ s.length := by
        have : ¬ (s.length : Int) < 16 := by simpa using h16
        omega
      refine forms2 (by omega) (by omega) h16 (st3.dr.mod0 m37) hvF (mw.trans' m37) hsame.1 hsame.2.1 hfile (by omega) hL ((own5.mod m6 fun _ _ h => h).mod m7 fun _ _ h => h) (fun k hk hR => ?_) rfl rfl rfl rfl rfl rfl k
      have := hn5 k hk
      have := st3.dr.lt k hR
      have := m4.size
      omega
end
end Go.Proofs.Y
