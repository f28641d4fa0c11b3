/- JP: plain laws: the errors of a rewriting. -/
import Derived.Test.YtgalileklafbbaaJO
set_option linter.unusedSimpArgs false
set_option linter.unusedVariables false
set_option maxRecDepth 100000
namespace Go.Proofs.Y
open Go Go.HL
section
variable {d : Dk} {f : Nat} {s : Bytes}

theorem may_range {l : List Int} (hl : l.all isF = true) : d.may l = 0 ∨ d.may l = 8 := by
  cases hd : d.down <;> simp [Dk.may, hd, hl]
theorem may_two' {f g : Int} : d.may [f, g] = if d.may [f] ≠ 0 then d.may [f] else d.may [g] := by
  unfold Dk.may
  cases d.down <;> cases hf : isF f <;> cases hg : isF g <;> simp [hf, hg]
theorem isF_nat {g : Nat} (h : g < 12) : isF (g : Int) = true := by simp [isF]; omega
theorem pre_idle' (hd : d.down = false) (he : d.ends = false) : d.pre = d.tick ∧ d.tick.down = false := by
  refine ⟨by simp [Dk.pre, Dk.endW, he], ?_⟩
  unfold Dk.tick; split <;> exact hd
theorem pre_lost : d.pre.lost = d.lost := by
  unfold Dk.pre Dk.endW
  have ht : d.tick.lost = d.lost := by unfold Dk.tick; split <;> rfl
  split
  · unfold Dk.crash; split
    · exact ht
    · exact ht
  · exact ht
theorem tick_lost : d.tick.lost = d.lost := by unfold Dk.tick; split <;> rfl
theorem writeD_lost (g a : Int) (t : Bytes) : (d.writeD g a t).lost = d.lost := by unfold Dk.writeD; split <;> rfl
theorem crash_lost (ks : List Int) : (d.crash ks).lost = d.lost := by unfold Dk.crash; split <;> rfl
theorem write_lost (g a : Int) (t : Bytes) : (d.write g a t).lost = d.lost := by
  unfold Dk.write Dk.endW; split
  · rw [crash_lost, writeD_lost, tick_lost]
  · rw [writeD_lost, tick_lost]
theorem cut_lost (g n : Int) : (d.cut g n).lost = d.lost := by
  unfold Dk.cut; dsimp only; split
  · exact pre_lost
  · split
    · exact pre_lost
    · exact pre_lost
theorem turn_lost (g n : Int) : (d.turn g n).lost = d.lost := by
  unfold Dk.turn; dsimp only; split
  · exact pre_lost
  · split
    · exact pre_lost
    · split
      · exact pre_lost
      · exact pre_lost
theorem flush_lost (h : d.lost = 0) (g : Int) : (d.flush g).lost = 0 := by
  have hp : d.pre.lost = 0 := pre_lost.trans h
  unfold Dk.flush; dsimp only; split
  · exact hp
  · split
    · omega
    · exact hp

theorem cutR_cases {g : Nat} (hg : g < 12) : (d.cutR g 0 = 0 ∨ d.cutR g 0 = 8) ∧ (d.down = false → d.ends = false → d.cutR g 0 = 0) := by
  have hm := may_range (d := d.pre) (l := [(g : Int)]) (by simp [isF_nat hg])
  have key : d.pre.may [(g : Int)] = 0 → d.cutR g 0 = 0 := by
    intro h
    unfold Dk.cutR; dsimp only
    rw [if_neg (by simp [h]), if_neg (by omega)]
  refine ⟨?_, fun hd he => key ?_⟩
  · rcases hm with h | h
    · exact .inl (key h)
    · right; unfold Dk.cutR; dsimp only; rw [if_pos (by rw [h]; decide), h]
  · obtain ⟨h1, h2⟩ := pre_idle' hd he
    rw [h1]; exact may_up h2 hg
theorem writeR_cases {g : Nat} (hg : g < 12) {t : Bytes} (hd : d.down = false) (ht : t.length ≤ 16777216) : (d.writeR g 0 t = 0 ∨ d.writeR g 0 t = 8) ∧ (d.ends = false → d.writeR g 0 t = 0) := by
  have key : d.ends = false → d.writeR g 0 t = 0 := by
    intro he
    obtain ⟨-, h2⟩ := pre_idle' hd he
    unfold Dk.writeR Dk.writeE
    rw [he]
    rw [if_neg (by decide), if_neg (by simp [may_up h2 hg]), if_neg (by omega), if_neg (by omega)]
  refine ⟨?_, key⟩
  cases he : d.ends with
  | false => exact .inl (key he)
  | true => right; simp [Dk.writeR, he]
theorem flushR_cases {g : Nat} (hg : g < 12) (hl : d.lost = 0) : (d.flushR g = 0 ∨ d.flushR g = 8) ∧ (d.down = false → d.ends = false → d.flushR g = 0) := by
  have hm := may_range (d := d.pre) (l := [(g : Int)]) (by simp [isF_nat hg])
  have hpl : d.pre.lost = 0 := pre_lost.trans hl
  have key : d.pre.may [(g : Int)] = 0 → d.flushR g = 0 := by
    intro h
    unfold Dk.flushR; dsimp only
    rw [if_neg (by simp [h]), if_neg (by omega)]
  refine ⟨?_, fun hd he => key ?_⟩
  · rcases hm with h | h
    · exact .inl (key h)
    · right; unfold Dk.flushR; dsimp only; rw [if_pos (by rw [h]; decide), h]
  · obtain ⟨h1, h2⟩ := pre_idle' hd he
    rw [h1]; exact may_up h2 hg
theorem turnR_cases {g : Nat} (hf : f < 12) (hg : g < 12) (hne : g ≠ f) (hn : ∀ p ∈ d.queue, p.file ≠ g) : (d.turnR f g = 0 ∨ d.turnR f g = 8) ∧ (d.down = false → d.ends = false → d.turnR f g = 0) := by
  have hm := may_range (d := d.pre) (l := [(f : Int), (g : Int)]) (by simp [isF_nat hg, isF_nat hf])
  have hnp : d.pre.pends g = false := by
    unfold Dk.pends
    rw [List.any_eq_false]
    intro p hp
    have hpq : p ∈ d.queue := by
      unfold Dk.pre Dk.endW at hp
      split at hp
      · unfold Dk.crash at hp; split at hp
        · rwa [tick_queue] at hp
        · cases hp
      · rwa [tick_queue] at hp
    have := hn p hpq
    simp; omega
  have key : d.pre.may [(f : Int), (g : Int)] = 0 → d.turnR f g = 0 := by
    intro h
    unfold Dk.turnR; dsimp only
    rw [if_neg (by simp [h]), if_neg (by omega), hnp]; rfl
  refine ⟨?_, fun hd he => key ?_⟩
  · rcases hm with h | h
    · exact .inl (key h)
    · right; unfold Dk.turnR; dsimp only; rw [if_pos (by rw [h]; decide), h]
  · obtain ⟨h1, h2⟩ := pre_idle' hd he
    rw [h1, may_two', may_up h2 hf]
    simp [may_up h2 hg]

theorem ends_of (h : d.armed = 0) : d.ends = false := Dk.ends_idle h
theorem tick_armed (h : d.armed = 0) : d.tick.armed = 0 := by rw [Dk.tick_idle h]; exact h
theorem cut_armed (h : d.armed = 0) (g n : Int) : (d.cut g n).armed = 0 := by
  rw [Dk.cut_idle h]; split
  · exact h
  · split
    · exact h
    · exact h
theorem write_armed (h : d.armed = 0) (g a : Int) (t : Bytes) : (d.write g a t).armed = 0 := by
  rw [Dk.write_idle h]; unfold Dk.writeD; split <;> exact h
theorem flush_armed (h : d.armed = 0) (g : Int) : (d.flush g).armed = 0 := by
  rw [Dk.flush_idle h]; split
  · exact h
  · split <;> exact h
theorem turn_armed (h : d.armed = 0) (g n : Int) : (d.turn g n).armed = 0 := by
  rw [Dk.turn_idle h]; split
  · exact h
  · split
    · exact h
    · split <;> exact h

theorem rewr_err (hl : Len d) (hf : f ≤ 6) (hlost : d.lost = 0) (rows : List Bytes) (hsz : (formsB rows).length ≤ 1000000) : ((rewr d f rows).2 = 0 ∨ (rewr d f rows).2 = 8) ∧ (d.down = false → d.armed = 0 → (rewr d f rows).2 = 0 ∧ (rewr d f rows).1.armed = 0) ∧ (rewr d f rows).1.lost = 0 := by
  have hne : f + 1 ≠ f := by omega
  have hh := header_len (16 + (formsB rows).length : Nat) rows.length
  unfold rewr
  dsimp only
  generalize ht : header (16 + (formsB rows).length : Nat) rows.length ++ formsB rows = t
  have htl : t.length ≤ 16777216 := by rw [← ht, List.length_append, hh]; omega
  have htn : t ≠ [] := ht ▸ head_ne _ _ _
  obtain ⟨r1, i1⟩ := cutR_cases (d := d) (g := f + 1) (by omega)
  have s1 : (d.cut (f + 1 : Nat) 0).lost = 0 := (cut_lost _ _).trans hlost
  have l1 := hl.cut (f + 1 : Nat) 0
  split
  · rename_i h1
    refine ⟨r1, fun hd ha => absurd (i1 hd (ends_of ha)) h1, s1⟩
  · rename_i h1
    have h1 : d.cutR (f + 1 : Nat) 0 = 0 := Decidable.byContradiction fun hn => h1 hn
    obtain ⟨g1, u1⟩ := cut_ok hl (g := f + 1) (by omega) h1
    obtain ⟨r2, i2⟩ := writeR_cases (d := d.cut (f + 1 : Nat) 0) (g := f + 1) (by omega) u1 htl
    have s2 : ((d.cut (f + 1 : Nat) 0).write (f + 1 : Nat) 0 t).lost = 0 := (write_lost _ _ _).trans s1
    have l2 := l1.write (f + 1 : Nat) 0 t
    split
    · rename_i h2
      exact ⟨r2, fun hd ha => absurd (i2 (ends_of (cut_armed ha _ _))) h2, s2⟩
    · rename_i h2
      have h2 : (d.cut (f + 1 : Nat) 0).writeR (f + 1 : Nat) 0 t = 0 := Decidable.byContradiction fun hn => h2 hn
      obtain ⟨-, u2⟩ := write_ok l1 (g := f + 1) (by omega) htn g1.file h2
      obtain ⟨r3, i3⟩ := flushR_cases (d := (d.cut (f + 1 : Nat) 0).write (f + 1 : Nat) 0 t) (g := f + 1) (by omega) s2
      have s3 := flush_lost s2 (f + 1 : Nat)
      split
      · rename_i h3
        exact ⟨r3, fun hd ha => absurd (i3 u2 (ends_of (write_armed (cut_armed ha _ _) _ _ _))) h3, s3⟩
      · rename_i h3
        have h3 : ((d.cut (f + 1 : Nat) 0).write (f + 1 : Nat) 0 t).flushR (f + 1 : Nat) = 0 := Decidable.byContradiction fun hn => h3 hn
        obtain ⟨g3, u3⟩ := flush_ok l2 (g := f + 1) (by omega) h3
        obtain ⟨r4, i4⟩ := turnR_cases (d := ((d.cut (f + 1 : Nat) 0).write (f + 1 : Nat) 0 t).flush (f + 1 : Nat)) (f := f) (g := f + 1) (by omega) (by omega) hne g3.none
        exact ⟨r4, fun hd ha => ⟨i4 u3 (ends_of (flush_armed (write_armed (cut_armed ha _ _) _ _ _) _)), turn_armed (flush_armed (write_armed (cut_armed ha _ _) _ _ _) _) _ _⟩, (turn_lost _ _).trans s3⟩
end
end Go.Proofs.Y
