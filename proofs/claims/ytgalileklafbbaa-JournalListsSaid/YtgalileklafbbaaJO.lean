/- JO: plain laws: files left alone, and rewritings. -/
import Derived.Test.YtgalileklafbbaaJN
set_option linter.unusedSimpArgs false
set_option linter.unusedVariables false
set_option maxRecDepth 100000
namespace Go.Proofs.Y
open Go Go.HL

/-- file f holds s, and all of it is durable -/
structure Clean (d : Dk) (f : Nat) (s : Bytes) : Prop where
  last : d.last f = s
  file : d.file f = s
  none : ∀ p ∈ d.queue, p.file ≠ f
structure Len (d : Dk) : Prop where
  nl : d.lasts.length = 12
  nf : d.files.length = 12

section
variable {d : Dk} {f : Nat} {s : Bytes}

theorem Len.tick (h : Len d) : Len d.tick := by unfold Dk.tick; split <;> exact ⟨h.nl, h.nf⟩
theorem Len.crash (h : Len d) (ks : List Int) : Len (d.crash ks) := by
  unfold Dk.crash; split
  · exact h
  · exact ⟨by simp only [survs_len]; exact h.nl, by simp only [survs_len]; exact h.nl⟩
theorem Len.endW (h : Len d) (e : Bool) : Len (Dk.endW e d) := by unfold Dk.endW; split; exact h.crash _; exact h
theorem Len.pre (h : Len d) : Len d.pre := h.tick.endW _
theorem Len.settle (h : Len d) (g : Nat) (t : Bytes) : Len (d.settle g t) := ⟨by simp [Dk.settle, h.nl], by simp [Dk.settle, h.nf]⟩
theorem Len.writeD (h : Len d) (g a : Int) (t : Bytes) : Len (d.writeD g a t) := by
  unfold Dk.writeD; split
  · exact h
  · exact ⟨h.nl, by simp [h.nf]⟩
theorem Len.write (h : Len d) (g a : Int) (t : Bytes) : Len (d.write g a t) := (h.tick.writeD g a t).endW _
theorem Len.flush (h : Len d) (g : Int) : Len (d.flush g) := by
  unfold Dk.flush; dsimp only; split
  · exact h.pre
  · split
    · exact ⟨h.pre.nl, h.pre.nf⟩
    · exact h.pre.settle _ _
theorem Len.cut (h : Len d) (g n : Int) : Len (d.cut g n) := by
  unfold Dk.cut; dsimp only; split
  · exact h.pre
  · split
    · exact h.pre
    · exact h.pre.settle _ _
theorem Len.turn (h : Len d) (g n : Int) : Len (d.turn g n) := by
  unfold Dk.turn; dsimp only; split
  · exact h.pre
  · split
    · exact h.pre
    · split
      · exact h.pre
      · exact (h.pre.settle _ _).settle _ _

theorem Clean.tick (h : Clean d f s) : Clean d.tick f s := by unfold Dk.tick; split <;> exact ⟨h.last, h.file, h.none⟩
theorem Clean.crash (h : Clean d f s) (ks : List Int) : Clean (d.crash ks) f s := by
  unfold Dk.crash; split
  · exact h
  · have : (survs d.lasts d.queue ks).getD f [] = s := (survs_other d.queue d.lasts ks h.none).trans h.last
    exact ⟨this, this, fun p hp => (nomatch hp)⟩
theorem Clean.endW (h : Clean d f s) (e : Bool) : Clean (Dk.endW e d) f s := by unfold Dk.endW; split; exact h.crash _; exact h
theorem Clean.pre (h : Clean d f s) : Clean d.pre f s := h.tick.endW _
theorem Clean.start (h : Clean d f s) : Clean d.start f s := ⟨h.last, h.file, h.none⟩
theorem Clean.arm (h : Clean d f s) (n : Int) (ks : List Int) : Clean (d.arm n ks) f s := ⟨h.last, h.file, h.none⟩
theorem Clean.lose (h : Clean d f s) (n : Int) : Clean (d.lose n) f s := ⟨h.last, h.file, h.none⟩
theorem Clean.settle (h : Clean d f s) {g : Nat} (hg : g ≠ f) (t : Bytes) : Clean (d.settle g t) f s := by
  refine ⟨?_, ?_, fun p hp => h.none p (List.mem_filter.1 hp).1⟩
  · have : (d.settle g t).last f = d.last f := by simp [Dk.settle, Dk.last, List.getElem?_set_ne hg]
    rw [this]; exact h.last
  · have : (d.settle g t).file f = d.file f := by simp [Dk.settle, Dk.file, List.getElem?_set_ne hg]
    rw [this]; exact h.file
theorem clean_settle (h : Len d) {g : Nat} (hg : g < 12) (t : Bytes) : Clean (d.settle g t) g t := by
  refine ⟨by simp [Dk.settle, Dk.last, h.nl, hg], by simp [Dk.settle, Dk.file, h.nf, hg], fun p hp => ?_⟩
  have := (List.mem_filter.1 hp).2
  simpa using this
theorem Clean.writeD (h : Clean d f s) {g : Nat} (hg : g ≠ f) (a : Int) (t : Bytes) : Clean (d.writeD g a t) f s := by
  unfold Dk.writeD; split
  · exact h
  · refine ⟨h.last, ?_, fun p hp => ?_⟩
    · have : (d.files.set (g : Int).toNat (put (d.file (g : Int).toNat) a.toNat t)).getD f [] = d.file f := by
        simp [Dk.file, List.getElem?_set_ne hg]
      exact this.trans h.file
    · rcases List.mem_append.1 hp with h' | h'
      · exact h.none p h'
      · rw [pieces_file _ _ _ _ p h']; simpa using hg
theorem Clean.write (h : Clean d f s) {g : Nat} (hg : g ≠ f) (a : Int) (t : Bytes) : Clean (d.write g a t) f s := (h.tick.writeD hg a t).endW _
theorem Clean.flush (h : Clean d f s) {g : Nat} (hg : g ≠ f) : Clean (d.flush g) f s := by
  unfold Dk.flush; dsimp only; split
  · exact h.pre
  · split
    · exact ⟨h.pre.last, h.pre.file, h.pre.none⟩
    · exact h.pre.settle (by simpa using hg) _
theorem Clean.cut (h : Clean d f s) {g : Nat} (hg : g ≠ f) (n : Int) : Clean (d.cut g n) f s := by
  unfold Dk.cut; dsimp only; split
  · exact h.pre
  · split
    · exact h.pre
    · exact h.pre.settle (by simpa using hg) _

theorem may_zero {d : Dk} {l : List Int} (h : d.may l = 0) : d.down = false := by
  unfold Dk.may at h; split at h
  · omega
  · rename_i hd; simpa using hd
/-- a call that is let through was no crash -/
theorem pre_up (h : d.pre.down = false) : d.pre = d.tick ∧ d.ends = false := by
  unfold Dk.pre Dk.endW at h ⊢
  cases he : d.ends with
  | false => exact ⟨rfl, rfl⟩
  | true =>
    rw [he] at h
    simp only [if_true] at h
    have hd : d.tick.down = false := by
      have : d.down = false := by unfold Dk.ends at he; simp at he; exact he.1
      unfold Dk.tick; split <;> exact this
    simp [Dk.crash, hd] at h
theorem tick_file : d.tick.file f = d.file f := by unfold Dk.tick; split <;> rfl
theorem tick_last : d.tick.last f = d.last f := by unfold Dk.tick; split <;> rfl

theorem cut_ok (hl : Len d) {g : Nat} (hg : g < 12) (h : d.cutR g 0 = 0) : Clean (d.cut g 0) g [] ∧ (d.cut g 0).down = false := by
  unfold Dk.cutR at h; dsimp only at h
  split at h
  · rename_i h1; exact absurd h h1
  · rename_i h1
    split at h
    · omega
    · rename_i h2
      have hm : d.pre.may [(g : Int)] = 0 := Decidable.byContradiction fun hn => h1 hn
      have hd := may_zero hm
      unfold Dk.cut; dsimp only
      rw [if_neg h1, if_neg h2]
      refine ⟨?_, hd⟩
      have := clean_settle hl.pre hg ((d.pre.file g).take 0)
      simpa using this
theorem write_ok (hl : Len d) {g : Nat} (hg : g < 12) {t : Bytes} (ht : t ≠ []) (h0 : d.file g = []) (h : d.writeR g 0 t = 0) : (d.write g 0 t).file g = t ∧ (d.write g 0 t).down = false := by
  unfold Dk.writeR at h
  split at h
  · omega
  · rename_i he
    have he : d.ends = false := by simpa using he
    have hm : d.tick.may [(g : Int)] = 0 := by
      unfold Dk.writeE at h; split at h
      · rename_i h1; exact absurd h h1
      · rename_i h1; exact Decidable.byContradiction fun hn => h1 hn
    have hd := may_zero hm
    unfold Dk.write Dk.endW
    rw [he]
    simp only [Bool.false_eq_true, if_false]
    unfold Dk.writeD
    rw [if_neg (by simp [h, ht])]
    refine ⟨?_, hd⟩
    have : d.tick.file g = [] := tick_file.trans h0
    have hgl : g < d.tick.files.length := by rw [hl.tick.nf]; exact hg
    show (d.tick.files.set g (put (d.tick.file g) (0 : Int).toNat t)).getD g [] = t
    rw [List.getD_eq_getElem?_getD, List.getElem?_set_self hgl, this]
    exact put_nil t
theorem flush_ok (hl : Len d) {g : Nat} (hg : g < 12) (h : d.flushR g = 0) : Clean (d.flush g) g (d.file g) ∧ (d.flush g).down = false := by
  unfold Dk.flushR at h; dsimp only at h
  split at h
  · rename_i h1; exact absurd h h1
  · rename_i h1
    split at h
    · omega
    · rename_i h2
      have hm : d.pre.may [(g : Int)] = 0 := Decidable.byContradiction fun hn => h1 hn
      have hd := may_zero hm
      unfold Dk.flush; dsimp only
      rw [if_neg h1, if_neg h2]
      refine ⟨?_, hd⟩
      have := clean_settle hl.pre hg (d.pre.file g)
      rw [(pre_up hd).1, tick_file] at this
      rw [(pre_up hd).1]
      simpa [tick_file] using this
theorem turn_ok (hl : Len d) {g : Nat} (hf : f < 12) (hg : g < 12) (hne : g ≠ f) (h : d.turnR f g = 0) : Clean (d.turn f g) f (d.last g) ∧ (d.turn f g).down = false := by
  unfold Dk.turnR at h; dsimp only at h
  split at h
  · rename_i h1; exact absurd h h1
  · rename_i h1
    split at h
    · omega
    · rename_i h2
      split at h
      · omega
      · rename_i h3
        have hm : d.pre.may [(f : Int), (g : Int)] = 0 := Decidable.byContradiction fun hn => h1 hn
        have hd := may_zero hm
        unfold Dk.turn; dsimp only
        rw [if_neg h1, if_neg h2, if_neg h3]
        refine ⟨?_, hd⟩
        have h4 := clean_settle hl.pre hf (d.pre.last g)
        have h5 := h4.settle hne []
        rw [(pre_up hd).1, tick_last] at h5
        rw [(pre_up hd).1]
        simpa [tick_last] using h5
theorem turn_no (hc : Clean d f s) {g : Nat} (h : d.turnR f g ≠ 0) : Clean (d.turn f g) f s := by
  unfold Dk.turnR at h; unfold Dk.turn; dsimp only at h ⊢
  split at h
  · rename_i h1; rw [if_pos h1]; exact hc.pre
  · rename_i h1
    rw [if_neg h1]
    split at h
    · rename_i h2; rw [if_pos h2]; exact hc.pre
    · rename_i h2
      rw [if_neg h2]
      split at h
      · rename_i h3; rw [if_pos h3]; exact hc.pre
      · exact absurd rfl h

theorem head_ne (e m : Int) (t : Bytes) : header e m ++ t ≠ [] := by
  intro h
  have := congrArg List.length h
  rw [List.length_append, header_len] at this
  simp at this

/-- a rewriting: the old rows or the new ones -/
theorem rewr_clean (hl : Len d) (hf : f ≤ 6) (hc : Clean d f s) (rows : List Bytes) : ((rewr d f rows).2 = 0 → Clean (rewr d f rows).1 f (header (16 + (formsB rows).length : Nat) rows.length ++ formsB rows) ∧ (rewr d f rows).1.down = false) ∧ ((rewr d f rows).2 ≠ 0 → Clean (rewr d f rows).1 f s) ∧ Len (rewr d f rows).1 := by
  have hne : f + 1 ≠ f := by omega
  unfold rewr
  dsimp only
  generalize ht : header (16 + (formsB rows).length : Nat) rows.length ++ formsB rows = t
  have htn : t ≠ [] := ht ▸ head_ne _ _ _
  have c1 := hc.cut hne 0
  have l1 := hl.cut (f + 1 : Nat) 0
  split
  · rename_i h1; exact ⟨fun h => absurd h h1, fun _ => c1, l1⟩
  · rename_i h1
    have h1 : d.cutR (f + 1 : Nat) 0 = 0 := Decidable.byContradiction fun hn => h1 hn
    obtain ⟨g1, -⟩ := cut_ok hl (g := f + 1) (by omega) h1
    have c2 := c1.write hne 0 t
    have l2 := l1.write (f + 1 : Nat) 0 t
    split
    · rename_i h2; exact ⟨fun h => absurd h h2, fun _ => c2, l2⟩
    · rename_i h2
      have h2 : (d.cut (f + 1 : Nat) 0).writeR (f + 1 : Nat) 0 t = 0 := Decidable.byContradiction fun hn => h2 hn
      obtain ⟨g2, -⟩ := write_ok l1 (g := f + 1) (by omega) htn g1.file h2
      have c3 := c2.flush hne
      have l3 := l2.flush (f + 1 : Nat)
      split
      · rename_i h3; exact ⟨fun h => absurd h h3, fun _ => c3, l3⟩
      · rename_i h3
        have h3 : ((d.cut (f + 1 : Nat) 0).write (f + 1 : Nat) 0 t).flushR (f + 1 : Nat) = 0 := Decidable.byContradiction fun hn => h3 hn
        obtain ⟨g3, -⟩ := flush_ok l2 (g := f + 1) (by omega) h3
        rw [g2] at g3
        refine ⟨fun h4 => ?_, fun h4 => turn_no c3 h4, l3.turn _ _⟩
        have := turn_ok l3 (f := f) (g := f + 1) (by omega) (by omega) hne h4
        rw [g3.last] at this
        exact this
end
end Go.Proofs.Y
