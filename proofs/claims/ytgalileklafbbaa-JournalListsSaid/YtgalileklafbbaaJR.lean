/- JR: plain laws: a log over a disk at rest. -/
import Derived.Test.YtgalileklafbbaaJQ
set_option linter.unusedSimpArgs false
set_option linter.unusedVariables false
set_option maxRecDepth 100000
namespace Go.Proofs.Y
open Go Go.HL Go.Proofs

/-- up, no crash armed, no flush lost -/
structure At (d : Dk) : Prop where
  len : Len d
  down : d.down = false
  armed : d.armed = 0
  lost : d.lost = 0
theorem at_new : At Dk.new := ⟨⟨rfl, rfl⟩, rfl, rfl, rfl⟩

theorem rewr_done {d : Dk} {f : Nat} (hl : Len d) (hf : f ≤ 6) (rows : List Bytes) (h : (rewr d f rows).2 = 0) : Clean (rewr d f rows).1 f (image rows) ∧ (rewr d f rows).1.down = false := by
  have hne : f + 1 ≠ f := by omega
  unfold image
  unfold rewr at h ⊢
  dsimp only at h ⊢
  generalize ht : header (16 + (formsB rows).length : Nat) rows.length ++ formsB rows = t at *
  have htn : t ≠ [] := ht ▸ head_ne _ _ _
  have l1 := hl.cut (f + 1 : Nat) 0
  split at h
  · rename_i h1; exact absurd h h1
  · rename_i h1
    rw [if_neg h1]
    have h1 : d.cutR (f + 1 : Nat) 0 = 0 := Decidable.byContradiction fun hn => h1 hn
    obtain ⟨g1, -⟩ := cut_ok hl (g := f + 1) (by omega) h1
    have l2 := l1.write (f + 1 : Nat) 0 t
    split at h
    · rename_i h2; exact absurd h h2
    · rename_i h2
      rw [if_neg h2]
      have h2 : (d.cut (f + 1 : Nat) 0).writeR (f + 1 : Nat) 0 t = 0 := Decidable.byContradiction fun hn => h2 hn
      obtain ⟨g2, -⟩ := write_ok l1 (g := f + 1) (by omega) htn g1.file h2
      have l3 := l2.flush (f + 1 : Nat)
      split at h
      · rename_i h3; exact absurd h h3
      · rename_i h3
        rw [if_neg h3]
        have h3 : ((d.cut (f + 1 : Nat) 0).write (f + 1 : Nat) 0 t).flushR (f + 1 : Nat) = 0 := Decidable.byContradiction fun hn => h3 hn
        obtain ⟨g3, -⟩ := flush_ok l2 (g := f + 1) (by omega) h3
        rw [g2] at g3
        have := turn_ok l3 (f := f) (g := f + 1) (by omega) (by omega) hne h
        rw [g3.last] at this
        exact this
theorem rewr_len {d : Dk} {f : Nat} (hl : Len d) (rows : List Bytes) : Len (rewr d f rows).1 := by
  unfold rewr
  dsimp only
  split
  · exact hl.cut _ _
  · split
    · exact (hl.cut _ _).write _ _ _
    · split
      · exact ((hl.cut _ _).write _ _ _).flush _
      · exact (((hl.cut _ _).write _ _ _).flush _).turn _ _

section
variable {d : Dk} {f : Nat}
theorem At.rewr (h : At d) (hf : f ≤ 6) (rows : List Bytes) (hsz : (formsB rows).length ≤ 1000000) : (rewr d f rows).2 = 0 ∧ At (rewr d f rows).1 := by
  obtain ⟨-, e2, e3⟩ := rewr_err h.len hf h.lost rows hsz
  obtain ⟨e4, e5⟩ := e2 h.down h.armed
  exact ⟨e4, rewr_len h.len rows, (rewr_done h.len hf rows e4).2, e5, e3⟩
theorem At.write (h : At d) (hf : f < 12) {a : Nat} {s : Bytes} (hfit : a + s.length ≤ 16777216) : d.writeR f a s = 0 ∧ At (d.write f a s) := by
  have hm := may_up h.down hf
  obtain ⟨h1, h2, -⟩ := idle_same h.armed hm (a := a) (s := s) (by omega) (by omega)
  exact ⟨idle_writeR h.armed hm (by omega) (by omega), h.len.write _ _ _, h2.trans h.down, h1, (write_lost _ _ _).trans h.lost⟩
theorem At.flush (h : At d) (hf : f < 12) : d.flushR f = 0 ∧ At (d.flush f) := by
  have h1 := (flushR_cases (d := d) hf h.lost).2 h.down (ends_of h.armed)
  exact ⟨h1, h.len.flush _, (flush_ok h.len hf h1).2, flush_armed h.armed _, flush_lost h.lost _⟩
theorem At.flushJ (h : At d) (hf : f < 12) (L : Lg) : (flushJ d L f).2.2 = 0 ∧ (flushJ d L f).2.1 = ⟨L.rows, L.rows.length, L.end_⟩ ∧ At (flushJ d L f).1 := by
  obtain ⟨f1, a1⟩ := h.flush hf
  obtain ⟨f2, a2⟩ := a1.write hf (a := 0) (s := header L.end_ L.rows.length) (by rw [header_len]; omega)
  obtain ⟨f3, a3⟩ := a2.flush hf
  have f2 : (d.flush f).writeR f 0 (header L.end_ L.rows.length) = 0 := f2
  have e : flush3 d L f = (((d.flush f).write f 0 (header L.end_ L.rows.length)).flush f, 0) := by
    unfold flush3
    rw [if_neg (fun hn => hn f1), if_neg (fun hn => hn f2)]
    exact congrArg (Prod.mk _) f3
  unfold Y.flushJ
  split
  · rename_i hs
    refine ⟨by simp [h.down], ?_, h⟩
    show L = _
    rw [← hs]
  · rw [e]
    exact ⟨rfl, rfl, a3⟩
theorem At.add (h : At d) (hf : f < 12) (L : Lg) (rows : List Bytes) (hfit : L.end_ + (formsB rows).length ≤ 16777216) : addE d L f rows = 0 ∧ At (addD' d L f rows) := h.write hf hfit
theorem At.batch (h : At d) (hf : f < 12) (L : Lg) (rows : List Bytes) (hfit : L.end_ + (formsB rows).length ≤ 16777216) : (batchJ d L f rows).2.2 = 0 ∧ (batchJ d L f rows).2.1 = ⟨L.rows ++ rows, (L.rows ++ rows).length, L.end_ + (formsB rows).length⟩ ∧ At (batchJ d L f rows).1 := by
  unfold batchJ
  split
  · rename_i h0
    subst h0
    obtain ⟨e1, e2, e3⟩ := h.flushJ hf L
    exact ⟨e1, by rw [e2]; simp [formsB], e3⟩
  · obtain ⟨a1, a2⟩ := h.add hf L rows hfit
    rw [if_neg (fun hn => hn a1)]
    obtain ⟨e1, e2, e3⟩ := a2.flushJ hf (L.add rows)
    exact ⟨e1, e2, e3⟩
theorem flushJ_queue (d : Dk) (L : Lg) (f : Nat) : (flushJ d L f).1.queue.length ≤ d.queue.length + 16 := by
  unfold flushJ
  split
  · dsimp only; omega
  · dsimp only
    have h1 := flush_queue d f
    have h2 := write_queue (d.flush f) f 0 (header L.end_ L.rows.length)
    have h3 := flush_queue ((d.flush f).write f 0 (header L.end_ L.rows.length)) f
    rw [header_len] at h2
    unfold flush3
    split
    · dsimp only; omega
    · split <;> (dsimp only; omega)
theorem addD_queue (d : Dk) (L : Lg) (f : Nat) (rows : List Bytes) : (addD' d L f rows).queue.length ≤ d.queue.length + (formsB rows).length := write_queue _ _ _ _
theorem batchJ_queue (d : Dk) (L : Lg) (f : Nat) (rows : List Bytes) : (batchJ d L f rows).1.queue.length ≤ d.queue.length + 16 + (formsB rows).length := by
  unfold batchJ
  have h1 := flushJ_queue d L f
  have h2 := addD_queue d L f rows
  have h3 := flushJ_queue (addD' d L f rows) (L.add rows) f
  split
  · omega
  · split
    · dsimp only; omega
    · omega
end
end Go.Proofs.Y
