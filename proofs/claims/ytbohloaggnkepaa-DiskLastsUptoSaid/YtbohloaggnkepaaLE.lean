/- LE: the disk, what is safe, and the operations since, side by side in memory. -/
import Derived.Test.YtbohloaggnkepaaLD
set_option linter.unusedSimpArgs false
set_option linter.unusedVariables false
namespace Go.Proofs.Y
open Go Go.HL Go.Proofs

structure LS (w0 w : World) (p : Nat) (d : Dk) (F : FP) (sv nv : Value) (safe : List Bytes) (al : List Act) : Prop where
  dr : DR w p d F
  sown : Own w sv 9 1 12 (safe.map str)
  nown : Own w nv 42 6 al.length (rows Act.cells al)
  sF : ∀ k, sv.ownBlock = some k → ¬ F.R k ∧ w0.heap.size ≤ k
  nF : ∀ k, nv.ownBlock = some k → ¬ F.R k ∧ w0.heap.size ≤ k
  fF : ∀ k, F.R k → w0.heap.size ≤ k
  mod : Mod none' w0 w

variable {w0 w w' : World} {p : Nat} {d d' : Dk} {F : FP} {sv nv : Value} {safe : List Bytes} {al : List Act}

/-- a step of the disk -/
theorem LS.step (h : LS w0 w p d F sv nv safe al) (st : St F w w' p d') : LS w0 w' p d' st.foot sv nv safe al := by
  have hs := h.mod.size
  refine ⟨st.dr, h.sown.mod st.mod fun k hk hW => (h.sF k hk).1 (h.dr.sub k hW), h.nown.mod st.mod fun k hk hW => (h.nF k hk).1 (h.dr.sub k hW), fun k hk => ⟨fun hR => ?_, (h.sF k hk).2⟩, fun k hk => ⟨fun hR => ?_, (h.nF k hk).2⟩, fun k hk => ?_, h.mod.trans st.mod fun k hk hW => ?_⟩
  · rcases st.footR k hR with h' | h'
    · exact (h.sF k hk).1 h'
    · have := h.sown.lt k hk; omega
  · rcases st.footR k hR with h' | h'
    · exact (h.nF k hk).1 h'
    · have := h.nown.lt k hk; omega
  · rcases st.footR k hk with h' | h'
    · exact h.fF k h'
    · omega
  · have := h.fF k (h.dr.sub k hW); omega
theorem LS.mod0 (h : LS w0 w p d F sv nv safe al) (m : Mod none' w w') : LS w0 w' p d F sv nv safe al :=
  ⟨h.dr.mod0 m, h.sown.mod m fun _ _ h => h, h.nown.mod m fun _ _ h => h, h.sF, h.nF, h.fF, h.mod.trans' m⟩

/-- new operations -/
theorem LS.since (h : LS w0 w p d F sv nv safe al) {nv' : Value} {bl : List Act} (ho : Own w' nv' 42 6 bl.length (rows Act.cells bl)) (m : Mod (ownS nv) w w') (hn : ∀ k, nv'.ownBlock = some k → nv.ownBlock = some k ∨ w.heap.size ≤ k) : LS w0 w' p d F sv nv' safe bl := by
  have hs := h.mod.size
  refine ⟨h.dr.mod m fun k hR hS => (h.nF k hS).1 hR, h.sown.mod m fun k hk hS => own_ne h.nown h.sown (by decide) hS hk, ho, h.sF, fun k hk => ?_, h.fF, h.mod.trans m fun k hk hS => ?_⟩
  · rcases hn k hk with h' | h'
    · exact h.nF k h'
    · exact ⟨fun hR => by have := h.dr.lt k hR; omega, by omega⟩
  · have := (h.nF k hS).2; omega
theorem LS.since0 (h : LS w0 w p d F sv nv safe al) {nv' : Value} {bl : List Act} (ho : Own w' nv' 42 6 bl.length (rows Act.cells bl)) (m : Mod none' w w') (hn : ∀ k, nv'.ownBlock = some k → w.heap.size ≤ k) : LS w0 w' p d F sv nv' safe bl :=
  h.since ho (m.mono fun _ _ h => h.elim) fun k hk => .inr (hn k hk)

/-- the safe contents of a file set -/
theorem LS.set {next : Value → World → Prop} {QP : List PanicEntry → World → Prop} (h : LS w0 w p d F sv nv safe al) {f : Nat} (hf : f < 12) (s : Bytes) :
    ∃ g c, sv = .slice (some ⟨g, 0, none⟩) 12 c ∧ w.cell? ⟨g, f, none⟩ = some (str (safe.getD f [])) ∧
      ((∀ w', LS w0 w' p d F sv nv (safe.set f s) al → Mod (ownS sv) w w' → next undef w') → storeK Try.prog 9 (.pointer (some ⟨g, f, none⟩)) (str s) w next QP) := by
  rcases h.sown.blk with ⟨-, h0, -⟩ | ⟨g, c, rest, rfl, hb, hr, hc, hm⟩
  · omega
  have hl : safe.length = 12 := by have := h.sown.len; simpa using this
  have hs := h.mod.size
  have hg := h.sF g rfl
  refine ⟨g, c, rfl, ?_, fun k => ?_⟩
  · rw [hb.cell, List.getElem?_append_left (by simp; omega)]
    simp [hl, hf]
  · refine store1 sz9 hb (by simp; omega) rfl ?_
    intro w' hb' m hsz
    refine k w' ⟨h.dr.mod m fun k hR (e : k = g) => hg.1 (e ▸ hR), ?_, h.nown.mod m fun k hk (e : k = g) => own_ne h.nown h.sown (by decide) hk (by rw [e]; rfl), h.sF, h.nF, h.fF, h.mod.trans m fun k hk (e : k = g) => by omega⟩ (m.mono fun k _ (e : k = g) => by rw [e]; rfl)
    rw [List.set_append_left _ _ (by simp; omega)] at hb'
    have e : (safe.map str).set f (str s) = (safe.set f s).map str := by rw [List.map_set]
    rw [e] at hb'
    exact Own.of_blk (by simp [hl]) hb' hr hc hm
end Go.Proofs.Y
