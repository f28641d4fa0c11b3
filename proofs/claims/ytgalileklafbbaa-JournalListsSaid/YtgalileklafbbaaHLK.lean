/- HLK: the guards. -/
import Derived.Test.YtgalileklafbbaaHLJ
set_option linter.unusedSimpArgs false
set_option linter.unusedVariables false
set_option maxRecDepth 100000
namespace Go.HL
open Go
theorem gOn_none (σ : Env) (w : World) : gOn σ w none = true := rfl
theorem gOn_some (σ : Env) (w : World) (g : HE) (b : Bool) : gOn σ w (some (g, b)) = isB b (val σ w g) := rfl
theorem cell_drew (w : World) (a : Addr) : w.drew.cell? a = w.cell? a := rfl
theorem loadN_drew (w : World) (a : Addr) (n : Nat) : loadN w.drew a n = loadN w a n := rfl
attribute [go_sem] cell_drew loadN_drew gOn_none gOn_some true_implies
/-- a slice that is read, where its block (if it has elements) was left alone -/
theorem Sl.mod' {S : Nat → Prop} {w w' : World} {v : Value} {sz n : Nat} {xs : List Value} (h : Sl w v sz n xs) (m : Mod S w w') (hd : 0 < n → ∀ k, v.ownBlock = some k → ¬ S k) : Sl w' v sz n xs := by
  rcases Nat.eq_zero_or_pos n with h0 | h0
  · obtain ⟨h1, a, c, hv, hc, _⟩ := h
    exact ⟨h1, a, c, hv, hc, fun hn => by omega⟩
  · exact h.mod m (hd h0)
/-- its block was there -/
theorem Sl.lt {w : World} {v : Value} {sz n : Nat} {xs : List Value} (h : Sl w v sz n xs) (hs : 0 < sz) (hn : 0 < n) : ∀ k, v.ownBlock = some k → k < w.heap.size := by
  obtain ⟨h1, a, c, rfl, hc, h2⟩ := h
  obtain ⟨b, o, rfl, h3⟩ := h2 hn
  intro k hk
  simp only [Value.ownBlock, Option.some.injEq] at hk
  subst hk
  have hp : 0 < n * sz := Nat.mul_pos hn hs
  have := h3 0 hp
  rw [List.getElem?_eq_getElem (by omega)] at this
  exact World.block_lt_of_cell? w _ this

section
variable {P : Program} {w : World} {next : Value → World → Prop} {QP : List PanicEntry → World → Prop}
theorem fill_one {place : Nat → Option (Nat × Nat)} {cells : Array Value} {i o : Nat} {v : Value} {rest : List (Nat × Value)} (hp : place i = some (o, 1)) (hv : v.oneCell' = true) (ho : o < cells.size) :
    Instr.fill place cells ((i, v) :: rest) = Instr.fill place (cells.setIfInBounds o v) rest := by
  rw [Instr.fill, hp]
  simp only [one_of hv]
  rw [if_neg (by simp; omega)]
  rfl
theorem bsl2 {t e by_ : Nat} {z v u : Value} (ht : SlTy P t e 1 by_ z) (hv : v.oneCell' = true) (hu : u.oneCell' = true)
    (k : ∀ b w', w.heap.size = b → Own w' (.slice (some ⟨b, 0, none⟩) 2 2) e 1 2 [v, u] → Blk w' b e [v, u] → Mod none' w w' → w'.heap.size = b + 1 → next (.slice (some ⟨b, 0, none⟩) 2 2) w') : bslK P t 2 [(0, v), (1, u)] w next QP := by
  refine bsl_ ht rfl (by omega) ?_ k
  rw [fill_one rfl hv (by simp), fill_one rfl hu (by simp), Instr.fill]
  congr 1
  apply Array.toList_inj.1
  simp [List.range_succ]
theorem bsl3 {t e by_ : Nat} {z v u x : Value} (ht : SlTy P t e 1 by_ z) (hv : v.oneCell' = true) (hu : u.oneCell' = true) (hx : x.oneCell' = true)
    (k : ∀ b w', w.heap.size = b → Own w' (.slice (some ⟨b, 0, none⟩) 3 3) e 1 3 [v, u, x] → Blk w' b e [v, u, x] → Mod none' w w' → w'.heap.size = b + 1 → next (.slice (some ⟨b, 0, none⟩) 3 3) w') : bslK P t 3 [(0, v), (1, u), (2, x)] w next QP := by
  refine bsl_ ht rfl (by omega) ?_ k
  rw [fill_one rfl hv (by simp), fill_one rfl hu (by simp), fill_one rfl hx (by simp), Instr.fill]
  congr 1
  apply Array.toList_inj.1
  simp [List.range_succ]
end
end Go.HL
