/- DZ: what came in with a call, as the walks ask for it. -/
import Derived.Test.YtgalileklafbbaaDJ
set_option linter.unusedSimpArgs false
set_option linter.unusedVariables false
set_option maxRecDepth 100000
namespace Go.Proofs.Y
open Go Go.HL Go.Proofs

theorem str_of (a : ByteArray) : Value.string a = str a.data.toList := rfl

theorem wf64 {a : Int} (h : (Lit.int .i64 a).wf = true) : -9223372036854775808 ≤ a ∧ a ≤ 9223372036854775807 := by
  simp only [Lit.wf, Bool.and_eq_true, decide_eq_true_eq] at h
  exact h

/-- a contract out of a rule -/
theorem calls_of_rule {f : FuncId} {args : List Value} {w : World} (h : ∀ next : Value → World → Prop, (∀ w', Mod none' w w' → next (.bool true) w') → callK Try.prog f args w next noPanic) :
    Calls Try.prog f args.toArray w fun e w' => e = .returned (.bool true) ∧ RowKit.Below w.heap.size w w' := by
  refine Calls.mono (h (fun v w' => v = .bool true ∧ RowKit.Below w.heap.size w w') fun w' m => ⟨rfl, m.below (Nat.le_refl _) fun _ _ h => h⟩) fun e w' he => ?_
  cases e with
  | returned v => exact ⟨by rw [he.1], he.2⟩
  | panicked c => exact he.elim
  | outgrown => exact he.elim

/-- a row of integers that came in can be read -/
theorem sl_of_row {w : World} {a : Option Addr} {len cap : Nat} {zs : List Int}
    (h : (a = none ∧ len = 0 ∧ cap = 0 ∧ zs = []) ∨ ∃ x, a = some x ∧ len ≤ cap ∧ cap ≤ maxLen ∧ zs.length = cap ∧ (∀ i, i < zs.length → w.cell? (x.add i) = some (.int .i64 (zs.getD i 0))) ∧ ∀ n ∈ zs, (Lit.int .i64 n).wf = true) :
    Sl w (.slice a len cap) 1 len (ints (zs.take len)) := by
  rcases h with ⟨rfl, rfl, rfl, rfl⟩ | ⟨x, rfl, hl, -, hz, hc, -⟩
  · exact ⟨rfl, none, 0, rfl, Nat.le_refl _, fun h => absurd h (Nat.lt_irrefl _)⟩
  · refine ⟨by rw [ints_len, List.length_take]; omega, some x, cap, rfl, hl, fun h0 => ?_⟩
    have hs : x.spot = none := by
      have := hc 0 (by omega)
      have e : x.add 0 = x := rfl
      rw [e] at this
      exact World.cell?_spot this
    obtain ⟨b, o, s⟩ := x
    simp only at hs
    subst hs
    refine ⟨b, o, rfl, fun j hj => ?_⟩
    have := hc j (by omega)
    rw [e_add] at this
    rw [this]
    simp only [ints, List.getElem?_map, List.getElem?_take, List.getD_eq_getElem?_getD]
    rw [if_pos (by omega), List.getElem?_eq_getElem (by omega)]
    rfl
end Go.Proofs.Y
