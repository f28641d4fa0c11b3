/- DWa (of DW: what serves elsewhere): the walk of DiskDown. -/
import Derived.Test.YtgalileklafbbaaDU
import Derived.Test.YtgalileklafbbaaDO
import Derived.Test.YtgalileklafbbaaDP
import Derived.Test.YtgalileklafbbaaDV
set_option linter.unusedSimpArgs false
set_option linter.unusedVariables false
set_option maxRecDepth 100000
namespace Go.Proofs.Y
open Go Go.HL Go.Proofs
section
variable {w : World} {next : Value → World → Prop} {QP : List PanicEntry → World → Prop}

theorem act_queue (d : Dk) (a : Act) : (d.act a).queue.length ≤ d.queue.length + a.S.length := by
  have hp := pre_queue d
  unfold Dk.act
  split
  · unfold Dk.write Dk.endW
    have := writeD_queue d.tick a.F a.N a.S
    rw [tick_queue] at this
    split
    · exact Nat.le_trans (crash_queue _ _) this
    · exact this
  split
  · unfold Dk.flush; dsimp only
    split
    · omega
    · split
      · show d.pre.queue.length ≤ _; omega
      · exact Nat.le_trans (List.length_filter_le _ _) (by omega)
  split
  · unfold Dk.cut; dsimp only
    split
    · omega
    · split
      · omega
      · exact Nat.le_trans (List.length_filter_le _ _) (by omega)
  split
  · unfold Dk.turn; dsimp only
    split
    · omega
    · split
      · omega
      · split
        · omega
        · exact Nat.le_trans (List.length_filter_le _ _) (Nat.le_trans (List.length_filter_le _ _) (by omega))
  split
  · have := crash_queue d a.ks; omega
  split
  · show d.queue.length ≤ _; omega
  split
  · show d.queue.length ≤ _; omega
  split
  · omega
  split
  · show d.queue.length ≤ _; omega
  · omega

theorem sl38 : SlTy Try.prog 38 42 6 72 (.agg #[.int .i64 0, .int .i64 0, .int .i64 0, .int .i64 0, str [], .slice none 0 0]) := ⟨by kernel_rfl, by kernel_rfl, rfl, by decide⟩

theorem few_le {al : List Act} (h : few al = true) : al.length ≤ 200 ∧ heft al ≤ 5000 := by
  simp [few] at h; exact ⟨h.1.2, h.2⟩

/-- an element of the operations that came in, read whole -/
theorem act_at {w w' : World} {v : Value} {al : List Act} {i : Nat} (hv : Sl w v 6 al.length (rows Act.cells al)) (m : Mod none' w w') (hi : i < al.length) : ∃ gb o c, v = .slice (some ⟨gb, o, none⟩) al.length c ∧
    loadN w' ⟨gb, o + i * 6, none⟩ 6 = al[i].cells.toArray ∧ (∀ j, j < 6 → (w'.cell? ⟨gb, o + i * 6 + j, none⟩).isSome = true) := by
  obtain ⟨gb, o, c, hva, hcc, hcell⟩ := (hv.mod m fun _ _ h => h).get Act.cells_len rfl (by omega)
  exact ⟨gb, o, c, hva, loadN_of rfl fun j hj => by rw [e_add]; exact hcell i j hi hj, fun j hj => by rw [hcell i j hi hj]; simp [Act.cells_len, hj]⟩

end
end Go.Proofs.Y
