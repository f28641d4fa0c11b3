/- JV: deeds that came in with a call. -/
import Derived.Test.YtgalileklafbbaaJN
import Derived.Test.YtgalileklafbbaaDZ
import Derived.Test.YtgalileklafbbaaHLV
import Derived.Deep.Slices
set_option linter.unusedSimpArgs false
set_option linter.unusedVariables false
set_option maxRecDepth 100000
namespace Go.Proofs.Y
open Go Go.HL Go.Proofs Go.ChangeShapes Go.WideShapes Go.Deep

noncomputable def fs65 : Array Field := match Try.prog.underlying 65 with | some (.struct fs) => fs | _ => #[]
theorem u65 : Try.prog.underlying 65 = some (.struct fs65) := by kernel_rfl
theorem fs65_size : fs65.size = 5 := by kernel_rfl
theorem cells65 : Try.prog.cellsOf 65 = 5 := by kernel_rfl
theorem cells40 : Try.prog.cellsOf 40 = 1 := by kernel_rfl
theorem fld65 (i o t : Nat) (h : (fs65[i]?).map (fun f => (f.offset, f.type)) = some (o, t)) : ∃ f, fs65[i]? = some f ∧ f.offset = o ∧ f.type = t := by
  obtain ⟨f, hf, he⟩ := Option.map_eq_some_iff.1 h
  simp only [Prod.mk.injEq] at he
  exact ⟨f, hf, he.1, he.2⟩

section
variable {H : Type} {enc : TypeId × Value → H} {w : World}

theorem deed_in {fuel : Nat} {cs : List Value} {x : DataW H × List MemPlace} (h : DataW.trod enc Try.prog w 0 (fun _ => true) true fuel 65 cs = some x) :
    ∃ a : Deed, cs = a.cells ∧ a.OK w := by
  obtain ⟨xs, n, rfl, rfl, hlen, hxl, hf⟩ := DataW.trod_struct u65 h
  rw [cells65] at hlen
  rw [fs65_size] at hxl
  match cs, hlen with
  | [c0, c1, c2, c3, c4], _ =>
  match xs, hxl with
  | [y0, y1, y2, y3, y4], _ =>
  obtain ⟨f0, g0, o0, e0⟩ := fld65 0 0 3 (by kernel_rfl)
  obtain ⟨f1, g1, o1, e1⟩ := fld65 1 1 9 (by kernel_rfl)
  obtain ⟨f2, g2, o2, e2⟩ := fld65 2 2 40 (by kernel_rfl)
  obtain ⟨f3, g3, o3, e3⟩ := fld65 3 3 22 (by kernel_rfl)
  obtain ⟨f4, g4, o4, e4⟩ := fld65 4 4 3 (by kernel_rfl)
  have h0 := hf 0 f0 g0
  have h1 := hf 1 f1 g1
  have h2 := hf 2 f2 g2
  have h3 := hf 3 f3 g3
  have h4 := hf 4 f4 g4
  rw [o0, e0, cells3] at h0
  rw [o1, e1, cells9] at h1
  rw [o2, e2, cells40] at h2
  rw [o3, e3, cells22] at h3
  rw [o4, e4, cells3] at h4
  obtain ⟨n0, k0, rfl, w0⟩ := DataW.trod_int (x := y0) Try.underlying3 h0
  obtain ⟨s1, k1, rfl, w1⟩ := DataW.trod_string (x := y1) Try.underlying9 h1
  obtain ⟨n4, k4, rfl, w4⟩ := DataW.trod_int (x := y4) Try.underlying3 h4
  have hs2 : ∃ a len cap, c2 = .slice a len cap := by
    rcases open_strings (x := y2) Try.underlying40 Try.underlying9 (by kernel_rfl) h2 with ⟨hcs, -⟩ | ⟨x, l, c, ss, hcs, -⟩
    · simp at hcs; exact ⟨_, _, _, hcs⟩
    · simp at hcs; exact ⟨_, _, _, hcs⟩
  have hs3 : ∃ a len cap, c3 = .slice a len cap := by
    rcases open_ints (x := y3) Try.underlying22 Try.underlying3 (by kernel_rfl) h3 with ⟨hcs, -⟩ | ⟨x, l, c, ss, hcs, -⟩
    · simp at hcs; exact ⟨_, _, _, hcs⟩
    · simp at hcs; exact ⟨_, _, _, hcs⟩
  have hc2 : c2.cells.toList = [c2] := by obtain ⟨a, l, c, rfl⟩ := hs2; rfl
  have hc3 : c3.cells.toList = [c3] := by obtain ⟨a, l, c, rfl⟩ := hs3; rfl
  obtain ⟨ls, hls, -⟩ := strs_in (enc := enc) (w := w) (d := y2.1) (ps := y2.2) Try.underlying40 Try.underlying9 (by kernel_rfl) hs2 ⟨n, by rw [hc2]; exact h2⟩
  obtain ⟨zs, hz, -, -⟩ := ints_in (enc := enc) (w := w) (d := y3.1) (ps := y3.2) Try.underlying22 Try.underlying3 (by kernel_rfl) hs3 ⟨n, by rw [hc3]; exact h3⟩
  simp at k0 k1 k4
  subst k0 k1 k4
  exact ⟨⟨n0, s1.data.toList, c2, ls, c3, zs, n4⟩, rfl, wf64 w0, wf64 w4, hls, by simpa [ints] using hz⟩

theorem deeds_in {v : Value} {d : DataW H} {ps : List MemPlace} (hv : ∃ a len cap, v = .slice a len cap) (h : DataW.Trod enc Try.prog w 0 (fun _ => true) true 66 v d ps) :
    ∃ al : List Deed, Sl w v 5 al.length (rows Deed.cells al) ∧ (∀ a ∈ al, a.OK w) := by
  obtain ⟨a, len, cap, rfl⟩ := hv
  obtain ⟨fuel, hf⟩ := h
  rcases open_slice Try.underlying66 hf with ⟨hcs, -⟩ | ⟨x, l, c, m, n, D, Pl, hcs, -, hl, -, hm, hx, hall⟩
  · simp [Value.cells] at hcs
    obtain ⟨rfl, rfl, rfl⟩ := hcs
    exact ⟨[], (Own.nil w 0 5).sl, fun n hn => (nomatch hn)⟩
  · simp [Value.cells] at hcs
    obtain ⟨rfl, rfl, rfl⟩ := hcs
    have hm : m = cap := by simpa using hm
    subst hm
    simp only [cells65] at hall
    obtain ⟨al, hal, hR⟩ := list_of (R := fun i (a : Deed) => (∀ j, j < 5 → w.cell? ((x.add (i * 5)).add j) = a.cells[j]?) ∧ a.OK w) len fun i hi => by
      obtain ⟨cs', h1, h2⟩ := hall i (by omega)
      obtain ⟨a, rfl, a1⟩ := deed_in h2
      obtain ⟨-, -, hc⟩ := World.cells?_some h1
      exact ⟨a, hc, a1⟩
    refine ⟨al, ?_, fun a ha => ?_⟩
    · subst hal
      refine ⟨rows_len Deed.cells_len al, some x, m, rfl, hl, fun h0 => ?_⟩
      have hs : x.spot = none := by
        have := (hR 0 h0).1 0 (by omega)
        have e : (x.add (0 * 5)).add 0 = x := rfl
        rw [e] at this
        exact World.cell?_spot this
      obtain ⟨b, o, s⟩ := x
      simp only at hs
      subst hs
      refine ⟨b, o, rfl, fun j hj => ?_⟩
      have hj6 : j / 5 < al.length := by omega
      have := (hR (j / 5) hj6).1 (j % 5) (Nat.mod_lt _ (by omega))
      rw [e_add, e_add] at this
      rw [show o + j = o + j / 5 * 5 + j % 5 by omega, this, ← rows_get Deed.cells_len al (j / 5) (j % 5) hj6 (Nat.mod_lt _ (by omega))]
      congr 1; omega
    · obtain ⟨i, hi, rfl⟩ := List.getElem_of_mem ha
      exact (hR i hi).2
end
end Go.Proofs.Y
