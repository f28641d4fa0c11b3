/- DiskTells: for all sequences of operations the law returns true, and the input reads as it did: the given second row, where what it reads is of bulk at most 1048576. -/
import Derived.Test.YtgalileklafbbaaRows
import Derived.WalkKit
import Derived.Below
import Derived.Carry
import Derived.ProofKit
import Derived.OpenShut
import Derived.ShutString
import Derived.ChangeOld
import Derived.JoinedCond
import Derived.Test.YtgalileklafbbaaDX
import Derived.Test.YtgalileklafbbaaRK
import Derived.Test.YtgalileklafbbaaHLV
set_option linter.unusedSimpArgs false
set_option linter.unusedVariables false
set_option maxRecDepth 100000
namespace Go.Proofs.Ytgalileklafbbaa.diskTells
open Go.HL Go.ChangeShapes Go.WideShapes Go.ChangeAt Go.RowKit
open Go.ChangeMaps (open_string shut_string)
set_option linter.unusedVariables false

theorem own : ownKnob Try.prog.godebug = none := by kernel_rfl
theorem laidOut : laidOutB Try.prog = true := by kernel_rfl

theorem bulk_ints {H : Type} : ∀ l : List Int, Rows.uptoBulkAll (l.map fun n => (.lit (.int .i64 n) : DataW H)) = l.length
  | [] => rfl
  | s :: l => by
    have ih := bulk_ints (H := H) l
    simp only [List.map_cons, Rows.uptoBulkAll, Rows.uptoBulk, ih, List.length_cons]; omega
theorem bulk_act {H : Type} {a : Y.Act} {d : DataW H} (h : Y.ActD a d) : a.S.length + a.ks.length + 1 ≤ Rows.uptoBulk d := by
  obtain ⟨x0, x1, x2, x3, x5, rfl, h5⟩ := h
  have h5 : a.ks.length ≤ Rows.uptoBulk x5 := by
    rcases h5 with h5 | ⟨sp, rfl⟩
    · rw [h5]; exact Nat.zero_le _
    · simp only [Rows.uptoBulk, bulk_ints]; omega
  simp only [Rows.uptoBulk, Rows.uptoBulkAll]; omega
theorem bulk_acts {H : Type} : ∀ (al : List Y.Act) (D : List (DataW H)), D.length = al.length → (∀ i (h1 : i < al.length) (h2 : i < D.length), Y.ActD al[i] D[i]) → Y.heft al + al.length ≤ Rows.uptoBulkAll D
  | [], _, _, _ => Nat.zero_le _
  | a :: al, [], h, _ => by simp at h
  | a :: al, d :: D, h, hA => by
    have ih := bulk_acts al D (by simpa using h) fun i h1 h2 => by
      have := hA (i + 1) (by simpa using h1) (by simpa using h2)
      simpa using this
    have h0 := bulk_act (hA 0 (by simp) (by simp))
    simp only [List.getElem_cons_zero] at h0
    simp only [Y.heft, List.map_cons, List.sum_cons, List.length_cons, Rows.uptoBulkAll] at ih ⊢; omega

theorem contract (H : Type) (enc : TypeId × Value → H) (W : World) (base : Nat) (args : Array Value) (ds gs : List (DataW H)) (before : List MemPlace)
    (hval : ∀ (j : Nat) t v, Try.f8.params[j]? = some t → args[j]? = some v → Value.okWide Try.prog W .any base t v)
    (hW : DataW.Whole enc Try.prog Try.f8.params.toList Rows.diskTellsSpec.vars false W args.toList ds gs before) (hk : Rows.uptoSmall H (ds ++ gs) = true) :
    Calls Try.prog 8 args W fun e W' => ∃ v, e = .returned v ∧ Rows.diskTellsSpec.post enc Try.prog Try.f8 false true false false W args v W' := by
  have hW' := hW
  obtain ⟨p, q, hA0, hV, rfl, hfz, hnd⟩ := hW
  have hA : DataW.TrodAll enc Try.prog W 0 (fun _ => true) true Try.f8.params.toList args.toList ds p := hA0
  rw [Try.params8] at hA hval
  obtain ⟨v0, vs0, d0, ds0, p0, q0, hargs, rfl, rfl, h0, r0⟩ := trodAll_cons hA
  obtain ⟨rfl, rfl, rfl⟩ := trodAll_nil r0
  obtain rfl : args = #[v0] := by cases args; simp_all
  obtain ⟨rfl, rfl⟩ := trodVars_none hV
  have hv0 := hval 0 38 v0 rfl rfl
  have lt0 : ∀ x ∈ p0, x.block < W.heap.size := by obtain ⟨m, hm⟩ := h0; exact DataW.trod_lt m _ _ _ hm
  clear hA0
  have hb : Rows.uptoBulkAll [d0] ≤ 1048576 := by have hk2 := hk; simp only [List.append_nil] at hk2; exact of_decide_eq_true hk2
  obtain ⟨al, hl, hok, hd⟩ := Y.acts_in (okWide_slice Try.underlying38 hv0) h0
  have hbd : Y.heft al + al.length ≤ 1048576 := by
    rcases hd with rfl | ⟨D, sp, rfl, hDl, hD⟩
    · exact Nat.zero_le _
    · have := bulk_acts al D hDl hD
      simp only [Rows.uptoBulkAll, Rows.uptoBulk] at hb; omega
  have hall : ∀ x ∈ al, x.OK W := fun x hx => by
    obtain ⟨a1, a2, a3, a4, a5⟩ := hok x hx
    have := Y.heft_mem hx
    exact ⟨a1, a2, a3, a4, a5, by omega, by omega⟩
  refine (Y.calls_of_rule (args := [_]) fun next k => Y.tells_ hl hall (by omega) (by omega) k).mono fun e W' ⟨he, bel⟩ => ?_
  subst he
  exact ⟨_, rfl, _, _, _, [], _, [], hW', trodAll_mk1 (shut_bool Try.underlying4 _), (trodAll_cons_mk (Below.trod laidOut (by kernel_rfl) (of_decide_eq_true (by kernel_rfl)) h0 bel lt0) trodAll_mk0), rfl, bel.frame _, fun h => by cases h⟩

set_option maxRecDepth 100000 in
theorem lifted (os : Os) (started : os.Started) (H : Type) (enc : TypeId × Value → H) (F : Stop.Interp) :
    ReturnsInHanded {} Try.checked os 8 .any ((Rows.OpenSpec.upto Rows.diskTellsSpec).pre6 enc Try.prog Try.f8 Rows.diskTellsUptoRow.domain false) (((Rows.OpenSpec.upto Rows.diskTellsSpec).at F).post enc Try.prog Try.f8 false true false false) := by
  refine returnsInHanded_of_cond (C := Try.checked) (s := Rows.OpenSpec.upto Rows.diskTellsSpec) (k := Rows.uptoSmall) rfl own started (by kernel_rfl) Try.func8
    (OpenSpec.witness (enc := enc) (C := Try.checked) (s := Rows.OpenSpec.upto Rows.diskTellsSpec) (k := Rows.uptoSmall) rfl false ⟨#[], #[.slice none 0 0], []⟩ 8 (by kernel_rfl) (by kernel_rfl) (by kernel_rfl)
      (x := ([.nil], [], [])) (by kernel_rfl) rfl (by kernel_rfl)) ?_
  intro W base args ds gs before hval hW _ hk _
  exact contract H enc W base args ds gs before hval hW hk

theorem over : Rows.diskTellsUptoRow.holds Try.pinned (Rows.OpenSpec.upto Rows.diskTellsSpec) :=
  OpenClaim.holds_of_cond 8 Try.f8 rfl rfl rfl rfl rfl rfl rfl ⟨rfl, rfl, rfl, rfl, rfl⟩ rfl rfl rfl rfl rfl (by kernel_rfl) Try.func8 (by kernel_rfl)
    (of_decide_eq_true (by kernel_rfl)) (by unfold Func.isWrapper; first | (rw [if_pos (by decide +kernel)]; kernel_rfl) | (rw [if_neg (by decide +kernel)]; exact ⟨rfl, rfl⟩))
    (fun os started H enc _ F => lifted os started H enc F)

theorem proved : Rows.DiskTellsUptoSaid :=
  over
#print axioms proved
end Go.Proofs.Ytgalileklafbbaa.diskTells
