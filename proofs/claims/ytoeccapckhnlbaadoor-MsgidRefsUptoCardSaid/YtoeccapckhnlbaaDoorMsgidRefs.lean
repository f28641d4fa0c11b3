/- MsgidRefs: for all lists of fields and one more field the law returns true, and the input reads as it did: the second tied card, where what it reads is of bulk at most 1048576. -/
import Derived.Test.YtoeccapckhnlbaaDoorRows
import Derived.WalkKit
import Derived.Below
import Derived.Carry
import Derived.ProofKit
import Derived.OpenShut
import Derived.ShutString
import Derived.ChangeOld
import Derived.JoinedCond
import Derived.LaidMore
import Derived.Stop.Joined
import Derived.SevenTiedAt
import Derived.Test.YtoeccapckhnlbaaDoorTie
import Derived.Test.YtoeccapckhnlbaaDoorCards
import Derived.Test.YtoeccapckhnlbaaDoorMP
set_option linter.unusedSimpArgs false
set_option linter.unusedVariables false
set_option maxRecDepth 100000
namespace Go.Proofs.YtoeccapckhnlbaaDoor.msgidRefs
open Go.HL Go.ChangeShapes Go.WideShapes Go.ChangeAt Go.RowKit
open Go.ChangeMaps (open_string shut_string)
set_option linter.unusedVariables false

theorem own : ownKnob Tryd.prog.godebug = none := by kernel_rfl
theorem laidOut : laidOutB Tryd.prog = true := by kernel_rfl

theorem contract (H : Type) (enc : TypeId × Value → H) (W : World) (base : Nat) (args : Array Value) (ds gs : List (DataW H)) (before : List MemPlace)
    (hval : ∀ (j : Nat) t v, Tryd.f5.params[j]? = some t → args[j]? = some v → Value.okWide Tryd.prog W .any base t v)
    (hW : DataW.Whole enc Tryd.prog Tryd.f5.params.toList Rows.msgidRefsSpec.vars false W args.toList ds gs before) (hk : Rows.uptoSmall H (ds ++ gs) = true) (hL : laidMetH Tryd.prog [("missive/digest.constants", Rows.laid_missive_digest_constants)] W) :
    Calls Tryd.prog 5 args W fun e W' => ∃ v, e = .returned v ∧ Rows.msgidRefsSpec.post enc Tryd.prog Tryd.f5 false true false false W args v W' := by
  have hW' := hW
  obtain ⟨p, q, hA0, hV, rfl, hfz, hnd⟩ := hW
  have hA : DataW.TrodAll enc Tryd.prog W 0 (fun _ => true) true Tryd.f5.params.toList args.toList ds p := hA0
  rw [Tryd.params5] at hA hval
  obtain ⟨v0, vs0, d0, ds0, p0, q0, hargs, rfl, rfl, h0, r0⟩ := trodAll_cons hA
  obtain ⟨v1, vs1, d1, ds1, p1, q1, rfl, rfl, rfl, h1, r1⟩ := trodAll_cons r0
  obtain ⟨rfl, rfl, rfl⟩ := trodAll_nil r1
  obtain rfl : args = #[v0, v1] := by cases args; simp_all
  obtain ⟨rfl, rfl⟩ := trodVars_none hV
  have hv0 := hval 0 22 v0 rfl rfl
  have lt0 : ∀ x ∈ p0, x.block < W.heap.size := by obtain ⟨m, hm⟩ := h0; exact DataW.trod_lt m _ _ _ hm
  have hv1 := hval 1 37 v1 rfl rfl
  have lt1 : ∀ x ∈ p1, x.block < W.heap.size := by obtain ⟨m, hm⟩ := h1; exact DataW.trod_lt m _ _ _ hm
  clear hA0
  have hb : Rows.uptoBulkAll [d0, d1] ≤ 1048576 := by have hk2 := hk; simp only [List.append_nil] at hk2; exact of_decide_eq_true hk2
  have hK := Y.kd_of hL
  obtain ⟨fs0, sl0, le0⟩ := Y.fields_in (okWide_slice Tryd.underlying22 hv0) h0
  obtain ⟨m1, rfl, rfl⟩ := Y.more_in (by have h := hv1; simp only [Value.okWide, Y.u37] at h; obtain ⟨cs, e, -⟩ := h; exact ⟨cs, e⟩) h1
  have hm1 : m1.name.length ≤ 1100000 ∧ m1.value.length ≤ 1100000 := by
    simp only [Rows.uptoBulkAll, Rows.uptoBulk] at hb
    exact ⟨by omega, by omega⟩
  refine (Y.calls_of_rule (args := [_, _]) fun next k => Y.refslaw_ hK sl0 le0 hm1 k).mono fun e W' ⟨he, bel⟩ => ?_
  subst he
  exact ⟨_, rfl, _, _, _, [], _, [], hW', trodAll_mk1 (shut_bool Tryd.underlying4 _), (trodAll_cons_mk (Below.trod laidOut (by kernel_rfl) (of_decide_eq_true (by kernel_rfl)) h0 bel lt0) (trodAll_cons_mk (Below.trod laidOut (by kernel_rfl) (of_decide_eq_true (by kernel_rfl)) h1 bel lt1) trodAll_mk0)), rfl, bel.frame _, fun h => by cases h⟩

set_option maxRecDepth 100000 in
theorem door_met (os : Os) (args : Array Value) : laidMetH Tryd.prog [("missive/digest.constants", Rows.laid_missive_digest_constants)] ((World.doorLaid Tryd.prog 400 os).forCall (fun _ _ => 0) ⟨#[], args, []⟩).memory :=
  laidMetH_of_parts3 (fuel := 8) (laidMet_of_run' 8 (by kernel_rfl) (by kernel_rfl)) (by kernel_rfl) (by kernel_rfl)

set_option maxRecDepth 100000 in
theorem fits (os : Os) (H : Type) (enc : TypeId × Value → H) : ∃ (w : World) (tape : Tape) (i : Input), w.os = os ∧ (w.forCall tape i).Shaped Tryd.checked.prog ∧ i.vars = [] ∧ Input.okWide Tryd.checked.prog (w.forCall tape i) .any w.heap.size 5 i ∧
    (((Rows.OpenSpec.upto Rows.msgidRefsSpec).pre enc Tryd.checked.prog Tryd.f5 [] false (w.forCall tape i).memory i.args ∧ laidMetH Tryd.checked.prog [("missive/digest.constants", Rows.laid_missive_digest_constants)] (w.forCall tape i).memory) ∧ sizedMet enc Tryd.checked.prog Tryd.f5 (Rows.OpenSpec.upto Rows.msgidRefsSpec) false (w.forCall tape i).memory i.args) ∧ ({} : Assume).holds Tryd.checked.prog (lone (Frame.enter Tryd.checked.prog 5 i.args .normal) [] (w.forCall tape i)) :=
  ⟨World.doorLaid Tryd.prog 400 os, fun _ _ => 0, ⟨#[], #[.slice none 0 0, .agg #[.string ByteArray.empty, .string ByteArray.empty]], []⟩, rfl, World.shaped_of_RefB (by kernel_rfl) (by kernel_rfl), rfl, (Input.okWide_of_okWideB (by kernel_rfl)).2,
    ⟨⟨(OpenSpec.pre_some (s := Rows.OpenSpec.upto Rows.msgidRefsSpec) (k := Rows.uptoSmall) rfl [] false _ _).2 ⟨[.nil, .agg [.lit (.string []), .lit (.string [])]], [], [], DataW.Whole_of_whole (x := ([.nil, .agg [.lit (.string []), .lit (.string [])]], [], [])) (fuel := 8) (by kernel_rfl), rfl, by kernel_rfl⟩, door_met os _⟩, sizedMet_of_bare (sizedMet_of_sizedB (fuel := 8) (by kernel_rfl))⟩, by
    simp only [Assume.holds]
    exact ⟨by simp, by simp, fun _ => Modest.zero, by simp, by simp⟩⟩

set_option maxRecDepth 100000 in
theorem lifted (os : Os) (started : os.Started) (H : Type) (enc : TypeId × Value → H) (F : Stop.Interp) :
    ReturnsInHanded {} Tryd.checked os 5 .any (fun w args => ((Rows.OpenSpec.upto Rows.msgidRefsSpec).pre enc Tryd.checked.prog Tryd.f5 [] false w args ∧ laidMetH Tryd.checked.prog [("missive/digest.constants", Rows.laid_missive_digest_constants)] w) ∧ sizedMet enc Tryd.checked.prog Tryd.f5 (Rows.OpenSpec.upto Rows.msgidRefsSpec) false w args)
      (((Rows.OpenSpec.upto Rows.msgidRefsSpec).at F).post enc Tryd.prog Tryd.f5 false true false false) := by
  refine returnsInHanded_of_calls own started (by kernel_rfl) (fits os H enc) ?_
  intro w tape i _ _ _ hok hpre _
  obtain ⟨_, _, _, fn2, hfn2, _, _, _, _, hval⟩ := hok
  obtain rfl : fn2 = Tryd.f5 := Option.some.inj (hfn2.symm.trans Tryd.func5)
  obtain ⟨⟨hp, hl⟩, _⟩ := hpre
  obtain ⟨ds, gs, before, hw, _, hkk⟩ := (OpenSpec.pre_some (s := Rows.OpenSpec.upto Rows.msgidRefsSpec) (k := Rows.uptoSmall) rfl [] false _ _).1 hp
  have hw2 := DataW.Whole.of_heap (w' := w.forCall tape i) (by rfl) hw
  refine (contract H enc (w.forCall tape i) w.heap.size i.args ds gs before hval hw2 hkk (hl.of_heap (by rfl))).mono fun e W' ⟨v, he, hq⟩ => ?_
  subst he
  exact ChangeSpec.post_blind hq

theorem over : Rows.msgidRefsUptoRow.holds Tryd.pinned (Rows.OpenSpec.upto Rows.msgidRefsSpec) :=
  OpenClaim.holds_of_cond 5 Tryd.f5 rfl rfl rfl rfl rfl rfl rfl ⟨rfl, rfl, rfl, rfl, rfl⟩ rfl rfl rfl rfl rfl (by kernel_rfl) Tryd.func5 (by kernel_rfl)
    (of_decide_eq_true (by kernel_rfl)) (by unfold Func.isWrapper; first | (rw [if_pos (by decide +kernel)]; kernel_rfl) | (rw [if_neg (by decide +kernel)]; exact ⟨rfl, rfl⟩))
    (fun os started H enc _ F => lifted os started H enc F)

theorem proved : Rows.MsgidRefsUptoCardSaid :=
  Claim7.holds_tied_plain_at .later [] [.data] true (true, "a6d82c94187fcabd12e2576638201406af404407e7342e798a5d909c298019f0") false
    over (fun _ h => by cases h) (by kernel_rfl) (fun _ h => by cases h) msgidRefsUpto_row_tie rfl ⟨rfl, rfl⟩ (by kernel_rfl) rfl
    (fun f fn hf hfn => by
      obtain rfl : f = 5 := Option.some.inj ((show Tryd.prog.funcNamed "missive/missivelaw12.MsgidRefs" = some 5 by kernel_rfl).symm.trans hf) |>.symm
      obtain rfl : fn = Tryd.f5 := (Option.some.inj (Tryd.func5.symm.trans hfn)).symm
      exact ⟨by kernel_rfl, fun j t ht => by
        rw [Tryd.params5] at ht
        have hm : t ∈ [22, 37] := by simpa using Array.mem_of_getElem? ht
        have hall : ([22, 37].all fun u => !Tryd.prog.wantsStandIn u) = true := by kernel_rfl
        exact (show Tryd.prog.wantsStandIn t = false by simpa using List.all_eq_true.1 hall t hm)⟩)
    (by kernel_rfl)
#print axioms proved
end Go.Proofs.YtoeccapckhnlbaaDoor.msgidRefs
