/- MP: msgid: fields that came in with a call; the constants that were laid. -/
import Derived.Test.YtoeccapckhnlbaaDoorML
import Derived.Deep.Slices
import Derived.LaidMore
import Derived.MakeChecks
import Derived.FnData
import Derived.OpenShut
import Derived.Test.YtoeccapckhnlbaaDoorRows
set_option linter.unusedSimpArgs false
set_option linter.unusedVariables false
set_option maxRecDepth 100000
namespace Go.Proofs.Y
open Go Go.HL Go.Proofs Go.ChangeShapes Go.WideShapes Go.Deep

theorem str_of (a : ByteArray) : Value.string a = str a.data.toList := rfl
theorem list_of {α : Type} {R : Nat → α → Prop} : ∀ (n : Nat), (∀ i, i < n → ∃ a, R i a) → ∃ l : List α, l.length = n ∧ ∀ i (h : i < l.length), R i l[i]
  | 0, _ => ⟨[], rfl, fun i h => by simp at h⟩
  | n + 1, h => by
    obtain ⟨l, hl, hR⟩ := list_of n fun i hi => h i (by omega)
    obtain ⟨a, ha⟩ := h n (by omega)
    refine ⟨l ++ [a], by simp [hl], fun i hi => ?_⟩
    by_cases hin : i < l.length
    · rw [List.getElem_append_left hin]; exact hR i hin
    · have : i = n := by simp at hi; omega
      subst this
      rw [List.getElem_append_right (by omega)]
      simpa [hl] using ha
/-- a contract out of a rule -/
theorem calls_of_rule {f : FuncId} {args : List Value} {w : World} (h : ∀ next : Value → World → Prop, (∀ w', Mod none' w w' → next (.bool true) w') → callK Tryd.prog f args w next noPanic) :
    Calls Tryd.prog f args.toArray w fun e w' => e = .returned (.bool true) ∧ RowKit.Below w.heap.size w w' := by
  refine Calls.mono (h (fun v w' => v = .bool true ∧ RowKit.Below w.heap.size w w') fun w' m => ⟨rfl, m.below (Nat.le_refl _) fun _ _ h => h⟩) fun e w' he => ?_
  cases e with
  | returned v => exact ⟨by rw [he.1], he.2⟩
  | panicked c => exact he.elim
  | outgrown => exact he.elim

noncomputable def fs37 : Array Field := match Tryd.prog.underlying 37 with | some (.struct fs) => fs | _ => #[]
theorem u37 : Tryd.prog.underlying 37 = some (.struct fs37) := by kernel_rfl
theorem fs37_size : fs37.size = 2 := by kernel_rfl
theorem cells37 : Tryd.prog.cellsOf 37 = 2 := by kernel_rfl
theorem cells9 : Tryd.prog.cellsOf 9 = 1 := by kernel_rfl
theorem fld37 (i o t : Nat) (h : (fs37[i]?).map (fun f => (f.offset, f.type)) = some (o, t)) : ∃ f, fs37[i]? = some f ∧ f.offset = o ∧ f.type = t := by
  obtain ⟨f, hf, he⟩ := Option.map_eq_some_iff.1 h
  simp only [Prod.mk.injEq] at he
  exact ⟨f, hf, he.1, he.2⟩

section
variable {H : Type} {enc : TypeId × Value → H} {w : World}

theorem field_in {fuel : Nat} {cs : List Value} {x : DataW H × List MemPlace} (h : DataW.trod enc Tryd.prog w 0 (fun _ => true) true fuel 37 cs = some x) :
    ∃ a : Fd, cs = a.cells := by
  obtain ⟨xs, n, rfl, rfl, hlen, hxl, hf⟩ := DataW.trod_struct u37 h
  rw [cells37] at hlen
  rw [fs37_size] at hxl
  match cs, hlen with
  | [c0, c1], _ =>
  match xs, hxl with
  | [y0, y1], _ =>
  obtain ⟨f0, g0, o0, e0⟩ := fld37 0 0 9 (by kernel_rfl)
  obtain ⟨f1, g1, o1, e1⟩ := fld37 1 1 9 (by kernel_rfl)
  have h0 := hf 0 f0 g0
  have h1 := hf 1 f1 g1
  rw [o0, e0, cells9] at h0
  rw [o1, e1, cells9] at h1
  obtain ⟨s0, k0, rfl, w0⟩ := DataW.trod_string (x := y0) Tryd.underlying9 h0
  obtain ⟨s1, k1, rfl, w1⟩ := DataW.trod_string (x := y1) Tryd.underlying9 h1
  simp at k0 k1
  subst k0 k1
  exact ⟨⟨s0.data.toList, s1.data.toList⟩, rfl⟩

theorem fields_in {v : Value} {d : DataW H} {ps : List MemPlace} (hv : ∃ a len cap, v = .slice a len cap) (h : DataW.Trod enc Tryd.prog w 0 (fun _ => true) true 22 v d ps) :
    ∃ al : List Fd, Sl w v 2 al.length (rows Fd.cells al) ∧ al.length ≤ 9223372036854775807 := by
  obtain ⟨a, len, cap, rfl⟩ := hv
  obtain ⟨fuel, hf⟩ := h
  rcases open_slice Tryd.underlying22 hf with ⟨hcs, -⟩ | ⟨x, l, c, m, n, D, Pl, hcs, -, hl, hmx, hm, hx, hall⟩
  · simp [Value.cells] at hcs
    obtain ⟨rfl, rfl, rfl⟩ := hcs
    exact ⟨[], (Own.nil w 0 2).sl, by simp⟩
  · simp [Value.cells] at hcs
    obtain ⟨rfl, rfl, rfl⟩ := hcs
    have hm : m = cap := by simpa using hm
    subst hm
    simp only [cells37] at hall
    obtain ⟨al, hal, hR⟩ := list_of (R := fun i (a : Fd) => (∀ j, j < 2 → w.cell? ((x.add (i * 2)).add j) = a.cells[j]?)) len fun i hi => by
      obtain ⟨cs', h1, h2⟩ := hall i (by omega)
      obtain ⟨a, rfl⟩ := field_in h2
      obtain ⟨-, -, hc⟩ := World.cells?_some h1
      exact ⟨a, hc⟩
    refine ⟨al, ?_, by unfold maxLen at hmx; omega⟩
    subst hal
    refine ⟨rows_len Fd.cells_len al, some x, m, rfl, hl, fun h0 => ?_⟩
    have hs : x.spot = none := by
      have := (hR 0 h0) 0 (by omega)
      have e : (x.add (0 * 2)).add 0 = x := rfl
      rw [e] at this
      exact World.cell?_spot this
    obtain ⟨b, o, s⟩ := x
    simp only at hs
    subst hs
    refine ⟨b, o, rfl, fun j hj => ?_⟩
    have hj6 : j / 2 < al.length := by omega
    have := (hR (j / 2) hj6) (j % 2) (Nat.mod_lt _ (by omega))
    rw [e_add, e_add] at this
    rw [show o + j = o + j / 2 * 2 + j % 2 by omega, this, ← rows_get Fd.cells_len al (j / 2) (j % 2) hj6 (Nat.mod_lt _ (by omega))]
    congr 1; omega
end

/-! ### the constants -/
theorem gK : Tryd.prog.globalNamed "missive/digest.constants" = some 0 := by kernel_rfl
theorem tK : (Tryd.prog.globals[0]?).map (·.type) = some 93 := by kernel_rfl
theorem u93 : Tryd.prog.underlying 93 = some (.array 64 60) := by kernel_rfl
theorem u60 : Tryd.prog.underlying 60 = some (.int .u32) := by kernel_rfl
theorem cells60 : Tryd.prog.cellsOf 60 = 1 := by kernel_rfl
theorem laidK {H : Type} : (YtoeccapckhnlbaaDoor.Rows.laid_missive_digest_constants : DataW H) = .agg (K0.map fun x => .lit (.int .u32 x)) := rfl
theorem kd_of {W : World} (h : laidMetH Tryd.prog [("missive/digest.constants", YtoeccapckhnlbaaDoor.Rows.laid_missive_digest_constants)] W) : Kd W K0 := by
  rw [MakeChecks.laidMetH_plain _ _ _ (by kernel_rfl)] at h
  obtain ⟨ps, ⟨g0, t0, cs0, f0, p0, q0, hg0, ht0, hv0, hd0, -⟩, -⟩ := h
  obtain rfl := Option.some.inj (gK.symm.trans hg0)
  obtain rfl := Option.some.inj (tK.symm.trans ht0)
  obtain ⟨xs, m1, rfl, hx1, hlen, hn, hel⟩ := DataW.trod_array u93 hd0
  rw [laidK] at hx1
  simp only [Prod.mk.injEq, DataW.agg.injEq] at hx1
  intro i hi
  have h1 := hel i hi
  rw [cells60] at h1
  obtain ⟨y, hy⟩ : ∃ y, xs[i]? = some y := ⟨xs[i]'(by omega), by simp⟩
  rw [hy] at h1
  obtain ⟨n, e1, e2, -⟩ := DataW.trod_int u60 h1
  have hcell := World.var?_cell hg0 hv0 i
  have ecs : cs0[i]? = some (.int .u32 n) := by
    have := congrArg (fun l => l[0]?) e1
    simp only [Nat.mul_one] at this
    rw [List.getElem?_take_of_lt (by omega), List.getElem?_drop] at this
    simpa using this
  rw [hcell, ecs]
  have := congrArg (fun l => l[i]?) hx1.1
  simp only [List.getElem?_map, hy, Option.map_some] at this
  rw [e2] at this
  have hKl : i < K0.length := by rw [show K0.length = 64 from rfl]; exact hi
  rw [List.getElem?_eq_getElem hKl] at this
  simp only [Option.map_some, Option.some.injEq, DataW.lit.injEq, Lit.int.injEq, true_and] at this
  rw [List.getD_eq_getElem?_getD, List.getElem?_eq_getElem hKl]
  simp [this]
end Go.Proofs.Y

/- MO: msgid: MsgidTells. -/
namespace Go.Proofs.Y
open Go Go.HL Go.Proofs

section
variable {w : World} {next : Value → World → Prop} {QP : List PanicEntry → World → Prop}
theorem tells_ {s : Bytes} {v : Value} {fs : List Fd} (hK : Kd w K0) (hv : Sl w v 2 fs.length (rows Fd.cells fs)) (hfn : fs.length ≤ 9223372036854775807) (k : ∀ w', Mod none' w w' → next (.bool true) w') : callK Tryd.prog 3 [str s, v] w next QP := by
  refine q3 rfl ?_
  obtain ⟨va, vc, rfl, -⟩ := hv.form
  unfold h3
  try simp only [go_sem]
  refine small_ hK ?_
  intro w1 m1
  try simp only [go_sem]
  by_cases hs : (1000 : Int) < (s.length : Int)
  · have e : decide ((1000 : Int) < (s.length : Int)) = true := by simpa using hs
    rw [e]
    refine ⟨fun h => by simp at h, fun _ => ⟨fun h => by simp at h, ?_⟩⟩
    try simp only [go_sem]
    exact k _ m1
  have e : decide ((1000 : Int) < (s.length : Int)) = false := by simpa using hs
  rw [e]
  refine ⟨fun _ => ?_, fun h => by simp at h⟩
  refine few_ (hv.mod m1 fun _ _ h => h) hfn ?_
  intro b w2 hb m2
  have m02 := m1.trans' m2
  try simp only [go_sem]
  cases b
  · try simp only [go_sem]
    exact k _ m02
  have hP := hb rfl
  have hg := hP.g
  have hP1 := hP.1
  have hsl : s.length ≤ 1000 := by omega
  try simp only [go_sem]
  unfold h3_1
  try simp only [go_sem]
  refine first_ s (by omega) ?_
  intro w3 m3
  unfold firstB
  try simp only [go_sem]
  refine rfirst_ s (by omega) ?_
  intro w4 m4
  unfold firstB
  try simp only [go_sem]
  have hv4 := hv.mod ((m02.trans' m3).trans' m4) fun _ _ h => h
  refine own_ hv4 hg.f (by omega) ?_
  intro w5 m5
  unfold ownB firstB
  try simp only [go_sem]
  refine rown_ (hv4.mod m5 fun _ _ h => h) hg.f (by omega) ?_
  intro w6 m6
  unfold ownB firstB
  try simp only [go_sem]
  unfold h3_2
  try simp only [go_sem, beq_self_eq_true, Bool.not_true, Bool.false_eq_true, if_false, decide_true, ite_self]
  refine valid_ s ?_
  intro w7 m7
  unfold l3_6
  try simp only [go_sem, beq_self_eq_true, Bool.not_true, Bool.false_eq_true, if_false, decide_true, ite_self, bne_self_eq_false]
  refine rvalid_ s ?_
  unfold l3_5
  try simp only [go_sem, beq_self_eq_true, Bool.not_true, Bool.false_eq_true, if_false, decide_true, ite_self, bne_self_eq_false]
  refine make_ s (by omega) ?_
  intro w8 m8
  unfold l3_4
  try simp only [go_sem, beq_self_eq_true, Bool.not_true, Bool.false_eq_true, if_false, decide_true, ite_self, bne_self_eq_false]
  refine rmake_ s (by omega) ?_
  intro w9 m9
  unfold l3_3
  try simp only [go_sem, beq_self_eq_true, Bool.not_true, Bool.false_eq_true, if_false, decide_true, ite_self, bne_self_eq_false]
  unfold h3_7
  try simp only [go_sem, beq_self_eq_true, Bool.not_true, Bool.false_eq_true, if_false, decide_true, ite_self, bne_self_eq_false]
  unfold h3_8
  try simp only [go_sem, beq_self_eq_true, Bool.not_true, Bool.false_eq_true, if_false, decide_true, ite_self, bne_self_eq_false]
  refine ids_ s (by omega) ?_
  intro va10 w10 own10 _ m10
  unfold l3_14
  try simp only [go_sem, beq_self_eq_true, Bool.not_true, Bool.false_eq_true, if_false, decide_true, ite_self, bne_self_eq_false]
  refine rids_ s (by omega) ?_
  intro va11 w11 own11 _ m11
  unfold l3_13
  try simp only [go_sem, beq_self_eq_true, Bool.not_true, Bool.false_eq_true, if_false, decide_true, ite_self, bne_self_eq_false]
  refine texts_ (own10.mod m11 fun _ _ h => h).sl own11.sl (by have := idsB_len s; omega) ?_
  intro w12 m12
  unfold l3_12
  try simp only [go_sem, beq_self_eq_true, Bool.not_true, Bool.false_eq_true, if_false, decide_true, ite_self, bne_self_eq_false]
  have m412 : Mod none' w4 w12 := (((((((m5.trans' m6).trans' m7).trans' m8).trans' m9).trans' m10).trans' m11).trans' m12)
  have hv12 := hv4.mod m412 fun _ _ h => h
  refine refs_ hv12 hg (by omega) ?_
  intro va13 w13 own13 _ m13
  unfold l3_11
  try simp only [go_sem, beq_self_eq_true, Bool.not_true, Bool.false_eq_true, if_false, decide_true, ite_self, bne_self_eq_false]
  refine rrefs_ (hv12.mod m13 fun _ _ h => h) hg (by omega) ?_
  intro va14 w14 sl14 m14
  unfold l3_10
  try simp only [go_sem, beq_self_eq_true, Bool.not_true, Bool.false_eq_true, if_false, decide_true, ite_self, bne_self_eq_false]
  have hrl : (refsB fs).length ≤ 100 := by unfold refsB; rw [List.length_reverse]; exact outB_len _
  refine texts_ (own13.mod m14 fun _ _ h => h).sl sl14 (by omega) ?_
  intro w15 m15
  unfold l3_9
  try simp only [go_sem, beq_self_eq_true, Bool.not_true, Bool.false_eq_true, if_false, decide_true, ite_self, bne_self_eq_false]
  exact k _ (((((m02.trans' m3).trans' m4).trans' m412).trans' m13).trans' m14 |>.trans' m15)
end
end Go.Proofs.Y
