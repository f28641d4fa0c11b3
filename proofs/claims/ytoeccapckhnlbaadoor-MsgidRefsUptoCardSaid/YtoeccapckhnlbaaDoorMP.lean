/- MP: msgid: fields that came in with a call; the constants that were laid. -/
import Derived.Test.YtoeccapckhnlbaaDoorML
import Derived.Deep.Slices
import Derived.LaidMore
import Derived.MakeChecks
import Derived.FnData
import Derived.OpenShut
import Derived.Test.YtoeccapckhnlbaaDoorRows
set_option linter.unusedSimpArgs false
set_option linter.unusedVariables false
set_option maxRecDepth 100000
namespace Go.Proofs.Y
open Go Go.HL Go.Proofs Go.ChangeShapes Go.WideShapes Go.Deep

theorem str_of (a : ByteArray) : Value.string a = str a.data.toList := rfl
theorem list_of {α : Type} {R : Nat → α → Prop} : ∀ (n : Nat), (∀ i, i < n → ∃ a, R i a) → ∃ l : List α, l.length = n ∧ ∀ i (h : i < l.length), R i l[i]
  | 0, _ => ⟨[], rfl, fun i h => by simp at h⟩
  | n + 1, h => by
    obtain ⟨l, hl, hR⟩ := list_of n fun i hi => h i (by omega)
    obtain ⟨a, ha⟩ := h n (by omega)
    refine ⟨l ++ [a], by simp [hl], fun i hi => ?_⟩
    by_cases hin : i < l.length
    · rw [List.getElem_append_left hin]; exact hR i hin
    · have : i = n := by simp at hi; omega
      subst this
      rw [List.getElem_append_right (by omega)]
      simpa [hl] using ha
/-- a contract out of a rule -/
theorem calls_of_rule {f : FuncId} {args : List Value} {w : World} (h : ∀ next : Value → World → Prop, (∀ w', Mod none' w w' → next (.bool true) w') → callK Tryd.prog f args w next noPanic) :
    Calls Tryd.prog f args.toArray w fun e w' => e = .returned (.bool true) ∧ RowKit.Below w.heap.size w w' := by
  refine Calls.mono (h (fun v w' => v = .bool true ∧ RowKit.Below w.heap.size w w') fun w' m => ⟨rfl, m.below (Nat.le_refl _) fun _ _ h => h⟩) fun e w' he => ?_
  cases e with
  | returned v => exact ⟨by rw [he.1], he.2⟩
  | panicked c => exact he.elim
  | outgrown => exact he.elim

noncomputable def fs37 : Array Field := match Tryd.prog.underlying 37 with | some (.struct fs) => fs | _ => #[]
theorem u37 : Tryd.prog.underlying 37 = some (.struct fs37) := by kernel_rfl
theorem fs37_size : fs37.size = 2 := by kernel_rfl
theorem cells37 : Tryd.prog.cellsOf 37 = 2 := by kernel_rfl
theorem cells9 : Tryd.prog.cellsOf 9 = 1 := by kernel_rfl
theorem fld37 (i o t : Nat) (h : (fs37[i]?).map (fun f => (f.offset, f.type)) = some (o, t)) : ∃ f, fs37[i]? = some f ∧ f.offset = o ∧ f.type = t := by
  obtain ⟨f, hf, he⟩ := Option.map_eq_some_iff.1 h
  simp only [Prod.mk.injEq] at he
  exact ⟨f, hf, he.1, he.2⟩

section
variable {H : Type} {enc : TypeId × Value → H} {w : World}

theorem field_in {fuel : Nat} {cs : List Value} {x : DataW H × List MemPlace} (h : DataW.trod enc Tryd.prog w 0 (fun _ => true) true fuel 37 cs = some x) :
    ∃ a : Fd, cs = a.cells ∧ x.1 = .agg [.lit (.string a.name), .lit (.string a.value)] := by
  obtain ⟨xs, n, rfl, rfl, hlen, hxl, hf⟩ := DataW.trod_struct u37 h
  rw [cells37] at hlen
  rw [fs37_size] at hxl
  match cs, hlen with
  | [c0, c1], _ =>
  match xs, hxl with
  | [y0, y1], _ =>
  obtain ⟨f0, g0, o0, e0⟩ := fld37 0 0 9 (by kernel_rfl)
  obtain ⟨f1, g1, o1, e1⟩ := fld37 1 1 9 (by kernel_rfl)
  have h0 := hf 0 f0 g0
  have h1 := hf 1 f1 g1
  rw [o0, e0, cells9] at h0
  rw [o1, e1, cells9] at h1
  obtain ⟨s0, k0, rfl, w0⟩ := DataW.trod_string (x := y0) Tryd.underlying9 h0
  obtain ⟨s1, k1, rfl, w1⟩ := DataW.trod_string (x := y1) Tryd.underlying9 h1
  simp at k0 k1
  subst k0 k1
  exact ⟨⟨s0.data.toList, s1.data.toList⟩, rfl, rfl⟩

theorem fields_in {v : Value} {d : DataW H} {ps : List MemPlace} (hv : ∃ a len cap, v = .slice a len cap) (h : DataW.Trod enc Tryd.prog w 0 (fun _ => true) true 22 v d ps) :
    ∃ al : List Fd, Sl w v 2 al.length (rows Fd.cells al) ∧ al.length ≤ 9223372036854775807 := by
  obtain ⟨a, len, cap, rfl⟩ := hv
  obtain ⟨fuel, hf⟩ := h
  rcases open_slice Tryd.underlying22 hf with ⟨hcs, -⟩ | ⟨x, l, c, m, n, D, Pl, hcs, -, hl, hmx, hm, hx, hall⟩
  · simp [Value.cells] at hcs
    obtain ⟨rfl, rfl, rfl⟩ := hcs
    exact ⟨[], (Own.nil w 0 2).sl, by simp⟩
  · simp [Value.cells] at hcs
    obtain ⟨rfl, rfl, rfl⟩ := hcs
    have hm : m = cap := by simpa using hm
    subst hm
    simp only [cells37] at hall
    obtain ⟨al, hal, hR⟩ := list_of (R := fun i (a : Fd) => (∀ j, j < 2 → w.cell? ((x.add (i * 2)).add j) = a.cells[j]?)) len fun i hi => by
      obtain ⟨cs', h1, h2⟩ := hall i (by omega)
      obtain ⟨a, rfl, -⟩ := field_in h2
      obtain ⟨-, -, hc⟩ := World.cells?_some h1
      exact ⟨a, hc⟩
    refine ⟨al, ?_, by unfold maxLen at hmx; omega⟩
    subst hal
    refine ⟨rows_len Fd.cells_len al, some x, m, rfl, hl, fun h0 => ?_⟩
    have hs : x.spot = none := by
      have := (hR 0 h0) 0 (by omega)
      have e : (x.add (0 * 2)).add 0 = x := rfl
      rw [e] at this
      exact World.cell?_spot this
    obtain ⟨b, o, s⟩ := x
    simp only at hs
    subst hs
    refine ⟨b, o, rfl, fun j hj => ?_⟩
    have hj6 : j / 2 < al.length := by omega
    have := (hR (j / 2) hj6) (j % 2) (Nat.mod_lt _ (by omega))
    rw [e_add, e_add] at this
    rw [show o + j = o + j / 2 * 2 + j % 2 by omega, this, ← rows_get Fd.cells_len al (j / 2) (j % 2) hj6 (Nat.mod_lt _ (by omega))]
    congr 1; omega
theorem more_in {v : Value} {d : DataW H} {ps : List MemPlace} (hv : ∃ cs, v = .agg cs) (h : DataW.Trod enc Tryd.prog w 0 (fun _ => true) true 37 v d ps) :
    ∃ m : Fd, v = m.v ∧ d = .agg [.lit (.string m.name), .lit (.string m.value)] := by
  obtain ⟨cs, rfl⟩ := hv
  obtain ⟨fuel, hf⟩ := h
  obtain ⟨m, h1, h2⟩ := field_in hf
  refine ⟨m, ?_, h2⟩
  have h1 : cs.toList = m.cells := h1
  have : cs = m.cells.toArray := by rw [← h1]
  rw [this]; rfl
end

/-! ### the constants -/
theorem gK : Tryd.prog.globalNamed "missive/digest.constants" = some 0 := by kernel_rfl
theorem tK : (Tryd.prog.globals[0]?).map (·.type) = some 93 := by kernel_rfl
theorem u93 : Tryd.prog.underlying 93 = some (.array 64 60) := by kernel_rfl
theorem u60 : Tryd.prog.underlying 60 = some (.int .u32) := by kernel_rfl
theorem cells60 : Tryd.prog.cellsOf 60 = 1 := by kernel_rfl
theorem laidK {H : Type} : (YtoeccapckhnlbaaDoor.Rows.laid_missive_digest_constants : DataW H) = .agg (K0.map fun x => .lit (.int .u32 x)) := rfl
theorem kd_of {W : World} (h : laidMetH Tryd.prog [("missive/digest.constants", YtoeccapckhnlbaaDoor.Rows.laid_missive_digest_constants)] W) : Kd W K0 := by
  rw [MakeChecks.laidMetH_plain _ _ _ (by kernel_rfl)] at h
  obtain ⟨ps, ⟨g0, t0, cs0, f0, p0, q0, hg0, ht0, hv0, hd0, -⟩, -⟩ := h
  obtain rfl := Option.some.inj (gK.symm.trans hg0)
  obtain rfl := Option.some.inj (tK.symm.trans ht0)
  obtain ⟨xs, m1, rfl, hx1, hlen, hn, hel⟩ := DataW.trod_array u93 hd0
  rw [laidK] at hx1
  simp only [Prod.mk.injEq, DataW.agg.injEq] at hx1
  intro i hi
  have h1 := hel i hi
  rw [cells60] at h1
  obtain ⟨y, hy⟩ : ∃ y, xs[i]? = some y := ⟨xs[i]'(by omega), by simp⟩
  rw [hy] at h1
  obtain ⟨n, e1, e2, -⟩ := DataW.trod_int u60 h1
  have hcell := World.var?_cell hg0 hv0 i
  have ecs : cs0[i]? = some (.int .u32 n) := by
    have := congrArg (fun l => l[0]?) e1
    simp only [Nat.mul_one] at this
    rw [List.getElem?_take_of_lt (by omega), List.getElem?_drop] at this
    simpa using this
  rw [hcell, ecs]
  have := congrArg (fun l => l[i]?) hx1.1
  simp only [List.getElem?_map, hy, Option.map_some] at this
  rw [e2] at this
  have hKl : i < K0.length := by rw [show K0.length = 64 from rfl]; exact hi
  rw [List.getElem?_eq_getElem hKl] at this
  simp only [Option.map_some, Option.some.injEq, DataW.lit.injEq, Lit.int.injEq, true_and] at this
  rw [List.getD_eq_getElem?_getD, List.getElem?_eq_getElem hKl]
  simp [this]
end Go.Proofs.Y

/- MQ: msgid: MsgidIds. -/
namespace Go.Proofs.Y
open Go Go.HL Go.Proofs

/-! ### plain -/
def joinS : List Bytes → List Bytes → Bytes
  | x :: xs, y :: ys => y ++ [60] ++ x ++ [62] ++ joinS xs ys
  | _, _ => []
theorem joinS_snoc : ∀ (xs ys : List Bytes) (x y : Bytes), xs.length = ys.length → joinS (xs ++ [x]) (ys ++ [y]) = joinS xs ys ++ y ++ [60] ++ x ++ [62]
  | [], [], x, y, _ => by simp [joinS]
  | a :: xs, b :: ys, x, y, h => by
    have := joinS_snoc xs ys x y (by simpa using h)
    simp only [List.cons_append, joinS, this, List.append_assoc]
  | [], _ :: _, _, _, h => by simp at h
  | _ :: _, [], _, _, h => by simp at h
theorem validB_ang {t : Bytes} (h : validB t = true) : ∀ c ∈ t, ang c = false := by
  intro c hc
  unfold validB at h
  simp only [Bool.and_eq_true, decide_eq_true_eq] at h
  have := List.all_eq_true.1 h.2 c hc
  unfold okB at this
  simp only [Bool.and_eq_true, decide_eq_true_eq] at this
  unfold ang
  simp [this.1.2, this.2]
theorem validB_len {t : Bytes} (h : validB t = true) : t.length ≤ 250 := by
  unfold validB at h
  simp only [Bool.and_eq_true, decide_eq_true_eq] at h
  exact h.1.1.1.1.2
theorem idsB_piece {t y : Bytes} (hv : validB t = true) (hy : ∀ c ∈ y, ang c = false) (rest : Bytes) : idsB (y ++ [60] ++ t ++ [62] ++ rest) = t :: idsB rest := by
  unfold idsB
  have e : y ++ [60] ++ t ++ [62] ++ rest = y ++ 60 :: (t ++ 62 :: rest) := by simp
  have h60 : (60 : UInt8) ∉ y := fun h => by have := hy _ h; revert this; decide
  rw [e, idsA_open _ _ h60, (idsA_run t _ [] (validB_ang hv)).1, List.nil_append, idsA_s, if_neg (by decide), if_pos rfl, if_pos hv]
  rfl
theorem idsB_joinS : ∀ (xs ys : List Bytes), (∀ x ∈ xs, validB x = true) → (∀ y ∈ ys, ∀ c ∈ y, ang c = false) → xs.length = ys.length → idsB (joinS xs ys) = xs
  | [], [], _, _, _ => rfl
  | x :: xs, y :: ys, hx, hy, h => by
    rw [joinS, idsB_piece (hx x (by simp)) (hy y (by simp)), idsB_joinS xs ys (fun z hz => hx z (by simp [hz])) (fun z hz => hy z (by simp [hz])) (by simpa using h)]
  | [], _ :: _, _, _, h => by simp at h
  | _ :: _, [], _, _, h => by simp at h
theorem idsA_valid : ∀ (s : Bytes) (o : Option Bytes), ∀ x ∈ idsA o s, validB x = true
  | [], o, x, h => by cases o <;> simp [idsA] at h
  | c :: s, none, x, h => by
    rw [idsA_n] at h
    split at h
    · exact idsA_valid s _ x h
    · exact idsA_valid s _ x h
  | c :: s, some t, x, h => by
    rw [idsA_s] at h
    split at h
    · exact idsA_valid s _ x h
    · split at h
      · rcases List.mem_append.1 h with h | h
        · split at h
          · rename_i hv; rw [List.mem_singleton.1 h]; exact hv
          · cases h
        · exact idsA_valid s _ x h
      · exact idsA_valid s _ x h

section
variable {w : World} {next : Value → World → Prop} {QP : List PanicEntry → World → Prop}
theorem idslaw_ {s : Bytes} {va vb : Value} {A B : List Bytes} (hK : Kd w K0) (hva : Sl w va 1 A.length (A.map str)) (hvb : Sl w vb 1 B.length (B.map str)) (k : ∀ w', Mod none' w w' → next (.bool true) w') : callK Tryd.prog 4 [va, vb, str s] w next QP := by
  refine q4 rfl ?_
  obtain ⟨aa, ac, rfl, -, hca⟩ := hva.form
  obtain ⟨ba, bc, rfl, -, hcb⟩ := hvb.form
  unfold h4
  try simp only [go_sem]
  refine small_ hK ?_
  intro w1 m1
  try simp only [go_sem]
  refine ⟨fun _ => k _ m1, fun hh => ?_⟩
  have hh : (A.length ≤ 30 ∧ A.length ≤ B.length) ∧ s.length ≤ 1000 := by
    simp at hh
    omega
  obtain ⟨⟨hA, hAB⟩, hs⟩ := hh
  unfold h4_1
  try simp only [go_sem]
  refine loopN A.length (fun i τ w' => τ 0 = .slice aa A.length ac ∧ τ 1 = .slice ba B.length bc ∧ τ 2 = str s ∧ τ 7 = .bool true ∧ τ 8 = str (joinS (A.take i) (B.take i)) ∧ τ 9 = .int .i64 i ∧ (∀ x ∈ A.take i, validB x = true) ∧ (∀ y ∈ B.take i, y.length ≤ 100 ∧ ∀ c ∈ y, ang c = false) ∧ (joinS (A.take i) (B.take i)).length ≤ i * 352 ∧ Mod none' w w') ⟨0, by omega, rfl, rfl, rfl, rfl, rfl, rfl, by simp, by simp, by simp [joinS], m1⟩ ?_
  rintro i τ w2 hi ⟨t0, t1, t2, t7, t8, t9, hx, hy, hjl, m2⟩
  unfold h4_2
  try simp only [go_sem, t0, t1, t2, t7, t8, t9]
  refine ⟨fun hlt => ?_, fun hge => ?_⟩
  · have hil : i < A.length := by
      have : (i : Int) < A.length := by simpa using hlt
      omega
    have hiB : i < B.length := by omega
    obtain ⟨ag, ao, rfl, hcA⟩ := hca (by omega)
    obtain ⟨bg, bo, rfl, hcB⟩ := hcb (by omega)
    have ca := hcA i (by omega)
    have cb := hcB i (by omega)
    rw [List.getElem?_map, List.getElem?_eq_getElem hil] at ca
    rw [List.getElem?_map, List.getElem?_eq_getElem hiB] at cb
    have ca2 := m2.cell ca fun h => h
    unfold h4_3
    try simp only [go_sem, t0, t1, t2, t7, t8, t9, ca2]
    repeat refine ⟨⟨by omega, by omega⟩, ?_⟩
    refine valid_ A[i] ?_
    intro w3 m3
    have cb3 := (m2.trans' m3).cell cb fun h => h
    try simp only [go_sem, t0, t1, t2, t7, t8, t9, cb3]
    refine ⟨fun _ => ⟨by omega, by omega⟩, fun _ => k _ (m2.trans' m3), fun hh => ?_⟩
    have hv : validB A[i] = true ∧ B[i].length ≤ 100 := by
      simp at hh
      exact ⟨hh.1, by omega⟩
    unfold h4_4
    try simp only [go_sem, t0, t1, t2, t7, t8, t9]
    refine loopN B[i].length (fun q τ w' => τ 0 = .slice (some ⟨ag, ao, none⟩) A.length ac ∧ τ 1 = .slice (some ⟨bg, bo, none⟩) B.length bc ∧ τ 2 = str s ∧ τ 7 = .bool true ∧ τ 8 = str (joinS (A.take i) (B.take i)) ∧ τ 9 = .int .i64 i ∧ τ 10 = .int .i64 q ∧ (∀ c ∈ B[i].take q, ang c = false) ∧ Mod none' w w') ⟨0, by omega, t0, t1, t2, t7, t8, t9, rfl, by simp, m2.trans' m3⟩ ?_
    clear t0 t1 t2 t7 t8 t9
    rintro q τ w4 hq ⟨t0, t1, t2, t7, t8, t9, t10, hang, m4⟩
    have cb4 := m4.cell cb fun h => h
    have ca4 := m4.cell ca fun h => h
    unfold h4_5
    try simp only [go_sem, t0, t1, t2, t7, t8, t9, t10, cb4]
    repeat refine ⟨⟨by omega, by omega⟩, ?_⟩
    refine ⟨fun hlt => ?_, fun hge => ?_⟩
    · have hql : q < B[i].length := by
        have : (q : Int) < B[i].length := by simpa using hlt
        omega
      unfold h4_6
      try simp only [go_sem, t0, t1, t2, t7, t8, t9, t10, cb4]
      have hbq : B[i][q]?.getD 0 = B[i][q] := by simp [hql]
      rw [hbq]
      refine ⟨⟨by omega, by omega⟩, ⟨by omega, by omega⟩, fun _ => ⟨by omega, by omega⟩, fun _ => ⟨by omega, by omega⟩, fun _ => k _ m4, fun hh => ?_⟩
      have hq6 : ¬ ((B[i][q].toNat : Int) = 60) ∧ ¬ ((B[i][q].toNat : Int) = 62) := by
        simp at hh
        omega
      have hangq : ang B[i][q] = false := by
        unfold ang
        have e1 : B[i][q] ≠ 60 := fun e => hq6.1 (by rw [e]; rfl)
        have e2 : B[i][q] ≠ 62 := fun e => hq6.2 (by rw [e]; rfl)
        simp [e1, e2]
      unfold h4_7
      try simp only [go_sem, t0, t1, t2, t7, t8, t9, t10]
      rw [w64 (by omega) (by omega)]
      refine ⟨q + 1, by omega, by omega, rfl, ?_, m4⟩
      rw [List.take_succ_eq_append_getElem hql]
      intro c hc
      rcases List.mem_append.1 hc with h | h
      · exact hang c h
      · rw [List.mem_singleton.1 h]; exact hangq
    · have hqe : q = B[i].length := by
        have : ¬ (q : Int) < B[i].length := by simpa using hge
        omega
      subst hqe
      rw [List.take_length] at hang
      have hAl := validB_len hv.1
      have hsn : joinS (A.take (i + 1)) (B.take (i + 1)) = joinS (A.take i) (B.take i) ++ B[i] ++ [60] ++ A[i] ++ [62] := by
        rw [List.take_succ_eq_append_getElem hil, List.take_succ_eq_append_getElem hiB, joinS_snoc _ _ _ _ (by rw [List.length_take, List.length_take]; omega)]
      have cb5 : w4.drew.cell? ⟨bg, bo + i, none⟩ = some (str B[i]) := cb4
      have ca5 : w4.drew.cell? ⟨ag, ao + i, none⟩ = some (str A[i]) := ca4
      unfold h4_8
      try simp only [go_sem, t0, t1, t2, t7, t8, t9, t10, cb4, ca4]
      have e1 : (joinS (A.take i) (B.take i) ++ B[i]).length = (joinS (A.take i) (B.take i)).length + B[i].length := List.length_append
      have e2 : (joinS (A.take i) (B.take i) ++ B[i] ++ [60]).length = (joinS (A.take i) (B.take i)).length + B[i].length + 1 := by rw [List.length_append, e1]; rfl
      have e3 : (joinS (A.take i) (B.take i) ++ B[i] ++ [60] ++ A[i]).length = (joinS (A.take i) (B.take i)).length + B[i].length + 1 + A[i].length := by rw [List.length_append, e2]
      rw [e1, e2, e3]
      refine ⟨⟨by omega, by omega⟩, by omega, by omega, ⟨by omega, by omega⟩, by omega, by omega, ?_⟩
      unfold h4_9
      try simp only [go_sem, t0, t1, t2, t7, t8, t9, t10]
      rw [w64 (by omega) (by omega)]
      refine ⟨i + 1, by omega, by omega, ?_, rfl, ?_, ?_, ?_, m4.trans' (Mod.drew none' w4)⟩
      · rw [hsn]
      · rw [List.take_succ_eq_append_getElem hil]
        intro x hx'
        rcases List.mem_append.1 hx' with h | h
        · exact hx x h
        · rw [List.mem_singleton.1 h]; exact hv.1
      · rw [List.take_succ_eq_append_getElem hiB]
        intro y hy'
        rcases List.mem_append.1 hy' with h | h
        · exact hy y h
        · rw [List.mem_singleton.1 h]; exact ⟨hv.2, hang⟩
      · rw [hsn, List.length_append, e3, List.length_singleton]; omega
  · have hie : i = A.length := by
      have : ¬ (i : Int) < A.length := by simpa using hge
      omega
    subst hie
    rw [List.take_length] at hx
    have hjoin := idsB_joinS (A.take A.length) (B.take A.length) (by rw [List.take_length]; exact hx) (fun y h => (hy y h).2) (by rw [List.length_take, List.length_take]; omega)
    rw [List.take_length] at hjoin t8 hjl
    obtain ⟨J, hJ⟩ : ∃ J, joinS A (B.take A.length) = J := ⟨_, rfl⟩
    rw [hJ] at hjoin t8 hjl
    unfold h4_10
    try simp only [go_sem, t0, t1, t2, t7, t8, t9]
    refine ids_ s (by omega) ?_
    intro v3 w3 own3 _ m3
    obtain ⟨ca, cc, rfl, -, hc3⟩ := own3.sl.form
    try simp only [go_sem]
    refine loopN (idsB s).length (fun q τ w' => τ 0 = .slice aa A.length ac ∧ τ 7 = .bool true ∧ τ 8 = str J ∧ τ 11 = .slice ca (idsB s).length cc ∧ τ 12 = .int .i64 q ∧ Mod none' w3 w') ⟨0, by omega, t0, t7, t8, rfl, rfl, Mod.refl _ _⟩ ?_
    clear t0 t1 t2 t7 t8 t9
    rintro q τ w4 hq ⟨t0, t7, t8, t11, t12, m4⟩
    unfold h4_11
    try simp only [go_sem, t0, t7, t8, t11, t12]
    have m24 := (m2.trans' m3).trans' m4
    refine ⟨fun hlt => ?_, fun hge => ?_⟩
    · have hql : q < (idsB s).length := by
        have : (q : Int) < (idsB s).length := by simpa using hlt
        omega
      obtain ⟨bg, bo, hca', hc5⟩ := hc3 (by omega)
      subst hca'
      have c4 := hc5 q (by omega)
      rw [List.getElem?_map, List.getElem?_eq_getElem hql] at c4
      have c4 := m4.cell c4 fun h => h
      unfold h4_12
      try simp only [go_sem, t0, t7, t8, t11, t12, c4]
      repeat refine ⟨⟨by omega, by omega⟩, ?_⟩
      refine valid_ _ ?_
      intro w5 m5
      rw [idsA_valid s none _ (List.getElem_mem hql)]
      try simp only [go_sem]
      unfold h4_13
      try simp only [go_sem, t0, t7, t8, t11, t12]
      have := idsB_len s
      rw [w64 (by omega) (by omega)]
      exact ⟨q + 1, by omega, by omega, rfl, m4.trans' m5⟩
    · unfold h4_14
      try simp only [go_sem, t0, t7, t8, t11, t12]
      refine first_ J (by omega) ?_
      intro w5 m5
      unfold firstB
      rw [hjoin]
      try simp only [go_sem]
      refine ids_ J (by omega) ?_
      intro v6 w6 own6 _ m6
      rw [hjoin] at own6
      unfold l4_16
      try simp only [go_sem, t0, t7]
      have hva6 := hva.mod ((m24.trans' m5).trans' m6) fun _ _ h => h
      refine texts_ own6.sl hva6 (by omega) ?_
      intro w7 m7
      unfold l4_15
      have m7' := ((m24.trans' m5).trans' m6).trans' m7
      try simp only [go_sem, t0, t7, decide_true]
      cases A with
      | nil =>
        have f : (if ((none : Option Bytes).isSome == false) = true then Value.bool !(none : Option Bytes).isSome else undef) = .bool true := rfl
        try simp only [go_sem, List.head?_nil, List.length_nil]
        exact ⟨(fun h => by cases h), (fun h => by cases h), (fun h => by cases h), k _ m7'⟩
      | cons x A =>
        obtain ⟨bg, bo, rfl, hcA⟩ := hca (by simp)
        have c0 := hcA 0 (by simp)
        have c0 : w.cell? ⟨bg, bo, none⟩ = some (str x) := c0
        have c7 := m7'.cell c0 fun h => h
        have e : decide ((0 : Int) < ((A.length + 1 : Nat) : Int)) = true := by simp
        try simp only [go_sem, List.head?_cons, c7, decide_true, List.length_cons]
        rw [e]
        try simp only [go_sem, decide_true]
        exact ⟨fun _ => by omega, k _ m7'⟩
end
end Go.Proofs.Y

/- MT: msgid: MsgidReplies. -/
namespace Go.Proofs.Y
open Go Go.HL Go.Proofs

/-! ### plain -/
theorem nodup_firsts_h : ∀ (ys acc : List Bytes), acc.Nodup → (ys.foldl (fun acc y => if y ∈ acc then acc else acc ++ [y]) acc).Nodup
  | [], _, h => h
  | y :: ys, acc, h => by
    rw [List.foldl_cons]
    apply nodup_firsts_h ys
    split
    · exact h
    · rename_i hy
      rw [List.nodup_append]
      refine ⟨h, by simp, fun a ha b hb e => ?_⟩
      rw [List.mem_singleton.1 hb] at e
      exact hy (e ▸ ha)
theorem nodup_firsts (ys : List Bytes) : (firsts ys).Nodup := nodup_firsts_h ys [] List.nodup_nil
theorem refsB_nodup (fs : List Fd) : (refsB fs).Nodup := by
  unfold refsB outB
  exact List.pairwise_reverse.2 (((nodup_firsts _).sublist (List.take_sublist _ _)).imp fun h => Ne.symm h)
theorem mem_refsB {fs : List Fd} {x : Bytes} (h : x ∈ refsB fs) : x ∈ allB fs := by
  unfold refsB outB at h
  have := List.mem_of_mem_take (List.mem_reverse.1 h)
  simpa using (mem_firsts _ _).1 this
theorem mem_allB {fs : List Fd} {x : Bytes} (h : x ∈ allB fs) : x ∈ refAB fs ∨ x ∈ refBB fs := by
  unfold allB at h
  rcases List.mem_append.1 h with h | h
  · exact .inl (List.mem_of_mem_take h)
  · rcases List.mem_append.1 h with h | h
    · exact .inr h
    · exact .inl (List.mem_of_mem_drop h)
theorem refsB_valid {fs : List Fd} {x : Bytes} (h : x ∈ refsB fs) : validB x = true := by
  rcases mem_allB (mem_refsB h) with h | h
  · exact idsA_valid _ none x h
  · exact idsA_valid _ none x (List.mem_filter.1 h).1
theorem lasts_nodup : ∀ {l : List Bytes}, l.Nodup → ∀ x, lasts (l ++ [x]) = (l.filter fun y => !decide (y = x)) ++ [x]
  | [], _, x => by simp [lasts]
  | y :: l, h, x => by
    rw [List.nodup_cons] at h
    rw [List.cons_append, lasts_c, lasts_nodup h.2 x]
    by_cases e : y = x
    · rw [if_pos (by simp [e]), List.filter_cons, if_neg (by simp [e])]
    · rw [if_neg (by simp [h.1, e]), List.filter_cons, if_pos (by simp [e])]; rfl
def angs (xs : List Bytes) : Bytes := xs.flatMap fun x => [60] ++ x ++ [62, 32]
theorem idsB_angs : ∀ (xs : List Bytes) (x : Bytes), (∀ y ∈ xs, validB y = true) → validB x = true → idsB (angs xs ++ [60] ++ x ++ [62]) = xs ++ [x]
  | [], x, _, hx => by
    have := idsB_piece (y := []) hx (by simp) []
    simpa [angs, idsB, idsA] using this
  | y :: xs, x, hy, hx => by
    have ih := idsB_angs xs x (fun z hz => hy z (by simp [hz])) hx
    have h1 := idsB_piece (y := []) (hy y (by simp)) (by simp) ([32] ++ (angs xs ++ [60] ++ x ++ [62]))
    have h2 : idsB ([32] ++ (angs xs ++ [60] ++ x ++ [62])) = idsB (angs xs ++ [60] ++ x ++ [62]) := idsA_skip [32] _ (by decide)
    rw [h2, ih] at h1
    rw [← List.cons_append] at h1
    rw [← h1]
    congr 1
    simp [angs]
def nRef : Bytes := [82, 101, 102, 101, 114, 101, 110, 99, 101, 115]
def nIrt : Bytes := [73, 110, 45, 82, 101, 112, 108, 121, 45, 84, 111]
theorem same_rr : sameB nRef nRef = true := by decide +kernel
theorem same_ii : sameB nIrt nIrt = true := by decide +kernel
theorem same_ir : sameB nIrt nRef = false := by decide +kernel
theorem same_ri : sameB nRef nIrt = false := by decide +kernel
theorem get_nx (a b : Bytes) : getB [⟨nIrt, a⟩, ⟨nRef, b⟩] nRef = some b ∧ getB [⟨nIrt, a⟩, ⟨nRef, b⟩] nIrt = some a := by
  unfold getB
  simp [List.find?, same_rr, same_ii, same_ir]
theorem refs_next {l : List Bytes} {x : Bytes} (hl : l.Nodup) (hv : ∀ y ∈ l, validB y = true) (hx : validB x = true) :
    refsB [⟨nIrt, [60] ++ x ++ [62]⟩, ⟨nRef, angs l ++ [60] ++ x ++ [62]⟩] = ((l.filter fun y => !decide (y = x)).drop ((l.filter fun y => !decide (y = x)).length - 99)) ++ [x] := by
  obtain ⟨F, hF⟩ : ∃ F : List Fd, [⟨nIrt, [60] ++ x ++ [62]⟩, ⟨nRef, angs l ++ [60] ++ x ++ [62]⟩] = F := ⟨_, rfl⟩
  have hg := get_nx ([60] ++ x ++ [62]) (angs l ++ [60] ++ x ++ [62])
  rw [hF] at hg
  have hA : refAB F = l ++ [x] := by
    show idsB ((getB F nRef).getD []) = _
    rw [hg.1]
    exact idsB_angs l x hv hx
  have hI : ofB F nIrt = [x] := by
    show idsB ((getB F nIrt).getD []) = _
    rw [hg.2]
    have := idsB_piece (y := []) hx (by simp) []
    simpa [idsB, idsA] using this
  have hB : refBB F = [] := by
    show (ofB F nIrt).filter _ = []
    rw [hI, hA]
    simp
  have hall : allB F = l ++ [x] := by
    unfold allB
    rw [hA, hB]
    simp
  rw [hF, refsB_lasts, hall, lasts_nodup hl, List.length_append, List.length_singleton, List.drop_append_of_le_length (by omega)]
  congr 2

section
variable {w : World} {next : Value → World → Prop} {QP : List PanicEntry → World → Prop}
/-- append of one text to a slice that begins somewhere in its block -/
theorem appendO_ {g o n c ty : Nat} {cur : Array Value} {fz : Nat × Nat} {l : List Bytes} {x : Bytes} {vx : Value} (hg : w.heap[g]? = some (.cells cur 9 fz)) (hfz : fzOK cur.size fz) (hl : l.length = n) (hsize : o + c ≤ cur.size) (hn : n ≤ c)
    (hcells : ∀ j, j < n → cur.toList[o + j]? = (l.map str)[j]?) (hx : Sl w vx 1 1 [str x]) (hb : n ≤ 4000000)
    (k : ∀ v' w', Sl w' v' 1 (n + 1) ((l ++ [x]).map str) → Mod (fun k => k = g) w w' → (∀ q, v'.ownBlock = some q → q = g ∨ w.heap.size ≤ q) → next v' w') : appK Tryd.prog #[31, 31] ty (.slice (some ⟨g, o, none⟩) n c) vx w next QP := by
  obtain ⟨i, hi, hz, hs, hby⟩ := sl31.parts
  obtain ⟨-, a, cx, rfl, hcx, hcell0⟩ := hx
  obtain ⟨bx, ox, rfl, hcell⟩ := hcell0 (by omega)
  have hnews : ∀ j u, ([str x] : List Value)[j]? = some u → w.cell? ((⟨bx, ox, none⟩ : Addr).add j) = some u := by
    intro j u hu
    have hj := (List.getElem?_eq_some_iff.1 hu).1
    rw [e_add, hcell j (by simpa using hj), hu]
  have hwc : ∀ j, w.cell? ⟨g, j, none⟩ = cur.toList[j]? := fun j => by simp [World.cell?, hg]
  have hol : ∀ j u, (l.map str)[j]? = some u → w.cell? ((⟨g, o, none⟩ : Addr).add j) = some u := by
    intro j u hu
    have hj := (List.getElem?_eq_some_iff.1 hu).1
    rw [e_add, hwc, hcells j (by simp at hj; omega), hu]
  by_cases hroom : n + 1 ≤ c
  · have hf := run_firstCells_some (P := Tryd.prog) w i.size 1 ⟨bx, ox, none⟩ 1 cx [str x] (by rw [hs]; rfl) hnews
    have hst := storeCells_h Tryd.prog g (o + n) 9 fz [str x] 0 cur w hg hfz (by simp; omega) (by intro v hv; rw [List.mem_singleton.1 hv]; rfl)
    simp only [Nat.add_zero] at hst
    have hr : (Builtin.append_ #[31, 31] ty #[.slice (some ⟨g, o, none⟩) n c, .slice (some ⟨bx, ox, none⟩) 1 cx]).run Tryd.prog w =
        .ok (.slice (some ⟨g, o, none⟩) (n + 1) c) (w.setRow g (cur.toList.take (o + n) ++ [str x] ++ cur.toList.drop (o + n + 1)).toArray) := by
      simp [Builtin.append_, run_und sl31.und, sizeOf, typeInfo, hi, hs, Builtin.lenOf, hroom, Addr.add_lit] 
      rw [hs] at hf
      simp at hf hst
      simp [hf, hst]
    refine eff_value hr (k _ _ ⟨by simp [hl], _, c, rfl, hroom, fun _ => ⟨g, o, rfl, fun j hj => ?_⟩⟩ ⟨rfl, rfl, rfl, by simp, fun k _ hk => setRow_other w g k _ hk⟩ (fun q hq => .inl (by simpa [Value.ownBlock] using hq.symm)))
    have hh := setRow_heap w g cur (cur.toList.take (o + n) ++ [str x] ++ cur.toList.drop (o + n + 1)).toArray 9 fz hg
    simp only [World.cell?, hh, Option.isSome_none, Bool.false_eq_true, if_false]
    have hcl : cur.toList.length = cur.size := by simp
    rcases Nat.lt_or_ge j n with h | h
    · have h2 := hcells j h
      rw [List.map_append, List.getElem?_append_left (by simp; omega), ← h2]
      simp only [List.getElem?_toArray]
      rw [List.append_assoc, List.getElem?_append_left (by rw [List.length_take]; omega), List.getElem?_take_of_lt (by omega)]
    · have hjn : j = n := by omega
      have e1 : (cur.toList.take (o + n)).length = o + n := by rw [List.length_take]; omega
      have eL : (cur.toList.take (o + n) ++ [str x] ++ cur.toList.drop (o + n + 1))[o + j]? = some (str x) := by
        rw [List.append_assoc, List.getElem?_append_right (by omega), e1, hjn, Nat.sub_self]; rfl
      have eR : ((l ++ [x]).map str)[j]? = some (str x) := by
        rw [List.map_append, List.getElem?_append_right (by rw [List.length_map]; omega), List.length_map, hl, hjn, Nat.sub_self]; rfl
      simp only [List.getElem?_toArray]
      rw [eL, eR]
  · have hr := run_append_grow (P := Tryd.prog) w 31 ty 9 i (str []) sl31.und hi hz ⟨g, o, none⟩ n c (l.map str) (by rw [hs]; simp [hl]) hol ⟨bx, ox, none⟩ 1 cx [str x] (by rw [hs]; rfl) hnews (by omega) (by omega) (growslice_fits (by omega) (by rw [hby]; omega))
    have hge := grownCap_ge w (n + 1) c 9
    refine eff_value hr (k _ _ ⟨by simp [hl], _, _, rfl, hge, fun _ => ⟨w.heap.size, 0, rfl, fun j hj => ?_⟩⟩ ⟨rfl, rfl, rfl, by simp, fun k hk _ => RowKit.Below.heap_alloc w.drew _ k hk⟩ (fun q hq => .inr (by simp [Value.ownBlock] at hq; omega)))
    have hh := heap_alloc_new w.drew (.cells ((l.map str).toArray ++ ([str x] : List Value).toArray ++ Builtin.zeroCells (str []).cells (grownCap w (n + 1) c 9 - (n + 1))) 9)
    have hh' : (w.drew.alloc (.cells ((l.map str).toArray ++ ([str x] : List Value).toArray ++ Builtin.zeroCells (str []).cells (grownCap w (n + 1) c 9 - (n + 1))) 9)).heap[w.heap.size]? = _ := hh
    simp only [World.cell?, hh', Option.isSome_none, Bool.false_eq_true, if_false, Nat.zero_add]
    rw [List.map_append, Array.getElem?_append_left (by simp; omega)]
    simp

theorem angs_snoc (xs : List Bytes) (x : Bytes) : angs (xs ++ [x]) = angs xs ++ [60] ++ x ++ [62, 32] := by unfold angs; rw [List.flatMap_append]; simp

theorem replies_ {v : Value} {fs : List Fd} {x : Bytes} (hK : Kd w K0) (hv : Sl w v 2 fs.length (rows Fd.cells fs)) (hfn : fs.length ≤ 9223372036854775807) (k : ∀ w', Mod none' w w' → next (.bool true) w') : callK Tryd.prog 6 [v, str x] w next QP := by
  refine q6 rfl ?_
  obtain ⟨va, vc, rfl, -⟩ := hv.form
  unfold h6
  try simp only [go_sem]
  refine small_ hK ?_
  intro w1 m1
  try simp only [go_sem]
  refine few_ (hv.mod m1 fun _ _ h => h) hfn ?_
  intro b w2 hb m2
  have m02 := m1.trans' m2
  cases b
  · try simp only [go_sem]
    exact k _ m02
  have hP := hb rfl
  have hg := hP.g
  have hP1 := hP.1
  try simp only [go_sem]
  refine valid_ x ?_
  intro w3 m3
  have m03 := m02.trans' m3
  try simp only [go_sem]
  refine ⟨fun _ => k _ m03, fun hx => ?_⟩
  have hx : validB x = true := by simpa using hx
  have hxl := validB_len hx
  unfold h6_1
  try simp only [go_sem]
  refine refs_ (hv.mod m03 fun _ _ h => h) hg (by omega) ?_
  intro vl w4 ownl _ m4
  obtain ⟨L, hL⟩ : ∃ L, refsB fs = L := ⟨_, rfl⟩
  have hLn : L.Nodup := hL ▸ refsB_nodup fs
  have hLv : ∀ y ∈ L, validB y = true := fun y hy => refsB_valid (hL.symm ▸ hy)
  have hLl : L.length ≤ 100 := by rw [← hL]; unfold refsB; rw [List.length_reverse]; exact outB_len _
  rw [hL] at ownl
  obtain ⟨la, lc, rfl, -⟩ := ownl.form
  have m04 := m03.trans' m4
  try simp only [go_sem]
  refine loopN L.length (fun i τ w' => ∃ vo, τ 1 = str x ∧ τ 5 = .bool true ∧ τ 6 = .slice la L.length lc ∧ τ 7 = str (angs (L.take i)) ∧ τ 8 = vo ∧ τ 9 = .int .i64 i ∧ HL.Own w' vo 9 1 ((L.take i).filter fun y => !decide (y = x)).length (((L.take i).filter fun y => !decide (y = x)).map str) ∧ (∀ k, vo.ownBlock = some k → w4.heap.size ≤ k) ∧ (angs (L.take i)).length ≤ i * 253 ∧ Mod none' w4 w') ⟨0, by omega, .slice none 0 0, rfl, rfl, rfl, rfl, rfl, rfl, Own.nil _ _ _, (fun k hk => by cases hk), by simp [angs], Mod.refl _ _⟩ ?_
  rintro i τ w5 hi ⟨vo, t1, t5, t6, t7, t8, t9, own5, hf5, hal, m5⟩
  have s5 := m5.size
  have hfl : ∀ j, ((L.take j).filter fun y => !decide (y = x)).length ≤ 100 := fun j => by
    have := List.length_filter_le (fun y => !decide (y = x)) (L.take j)
    rw [List.length_take] at this
    omega
  unfold h6_2
  try simp only [go_sem, t1, t5, t6, t7, t8, t9]
  refine ⟨fun hlt => ?_, fun hge => ?_⟩
  · have hil : i < L.length := by
      have : (i : Int) < L.length := by simpa using hlt
      omega
    obtain ⟨g, c, e⟩ := own_form ownl (by omega)
    cases e
    have c5 := m5.cell (str_at0 ownl.sl (i := i) hil hil) fun h => h
    have hvl := validB_len (hLv _ (List.getElem_mem hil))
    have e2 : (angs (L.take i) ++ [60]).length = (angs (L.take i)).length + 1 := by rw [List.length_append]; rfl
    have e3 : (angs (L.take i) ++ [60] ++ L[i]).length = (angs (L.take i)).length + 1 + L[i].length := by rw [List.length_append, e2]
    have hsn : angs (L.take (i + 1)) = angs (L.take i) ++ [60] ++ L[i] ++ [62, 32] := by rw [List.take_succ_eq_append_getElem hil, angs_snoc]
    have hsl : (angs (L.take (i + 1))).length ≤ (i + 1) * 253 := by rw [hsn, List.length_append, e3]; simp; omega
    unfold h6_3
    try simp only [go_sem, t1, t5, t6, t7, t8, t9, c5]
    rw [e2, e3]
    refine ⟨by omega, ⟨by omega, by omega⟩, by omega, by omega, ?_⟩
    refine ⟨⟨by omega, by omega⟩, fun hy => ?_, fun hy => ?_⟩
    · refine ⟨⟨by omega, by omega⟩, ?_⟩
      have hfi := hfl i
      refine app1_ own5 hf5 s5 (by omega) ?_
      intro v0 v6 w6 own6 hf6 m6
      have e1 : ((L.take (i + 1)).filter fun y => !decide (y = x)) = ((L.take i).filter fun y => !decide (y = x)) ++ [L[i]] := by
        rw [List.take_succ_eq_append_getElem hil, List.filter_append, List.filter_cons, if_pos hy]; rfl
      rw [← e1] at own6
      unfold h6_4
      try simp only [go_sem, t1, t5, t6, t7, t8, t9]
      rw [w64 (by omega) (by omega)]
      refine ⟨i + 1, by omega, by omega, v6, ?_, rfl, rfl, own6, hf6, hsl, m5.trans m6 fun q hq h => by omega⟩
      rw [hsn]
    · have e1 : ((L.take (i + 1)).filter fun y => !decide (y = x)) = ((L.take i).filter fun y => !decide (y = x)) := by
        rw [List.take_succ_eq_append_getElem hil, List.filter_append, List.filter_cons, if_neg (by rw [hy]; simp)]; simp
      unfold h6_4
      try simp only [go_sem, t1, t5, t6, t7, t8, t9]
      rw [w64 (by omega) (by omega)]
      refine ⟨i + 1, by omega, by omega, vo, ?_, rfl, rfl, (by rw [e1]; exact own5), hf5, hsl, m5⟩
      rw [hsn]
  have hie : i = L.length := by
    have : ¬ (i : Int) < L.length := by simpa using hge
    omega
  subst hie
  have hfi := hfl L.length
  rw [List.take_length] at own5 hal t7 hfi
  obtain ⟨W, hW⟩ : ∃ W, (L.filter fun y => !decide (y = x)) = W := ⟨_, rfl⟩
  have hnext := refs_next hLn hLv hx
  rw [hW] at own5 hfi hnext
  have m05 := m04.trans' m5
  have fin : ∀ (vz : Value) (Z : List Bytes) (τ' : Env), W.drop (W.length - 99) = Z → τ' 1 = str x → τ' 5 = .bool true → τ' 7 = str (angs L) → τ' 8 = vz →
      (∀ (next2 : Value → Value → World → Prop), (∀ v0 v' w', Sl w' v' 1 (Z ++ [x]).length ((Z ++ [x]).map str) → Mod none' w4 w' → next2 v0 v' w') → bslK Tryd.prog 31 1 [(0, str x)] w5 (fun v w' => appK Tryd.prog #[31, 31] 31 vz v w' (fun v1 w'' => next2 v v1 w'') noPanic) noPanic) →
      hw Tryd.prog noPanic h6_6 (endV [RV.tmp 4] next) τ' w5 := by
    intro vz Z τ' hZ t1 t5 t7 t8 app
    unfold h6_6
    try simp only [go_sem, t1, t5, t7, t8]
    refine app _ ?_
    intro v0 v6 w6 sl6 m6
    have e1 : ([60] ++ x : Bytes).length = x.length + 1 := by simp
    have e2 : (angs L ++ [60]).length = (angs L).length + 1 := by simp
    have e3 : (angs L ++ [60] ++ x).length = (angs L).length + 1 + x.length := by rw [List.length_append, e2]
    try simp only [go_sem, t1, t5, t7, t8, List.set_cons_zero, List.set_cons_succ, List.length_cons, List.length_nil, Nat.reduceAdd, Nat.reduceLeDiff]
    refine ⟨by omega, by omega, by omega, by omega, by omega, ?_⟩
    refine bslF2 (a := ⟨nIrt, [60] ++ x ++ [62]⟩) (b := ⟨nRef, angs L ++ [60] ++ x ++ [62]⟩) ?_
    intro q7 w7 hq7 own7 m7
    refine refs_ (fs := [⟨nIrt, [60] ++ x ++ [62]⟩, ⟨nRef, angs L ++ [60] ++ x ++ [62]⟩]) own7.sl ?_ (by simp) ?_
    · intro f hf
      rcases List.mem_cons.1 hf with rfl | hf
      · exact ⟨by simp [nIrt, nRef], by show ([60] ++ x ++ [62]).length ≤ _; simp; omega⟩
      · rw [List.mem_singleton.1 hf]
        exact ⟨by simp [nIrt, nRef], by show (angs L ++ [60] ++ x ++ [62]).length ≤ _; rw [List.length_append, e3]; simp; omega⟩
    intro v8 w8 own8 _ m8
    rw [hnext, hZ] at own8
    unfold l6_8
    try simp only [go_sem, t1, t5, t7, t8]
    have hZl : Z.length ≤ 100 := by rw [← hZ, List.length_drop]; omega
    refine texts_ own8.sl (sl6.mod (m7.trans' m8) fun _ _ h => h) (by simp; omega) ?_
    intro w9 m9
    unfold l6_7
    try simp only [go_sem, t1, t5, t7, t8, decide_true]
    exact k _ ((((m04.trans' m6).trans' m7).trans' m8).trans' m9)
  unfold h6_5
  obtain ⟨oa, oc, rfl, hoc, -⟩ := own5.form
  try simp only [go_sem, t1, t5, t7, t8]
  refine ⟨fun hy => ?_, fun hy => ?_⟩
  · have hWl : W.length = 100 := by
      have : (99 : Int) < W.length := by simpa using hy
      omega
    rw [w64 (x := (W.length : Int) - 100) (by omega) (by omega), w64 (by omega) (by omega)]
    rw [show ((W.length : Int) - 100 + 1).toNat = 1 by omega]
    refine ⟨⟨by omega, by omega⟩, ?_⟩
    have hg5 : ∃ g cap cur fz, Value.slice oa W.length oc = .slice (some ⟨g, 0, none⟩) W.length cap ∧ fzOK cur.size fz ∧ w5.heap[g]? = some (.cells cur 9 fz) ∧ W.length ≤ cap ∧ cap ≤ maxLen ∧ cur.size = cap * 1 ∧ cur.toList.take (W.length * 1) = W.map str := by
      rcases own5.2 with ⟨-, h⟩ | h
      · omega
      · exact h
    obtain ⟨g, cap, cur, fz, e, hfz, hg, hnc, hcm, hcs, htk⟩ := hg5
    cases e
    have hne : ¬ oc = 1 := by omega
    rw [if_neg hne]
    refine fin _ (W.drop 1) _ (by rw [hWl]) t1 t5 t7 rfl ?_
    intro next2 k2
    refine bsl1 sl31 (cs := [str x]) rfl rfl (by omega) ?_
    intro b6 w6 hb6 own6 _ m6 hs6
    have hg6 := m6.block g (Array.getElem?_eq_some_iff.1 hg).1 fun h => h
    have hgw : w4.heap.size ≤ g := hf5 g rfl
    refine appendO_ (g := g) (o := 1) (n := W.length - 1) (c := oc - 1) (l := W.drop 1) (hg6.trans hg) hfz (by rw [List.length_drop]) (by omega) (by omega) (fun j hj => ?_) own6.sl (by omega) ?_
    · rw [List.map_drop, List.getElem?_drop, ← htk, List.getElem?_take_of_lt (by omega)]
    intro v7 w7 sl7 m7 _
    have el : W.length - 1 + 1 = (W.drop 1 ++ [x]).length := by rw [List.length_append, List.length_drop]; rfl
    rw [el] at sl7
    exact k2 _ _ _ sl7 ((m5.trans' m6).trans m7 fun q hq (h : q = g) => by omega)
  · have hWl : W.length ≤ 99 := by
      have : ¬ (99 : Int) < W.length := by simpa using hy
      omega
    have e0 : W.length - 99 = 0 := by omega
    refine fin _ W _ (by rw [e0]; rfl) t1 t5 t7 t8 ?_
    intro next2 k2
    refine app1_ own5 hf5 s5 (by omega) ?_
    intro v0 v6 w6 own6 hf6 m6
    exact k2 _ _ _ own6.sl (m5.trans m6 fun q hq h => by omega)
end
end Go.Proofs.Y

/- MR: msgid: MsgidRefs. -/
namespace Go.Proofs.Y
open Go Go.HL Go.Proofs

/-! ### plain -/
theorem mem_lasts (x : Bytes) (l : List Bytes) : x ∈ lasts l ↔ x ∈ l := by rw [lasts_firsts, List.mem_reverse, mem_firsts, List.mem_reverse]
theorem lasts_last : ∀ l : List Bytes, (lasts l).getLast? = l.getLast?
  | [] => rfl
  | x :: l => by
    rw [lasts_c]
    by_cases h : x ∈ l
    · rw [if_pos h, lasts_last l]
      cases l with
      | nil => cases h
      | cons y l => rw [List.getLast?_cons_cons]
    · rw [if_neg h]
      cases l with
      | nil => rfl
      | cons y l =>
        have h1 := lasts_last (y :: l)
        have hne : lasts (y :: l) ≠ [] := fun e => by
          rw [e, List.getLast?_cons] at h1; cases h1
        obtain ⟨z, zs, hz⟩ := List.exists_cons_of_ne_nil hne
        rw [hz] at h1 ⊢
        rw [List.getLast?_cons_cons, h1, List.getLast?_cons_cons]
theorem drop_last {l : List Bytes} {k : Nat} (h : l.drop k ≠ []) : (l.drop k).getLast? = l.getLast? := by
  rw [List.getLast?_eq_getElem?, List.getLast?_eq_getElem?, List.getElem?_drop, List.length_drop]
  have : k < l.length := by
    rcases Nat.lt_or_ge k l.length with h' | h'
    · exact h'
    · exact absurd (List.drop_of_length_le h') h
  congr 1; omega
theorem refsB_last {fs : List Fd} (h : refsB fs ≠ []) : (refsB fs).getLast? = (allB fs).getLast? := by
  rw [refsB_lasts] at h ⊢
  rw [drop_last h, lasts_last]
def irtB (fs : List Fd) : List Bytes := ofB fs nIrt
theorem refBB_irt (fs : List Fd) : refBB fs = (irtB fs).filter fun x => !decide (x ∈ refAB fs) := rfl
theorem allB_last {fs : List Fd} (h : refAB fs ≠ []) : (allB fs).getLast? = (refAB fs).getLast? := by
  unfold allB
  have hl := List.length_pos_iff.2 h
  have e : (refAB fs).drop ((refAB fs).length - 1) = [(refAB fs).getLast h] := by
    rw [List.drop_eq_getElem_cons (by omega), List.drop_of_length_le (by omega), List.getLast_eq_getElem]
  rw [e, ← List.append_assoc, List.getLast?_append, List.getLast?_singleton, List.getLast?_eq_some_getLast h]
  rfl
theorem allB_nil {fs : List Fd} (h : refAB fs = []) : allB fs = irtB fs := by
  unfold allB
  rw [refBB_irt, h]
  simp
theorem all_mem {fs : List Fd} {z : Bytes} (h : z ∈ refAB fs ∨ z ∈ irtB fs) : z ∈ allB fs := by
  unfold allB
  by_cases hz : z ∈ refAB fs
  · rw [← List.take_append_drop ((refAB fs).length - 1) (refAB fs)] at hz
    rcases List.mem_append.1 hz with h1 | h1
    · exact List.mem_append.2 (.inl h1)
    · exact List.mem_append.2 (.inr (List.mem_append.2 (.inr h1)))
  · refine List.mem_append.2 (.inr (List.mem_append.2 (.inl ?_)))
    rw [refBB_irt]
    exact List.mem_filter.2 ⟨h.resolve_left hz, by simp [hz]⟩
theorem refsB_few {fs : List Fd} (h : (refsB fs).length < 100) {z : Bytes} (hz : z ∈ refAB fs ∨ z ∈ irtB fs) : z ∈ refsB fs := by
  rw [refsB_lasts] at h ⊢
  rw [List.length_drop] at h
  have e : (lasts (allB fs)).length - 100 = 0 := by omega
  rw [e, List.drop_zero, mem_lasts]
  exact all_mem hz
theorem mem_refsB_ab {fs : List Fd} {x : Bytes} (h : x ∈ refsB fs) : x ∈ refAB fs ∨ x ∈ irtB fs := by
  rcases mem_allB (mem_refsB h) with h | h
  · exact .inl h
  · exact .inr (List.mem_filter.1 h).1
theorem refsB_nil {fs : List Fd} (h : refsB fs = []) : refAB fs = [] ∧ irtB fs = [] := by
  constructor
  · rw [List.eq_nil_iff_forall_not_mem]
    intro z hz
    have := refsB_few (by rw [h]; simp) (.inl hz)
    rw [h] at this; cases this
  · rw [List.eq_nil_iff_forall_not_mem]
    intro z hz
    have := refsB_few (by rw [h]; simp) (.inr hz)
    rw [h] at this; cases this
theorem getB_more {fs : List Fd} {m : Fd} {n : Bytes} (h : (getB fs n).isSome = true) : getB (fs ++ [m]) n = getB fs n := by
  unfold getB at h ⊢
  rw [List.find?_append]
  cases hf : fs.find? fun f => sameB f.name n with
  | none => rw [hf] at h; cases h
  | some f => rfl
theorem refsB_more {fs : List Fd} {m : Fd} (h1 : (getB fs nRef).isSome = true) (h2 : (getB fs nIrt).isSome = true) : refsB (fs ++ [m]) = refsB fs := by
  have a1 : refAB (fs ++ [m]) = refAB fs := by
    show idsB ((getB (fs ++ [m]) nRef).getD []) = _
    rw [getB_more h1]; rfl
  have a2 : ofB (fs ++ [m]) nIrt = ofB fs nIrt := by
    show idsB ((getB (fs ++ [m]) nIrt).getD []) = _
    rw [getB_more h2]; rfl
  have a3 : refBB (fs ++ [m]) = refBB fs := by
    show (ofB (fs ++ [m]) nIrt).filter _ = _
    rw [a2, a1]; rfl
  unfold refsB allB
  rw [a1, a3]

section
variable {w : World} {next : Value → World → Prop} {QP : List PanicEntry → World → Prop}
theorem refslaw_ {v : Value} {fs : List Fd} {m : Fd} (hK : Kd w K0) (hv : Sl w v 2 fs.length (rows Fd.cells fs)) (hfn : fs.length ≤ 9223372036854775807) (hm : m.name.length ≤ 1100000 ∧ m.value.length ≤ 1100000) (k : ∀ w', Mod none' w w' → next (.bool true) w') : callK Tryd.prog 5 [v, m.v] w next QP := by
  refine q5 rfl ?_
  obtain ⟨va, vc, rfl, -⟩ := hv.form
  unfold h5
  try simp only [go_sem]
  refine box_ (cs := m.cells) rfl ?_
  intro bm w1 hbm blkm m1 hs1
  try simp only [go_sem]
  refine small_ (fun q hq => m1.cell (hK q hq) fun h => h) ?_
  intro w2 m2
  try simp only [go_sem]
  have hv2 := hv.mod (m1.trans' m2) fun _ _ h => h
  refine few_ hv2 hfn ?_
  intro b w3 hb m3
  have m03 := (m1.trans' m2).trans' m3
  try simp only [go_sem]
  cases b
  · try simp only [go_sem]
    exact k _ m03
  have hP := hb rfl
  have hg := hP.g
  have hP1 := hP.1
  try simp only [go_sem]
  unfold h5_1
  have hv3 := hv.mod m03 fun _ _ h => h
  try simp only [go_sem]
  refine get_ (name := nRef) hv3 hg.f (by decide) (by omega) ?_
  intro w4 m4
  try simp only [go_sem]
  refine get_ (name := nIrt) (hv3.mod m4 fun _ _ h => h) hg.f (by decide) (by omega) ?_
  intro w5 m5
  try simp only [go_sem]
  refine ids_ _ (getB_len hg.f _) ?_
  intro vA w6 ownA _ m6
  try simp only [go_sem]
  refine ids_ _ (getB_len hg.f _) ?_
  intro vB w7 ownB' _ m7
  have m37 := ((m4.trans' m5).trans' m6).trans' m7
  have hA : idsB ((getB fs nRef).getD []) = refAB fs := rfl
  have hB : idsB ((getB fs nIrt).getD []) = irtB fs := rfl
  rw [hA] at ownA
  rw [hB] at ownB'
  obtain ⟨aa, ac, rfl, -⟩ := ownA.form
  obtain ⟨ba, bc, rfl, -⟩ := ownB'.form
  unfold h5_2
  try simp only [go_sem]
  refine refs_ (hv3.mod m37 fun _ _ h => h) hg (by omega) ?_
  intro vL w8 ownL _ m8
  obtain ⟨la, lc, rfl, -⟩ := ownL.form
  have ownA8 := ownA.mod (m7.trans' m8) fun _ _ h => h
  have ownB8 := ownB'.mod m8 fun _ _ h => h
  have m08 := (m03.trans' m37).trans' m8
  try simp only [go_sem]
  obtain ⟨L, hL⟩ : ∃ L, refsB fs = L := ⟨_, rfl⟩
  obtain ⟨A, hAe⟩ : ∃ A, refAB fs = A := ⟨_, rfl⟩
  obtain ⟨B, hBe⟩ : ∃ B, irtB fs = B := ⟨_, rfl⟩
  have hLn : L.Nodup := hL ▸ refsB_nodup fs
  have hLv : ∀ y ∈ L, validB y = true := fun y hy => refsB_valid (hL.symm ▸ hy)
  have hLl : L.length ≤ 100 := by rw [← hL]; unfold refsB; rw [List.length_reverse]; exact outB_len _
  have hLm : ∀ y ∈ L, y ∈ A ∨ y ∈ B := fun y hy => by rw [← hAe, ← hBe]; exact mem_refsB_ab (hL.symm ▸ hy)
  have hLnil : L = [] → A = [] ∧ B = [] := fun h => by rw [← hAe, ← hBe]; exact refsB_nil (hL.trans h)
  have hLfew : L.length < 100 → ∀ z, z ∈ A ∨ z ∈ B → z ∈ L := fun h z hz => by rw [← hL]; exact refsB_few (hL.symm ▸ h) (by rw [hAe, hBe]; exact hz)
  have hLlast : L ≠ [] → (A ≠ [] → L.getLast? = A.getLast?) ∧ (A = [] → L.getLast? = B.getLast?) := fun h => by
    have h0 : refsB fs ≠ [] := hL.symm ▸ h
    have h1 := refsB_last h0
    rw [hL] at h1
    refine ⟨fun ha => ?_, fun ha => ?_⟩
    · rw [h1, allB_last (hAe.symm ▸ ha), hAe]
    · rw [h1, allB_nil (hAe.trans ha), hBe]
  have hAl : A.length ≤ 1100000 := by rw [← hAe]; exact ofB_len hg _
  have hBl : B.length ≤ 1100000 := by rw [← hBe]; exact ofB_len hg _
  rw [hL] at ownL
  rw [hAe] at ownA8
  rw [hBe] at ownB8
  rw [hL, hAe, hBe]
  refine loopN L.length (fun i τ w' => τ 0 = .slice va fs.length vc ∧ τ 3 = ptr bm ∧ τ 5 = .bool true ∧ τ 10 = .slice aa A.length ac ∧ τ 11 = .slice ba B.length bc ∧ τ 12 = .slice la L.length lc ∧ τ 13 = .int .i64 i ∧ Mod none' w8 w') ⟨0, by omega, rfl, rfl, rfl, rfl, rfl, rfl, rfl, Mod.refl _ _⟩ ?_
  rintro i τ w9 hi ⟨t0, t3, t5, t10, t11, t12, t13, m9⟩
  unfold h5_3
  try simp only [go_sem, t0, t3, t5, t10, t11, t12, t13]
  refine ⟨fun hlt => ?_, fun hge => ?_⟩
  · have hil : i < L.length := by
      have : (i : Int) < L.length := by simpa using hlt
      omega
    obtain ⟨g, c, e⟩ := own_form ownL (by omega)
    cases e
    have c9 := m9.cell (str_at0 ownL.sl (i := i) hil hil) fun h => h
    unfold h5_4
    try simp only [go_sem, t0, t3, t5, t10, t11, t12, t13, c9]
    repeat refine ⟨⟨by omega, by omega⟩, ?_⟩
    refine valid_ _ ?_
    intro w10 m10
    rw [hLv _ (List.getElem_mem hil)]
    have m910 := (m9.trans' (Mod.drew none' w9)).trans' m10
    have c10 := m910.cell (str_at0 ownL.sl (i := i) hil hil) fun h => h
    try simp only [go_sem, t0, t3, t5, t10, t11, t12, t13, c10]
    have slt := Sl.take1 (m := i) ((ownL.mod m910 fun _ _ h => h).sl) rfl (by omega)
    have hni : ¬ L[i] ∈ L.take i := by
      intro hmem
      obtain ⟨q, hq, e⟩ := List.getElem_of_mem hmem
      rw [List.getElem_take] at e
      rw [List.length_take] at hq
      exact List.pairwise_iff_getElem.1 hLn q i (by omega) hil (by omega) e
    have hlc : L.length ≤ lc := by obtain ⟨_, _, e, h, -⟩ := ownL.form; cases e; exact h
    repeat refine ⟨⟨by omega, by omega⟩, ?_⟩
    refine in_ slt (by omega) ?_
    rw [decide_eq_false hni]
    unfold l5_7
    try simp only [go_sem, t0, t3, t5, t10, t11, t12, t13, c10]
    repeat refine ⟨⟨by omega, by omega⟩, ?_⟩
    refine in_ ((ownA8.mod m910 fun _ _ h => h).sl) (by omega) ?_
    have nx : ∀ τ' : Env, τ' 0 = .slice va fs.length vc → τ' 3 = ptr bm → τ' 5 = .bool true → τ' 10 = .slice aa A.length ac → τ' 11 = .slice ba B.length bc → τ' 12 = .slice (some ⟨g, 0, none⟩) L.length lc → τ' 13 = .int .i64 i → τ' 81 = .bool false →
        hw Tryd.prog noPanic h5_8 (blockX 1 (seqX (hw Tryd.prog noPanic h5_9 (seqX (fun σ' w' => ∃ i', i < i' ∧ i' ≤ L.length ∧ σ' 0 = Value.slice va fs.length vc ∧ σ' 3 = ptr bm ∧ σ' 5 = Value.bool true ∧ σ' 10 = Value.slice aa A.length ac ∧ σ' 11 = Value.slice ba B.length bc ∧ σ' 12 = Value.slice (some ⟨g, 0, none⟩) L.length lc ∧ σ' 13 = Value.int .i64 i' ∧ Mod none' w8 w') (blockX 0 (seqX (hw Tryd.prog noPanic h5_10 (endV [RV.tmp 4] next)) (endV [RV.tmp 4] next)))))
          (seqX (fun σ' w' => ∃ i', i < i' ∧ i' ≤ L.length ∧ σ' 0 = Value.slice va fs.length vc ∧ σ' 3 = ptr bm ∧ σ' 5 = Value.bool true ∧ σ' 10 = Value.slice aa A.length ac ∧ σ' 11 = Value.slice ba B.length bc ∧ σ' 12 = Value.slice (some ⟨g, 0, none⟩) L.length lc ∧ σ' 13 = Value.int .i64 i' ∧ Mod none' w8 w') (blockX 0 (seqX (hw Tryd.prog noPanic h5_10 (endV [RV.tmp 4] next)) (endV [RV.tmp 4] next)))))) τ' w10 := by
      intro τ' t0 t3 t5 t10 t11 t12 t13 t81
      unfold h5_8
      try simp only [go_sem, t0, t3, t5, t10, t11, t12, t13, t81]
      unfold h5_9
      try simp only [go_sem, t0, t3, t5, t10, t11, t12, t13, t81]
      rw [w64 (by omega) (by omega)]
      exact ⟨i + 1, by omega, by omega, rfl, m910⟩
    by_cases hiA : L[i] ∈ A
    · rw [decide_eq_true hiA]
      unfold l5_6
      try simp only [go_sem, t0, t3, t5, t10, t11, t12, t13, c10]
      unfold l5_5
      try simp only [go_sem, t0, t3, t5, t10, t11, t12, t13, c10]
      exact nx _ t0 t3 t5 t10 t11 t12 t13 rfl
    · have hiB : L[i] ∈ B := (hLm _ (List.getElem_mem hil)).resolve_left hiA
      rw [decide_eq_false hiA]
      unfold l5_6
      try simp only [go_sem, t0, t3, t5, t10, t11, t12, t13, c10]
      repeat refine ⟨⟨by omega, by omega⟩, ?_⟩
      refine in_ ((ownB8.mod m910 fun _ _ h => h).sl) (by omega) ?_
      rw [decide_eq_true hiB]
      unfold l5_5
      try simp only [go_sem, t0, t3, t5, t10, t11, t12, t13, c10]
      exact nx _ t0 t3 t5 t10 t11 t12 t13 rfl
  have hie : i = L.length := by
    have : ¬ (i : Int) < L.length := by simpa using hge
    omega
  subst hie
  unfold h5_10
  try simp only [go_sem, t0, t3, t5, t10, t11, t12, t13]
  have e97 : (if decide (100 < (L.length : Int)) = true then true else if decide ((L.length : Int) = 0) = true then decide (0 < IntKind.i64.wrap ((A.length : Int) + (B.length : Int))) else false) = false := by
    rw [if_neg (by simp; omega)]
    by_cases h : (L.length : Int) = 0
    · have hn := hLnil (List.eq_nil_of_length_eq_zero (by omega))
      rw [if_pos (by simpa using h), hn.1, hn.2]; rfl
    · rw [if_neg (by simpa using h)]
  rw [e97]
  refine ⟨(fun h => by cases h), fun _ => ?_⟩
  have rest : ∀ (w10 : World) (τ' : Env), Mod none' w8 w10 → τ' 0 = .slice va fs.length vc → τ' 3 = ptr bm → τ' 5 = .bool true → τ' 10 = .slice aa A.length ac → τ' 11 = .slice ba B.length bc → τ' 12 = .slice la L.length lc → hw Tryd.prog noPanic h5_12 (endV [RV.tmp 4] next) τ' w10 := by
    intro w10 τ' m10 t0 t3 t5 t10 t11 t12
    unfold h5_12
    try simp only [go_sem, t0, t3, t5, t10, t11, t12]
    refine bsl0 sl31 ?_
    intro b11 w11 hb11 own11 m11 hs11
    try simp only [go_sem, t10]
    have s10 := m10.size
    refine append_ sl31 own11 ((ownA8.mod (m10.trans' m11) fun _ _ h => h).sl) (by intro u hu; obtain ⟨z, -, rfl⟩ := List.mem_map.1 hu; rfl) (by omega) (by unfold maxLen; omega) ?_
    intro v12 w12 own12 m12 hf12 _
    have hv12 : ∀ q, v12.ownBlock = some q → w8.heap.size ≤ q := fun q hq => by
      rcases hf12 q hq with h | h
      · have h : some b11 = some q := h
        cases h; omega
      · omega
    have m812 : Mod none' w8 w12 := (m10.trans' m11).trans m12 fun q hq h => by
      have h : some b11 = some q := h
      cases h; omega
    try simp only [go_sem, t10, t11]
    refine append_ sl31 own12 ((ownB8.mod m812 fun _ _ h => h).sl) (by intro u hu; obtain ⟨z, -, rfl⟩ := List.mem_map.1 hu; rfl) (by omega) (by unfold maxLen; omega) ?_
    intro v13 w13 own13 m13 hf13 _
    have m813 : Mod none' w8 w13 := m812.trans m13 fun q hq h => by have := hv12 q h; omega
    have e13 : 0 + A.length + B.length = (A ++ B).length := by simp
    have e13' : [] ++ A.map str ++ B.map str = (A ++ B).map str := by simp
    rw [e13, e13'] at own13
    obtain ⟨Z, hZ⟩ : ∃ Z, A ++ B = Z := ⟨_, rfl⟩
    have hZm : ∀ z ∈ Z, z ∈ A ∨ z ∈ B := fun z hz => by rw [← hZ] at hz; exact List.mem_append.1 hz
    have hZl : Z.length ≤ 2200000 := by rw [← hZ, List.length_append]; omega
    rw [hZ] at own13
    obtain ⟨za, zc, rfl, -⟩ := own13.form
    try simp only [go_sem, t0, t3, t5, t10, t11, t12]
    have fin : ∀ (w14 : World) (τ2 : Env), Mod none' w13 w14 → τ2 0 = .slice va fs.length vc → τ2 3 = ptr bm → τ2 5 = .bool true → τ2 12 = .slice la L.length lc → hw Tryd.prog noPanic h5_16 (endV [RV.tmp 4] next) τ2 w14 := by
      intro w14 τ2 m14 t0 t3 t5 t12
      have m014 := (m08.trans' m813).trans' m14
      have m114 := (((m2.trans' m3).trans' m37).trans' m8).trans' (m813.trans' m14)
      have blk14 := blkm.mod m114 fun h => h
      have hv14 := hv.mod m014 fun _ _ h => h
      have lm : ∀ w' : World, Blk w' bm 37 m.cells → loadN w' ⟨bm, 0, none⟩ 2 = m.cells.toArray := fun w' hb => loadN_of rfl fun j hj => by
        rw [e_add, Nat.zero_add]; exact hb.cell j
      have ok : ∀ w' : World, Blk w' bm 37 m.cells → ∀ j, j < 2 → (w'.cell? ⟨bm, j, none⟩).isSome = true := fun w' hb j hj => by
        rw [hb.cell j, List.getElem?_eq_getElem (by rw [Fd.cells_len]; exact hj)]; rfl
      have em : (Value.agg m.cells.toArray) = m.v := rfl
      unfold h5_16
      have l14 := lm w14 blk14
      try simp only [go_sem, t0, t3, t5, t12, l14, em]
      have hgm : szG (fs ++ [m]) := fun f hf => by
        rcases List.mem_append.1 hf with h | h
        · exact hg f h
        · rw [List.mem_singleton.1 h]; exact ⟨by omega, hm.2⟩
      have er : rows Fd.cells (fs ++ [m]) = rows Fd.cells fs ++ m.cells := by rw [rows_app]; simp [rows]
      have erl : (fs ++ [m]).length = fs.length + 1 := by simp
      have one : ∀ l : List Fd, ∀ u ∈ rows Fd.cells l, u.oneCell' = true := by
        intro l u hu
        obtain ⟨f, -, hf⟩ := List.mem_flatMap.1 hu
        unfold Fd.cells at hf
        rcases List.mem_cons.1 hf with rfl | hf
        · rfl
        · rw [List.mem_singleton.1 hf]; rfl
      have end21 : ∀ (w' : World) (v16 : Value) (τ3 : Env), Mod none' w14 w' → HL.Own w' v16 9 1 (refsB (fs ++ [m])).length ((refsB (fs ++ [m])).map str) → τ3 0 = .slice va fs.length vc → τ3 5 = .bool true → τ3 12 = .slice la L.length lc → τ3 16 = v16 → hw Tryd.prog noPanic h5_21 (endV [RV.tmp 4] next) τ3 w' := by
        intro w' v16 τ3 m' own16 t0 t5 t12 t16
        unfold h5_21
        try simp only [go_sem, t0, t5, t12, t16]
        refine get_ (name := nRef) (hv14.mod m' fun _ _ h => h) hg.f (by decide) (by omega) ?_
        intro w17 m17
        try simp only [go_sem, t0, t5, t12, t16]
        refine get_ (name := nIrt) (hv14.mod (m'.trans' m17) fun _ _ h => h) hg.f (by decide) (by omega) ?_
        intro w18 m18
        try simp only [go_sem, t0, t5, t12, t16]
        have mE := m014.trans' ((m'.trans' m17).trans' m18)
        cases h1 : (getB fs nRef).isSome
        · try simp only [go_sem]
          exact k _ mE
        cases h2 : (getB fs nIrt).isSome
        · try simp only [go_sem]
          exact k _ mE
        refine ⟨fun _ => ?_, fun h => by simp at h⟩
        have m814 := m813.trans' m14
        refine texts_ (b := refsB (fs ++ [m])) ((ownL.mod (m814.trans' ((m'.trans' m17).trans' m18)) fun _ _ h => h).sl) ((own16.mod (m17.trans' m18) fun _ _ h => h).sl) (by omega) ?_
        intro w19 m19
        rw [decide_eq_true (show L = refsB (fs ++ [m]) by rw [refsB_more h1 h2]; exact hL.symm)]
        try simp only [go_sem]
        exact k _ (mE.trans' m19)
      -- the two slices joined, and the references of what they hold
      have join : ∀ (w' : World) (v1 v2 : Value) (next3 : Value → Value → World → Prop), Mod none' w14 w' → HL.Own w' v1 37 2 fs.length (rows Fd.cells fs) → (∀ q, v1.ownBlock = some q → w14.heap.size ≤ q) → Sl w' v2 2 1 m.cells →
          (∀ v3 v4 w5, Mod none' w14 w5 → HL.Own w5 v4 9 1 (refsB (fs ++ [m])).length ((refsB (fs ++ [m])).map str) → next3 v3 v4 w5) →
          appK Tryd.prog #[22, 22] 22 v1 v2 w' (fun v3 w5 => callvK Tryd.prog (.func (.func 20) #[] #[]) [v3] w5 (fun v4 w6 => next3 v3 v4 w6) noPanic) noPanic := by
        intro w' v1 v2 next3 m' own1 hf1 sl2 kk
        refine append_ sl22 own1 sl2 (by have := one [m]; simpa [rows] using this) (by omega) (by unfold maxLen; omega) ?_
        intro v3 w3 own3 m3 hf3 _
        rw [← er, ← erl] at own3
        have m33 : Mod none' w14 w3 := m'.trans m3 fun q hq h => by have := hf1 q h; omega
        refine refs_ own3.sl hgm (by omega) ?_
        intro v4 w4 own4 _ m4
        exact kk _ _ _ (m33.trans' m4) own4
      have st : ∀ w' : World, Mod none' w14 w' → (∀ i, i < 2 → (w'.cell? ⟨bm, i, none⟩).isSome = true) ∧ Value.agg (loadN w' ⟨bm, 0, none⟩ 2) = Value.agg (loadN w14 ⟨bm, 0, none⟩ 2) := fun w' m' => by
        have hb := blk14.mod m' fun h => h
        exact ⟨ok w' hb, by rw [lm w' hb, l14]⟩
      have st2 : ∀ w' w'' : World, Mod none' w14 w' → Mod none' w14 w'' → (∀ i, i < 2 → (w''.cell? ⟨bm, i, none⟩).isSome = true) ∧ Value.agg (loadN w'' ⟨bm, 0, none⟩ 2) = Value.agg (loadN w' ⟨bm, 0, none⟩ 2) := fun w' w'' h1 h2 =>
        ⟨(st w'' h2).1, by rw [(st w'' h2).2, (st w' h1).2]⟩
      have md : Mod none' w14 w14.drew := Mod.drew none' w14
      -- the empty slice and the fields
      have app0 : ∀ (w' : World) (b11 : Nat) (next3 : Value → World → Prop), Mod none' w14 w' → w14.heap.size ≤ b11 → HL.Own w' (.slice (some ⟨b11, 0, none⟩) 0 0) 37 2 0 [] →
          (∀ v3 w5, Mod none' w14 w5 → HL.Own w5 v3 37 2 fs.length (rows Fd.cells fs) → (∀ q, v3.ownBlock = some q → w14.heap.size ≤ q) → Mod (fun q => w14.heap.size ≤ q ∧ (q = b11 ∨ w'.heap.size ≤ q)) w' w5 → next3 v3 w5) →
          appK Tryd.prog #[22, 22] 22 (.slice (some ⟨b11, 0, none⟩) 0 0) (.slice va fs.length vc) w' next3 noPanic := by
        intro w' b11 next3 m' hb own0 kk
        refine append_ sl22 own0 (hv14.mod m' fun _ _ h => h) (one fs) (by omega) (by unfold maxLen; omega) ?_
        intro v3 w3 own3 m3 hf3 _
        rw [Nat.zero_add, List.nil_append] at own3
        have s1 := m'.size
        refine kk _ _ (m'.trans m3 fun q hq h => ?_) own3 (fun q hq => ?_) (m3.mono fun q hq h => ?_)
        · have h : some b11 = some q := h
          cases h; omega
        · rcases hf3 q hq with h | h
          · have h : some b11 = some q := h
            cases h; omega
          · omega
        · have h : some b11 = some q := h
          cases h; exact ⟨hb, .inl rfl⟩
      refine ⟨ok w14 blk14, ?_, ?_⟩
      · unfold t5_17
        try simp only [go_sem, t0, t3, t5, t12]
        refine bsl0 sl22 ?_
        intro b11 w15 hb11 own15 m15 hs15
        have m1415 := md.trans' m15
        have hb11' : w14.heap.size ≤ b11 := by have := md.size; omega
        refine ⟨by have := st w15 m1415; exact this, ?_, ?_⟩
        · unfold t5_18
          try simp only [go_sem, t0, t3, t5, t12]
          refine app0 w15 b11 _ m1415 hb11' own15 ?_
          intro v16 w16 m16 own16 hf16 _
          refine ⟨st2 w15 w16 m1415 m16, ?_⟩
          try simp only [go_sem, t0, t3, t5, t12]
          refine bslF1 (a := m) ?_
          intro q17 w17 hq17 own17 m17
          try simp only [go_sem, t0, t3, t5, t12]
          refine join w17 v16 _ _ (m16.trans' m17) (own16.mod m17 fun _ _ h => h) hf16 (by simpa [rows] using own17.sl) ?_
          intro v3 v4 w5 m5 own5
          try simp only [go_sem, t0, t3, t5, t12]
          exact end21 _ v4 _ m5 own5 t0 t5 t12 rfl
        · unfold t5_19
          try simp only [go_sem, t0, t3, t5, t12]
          refine bslF1 (a := m) ?_
          intro q16 w16 hq16 own16 m16
          have m1416 := m1415.trans' m16
          refine ⟨st2 w15 w16 m1415 m1416, ?_⟩
          try simp only [go_sem, t0, t3, t5, t12]
          refine app0 w16 b11 _ m1416 hb11' (own15.mod m16 fun _ _ h => h) ?_
          intro v17 w17 m17 own17 hf17 m1617
          refine ⟨st2 w16 w17 m1416 m17, ?_⟩
          try simp only [go_sem, t0, t3, t5, t12]
          have s15 := m1415.size
          refine join w17 v17 _ _ m17 own17 hf17 (by
            have := own16.sl.mod m1617 fun q hq h => by
              have hq : some q16 = some q := hq
              cases hq
              rcases h.2 with h | h
              · omega
              · have := (own16.lt q16 rfl); omega
            simpa [rows] using this) ?_
          intro v3 v4 w5 m5 own5
          try simp only [go_sem, t0, t3, t5, t12]
          exact end21 _ v4 _ m5 own5 t0 t5 t12 rfl
      · unfold t5_20
        try simp only [go_sem, t0, t3, t5, t12]
        refine bslF1 (a := m) ?_
        intro q15 w15 hq15 own15 m15
        have m1415 := md.trans' m15
        refine ⟨st2 w14 w15 (Mod.refl _ _) m1415, ?_⟩
        try simp only [go_sem, t0, t3, t5, t12]
        refine bsl0 sl22 ?_
        intro b11 w16 hb11 own16 m16 hs16
        have m1416 := m1415.trans' m16
        have hb11' : w14.heap.size ≤ b11 := by have := m1415.size; omega
        refine ⟨st2 w15 w16 m1415 m1416, ?_⟩
        try simp only [go_sem, t0, t3, t5, t12]
        refine app0 w16 b11 _ m1416 hb11' own16 ?_
        intro v17 w17 m17 own17 hf17 m1617
        refine ⟨st2 w16 w17 m1416 m17, ?_⟩
        try simp only [go_sem, t0, t3, t5, t12]
        have hql := own15.lt q15 rfl
        refine join w17 v17 _ _ m17 own17 hf17 (by
          have := (own15.sl.mod m16 fun _ _ h => h).mod m1617 fun q hq h => by
            have hq : some q15 = some q := hq
            cases hq
            rcases h.2 with h | h
            · omega
            · have := m16.size; omega
          simpa [rows] using this) ?_
        intro v3 v4 w5 m5 own5
        try simp only [go_sem, t0, t3, t5, t12]
        exact end21 _ v4 _ m5 own5 t0 t5 t12 rfl
    refine loopN Z.length (fun i τ w' => τ 0 = .slice va fs.length vc ∧ τ 3 = ptr bm ∧ τ 5 = .bool true ∧ τ 12 = .slice la L.length lc ∧ τ 14 = .slice za Z.length zc ∧ τ 15 = .int .i64 i ∧ Mod none' w13 w') ⟨0, by omega, t0, t3, t5, t12, rfl, rfl, Mod.refl _ _⟩ ?_
    clear t0 t3 t5 t12
    rintro i τ2 w14 hi ⟨t0, t3, t5, t12, t14, t15, m14⟩
    unfold h5_13
    try simp only [go_sem, t0, t3, t5, t12, t14, t15]
    refine ⟨fun hgo => ?_, fun _ => fin w14 _ m14 t0 t3 t5 t12⟩
    have hgo : i < Z.length ∧ L.length < 100 := by
      simp at hgo
      omega
    obtain ⟨g, c, e⟩ := own_form own13 (by omega)
    cases e
    have c14 := m14.cell (str_at0 own13.sl (i := i) hgo.1 hgo.1) fun h => h
    unfold h5_14
    try simp only [go_sem, t0, t3, t5, t12, t14, t15, c14]
    repeat refine ⟨⟨by omega, by omega⟩, ?_⟩
    refine in_ ((ownL.mod (m813.trans' m14) fun _ _ h => h).sl) (by omega) ?_
    rw [decide_eq_true (hLfew hgo.2 _ (hZm _ (List.getElem_mem hgo.1)))]
    try simp only [go_sem]
    unfold h5_15
    try simp only [go_sem, t0, t3, t5, t12, t14, t15]
    rw [w64 (by omega) (by omega)]
    exact ⟨i + 1, by omega, by omega, rfl, m14⟩
  have u1 : isB true undef = false := rfl
  have u2 : isB false undef = false := rfl
  have u3 : isB true (.bool false) = false := rfl
  by_cases hL0 : L = []
  · have hn := hLnil hL0
    have e0 : decide ((0 : Int) < (L.length : Int)) = false := by rw [hL0]; rfl
    unfold h5_11
    try simp only [go_sem, t0, t3, t5, t10, t11, t12, t13, e0]
    simp only [u1, u2, u3, Bool.false_eq_true, false_implies, if_false, true_and]
    exact rest _ _ (m9.trans' (Mod.drew none' w9)) t0 t3 t5 t10 t11 t12
  have hLp : 0 < L.length := List.length_pos_iff.2 hL0
  have e0 : decide ((0 : Int) < (L.length : Int)) = true := by simp; omega
  obtain ⟨g, c, e⟩ := own_form ownL hLp
  cases e
  have cL := m9.cell (str_at0 ownL.sl (i := L.length - 1) (by omega) (by omega)) fun h => h
  have eLm : IntKind.i64.wrap ((L.length : Int) - 1) = ((L.length - 1 : Nat) : Int) := by rw [w64 (by omega) (by omega)]; omega
  by_cases hA0 : A = []
  · have eA : decide ((0 : Int) < (A.length : Int)) = false := by rw [hA0]; rfl
    have eA' : decide ((A.length : Int) = 0) = true := by rw [hA0]; rfl
    have hlast := (hLlast hL0).2 hA0
    have hBp : 0 < B.length := by
      rcases Nat.eq_zero_or_pos B.length with h | h
      · rw [List.eq_nil_of_length_eq_zero h, List.getLast?_eq_some_getLast hL0] at hlast; cases hlast
      · exact h
    obtain ⟨gB, cB, eB⟩ := own_form ownB8 hBp
    cases eB
    have cBl := m9.cell (str_at0 ownB8.sl (i := B.length - 1) (by omega) (by omega)) fun h => h
    have eBm : (if IntKind.i64.wrap ((B.length : Int) - 1) < 0 then 0 else IntKind.i64.wrap ((B.length : Int) - 1)) = ((B.length - 1 : Nat) : Int) := by
      rw [w64 (by omega) (by omega), if_neg (by omega)]; omega
    have hse : L[L.length - 1] = B[B.length - 1] := by
      rw [List.getLast?_eq_getElem?, List.getLast?_eq_getElem?, List.getElem?_eq_getElem (by omega), List.getElem?_eq_getElem (by omega)] at hlast
      exact Option.some.inj hlast
    unfold h5_11
    try simp only [go_sem, t0, t3, t5, t10, t11, t12, t13, e0, eA, eA', eLm, eBm, cL, cBl]
    rw [hse, decide_eq_true rfl]
    repeat refine ⟨⟨by omega, by omega⟩, ?_⟩
    refine ⟨(fun h => by cases h), fun _ => ?_⟩
    exact rest _ _ (m9.trans' (Mod.drew none' w9)) t0 t3 t5 t10 t11 t12
  · have hAp : 0 < A.length := List.length_pos_iff.2 hA0
    have eA : decide ((0 : Int) < (A.length : Int)) = true := by simp; omega
    have eA' : decide ((A.length : Int) = 0) = false := by simp; exact hA0
    have hlast := (hLlast hL0).1 hA0
    obtain ⟨gB, cB, eB⟩ := own_form ownA8 hAp
    cases eB
    have cAl := m9.cell (str_at0 ownA8.sl (i := A.length - 1) (by omega) (by omega)) fun h => h
    have eAm : IntKind.i64.wrap ((A.length : Int) - 1) = ((A.length - 1 : Nat) : Int) := by rw [w64 (by omega) (by omega)]; omega
    have eAn : (if ((A.length - 1 : Nat) : Int) < 0 then 0 else ((A.length - 1 : Nat) : Int)) = ((A.length - 1 : Nat) : Int) := by rw [if_neg (by omega)]
    have hse : L[L.length - 1] = A[A.length - 1] := by
      rw [List.getLast?_eq_getElem?, List.getLast?_eq_getElem?, List.getElem?_eq_getElem (by omega), List.getElem?_eq_getElem (by omega)] at hlast
      exact Option.some.inj hlast
    unfold h5_11
    try simp only [go_sem, t0, t3, t5, t10, t11, t12, t13, e0, eA, eA', eLm, eAm, eAn, cL, cAl]
    rw [hse, decide_eq_true rfl]
    simp only [u1, u2, u3, Bool.false_eq_true, false_implies, if_false, true_and, Bool.not_true, Bool.not_false, if_true, forall_const]
    repeat refine ⟨⟨by omega, by omega⟩, ?_⟩
    exact rest _ _ (m9.trans' (Mod.drew none' w9)) t0 t3 t5 t10 t11 t12
end
end Go.Proofs.Y
