/- MP: msgid: fields that came in with a call; the constants that were laid. -/
import Derived.Test.YtoeccapckhnlbaaDoorML
import Derived.Deep.Slices
import Derived.LaidMore
import Derived.MakeChecks
import Derived.FnData
import Derived.OpenShut
import Derived.Test.YtoeccapckhnlbaaDoorRows
set_option linter.unusedSimpArgs false
set_option linter.unusedVariables false
set_option maxRecDepth 100000
namespace Go.Proofs.Y
open Go Go.HL Go.Proofs Go.ChangeShapes Go.WideShapes Go.Deep

theorem str_of (a : ByteArray) : Value.string a = str a.data.toList := rfl
theorem list_of {α : Type} {R : Nat → α → Prop} : ∀ (n : Nat), (∀ i, i < n → ∃ a, R i a) → ∃ l : List α, l.length = n ∧ ∀ i (h : i < l.length), R i l[i]
  | 0, _ => ⟨[], rfl, fun i h => by simp at h⟩
  | n + 1, h => by
    obtain ⟨l, hl, hR⟩ := list_of n fun i hi => h i (by omega)
    obtain ⟨a, ha⟩ := h n (by omega)
    refine ⟨l ++ [a], by simp [hl], fun i hi => ?_⟩
    by_cases hin : i < l.length
    · rw [List.getElem_append_left hin]; exact hR i hin
    · have : i = n := by simp at hi; omega
      subst this
      rw [List.getElem_append_right (by omega)]
      simpa [hl] using ha
/-- a contract out of a rule -/
theorem calls_of_rule {f : FuncId} {args : List Value} {w : World} (h : ∀ next : Value → World → Prop, (∀ w', Mod none' w w' → next (.bool true) w') → callK Tryd.prog f args w next noPanic) :
    Calls Tryd.prog f args.toArray w fun e w' => e = .returned (.bool true) ∧ RowKit.Below w.heap.size w w' := by
  refine Calls.mono (h (fun v w' => v = .bool true ∧ RowKit.Below w.heap.size w w') fun w' m => ⟨rfl, m.below (Nat.le_refl _) fun _ _ h => h⟩) fun e w' he => ?_
  cases e with
  | returned v => exact ⟨by rw [he.1], he.2⟩
  | panicked c => exact he.elim
  | outgrown => exact he.elim

noncomputable def fs37 : Array Field := match Tryd.prog.underlying 37 with | some (.struct fs) => fs | _ => #[]
theorem u37 : Tryd.prog.underlying 37 = some (.struct fs37) := by kernel_rfl
theorem fs37_size : fs37.size = 2 := by kernel_rfl
theorem cells37 : Tryd.prog.cellsOf 37 = 2 := by kernel_rfl
theorem cells9 : Tryd.prog.cellsOf 9 = 1 := by kernel_rfl
theorem fld37 (i o t : Nat) (h : (fs37[i]?).map (fun f => (f.offset, f.type)) = some (o, t)) : ∃ f, fs37[i]? = some f ∧ f.offset = o ∧ f.type = t := by
  obtain ⟨f, hf, he⟩ := Option.map_eq_some_iff.1 h
  simp only [Prod.mk.injEq] at he
  exact ⟨f, hf, he.1, he.2⟩

section
variable {H : Type} {enc : TypeId × Value → H} {w : World}

theorem field_in {fuel : Nat} {cs : List Value} {x : DataW H × List MemPlace} (h : DataW.trod enc Tryd.prog w 0 (fun _ => true) true fuel 37 cs = some x) :
    ∃ a : Fd, cs = a.cells := by
  obtain ⟨xs, n, rfl, rfl, hlen, hxl, hf⟩ := DataW.trod_struct u37 h
  rw [cells37] at hlen
  rw [fs37_size] at hxl
  match cs, hlen with
  | [c0, c1], _ =>
  match xs, hxl with
  | [y0, y1], _ =>
  obtain ⟨f0, g0, o0, e0⟩ := fld37 0 0 9 (by kernel_rfl)
  obtain ⟨f1, g1, o1, e1⟩ := fld37 1 1 9 (by kernel_rfl)
  have h0 := hf 0 f0 g0
  have h1 := hf 1 f1 g1
  rw [o0, e0, cells9] at h0
  rw [o1, e1, cells9] at h1
  obtain ⟨s0, k0, rfl, w0⟩ := DataW.trod_string (x := y0) Tryd.underlying9 h0
  obtain ⟨s1, k1, rfl, w1⟩ := DataW.trod_string (x := y1) Tryd.underlying9 h1
  simp at k0 k1
  subst k0 k1
  exact ⟨⟨s0.data.toList, s1.data.toList⟩, rfl⟩

theorem fields_in {v : Value} {d : DataW H} {ps : List MemPlace} (hv : ∃ a len cap, v = .slice a len cap) (h : DataW.Trod enc Tryd.prog w 0 (fun _ => true) true 22 v d ps) :
    ∃ al : List Fd, Sl w v 2 al.length (rows Fd.cells al) ∧ al.length ≤ 9223372036854775807 := by
  obtain ⟨a, len, cap, rfl⟩ := hv
  obtain ⟨fuel, hf⟩ := h
  rcases open_slice Tryd.underlying22 hf with ⟨hcs, -⟩ | ⟨x, l, c, m, n, D, Pl, hcs, -, hl, hmx, hm, hx, hall⟩
  · simp [Value.cells] at hcs
    obtain ⟨rfl, rfl, rfl⟩ := hcs
    exact ⟨[], (Own.nil w 0 2).sl, by simp⟩
  · simp [Value.cells] at hcs
    obtain ⟨rfl, rfl, rfl⟩ := hcs
    have hm : m = cap := by simpa using hm
    subst hm
    simp only [cells37] at hall
    obtain ⟨al, hal, hR⟩ := list_of (R := fun i (a : Fd) => (∀ j, j < 2 → w.cell? ((x.add (i * 2)).add j) = a.cells[j]?)) len fun i hi => by
      obtain ⟨cs', h1, h2⟩ := hall i (by omega)
      obtain ⟨a, rfl⟩ := field_in h2
      obtain ⟨-, -, hc⟩ := World.cells?_some h1
      exact ⟨a, hc⟩
    refine ⟨al, ?_, by unfold maxLen at hmx; omega⟩
    subst hal
    refine ⟨rows_len Fd.cells_len al, some x, m, rfl, hl, fun h0 => ?_⟩
    have hs : x.spot = none := by
      have := (hR 0 h0) 0 (by omega)
      have e : (x.add (0 * 2)).add 0 = x := rfl
      rw [e] at this
      exact World.cell?_spot this
    obtain ⟨b, o, s⟩ := x
    simp only at hs
    subst hs
    refine ⟨b, o, rfl, fun j hj => ?_⟩
    have hj6 : j / 2 < al.length := by omega
    have := (hR (j / 2) hj6) (j % 2) (Nat.mod_lt _ (by omega))
    rw [e_add, e_add] at this
    rw [show o + j = o + j / 2 * 2 + j % 2 by omega, this, ← rows_get Fd.cells_len al (j / 2) (j % 2) hj6 (Nat.mod_lt _ (by omega))]
    congr 1; omega
end

/-! ### the constants -/
theorem gK : Tryd.prog.globalNamed "missive/digest.constants" = some 0 := by kernel_rfl
theorem tK : (Tryd.prog.globals[0]?).map (·.type) = some 93 := by kernel_rfl
theorem u93 : Tryd.prog.underlying 93 = some (.array 64 60) := by kernel_rfl
theorem u60 : Tryd.prog.underlying 60 = some (.int .u32) := by kernel_rfl
theorem cells60 : Tryd.prog.cellsOf 60 = 1 := by kernel_rfl
theorem laidK {H : Type} : (YtoeccapckhnlbaaDoor.Rows.laid_missive_digest_constants : DataW H) = .agg (K0.map fun x => .lit (.int .u32 x)) := rfl
theorem kd_of {W : World} (h : laidMetH Tryd.prog [("missive/digest.constants", YtoeccapckhnlbaaDoor.Rows.laid_missive_digest_constants)] W) : Kd W K0 := by
  rw [MakeChecks.laidMetH_plain _ _ _ (by kernel_rfl)] at h
  obtain ⟨ps, ⟨g0, t0, cs0, f0, p0, q0, hg0, ht0, hv0, hd0, -⟩, -⟩ := h
  obtain rfl := Option.some.inj (gK.symm.trans hg0)
  obtain rfl := Option.some.inj (tK.symm.trans ht0)
  obtain ⟨xs, m1, rfl, hx1, hlen, hn, hel⟩ := DataW.trod_array u93 hd0
  rw [laidK] at hx1
  simp only [Prod.mk.injEq, DataW.agg.injEq] at hx1
  intro i hi
  have h1 := hel i hi
  rw [cells60] at h1
  obtain ⟨y, hy⟩ : ∃ y, xs[i]? = some y := ⟨xs[i]'(by omega), by simp⟩
  rw [hy] at h1
  obtain ⟨n, e1, e2, -⟩ := DataW.trod_int u60 h1
  have hcell := World.var?_cell hg0 hv0 i
  have ecs : cs0[i]? = some (.int .u32 n) := by
    have := congrArg (fun l => l[0]?) e1
    simp only [Nat.mul_one] at this
    rw [List.getElem?_take_of_lt (by omega), List.getElem?_drop] at this
    simpa using this
  rw [hcell, ecs]
  have := congrArg (fun l => l[i]?) hx1.1
  simp only [List.getElem?_map, hy, Option.map_some] at this
  rw [e2] at this
  have hKl : i < K0.length := by rw [show K0.length = 64 from rfl]; exact hi
  rw [List.getElem?_eq_getElem hKl] at this
  simp only [Option.map_some, Option.some.injEq, DataW.lit.injEq, Lit.int.injEq, true_and] at this
  rw [List.getD_eq_getElem?_getD, List.getElem?_eq_getElem hKl]
  simp [this]
end Go.Proofs.Y

/- MQ: msgid: MsgidIds. -/
namespace Go.Proofs.Y
open Go Go.HL Go.Proofs

/-! ### plain -/
def joinS : List Bytes → List Bytes → Bytes
  | x :: xs, y :: ys => y ++ [60] ++ x ++ [62] ++ joinS xs ys
  | _, _ => []
theorem joinS_snoc : ∀ (xs ys : List Bytes) (x y : Bytes), xs.length = ys.length → joinS (xs ++ [x]) (ys ++ [y]) = joinS xs ys ++ y ++ [60] ++ x ++ [62]
  | [], [], x, y, _ => by simp [joinS]
  | a :: xs, b :: ys, x, y, h => by
    have := joinS_snoc xs ys x y (by simpa using h)
    simp only [List.cons_append, joinS, this, List.append_assoc]
  | [], _ :: _, _, _, h => by simp at h
  | _ :: _, [], _, _, h => by simp at h
theorem validB_ang {t : Bytes} (h : validB t = true) : ∀ c ∈ t, ang c = false := by
  intro c hc
  unfold validB at h
  simp only [Bool.and_eq_true, decide_eq_true_eq] at h
  have := List.all_eq_true.1 h.2 c hc
  unfold okB at this
  simp only [Bool.and_eq_true, decide_eq_true_eq] at this
  unfold ang
  simp [this.1.2, this.2]
theorem validB_len {t : Bytes} (h : validB t = true) : t.length ≤ 250 := by
  unfold validB at h
  simp only [Bool.and_eq_true, decide_eq_true_eq] at h
  exact h.1.1.1.1.2
theorem idsB_piece {t y : Bytes} (hv : validB t = true) (hy : ∀ c ∈ y, ang c = false) (rest : Bytes) : idsB (y ++ [60] ++ t ++ [62] ++ rest) = t :: idsB rest := by
  unfold idsB
  have e : y ++ [60] ++ t ++ [62] ++ rest = y ++ 60 :: (t ++ 62 :: rest) := by simp
  have h60 : (60 : UInt8) ∉ y := fun h => by have := hy _ h; revert this; decide
  rw [e, idsA_open _ _ h60, (idsA_run t _ [] (validB_ang hv)).1, List.nil_append, idsA_s, if_neg (by decide), if_pos rfl, if_pos hv]
  rfl
theorem idsB_joinS : ∀ (xs ys : List Bytes), (∀ x ∈ xs, validB x = true) → (∀ y ∈ ys, ∀ c ∈ y, ang c = false) → xs.length = ys.length → idsB (joinS xs ys) = xs
  | [], [], _, _, _ => rfl
  | x :: xs, y :: ys, hx, hy, h => by
    rw [joinS, idsB_piece (hx x (by simp)) (hy y (by simp)), idsB_joinS xs ys (fun z hz => hx z (by simp [hz])) (fun z hz => hy z (by simp [hz])) (by simpa using h)]
  | [], _ :: _, _, _, h => by simp at h
  | _ :: _, [], _, _, h => by simp at h
theorem idsA_valid : ∀ (s : Bytes) (o : Option Bytes), ∀ x ∈ idsA o s, validB x = true
  | [], o, x, h => by cases o <;> simp [idsA] at h
  | c :: s, none, x, h => by
    rw [idsA_n] at h
    split at h
    · exact idsA_valid s _ x h
    · exact idsA_valid s _ x h
  | c :: s, some t, x, h => by
    rw [idsA_s] at h
    split at h
    · exact idsA_valid s _ x h
    · split at h
      · rcases List.mem_append.1 h with h | h
        · split at h
          · rename_i hv; rw [List.mem_singleton.1 h]; exact hv
          · cases h
        · exact idsA_valid s _ x h
      · exact idsA_valid s _ x h

section
variable {w : World} {next : Value → World → Prop} {QP : List PanicEntry → World → Prop}
theorem idslaw_ {s : Bytes} {va vb : Value} {A B : List Bytes} (hK : Kd w K0) (hva : Sl w va 1 A.length (A.map str)) (hvb : Sl w vb 1 B.length (B.map str)) (k : ∀ w', Mod none' w w' → next (.bool true) w') : callK Tryd.prog 4 [va, vb, str s] w next QP := by
  refine q4 rfl ?_
  obtain ⟨aa, ac, rfl, -, hca⟩ := hva.form
  obtain ⟨ba, bc, rfl, -, hcb⟩ := hvb.form
  unfold h4
  try simp only [go_sem]
  refine small_ hK ?_
  intro w1 m1
  try simp only [go_sem]
  refine ⟨fun _ => k _ m1, fun hh => ?_⟩
  have hh : (A.length ≤ 30 ∧ A.length ≤ B.length) ∧ s.length ≤ 1000 := by
    simp at hh
    omega
  obtain ⟨⟨hA, hAB⟩, hs⟩ := hh
  unfold h4_1
  try simp only [go_sem]
  refine loopN A.length (fun i τ w' => τ 0 = .slice aa A.length ac ∧ τ 1 = .slice ba B.length bc ∧ τ 2 = str s ∧ τ 7 = .bool true ∧ τ 8 = str (joinS (A.take i) (B.take i)) ∧ τ 9 = .int .i64 i ∧ (∀ x ∈ A.take i, validB x = true) ∧ (∀ y ∈ B.take i, y.length ≤ 100 ∧ ∀ c ∈ y, ang c = false) ∧ (joinS (A.take i) (B.take i)).length ≤ i * 352 ∧ Mod none' w w') ⟨0, by omega, rfl, rfl, rfl, rfl, rfl, rfl, by simp, by simp, by simp [joinS], m1⟩ ?_
  rintro i τ w2 hi ⟨t0, t1, t2, t7, t8, t9, hx, hy, hjl, m2⟩
  unfold h4_2
  try simp only [go_sem, t0, t1, t2, t7, t8, t9]
  refine ⟨fun hlt => ?_, fun hge => ?_⟩
  · have hil : i < A.length := by
      have : (i : Int) < A.length := by simpa using hlt
      omega
    have hiB : i < B.length := by omega
    obtain ⟨ag, ao, rfl, hcA⟩ := hca (by omega)
    obtain ⟨bg, bo, rfl, hcB⟩ := hcb (by omega)
    have ca := hcA i (by omega)
    have cb := hcB i (by omega)
    rw [List.getElem?_map, List.getElem?_eq_getElem hil] at ca
    rw [List.getElem?_map, List.getElem?_eq_getElem hiB] at cb
    have ca2 := m2.cell ca fun h => h
    unfold h4_3
    try simp only [go_sem, t0, t1, t2, t7, t8, t9, ca2]
    repeat refine ⟨⟨by omega, by omega⟩, ?_⟩
    refine valid_ A[i] ?_
    intro w3 m3
    have cb3 := (m2.trans' m3).cell cb fun h => h
    try simp only [go_sem, t0, t1, t2, t7, t8, t9, cb3]
    refine ⟨fun _ => ⟨by omega, by omega⟩, fun _ => k _ (m2.trans' m3), fun hh => ?_⟩
    have hv : validB A[i] = true ∧ B[i].length ≤ 100 := by
      simp at hh
      exact ⟨hh.1, by omega⟩
    unfold h4_4
    try simp only [go_sem, t0, t1, t2, t7, t8, t9]
    refine loopN B[i].length (fun q τ w' => τ 0 = .slice (some ⟨ag, ao, none⟩) A.length ac ∧ τ 1 = .slice (some ⟨bg, bo, none⟩) B.length bc ∧ τ 2 = str s ∧ τ 7 = .bool true ∧ τ 8 = str (joinS (A.take i) (B.take i)) ∧ τ 9 = .int .i64 i ∧ τ 10 = .int .i64 q ∧ (∀ c ∈ B[i].take q, ang c = false) ∧ Mod none' w w') ⟨0, by omega, t0, t1, t2, t7, t8, t9, rfl, by simp, m2.trans' m3⟩ ?_
    clear t0 t1 t2 t7 t8 t9
    rintro q τ w4 hq ⟨t0, t1, t2, t7, t8, t9, t10, hang, m4⟩
    have cb4 := m4.cell cb fun h => h
    have ca4 := m4.cell ca fun h => h
    unfold h4_5
    try simp only [go_sem, t0, t1, t2, t7, t8, t9, t10, cb4]
    repeat refine ⟨⟨by omega, by omega⟩, ?_⟩
    refine ⟨fun hlt => ?_, fun hge => ?_⟩
    · have hql : q < B[i].length := by
        have : (q : Int) < B[i].length := by simpa using hlt
        omega
      unfold h4_6
      try simp only [go_sem, t0, t1, t2, t7, t8, t9, t10, cb4]
      have hbq : B[i][q]?.getD 0 = B[i][q] := by simp [hql]
      rw [hbq]
      refine ⟨⟨by omega, by omega⟩, ⟨by omega, by omega⟩, fun _ => ⟨by omega, by omega⟩, fun _ => ⟨by omega, by omega⟩, fun _ => k _ m4, fun hh => ?_⟩
      have hq6 : ¬ ((B[i][q].toNat : Int) = 60) ∧ ¬ ((B[i][q].toNat : Int) = 62) := by
        simp at hh
        omega
      have hangq : ang B[i][q] = false := by
        unfold ang
        have e1 : B[i][q] ≠ 60 := fun e => hq6.1 (by rw [e]; rfl)
        have e2 : B[i][q] ≠ 62 := fun e => hq6.2 (by rw [e]; rfl)
        simp [e1, e2]
      unfold h4_7
      try simp only [go_sem, t0, t1, t2, t7, t8, t9, t10]
      rw [w64 (by omega) (by omega)]
      refine ⟨q + 1, by omega, by omega, rfl, ?_, m4⟩
      rw [List.take_succ_eq_append_getElem hql]
      intro c hc
      rcases List.mem_append.1 hc with h | h
      · exact hang c h
      · rw [List.mem_singleton.1 h]; exact hangq
    · have hqe : q = B[i].length := by
        have : ¬ (q : Int) < B[i].length := by simpa using hge
        omega
      subst hqe
      rw [List.take_length] at hang
      have hAl := validB_len hv.1
      have hsn : joinS (A.take (i + 1)) (B.take (i + 1)) = joinS (A.take i) (B.take i) ++ B[i] ++ [60] ++ A[i] ++ [62] := by
        rw [List.take_succ_eq_append_getElem hil, List.take_succ_eq_append_getElem hiB, joinS_snoc _ _ _ _ (by rw [List.length_take, List.length_take]; omega)]
      have cb5 : w4.drew.cell? ⟨bg, bo + i, none⟩ = some (str B[i]) := cb4
      have ca5 : w4.drew.cell? ⟨ag, ao + i, none⟩ = some (str A[i]) := ca4
      unfold h4_8
      try simp only [go_sem, t0, t1, t2, t7, t8, t9, t10, cb4, ca4]
      have e1 : (joinS (A.take i) (B.take i) ++ B[i]).length = (joinS (A.take i) (B.take i)).length + B[i].length := List.length_append
      have e2 : (joinS (A.take i) (B.take i) ++ B[i] ++ [60]).length = (joinS (A.take i) (B.take i)).length + B[i].length + 1 := by rw [List.length_append, e1]; rfl
      have e3 : (joinS (A.take i) (B.take i) ++ B[i] ++ [60] ++ A[i]).length = (joinS (A.take i) (B.take i)).length + B[i].length + 1 + A[i].length := by rw [List.length_append, e2]
      rw [e1, e2, e3]
      refine ⟨⟨by omega, by omega⟩, by omega, by omega, ⟨by omega, by omega⟩, by omega, by omega, ?_⟩
      unfold h4_9
      try simp only [go_sem, t0, t1, t2, t7, t8, t9, t10]
      rw [w64 (by omega) (by omega)]
      refine ⟨i + 1, by omega, by omega, ?_, rfl, ?_, ?_, ?_, m4.trans' (Mod.drew none' w4)⟩
      · rw [hsn]
      · rw [List.take_succ_eq_append_getElem hil]
        intro x hx'
        rcases List.mem_append.1 hx' with h | h
        · exact hx x h
        · rw [List.mem_singleton.1 h]; exact hv.1
      · rw [List.take_succ_eq_append_getElem hiB]
        intro y hy'
        rcases List.mem_append.1 hy' with h | h
        · exact hy y h
        · rw [List.mem_singleton.1 h]; exact ⟨hv.2, hang⟩
      · rw [hsn, List.length_append, e3, List.length_singleton]; omega
  · have hie : i = A.length := by
      have : ¬ (i : Int) < A.length := by simpa using hge
      omega
    subst hie
    rw [List.take_length] at hx
    have hjoin := idsB_joinS (A.take A.length) (B.take A.length) (by rw [List.take_length]; exact hx) (fun y h => (hy y h).2) (by rw [List.length_take, List.length_take]; omega)
    rw [List.take_length] at hjoin t8 hjl
    obtain ⟨J, hJ⟩ : ∃ J, joinS A (B.take A.length) = J := ⟨_, rfl⟩
    rw [hJ] at hjoin t8 hjl
    unfold h4_10
    try simp only [go_sem, t0, t1, t2, t7, t8, t9]
    refine ids_ s (by omega) ?_
    intro v3 w3 own3 _ m3
    obtain ⟨ca, cc, rfl, -, hc3⟩ := own3.sl.form
    try simp only [go_sem]
    refine loopN (idsB s).length (fun q τ w' => τ 0 = .slice aa A.length ac ∧ τ 7 = .bool true ∧ τ 8 = str J ∧ τ 11 = .slice ca (idsB s).length cc ∧ τ 12 = .int .i64 q ∧ Mod none' w3 w') ⟨0, by omega, t0, t7, t8, rfl, rfl, Mod.refl _ _⟩ ?_
    clear t0 t1 t2 t7 t8 t9
    rintro q τ w4 hq ⟨t0, t7, t8, t11, t12, m4⟩
    unfold h4_11
    try simp only [go_sem, t0, t7, t8, t11, t12]
    have m24 := (m2.trans' m3).trans' m4
    refine ⟨fun hlt => ?_, fun hge => ?_⟩
    · have hql : q < (idsB s).length := by
        have : (q : Int) < (idsB s).length := by simpa using hlt
        omega
      obtain ⟨bg, bo, hca', hc5⟩ := hc3 (by omega)
      subst hca'
      have c4 := hc5 q (by omega)
      rw [List.getElem?_map, List.getElem?_eq_getElem hql] at c4
      have c4 := m4.cell c4 fun h => h
      unfold h4_12
      try simp only [go_sem, t0, t7, t8, t11, t12, c4]
      repeat refine ⟨⟨by omega, by omega⟩, ?_⟩
      refine valid_ _ ?_
      intro w5 m5
      rw [idsA_valid s none _ (List.getElem_mem hql)]
      try simp only [go_sem]
      unfold h4_13
      try simp only [go_sem, t0, t7, t8, t11, t12]
      have := idsB_len s
      rw [w64 (by omega) (by omega)]
      exact ⟨q + 1, by omega, by omega, rfl, m4.trans' m5⟩
    · unfold h4_14
      try simp only [go_sem, t0, t7, t8, t11, t12]
      refine first_ J (by omega) ?_
      intro w5 m5
      unfold firstB
      rw [hjoin]
      try simp only [go_sem]
      refine ids_ J (by omega) ?_
      intro v6 w6 own6 _ m6
      rw [hjoin] at own6
      unfold l4_16
      try simp only [go_sem, t0, t7]
      have hva6 := hva.mod ((m24.trans' m5).trans' m6) fun _ _ h => h
      refine texts_ own6.sl hva6 (by omega) ?_
      intro w7 m7
      unfold l4_15
      have m7' := ((m24.trans' m5).trans' m6).trans' m7
      try simp only [go_sem, t0, t7, decide_true]
      cases A with
      | nil =>
        have f : (if ((none : Option Bytes).isSome == false) = true then Value.bool !(none : Option Bytes).isSome else undef) = .bool true := rfl
        try simp only [go_sem, List.head?_nil, List.length_nil]
        exact ⟨(fun h => by cases h), (fun h => by cases h), (fun h => by cases h), k _ m7'⟩
      | cons x A =>
        obtain ⟨bg, bo, rfl, hcA⟩ := hca (by simp)
        have c0 := hcA 0 (by simp)
        have c0 : w.cell? ⟨bg, bo, none⟩ = some (str x) := c0
        have c7 := m7'.cell c0 fun h => h
        have e : decide ((0 : Int) < ((A.length + 1 : Nat) : Int)) = true := by simp
        try simp only [go_sem, List.head?_cons, c7, decide_true, List.length_cons]
        rw [e]
        try simp only [go_sem, decide_true]
        exact ⟨fun _ => by omega, k _ m7'⟩
end
end Go.Proofs.Y
