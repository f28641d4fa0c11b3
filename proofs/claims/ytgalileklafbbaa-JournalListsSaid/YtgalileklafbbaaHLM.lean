/- HLM: more effects: a function outside the program that gives back what it got; append of a string; guards. -/
import Derived.Test.YtgalileklafbbaaHLK
import Derived.Lib.AppendStr
import Derived.Lib.UnsafeStr
set_option linter.unusedSimpArgs false
set_option linter.unusedVariables false
set_option maxRecDepth 100000
namespace Go.HL
open Go

section
variable {P : Program} {w : World} {next : Value → World → Prop} {QP : List PanicEntry → World → Prop}

theorem Mod.of_grown {w w' : World} {v : Value} (h : w.grownBy w' v.ownBlock) : Mod (ownS v) w w' :=
  ⟨h.os, h.tape, h.output, h.size, fun k hk hn => h.block k hk fun e => hn e.symm⟩

theorem strCells_bys (l : List UInt8) : Lib.strCells ⟨l.toArray⟩ = bys l := by
  simp [Lib.strCells, bys]

/-- append of a string to bytes of one's own -/
theorem appS_ {t u e : TypeId} {ty : TypeId} (ht : SlTy P t e 1 1 (.int .u8 0)) (hu : P.underlying u = some .string) {v : Value} {n : Nat} {xs : List Value} {l : List UInt8} (ho : Own w v e 1 n xs) (hm : n + l.length ≤ 140737488355328)
    (k : ∀ v' w', Own w' v' e 1 (n + l.length) (xs ++ bys l) → Mod (ownS v) w w' → (∀ k, v'.ownBlock = some k → v.ownBlock = some k ∨ w.heap.size ≤ k) → next v' w') :
    appK P #[t, u] ty v (str l) w next QP := by
  obtain ⟨i, hi, hz, hs, hby⟩ := ht.parts
  have hsz : (ByteArray.mk l.toArray).size = l.length := by simp [ByteArray.size]
  obtain ⟨hxl, hform⟩ := ho
  have hl2 : (xs ++ bys l).length = (n + l.length) * 1 := by rw [List.length_append, hxl, bys_len]; omega
  rcases hform with ⟨rfl, hn⟩ | ⟨g, cap, cur, fz, rfl, hfz, hg, hnc, hcm, hcs, htake⟩
  · subst hn
    obtain ⟨v', w', h1, h2, h3, h4⟩ := Lib.run_append_own_string (P := P) w w.heap.size t u ty e i ht.und hu hi hz hs hby (.slice none 0 0) 0 xs ⟨hxl, .inl ⟨rfl, rfl⟩⟩ ⟨l.toArray⟩ (by rw [hsz]; unfold maxLen; omega) (by rw [hsz]; exact hm) (Nat.le_refl _)
    rw [hsz, strCells_bys] at h2
    obtain ⟨h5, h6⟩ := h2
    refine eff_value h1 (k v' w' ⟨h5, ?_⟩ (.of_grown h3) fun b hb => .inr ?_)
    · rcases h6 with h6 | ⟨g, cap, cur, h7, -, h8, h9⟩
      · exact .inl h6
      · exact .inr ⟨g, cap, cur, _, h7, .inl rfl, h8, h9⟩
    · rcases h6 with ⟨rfl, -⟩ | ⟨g, cap, cur, rfl, h7, -⟩
      · cases hb
      · simp only [Value.ownBlock, Option.some.injEq] at hb; omega
  · have hcs' : cur.size = cap := by omega
    by_cases hroom : n + l.length ≤ cap
    · have hf := Lib.run_firstCells_string (P := P) w 1 ⟨l.toArray⟩
      have hst := storeCells_h P g n e fz (bys l) 0 cur w hg hfz (by rw [bys_len]; omega) (bys_one l)
      simp only [Nat.add_zero] at hst
      rw [strCells_bys, hsz] at hf
      have hr : (Builtin.append_ #[t, u] ty #[.slice (some ⟨g, 0, none⟩) n cap, str l]).run P w = .ok (.slice (some ⟨g, 0, none⟩) (n + l.length) cap) (w.setRow g (cur.toList.take n ++ bys l ++ cur.toList.drop (n + (bys l).length)).toArray) := by
        simp [Builtin.append_, run_und ht.und, run_und hu, sizeOf, typeInfo, hi, hs, str, Builtin.lenOf, hsz, hroom, hf, Addr.add_lit, hst]
      have hsize : ((cur.toList.take n ++ bys l ++ cur.toList.drop (n + (bys l).length)).toArray).size = cur.size := by
        simp only [List.size_toArray, List.length_append, List.length_take, List.length_drop, Array.length_toList, bys_len]; omega
      refine eff_value hr (k _ _ ⟨hl2, .inr ⟨g, cap, _, fz, rfl, by rw [hsize]; exact hfz, setRow_heap w g cur _ e _ hg, hroom, hcm, by rw [hsize]; omega, ?_⟩⟩ ?_ (fun k hk => .inl hk))
      · have e1 : cur.toList.take n = xs := by simpa using htake
        simp only [e1, Nat.mul_one]
        rw [show n + l.length = (xs ++ bys l).length by rw [hl2]; omega]
        exact List.take_left
      · exact ⟨rfl, rfl, rfl, by simp, fun k _ hk => setRow_other w g k _ (fun e => hk (by simp [ownS, Value.ownBlock, e]))⟩
    · have hr := Lib.run_append_grow_string (P := P) w t u ty e i (.int .u8 0) ht.und hu hi hz ⟨g, 0, none⟩ n cap xs (by rw [hs]; exact hxl) (holds_of hg hxl htake) ⟨l.toArray⟩ (by rw [hsz]; omega) (by rw [hsz]; omega) (growslice_fits (by rw [hsz]; omega) (by rw [hsz, hby]; omega))
      rw [hsz, strCells_bys] at hr
      have hge := grownCap_ge w (n + l.length) cap e
      have hcm2 := grownCap_le_maxLen w (n + l.length) cap e (by unfold maxLen; omega)
      have hz1 : (Value.int IntKind.u8 0).cells.size = 1 := rfl
      refine eff_value hr (k _ _ ⟨hl2, .inr ⟨w.heap.size, _, _, _, rfl, .inl rfl, heap_alloc_new w.drew _, hge, hcm2, ?_, ?_⟩⟩ ?_ (fun k hk => .inr (by simp [Value.ownBlock] at hk; omega)))
      · simp only [Array.size_append, List.size_toArray, size_zeroCells, hz1, hxl, bys_len]; omega
      · simp only [Array.toList_append, List.append_assoc]
        rw [← List.append_assoc, ← hl2]
        exact List.take_left
      · exact ⟨rfl, rfl, rfl, by simp, fun k hk _ => RowKit.Below.heap_alloc w.drew _ k hk⟩

theorem heap_alloc_newF (w : World) (o : Obj) : (w.alloc o).heap[w.heap.size]? = some o := by unfold World.alloc; simp

/-- []byte(s) -/
theorem s2b {s d e : TypeId} (hs : P.underlying s = some .string) (hd : P.underlying d = some (.slice e)) (he : P.underlying e = some (.int .u8)) {l : List UInt8} (hm : l.length ≤ maxLen)
    (k : ∀ b c w', w.heap.size = b → Own w' (.slice (some ⟨b, 0, none⟩) l.length c) e 1 l.length (bys l) → Mod none' w w' → w'.heap.size = b + 1 → next (.slice (some ⟨b, 0, none⟩) l.length c) w') :
    convK P s d (str l) w next QP := by
  have hsz : (ByteArray.mk l.toArray).size = l.length := by simp [ByteArray.size]
  have hr := run_bytes_of_string (P := P) w s d e ⟨l.toArray⟩ hs hd he
  rw [hsz] at hr
  have hge := grownCap_ge w l.length 0 e
  have hcm := grownCap_le_maxLen w l.length 0 e hm
  have hrow : (bytesRow ⟨l.toArray⟩ (grownCap w l.length 0 e)).toList = bys l ++ List.replicate (grownCap w l.length 0 e - l.length) (.int .u8 0) := by
    simp [bytesRow, bys, hsz]
  have hrl : (bytesRow ⟨l.toArray⟩ (grownCap w l.length 0 e)).size = grownCap w l.length 0 e := by
    rw [← Array.length_toList, hrow]; simp [bys_len]; omega
  refine eff_value hr (k _ _ _ rfl ⟨by rw [bys_len]; omega, .inr ⟨w.heap.size, _, _, _, rfl, .inr rfl, heap_alloc_newF w.drew _, hge, hcm, by rw [hrl]; omega, ?_⟩⟩ ⟨rfl, rfl, rfl, by simp, fun k hk _ => RowKit.Below.heap_alloc w.drew _ k hk⟩ (by simp))
  rw [hrow, Nat.mul_one, show l.length = (bys l).length by rw [bys_len]]
  exact List.take_left

theorem Blk.shape {w : World} {b t : Nat} {cs : List Value} (h : Blk w b t cs) : w.shape? b = Option.some (t, cs.length) := by
  obtain ⟨fz, h, -⟩ := h
  simp [World.shape?, h]

/-- unsafe.Pointer(p) -/
theorem conv_up {s d t : TypeId} (hs : P.underlying s = some (.pointer t)) (hd : P.underlying d = some .unsafePointer) (hsz : (P.info? t).map (fun i => decide (i.size = 0)) = some false)
    {b o e : Nat} {cs : List Value} (hb : Blk w b e cs) (ho : o < cs.length) (k : next (.pointer (some ⟨b, o, none⟩)) w) : convK P s d (.pointer (some ⟨b, o, none⟩)) w next QP := by
  obtain ⟨i, hi, hz0⟩ := Option.map_eq_some_iff.1 hsz
  have hz : i.size ≠ 0 := by simpa using hz0
  have hge : ¬ (cs.length ≤ o) := by omega
  refine eff_value (v := .pointer (some ⟨b, o, none⟩)) (w' := w) ?_ k
  simp [convert, Conv.unsafePointer, Conv.seenAt, viewAt, cellsIn, sizeOf, typeInfo, run_und hs, run_und hd, hi, hz, hb.shape, hge]
/-- ( *T)(p), p a block's beginning -/
theorem conv_dn {s d u : TypeId} (hs : P.underlying s = some .unsafePointer) (hd : P.underlying d = some (.pointer u)) (hsz : (P.info? u).map (fun i => decide (i.size = 0)) = some false)
    {b e : Nat} {cs : List Value} (hb : Blk w b e cs) (hl : liesAt P P.depth e (cs.length / P.cellsOf e) 0 u 1 = true) (k : next (.pointer (some ⟨b, 0, none⟩)) w) : convK P s d (.pointer (some ⟨b, 0, none⟩)) w next QP := by
  obtain ⟨i, hi, hz0⟩ := Option.map_eq_some_iff.1 hsz
  have hz : i.size ≠ 0 := by simpa using hz0
  refine eff_value (v := .pointer (some ⟨b, 0, none⟩)) (w' := w) ?_ k
  simp [convert, Conv.unsafePointer, Conv.seenAt, viewAt, variablesAt, sizeOf, typeInfo, run_und hs, run_und hd, hi, hz, hb.shape, hl]

theorem same_one (x : Value) : Extern.AbiNoEscape.same #[x] = pure x := rfl
/-- a call of a function that gives back its argument -/
theorem same_ {f : FuncId} {fn : Func} (hf : P.funcs[f]? = some fn) (hb : fn.body.isNone = true) (hn : (fn.name == "runtime.NumGoroutine") = false) (h1 : Extern.findNext fn = none) (h2 : Extern.find fn = some Extern.AbiNoEscape.same)
    {x : Value} (k : next x w) : callvK P (.func (.func f) #[] #[]) [x] w next QP := by
  unfold callvK
  have hn' : fn.name ≠ "runtime.NumGoroutine" := by simpa using hn
  have hb' : fn.body = none := by simpa using hb
  simp [Deferred.ofValue, invoke, callFunc, hf, hb', hn', h1, h2, same_one]
  exact k
theorem effUpon_mono {next' : Value → World → Prop} {r : Result Next} (h : effUpon P next QP r) (k : ∀ v w', next v w' → next' v w') : effUpon P next' QP r := by
  cases r with
  | ok n w' =>
    cases n <;> simp only [effUpon] at h ⊢
    case value v => exact k _ _ h
    case skip => exact k _ _ h
    case enter f args =>
      refine Calls.mono h fun e w'' he => ?_
      cases e <;> first | exact k _ _ he | exact he
    case row row args => exact Rows.mono h fun v w'' he => k _ _ he
  | halt x w' => cases x <;> simp only [effUpon] at h ⊢ <;> exact h
theorem callvK_mono {next' : Value → World → Prop} {f : Value} {args : List Value} (h : callvK P f args w next QP) (k : ∀ v w', next v w' → next' v w') : callvK P f args w next' QP := effUpon_mono h k

theorem bsl4 {t e by_ : Nat} {z v u x y : Value} (ht : SlTy P t e 1 by_ z) (hv : v.oneCell' = true) (hu : u.oneCell' = true) (hx : x.oneCell' = true) (hy : y.oneCell' = true)
    (k : ∀ b w', w.heap.size = b → Own w' (.slice (some ⟨b, 0, none⟩) 4 4) e 1 4 [v, u, x, y] → Blk w' b e [v, u, x, y] → Mod none' w w' → w'.heap.size = b + 1 → next (.slice (some ⟨b, 0, none⟩) 4 4) w') : bslK P t 4 [(0, v), (1, u), (2, x), (3, y)] w next QP := by
  refine bsl_ ht rfl (by omega) ?_ k
  rw [fill_one rfl hv (by simp), fill_one rfl hu (by simp), fill_one rfl hx (by simp), fill_one rfl hy (by simp), Instr.fill]
  congr 1
  apply Array.toList_inj.1
  simp [List.range_succ]

/-! ### unsafe.SliceData and unsafe.String -/
def usdK (P : Program) (ts : Array TypeId) (ty : TypeId) (s : Value) (w : World) (next : Value → World → Prop) (QP : List PanicEntry → World → Prop) : Prop := effUpon P next QP ((runV (Builtin.unsafeSliceData_ ts ty #[s])).run P w)
def usK (P : Program) (ts : Array TypeId) (ty : TypeId) (p n : Value) (w : World) (next : Value → World → Prop) (QP : List PanicEntry → World → Prop) : Prop := effUpon P next QP ((runV (Builtin.unsafeString_ ts ty #[p, n])).run P w)
@[congr] theorem usdK_congr {ts : Array TypeId} {ty : TypeId} {v v' : Value} {w' : World} (h : v = v') (hw : w = w') : usdK P ts ty v w next QP = usdK P ts ty v' w' next QP := by rw [h, hw]
@[congr] theorem usK_congr {ts : Array TypeId} {ty : TypeId} {a a' v v' : Value} {w' : World} (h : a = a') (h' : v = v') (hw : w = w') : usK P ts ty a v w next QP = usK P ts ty a' v' w' next QP := by rw [h, h', hw]
theorem f_usd {ty : TypeId} {ρ : Operand → Value} {s : Operand} {ts : Array TypeId} : heff P (.call { callee := .builtin .unsafeSliceData, args := #[s], argTypes := ts }) ty ρ w next QP = usdK P ts ty (ρ s) w next QP := by
  unfold heff usdK; rw [run_call_builtin .unsafeSliceData #[s] ts ty _ rfl rfl]; simp only [builtin, runV, List.map_toArray, List.map_cons, List.map_nil]
theorem f_us {ty : TypeId} {ρ : Operand → Value} {s x : Operand} {ts : Array TypeId} : heff P (.call { callee := .builtin .unsafeString, args := #[s, x], argTypes := ts }) ty ρ w next QP = usK P ts ty (ρ s) (ρ x) w next QP := by
  unfold heff usK; rw [run_call_builtin .unsafeString #[s, x] ts ty _ rfl rfl]; simp only [builtin, runV, List.map_toArray, List.map_cons, List.map_nil]

theorem usd_ {ts : Array TypeId} {ty e : TypeId} (hp : P.underlying ty = some (.pointer e)) {v : Value} {n : Nat} {xs : List Value} (ho : Own w v e 1 n xs)
    (k : ∀ p w', Mod none' w w' → (0 < n → ∃ g c, v = .slice (some ⟨g, 0, none⟩) n c ∧ p = some ⟨g, 0, none⟩) → next (.pointer p) w') : usdK P ts ty v w next QP := by
  rcases ho.2 with ⟨rfl, hn⟩ | ⟨g, cap, cur, fz, rfl, hfz, hg, hnc, hcm, hcs, htake⟩
  · exact eff_value (Lib.run_unsafeSliceData_nil w ts ty 0 0) (k none w (Mod.refl _ _) fun h => by omega)
  · by_cases hc : cap = 0
    · subst hc
      have hsh : w.shape? g = some (e, cur.size) := by simp [World.shape?, hg]
      exact eff_value (Lib.run_unsafeSliceData_zero (P := P) w ts ty e hp ⟨g, 0, none⟩ n _ hsh) (k _ _ (alloc_mod w _) fun h => by omega)
    · exact eff_value (Lib.run_unsafeSliceData_row (P := P) w ts ty ⟨g, 0, none⟩ n cap hc) (k _ w (Mod.refl _ _) fun _ => ⟨g, cap, rfl, rfl⟩)
theorem us_ {pt it ty e : TypeId} (hp : P.underlying pt = some (.pointer e)) (hc : P.cellsOf e = 1) {v : Value} {l : List UInt8} {p : Option Addr} (ho : Own w v e 1 l.length (bys l)) (hv : 0 < l.length → ∃ g c, v = .slice (some ⟨g, 0, none⟩) l.length c ∧ p = some ⟨g, 0, none⟩)
    (hm : l.length ≤ 9223372036854775807) (k : ∀ w', Mod (ownS v) w w' → next (str l) w') : usK P #[pt, it] ty (.pointer p) (.int .i64 l.length) w next QP := by
  rcases Nat.eq_zero_or_pos l.length with h0 | h0
  · obtain rfl : l = [] := List.eq_nil_of_length_eq_zero h0
    exact eff_value (Lib.run_unsafeString_none (P := P) w pt it ty p) (k w (Mod.refl _ _))
  · obtain ⟨g, c, rfl, rfl⟩ := hv h0
    rcases ho.2 with ⟨he, hn⟩ | ⟨g', cap, cur, fz, he, hfz, hg, hnc, hcm, hcs, htake⟩
    · cases he
    · simp only [Value.slice.injEq, Option.some.injEq, Addr.mk.injEq] at he
      obtain ⟨⟨rfl, -⟩, -, rfl⟩ := he
      have hsh : w.shape? g = some (e, cur.size) := by simp [World.shape?, hg]
      refine eff_value (Lib.run_unsafeString_row (P := P) w pt it ty _ hp hc g _ hsh l (by rintro rfl; simp at h0) (by omega) hm ?_) (k _ ⟨?_, ?_, ?_, ?_, ?_⟩)
      · intro j x hx
        refine holds_of hg ho.1 htake j _ ?_
        simp [bys, hx]
      · unfold World.freeze; split <;> rfl
      · unfold World.freeze; split <;> rfl
      · unfold World.freeze; split <;> rfl
      · unfold World.freeze; split <;> simp
      · intro k hk hn
        have hne : g ≠ k := fun e => hn (by simp [ownS, Value.ownBlock, e])
        unfold World.freeze; split
        · rfl
        · simp only [Array.getElem?_modify]; rw [if_neg hne]
end
attribute [go_sem] f_usd f_us
end Go.HL
