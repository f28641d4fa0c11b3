/- HLO: operations on bits, at numbers that are not negative; the wrap written out. -/
import Derived.Test.YthenjelndjlnfaaHLT
import Derived.Lib.Bytealg
import Derived.Sort.AssemblyPlain
set_option linter.unusedSimpArgs false
set_option linter.unusedVariables false
set_option maxRecDepth 100000
namespace Go.HL
open Go

theorem bv_nat {n a : Nat} (h : a < 2 ^ n) : (BitVec.ofInt n (a : Int)).toNat = a := by
  rw [BitVec.ofInt_natCast, BitVec.toNat_ofNat, Nat.mod_eq_of_lt h]

theorem xorV {k : IntKind} {a b : Nat} (ha : a < 2 ^ k.bits) (hb : b < 2 ^ k.bits) : intV .xor k (a : Int) (b : Int) = .int k (k.wrap ((a ^^^ b : Nat) : Int)) := by
  simp only [intV, BitVec.toNat_xor, bv_nat ha, bv_nat hb]
theorem andV {k : IntKind} {a b : Nat} (ha : a < 2 ^ k.bits) (hb : b < 2 ^ k.bits) : intV .and k (a : Int) (b : Int) = .int k (k.wrap ((a &&& b : Nat) : Int)) := by
  simp only [intV, BitVec.toNat_and, bv_nat ha, bv_nat hb]
theorem orV {k : IntKind} {a b : Nat} (ha : a < 2 ^ k.bits) (hb : b < 2 ^ k.bits) : intV .or k (a : Int) (b : Int) = .int k (k.wrap ((a ||| b : Nat) : Int)) := by
  simp only [intV, BitVec.toNat_or, bv_nat ha, bv_nat hb]

theorem wrap_u8 (n : Int) : IntKind.u8.wrap n = n % 256 := by simp [IntKind.wrap, IntKind.bits, IntKind.signed]
theorem wrap_u32 (n : Int) : IntKind.u32.wrap n = n % 4294967296 := by simp [IntKind.wrap, IntKind.bits, IntKind.signed]
theorem wrap_u64 (n : Int) : IntKind.u64.wrap n = n % 18446744073709551616 := by simp [IntKind.wrap, IntKind.bits, IntKind.signed]
theorem wrap_i64 (n : Int) : IntKind.i64.wrap n = (n + 9223372036854775808) % 18446744073709551616 - 9223372036854775808 := by
  have h : IntKind.i64.wrap n = if n % 18446744073709551616 ≥ 9223372036854775808 then n % 18446744073709551616 - 18446744073709551616 else n % 18446744073709551616 := by
    simp [IntKind.wrap, IntKind.bits, IntKind.signed]
  rw [h]; split <;> omega
theorem wrap_i32 (n : Int) : IntKind.i32.wrap n = (n + 2147483648) % 4294967296 - 2147483648 := by
  have h : IntKind.i32.wrap n = if n % 4294967296 ≥ 2147483648 then n % 4294967296 - 4294967296 else n % 4294967296 := by
    simp [IntKind.wrap, IntKind.bits, IntKind.signed]
  rw [h]; split <;> omega

theorem xor32 {a b : Nat} (ha : a < 4294967296) (hb : b < 4294967296) : intV .xor .u32 (a : Int) (b : Int) = .int .u32 ((a ^^^ b : Nat) : Int) := by
  have h : (a ^^^ b) < 2 ^ 32 := Nat.xor_lt_two_pow (by omega) (by omega)
  rw [xorV (show a < 2 ^ 32 by omega) (show b < 2 ^ 32 by omega), wrap_u32]
  congr 1; omega
theorem xor64 {a b : Nat} (ha : a < 9223372036854775808) (hb : b < 9223372036854775808) : intV .xor .i64 (a : Int) (b : Int) = .int .i64 ((a ^^^ b : Nat) : Int) := by
  have h : (a ^^^ b) < 9223372036854775808 := Nat.xor_lt_two_pow (n := 63) ha hb
  have hx := xorV (k := .i64) (a := a) (b := b) (show a < 2 ^ 64 by omega) (show b < 2 ^ 64 by omega)
  have key : ∀ c : Nat, c < 9223372036854775808 → ((c : Int) + 9223372036854775808) % 18446744073709551616 - 9223372036854775808 = c := by intro c hc; omega
  rw [hx, wrap_i64, key _ h]
theorem and1_32 {a : Nat} (ha : a < 4294967296) : intV .and .u32 (a : Int) 1 = .int .u32 ((a % 2 : Nat) : Int) := by
  have := andV (k := .u32) (a := a) (b := 1) (show a < 2 ^ 32 by omega) (show 1 < 2 ^ 32 by omega)
  refine this.trans ?_
  rw [Nat.and_one_is_mod, wrap_u32]
  congr 1; omega
/-- an or with a byte behind a shift is an addition -/
theorem or_byte (x : Int) (b : Nat) (hb : b < 256) : intV .or .i64 (IntKind.i64.wrap (x * 256)) (b : Int) = .int .i64 (IntKind.i64.wrap (x * 256 + b)) := by
  simp only [intV]
  congr 1
  have h1 : (BitVec.ofInt IntKind.i64.bits (IntKind.i64.wrap (x * 256))).toNat = ((x * 256) % 18446744073709551616).toNat := by
    rw [BitVec.toNat_ofInt, wrap_i64]
    show (((x * 256 + 9223372036854775808) % 18446744073709551616 - 9223372036854775808) % ((2 ^ 64 : Nat) : Int)).toNat = _
    congr 1; omega
  rw [BitVec.toNat_or, h1, bv_nat (n := IntKind.i64.bits) (show b < 2 ^ 64 by omega)]
  obtain ⟨q, hq⟩ : ∃ q : Nat, ((x * 256) % 18446744073709551616).toNat = 2 ^ 8 * q := ⟨((x * 256) % 18446744073709551616).toNat / 256, by omega⟩
  have h2 := Nat.two_pow_add_eq_or_of_lt (show b < 2 ^ 8 by omega) q
  rw [hq, ← h2, wrap_i64, wrap_i64]
  omega
end Go.HL

/- HLS: functions without a body; ranging over a string. -/
namespace Go.HL
open Go

section
variable {P : Program} {w : World} {next : Value → World → Prop} {QP : List PanicEntry → World → Prop}

/-- a call of a function without a body -/
theorem ext_ {f : FuncId} {fn : Func} {e : Array Value → Sem Value} (hf : P.funcs[f]? = some fn) (hb : fn.body.isNone = true) (hn : (fn.name == "runtime.NumGoroutine") = false) (h1 : Extern.findNext fn = none) (h2 : Extern.find fn = some e)
    {args : List Value} {v : Value} (hr : (e args.toArray).run P w = .ok v w) (k : next v w) : callvK P (.func (.func f) #[] #[]) args w next QP := by
  unfold callvK
  have hn' : fn.name ≠ "runtime.NumGoroutine" := by simpa using hn
  have hb' : fn.body = none := by simpa using hb
  simp [Deferred.ofValue, invoke, callFunc, hf, hb', hn', h1, h2, hr]
  exact k

def rangeK (P : Program) (t : TypeId) (x : Value) (w : World) (next : Value → World → Prop) (QP : List PanicEntry → World → Prop) : Prop := effUpon P next QP ((runV (Instr.range t x)).run P w)
def nextK (P : Program) (s : Bool) (t : TypeId) (x : Value) (w : World) (next : Value → World → Prop) (QP : List PanicEntry → World → Prop) : Prop := effUpon P next QP ((runV (Instr.next x s t)).run P w)
theorem f_range {t ty : TypeId} {x : Operand} {ρ : Operand → Value} : heff P (.range t x) ty ρ w next QP = rangeK P t (ρ x) w next QP := rfl
theorem f_next {s : Bool} {ty : TypeId} {x : Operand} {ρ : Operand → Value} : heff P (.next x s) ty ρ w next QP = nextK P s ty (ρ x) w next QP := rfl
attribute [go_sem] f_range f_next

/-- a string that is ranged over, from a place on -/
def SIt (w : World) (b : Nat) (s : List UInt8) (pos : Nat) : Prop := w.heap[b]? = some (.stringIter ⟨s.toArray⟩ pos)
theorem SIt.lt {b : Nat} {s : List UInt8} {pos : Nat} (h : SIt w b s pos) : b < w.heap.size := by
  unfold SIt at h; exact (Array.getElem?_eq_some_iff.1 h).1
theorem SIt.mod {w' : World} {S : Nat → Prop} {b : Nat} {s : List UInt8} {pos : Nat} (h : SIt w b s pos) (m : Mod S w w') (hd : ¬ S b) : SIt w' b s pos := by
  unfold SIt; rw [m.block b h.lt hd]; exact h

theorem range_ {t : TypeId} (ht : P.underlying t = some .string) {s : List UInt8} (k : ∀ b w', w.heap.size = b → SIt w' b s 0 → Mod none' w w' → w'.heap.size = b + 1 → next (.pointer (some ⟨b, 0, none⟩)) w') : rangeK P t (str s) w next QP := by
  refine eff_value (v := .pointer (some ⟨w.heap.size, 0, none⟩)) (w' := w.alloc (.stringIter ⟨s.toArray⟩ 0)) ?_ (k _ _ rfl (by unfold SIt World.alloc; simp) (alloc_mod w _) (by simp))
  simp [Instr.range, str, run_underlying ht]

theorem next_ {ty : TypeId} {b : Nat} {s : List UInt8} {pos : Nat} (h : SIt w b s pos) (k0 : s.length ≤ pos → next (.tuple #[.bool false]) w)
    (k1 : pos < s.length → ∀ w', SIt w' b s (pos + (Utf8.decode ⟨s.toArray⟩ pos).2) → Mod (fun k => k = b) w w' → next (.tuple #[.bool true, .int .i64 pos, .int .i32 ((Utf8.decode ⟨s.toArray⟩ pos).1 : Nat)]) w') : nextK P true ty (.pointer (some ⟨b, 0, none⟩)) w next QP := by
  unfold SIt at h
  by_cases hp : pos < s.length
  · have hb := h
    refine eff_value (v := .tuple #[.bool true, .int .i64 pos, .int .i32 ((Utf8.decode ⟨s.toArray⟩ pos).1 : Nat)]) (w' := { w with heap := w.heap.setIfInBounds b (.stringIter ⟨s.toArray⟩ (pos + (Utf8.decode ⟨s.toArray⟩ pos).2)) }) ?_ (k1 hp _ ?_ ?_)
    · have hs : pos < (ByteArray.mk s.toArray).size := by simpa [ByteArray.size] using hp
      simp [Instr.next, h, hs, getObj, setObj, goInt, Sem.run]
    · unfold SIt
      have := (Array.getElem?_eq_some_iff.1 h).1
      simp [this]
    · refine ⟨rfl, rfl, rfl, by simp, fun k hk hne => ?_⟩
      have hne : ¬ k = b := hne
      simp [Array.getElem?_setIfInBounds, Ne.symm hne]
  · refine eff_value (v := .tuple #[.bool false]) (w' := w) ?_ (k0 (by omega))
    have hs : ¬ pos < (ByteArray.mk s.toArray).size := by simpa [ByteArray.size] using hp
    simp [Instr.next, h, hs, getObj, Sem.run]

theorem get!_mk (l : List UInt8) (i : Nat) : (ByteArray.mk l.toArray).get! i = l.getD i 0 := by
  show l.toArray[i]! = _
  rw [List.getElem!_toArray, List.getElem!_eq_getElem?_getD, List.getD_eq_getElem?_getD]; rfl
theorem dec_low {s : List UInt8} {i : Nat} (h : s.getD i 0 < 128) : Utf8.decode ⟨s.toArray⟩ i = ((s.getD i 0).toNat, 1) := by
  have h' : (s.getD i 0).toNat < 128 := h
  unfold Utf8.decode
  simp only [Nat.add_zero, get!_mk]
  rw [if_pos h']
theorem dec_high {s : List UInt8} {i : Nat} (h : ¬ s.getD i 0 < 128) : 128 ≤ (Utf8.decode ⟨s.toArray⟩ i).1 ∧ 1 ≤ (Utf8.decode ⟨s.toArray⟩ i).2 := by
  have h' : ¬ (s.getD i 0).toNat < 128 := h
  unfold Utf8.decode
  simp only [Nat.add_zero, get!_mk]
  rw [if_neg h']
  repeat' split
  all_goals simp only [Utf8.runeError]
  all_goals first
    | omega
    | (rename_i h1 h2; simp only [Bool.and_eq_true, decide_eq_true_eq] at h2; omega)
    | skip

/-! ### single cells of a slice that is held -/
theorem own_at {g c e n : Nat} {xs : List Value} (h : Own w (.slice (some ⟨g, 0, none⟩) n c) e 1 n xs) {i : Nat} (hi : i < n) : w.cell? ⟨g, i, none⟩ = xs[i]? := by
  obtain ⟨-, a, c', he, -, hc⟩ := h.sl
  simp only [Value.slice.injEq] at he
  obtain ⟨rfl, -, rfl⟩ := he
  obtain ⟨b, o, e1, hcell⟩ := hc (by omega)
  simp only [Option.some.injEq, Addr.mk.injEq] at e1
  obtain ⟨rfl, rfl, -⟩ := e1
  have := hcell i (by omega)
  simpa using this
theorem own_store {t : TypeId} {g c e n : Nat} {xs : List Value} (hs : szOf P t = some 1) (h : Own w (.slice (some ⟨g, 0, none⟩) n c) e 1 n xs) {i : Nat} (hi : i < n) {v : Value} (h1 : v.oneCell' = true)
    (k : ∀ w', Own w' (.slice (some ⟨g, 0, none⟩) n c) e 1 n (xs.set i v) → Mod (fun k => k = g) w w' → w'.heap.size = w.heap.size → next undef w') : storeK P t (.pointer (some ⟨g, i, none⟩)) v w next QP := by
  have hlen : xs.length = n := by have := h.1; omega
  rcases h.blk with ⟨-, h0, -⟩ | ⟨g', c', rest, e, hb, hr, hc, hm⟩
  · omega
  simp only [Value.slice.injEq, Option.some.injEq, Addr.mk.injEq] at e
  obtain ⟨⟨rfl, -⟩, -, rfl⟩ := e
  refine store1 hs hb (by simp; omega) h1 ?_
  intro w' hb' m hsz
  refine k w' ?_ m hsz
  rw [List.set_append_left _ _ (by omega)] at hb'
  exact Own.of_blk (by simp [hlen]) hb' hr hc hm
end
end Go.HL

/- HLQ: rows that a sort turns: data as an array, its cells; a comparison by contract. -/
namespace Go.HL
open Go Go.Sort

/-- the slice at block g holds d, sz cells each -/
structure Dt {α : Type} (cs : α → List Value) (e sz : Nat) (w : World) (g n cap : Nat) (d : Array α) : Prop where
  size : d.size = n
  own : Own w (.slice (some ⟨g, 0, none⟩) n cap) e sz n (rows cs d.toList)

section
variable {α : Type} {P : Program} {w : World} {cs : α → List Value} {e sz g n cap : Nat} {d : Array α} {next : Value → World → Prop} {QP : List PanicEntry → World → Prop}

theorem get_bang [Inhabited α] {i : Nat} (hi : i < d.size) : d[i]! = d.toList[i]'(by simpa using hi) := by simp [hi]
theorem Dt.cell [Inhabited α] (h : Dt cs e sz w g n cap d) (hcs : ∀ x, (cs x).length = sz) {i j : Nat} (hi : i < n) (hj : j < sz) : w.cell? ⟨g, i * sz + j, none⟩ = (cs d[i]!)[j]? := by
  obtain ⟨b, o, c, e1, -, hc⟩ := h.own.sl.get hcs (by simp [h.size]) (by omega)
  simp only [Value.slice.injEq, Option.some.injEq, Addr.mk.injEq] at e1
  obtain ⟨⟨rfl, rfl, -⟩, -, rfl⟩ := e1
  have hl : i < d.toList.length := by simp [h.size]; exact hi
  have := hc i j hl hj
  rw [Nat.zero_add] at this
  rw [this, get_bang (by rw [h.size]; exact hi)]
theorem Dt.ldN [Inhabited α] (h : Dt cs e sz w g n cap d) (hcs : ∀ x, (cs x).length = sz) {i : Nat} (hi : i < n) : loadN w ⟨g, i * sz, none⟩ sz = (cs d[i]!).toArray ∧ ∀ j, j < sz → (w.cell? ⟨g, i * sz + j, none⟩).isSome = true :=
  ⟨loadN_of (hcs _) fun j hj => by rw [e_add]; exact h.cell hcs hi hj, fun j hj => by rw [h.cell hcs hi hj]; simp [hcs, hj]⟩
theorem Dt.ld1 [Inhabited α] {v : α → Value} (h : Dt (fun x => [v x]) e 1 w g n cap d) {i : Nat} (hi : i < n) : w.cell? ⟨g, i, none⟩ = some (v d[i]!) := by
  have := h.cell (fun _ => rfl) hi (j := 0) (by omega)
  simpa using this
theorem Dt.mod {w' : World} {S : Nat → Prop} (h : Dt cs e sz w g n cap d) (m : Mod S w w') (hS : ¬ S g) : Dt cs e sz w' g n cap d :=
  ⟨h.size, h.own.mod m fun k hk => by simp only [Value.ownBlock, Option.some.injEq] at hk; subst hk; exact hS⟩
theorem Dt.len (h : Dt cs e sz w g n cap d) : n ≤ maxLen := by
  rcases h.own.2 with ⟨hv, -⟩ | ⟨g', cap', cur, fz, hv, hfz, hh, hc, hm, hcs, ht⟩
  · cases hv
  · simp only [Value.slice.injEq] at hv
    omega

theorem Dt.st {t : TypeId} {u : Value} {x : α} (h : Dt cs e sz w g n cap d) (hcs : ∀ x, (cs x).length = sz) {i : Nat} (hi : i < n)
    (hst : ∀ (all : List Value), Blk w g e all → i * sz + sz ≤ all.length → (∀ w', Blk w' g e (lay all (i * sz) (cs x)) → Mod (fun k => k = g) w w' → w'.heap.size = w.heap.size → next undef w') → storeK P t (.pointer (some ⟨g, i * sz, none⟩)) u w next QP)
    (k : ∀ w', Dt cs e sz w' g n cap (d.setIfInBounds i x) → Mod (fun k => k = g) w w' → w'.heap.size = w.heap.size → next undef w') : storeK P t (.pointer (some ⟨g, i * sz, none⟩)) u w next QP := by
  rcases h.own.blk with ⟨hv, -⟩ | ⟨g', c', rest, e1, hb, hr, hc, hm⟩
  · cases hv
  simp only [Value.slice.injEq, Option.some.injEq, Addr.mk.injEq] at e1
  obtain ⟨⟨rfl, -⟩, -, rfl⟩ := e1
  have hl : (rows cs d.toList).length = n * sz := by rw [rows_len hcs]; simp [h.size]
  have hfit : i * sz + sz ≤ n * sz := by
    calc i * sz + sz = (i + 1) * sz := by rw [Nat.add_mul]; omega
      _ ≤ n * sz := Nat.mul_le_mul_right _ hi
  refine hst _ hb (by rw [List.length_append, hl]; omega) ?_
  intro w' hb' m hs
  refine k w' ⟨by simp [h.size], ?_⟩ m hs
  have e2 : lay (rows cs d.toList ++ rest) (i * sz) (cs x) = rows cs (d.setIfInBounds i x).toList ++ rest := by
    rw [Array.toList_setIfInBounds, ← rows_set hcs _ _ _ (by simp [h.size]; exact hi)]
    unfold lay
    rw [List.take_append_of_le_length (by omega), List.drop_append_of_le_length (by rw [hcs]; omega)]
    simp
  rw [e2] at hb'
  exact Own.of_blk (by rw [rows_len hcs]; simp [h.size]) hb' hr hc hm
theorem Dt.stN {t : TypeId} {x : α} (h : Dt cs e sz w g n cap d) (hcs : ∀ x, (cs x).length = sz) (h1 : ∀ x, ∀ v ∈ cs x, v.oneCell' = true) (hs : szOf P t = some sz) {i : Nat} (hi : i < n)
    (k : ∀ w', Dt cs e sz w' g n cap (d.setIfInBounds i x) → Mod (fun k => k = g) w w' → w'.heap.size = w.heap.size → next undef w') : storeK P t (.pointer (some ⟨g, i * sz, none⟩)) (.agg (cs x).toArray) w next QP := by
  refine h.st (x := x) hcs hi (fun all hb hl k => ?_) k
  refine storeN hs (hcs x) hb hl (h1 x) ?_
  intro w' hb'
  refine k w' ?_
  unfold lay
  rw [hcs]; exact hb'
theorem Dt.st1 {v : α → Value} {t : TypeId} {x : α} (h : Dt (fun x => [v x]) e 1 w g n cap d) (h1 : ∀ x, (v x).oneCell' = true) (hs : szOf P t = some 1) {i : Nat} (hi : i < n)
    (k : ∀ w', Dt (fun x => [v x]) e 1 w' g n cap (d.setIfInBounds i x) → Mod (fun k => k = g) w w' → w'.heap.size = w.heap.size → next undef w') : storeK P t (.pointer (some ⟨g, i, none⟩)) (v x) w next QP := by
  have := h.st (P := P) (t := t) (u := v x) (x := x) (next := next) (QP := QP) (fun _ => rfl) hi (fun all hb hl k => ?_) k
  · simpa using this
  · rw [Nat.mul_one] at hl ⊢
    refine store1 hs hb (by omega) (h1 x) ?_
    intro w' hb'
    refine k w' ?_
    have e2 : lay all (i * 1) [v x] = all.set i (v x) := by
      rw [Nat.mul_one, List.set_eq_take_append_cons_drop, if_pos (by omega)]
      simp [lay]
    rw [e2]; exact hb'

/-- a comparison, by what it answers; what it leans on outlives the sort's own writing -/
structure Cmp (P : Program) (f : Value) (enc : α → Value) (c : α → α → Int) (g B : Nat) (I : World → Prop) : Prop where
  call : ∀ (w : World) (x y : α) (next : Value → World → Prop) (QP : List PanicEntry → World → Prop), I w → (∀ w', Mod none' w w' → next (.int .i64 (c x y)) w') → callvK P f [enc x, enc y] w next QP
  inv2 : ∀ w w', I w → Mod (fun k => k = g ∨ B ≤ k) w w' → I w'
  base : ∀ w, I w → B ≤ w.heap.size
  inB : g < B
theorem Cmp.inv {f : Value} {enc : α → Value} {c : α → α → Int} {B : Nat} {I : World → Prop} (h : Cmp P f enc c g B I) (w w' : World) (hi : I w) (m : Mod (fun k => k = g) w w') : I w' := h.inv2 w w' hi (m.mono fun _ _ h => .inl h)
theorem Cmp.inv0 {f : Value} {enc : α → Value} {c : α → α → Int} {B : Nat} {I : World → Prop} (h : Cmp P f enc c g B I) {w w' : World} (hi : I w) (m : Mod none' w w') : I w' := h.inv2 w w' hi (m.mono fun _ _ h => h.elim)
theorem Mod.up {w w' : World} {S : Nat → Prop} (m : Mod none' w w') : Mod S w w' := m.mono fun _ _ h => h.elim
def ltc (c : α → α → Int) (x y : α) : Bool := decide (c x y < 0)
end
end Go.HL
