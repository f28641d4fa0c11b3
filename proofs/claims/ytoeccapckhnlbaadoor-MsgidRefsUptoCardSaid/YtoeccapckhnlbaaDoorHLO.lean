/- HLO: operations on bits, at numbers that are not negative; the wrap written out. -/
import Derived.Test.YtoeccapckhnlbaaDoorHLT
import Derived.Lib.Bytealg
import Derived.Test.YtoeccapckhnlbaaDoorProg
import Derived.KernelRfl
set_option linter.unusedSimpArgs false
set_option linter.unusedVariables false
set_option maxRecDepth 100000
namespace Go.HL
open Go

theorem bv_nat {n a : Nat} (h : a < 2 ^ n) : (BitVec.ofInt n (a : Int)).toNat = a := by
  rw [BitVec.ofInt_natCast, BitVec.toNat_ofNat, Nat.mod_eq_of_lt h]

theorem xorV {k : IntKind} {a b : Nat} (ha : a < 2 ^ k.bits) (hb : b < 2 ^ k.bits) : intV .xor k (a : Int) (b : Int) = .int k (k.wrap ((a ^^^ b : Nat) : Int)) := by
  simp only [intV, BitVec.toNat_xor, bv_nat ha, bv_nat hb]
theorem andV {k : IntKind} {a b : Nat} (ha : a < 2 ^ k.bits) (hb : b < 2 ^ k.bits) : intV .and k (a : Int) (b : Int) = .int k (k.wrap ((a &&& b : Nat) : Int)) := by
  simp only [intV, BitVec.toNat_and, bv_nat ha, bv_nat hb]
theorem orV {k : IntKind} {a b : Nat} (ha : a < 2 ^ k.bits) (hb : b < 2 ^ k.bits) : intV .or k (a : Int) (b : Int) = .int k (k.wrap ((a ||| b : Nat) : Int)) := by
  simp only [intV, BitVec.toNat_or, bv_nat ha, bv_nat hb]

theorem wrap_u8 (n : Int) : IntKind.u8.wrap n = n % 256 := by simp [IntKind.wrap, IntKind.bits, IntKind.signed]
theorem wrap_u32 (n : Int) : IntKind.u32.wrap n = n % 4294967296 := by simp [IntKind.wrap, IntKind.bits, IntKind.signed]
theorem wrap_u64 (n : Int) : IntKind.u64.wrap n = n % 18446744073709551616 := by simp [IntKind.wrap, IntKind.bits, IntKind.signed]
theorem wrap_i64 (n : Int) : IntKind.i64.wrap n = (n + 9223372036854775808) % 18446744073709551616 - 9223372036854775808 := by
  have h : IntKind.i64.wrap n = if n % 18446744073709551616 ≥ 9223372036854775808 then n % 18446744073709551616 - 18446744073709551616 else n % 18446744073709551616 := by
    simp [IntKind.wrap, IntKind.bits, IntKind.signed]
  rw [h]; split <;> omega
theorem wrap_i32 (n : Int) : IntKind.i32.wrap n = (n + 2147483648) % 4294967296 - 2147483648 := by
  have h : IntKind.i32.wrap n = if n % 4294967296 ≥ 2147483648 then n % 4294967296 - 4294967296 else n % 4294967296 := by
    simp [IntKind.wrap, IntKind.bits, IntKind.signed]
  rw [h]; split <;> omega

theorem xor32 {a b : Nat} (ha : a < 4294967296) (hb : b < 4294967296) : intV .xor .u32 (a : Int) (b : Int) = .int .u32 ((a ^^^ b : Nat) : Int) := by
  have h : (a ^^^ b) < 2 ^ 32 := Nat.xor_lt_two_pow (by omega) (by omega)
  rw [xorV (show a < 2 ^ 32 by omega) (show b < 2 ^ 32 by omega), wrap_u32]
  congr 1; omega
theorem xor64 {a b : Nat} (ha : a < 9223372036854775808) (hb : b < 9223372036854775808) : intV .xor .i64 (a : Int) (b : Int) = .int .i64 ((a ^^^ b : Nat) : Int) := by
  have h : (a ^^^ b) < 9223372036854775808 := Nat.xor_lt_two_pow (n := 63) ha hb
  have hx := xorV (k := .i64) (a := a) (b := b) (show a < 2 ^ 64 by omega) (show b < 2 ^ 64 by omega)
  have key : ∀ c : Nat, c < 9223372036854775808 → ((c : Int) + 9223372036854775808) % 18446744073709551616 - 9223372036854775808 = c := by intro c hc; omega
  rw [hx, wrap_i64, key _ h]
theorem and1_32 {a : Nat} (ha : a < 4294967296) : intV .and .u32 (a : Int) 1 = .int .u32 ((a % 2 : Nat) : Int) := by
  have := andV (k := .u32) (a := a) (b := 1) (show a < 2 ^ 32 by omega) (show 1 < 2 ^ 32 by omega)
  refine this.trans ?_
  rw [Nat.and_one_is_mod, wrap_u32]
  congr 1; omega
/-- an or with a byte behind a shift is an addition -/
theorem or_byte (x : Int) (b : Nat) (hb : b < 256) : intV .or .i64 (IntKind.i64.wrap (x * 256)) (b : Int) = .int .i64 (IntKind.i64.wrap (x * 256 + b)) := by
  simp only [intV]
  congr 1
  have h1 : (BitVec.ofInt IntKind.i64.bits (IntKind.i64.wrap (x * 256))).toNat = ((x * 256) % 18446744073709551616).toNat := by
    rw [BitVec.toNat_ofInt, wrap_i64]
    show (((x * 256 + 9223372036854775808) % 18446744073709551616 - 9223372036854775808) % ((2 ^ 64 : Nat) : Int)).toNat = _
    congr 1; omega
  rw [BitVec.toNat_or, h1, bv_nat (n := IntKind.i64.bits) (show b < 2 ^ 64 by omega)]
  obtain ⟨q, hq⟩ : ∃ q : Nat, ((x * 256) % 18446744073709551616).toNat = 2 ^ 8 * q := ⟨((x * 256) % 18446744073709551616).toNat / 256, by omega⟩
  have h2 := Nat.two_pow_add_eq_or_of_lt (show b < 2 ^ 8 by omega) q
  rw [hq, ← h2, wrap_i64, wrap_i64]
  omega
end Go.HL

/- HLS: functions without a body; ranging over a string. -/
namespace Go.HL
open Go

section
variable {P : Program} {w : World} {next : Value → World → Prop} {QP : List PanicEntry → World → Prop}

/-- a call of a function without a body -/
theorem ext_ {f : FuncId} {fn : Func} {e : Array Value → Sem Value} (hf : P.funcs[f]? = some fn) (hb : fn.body.isNone = true) (hn : (fn.name == "runtime.NumGoroutine") = false) (h1 : Extern.findNext fn = none) (h2 : Extern.find fn = some e)
    {args : List Value} {v : Value} (hr : (e args.toArray).run P w = .ok v w) (k : next v w) : callvK P (.func (.func f) #[] #[]) args w next QP := by
  unfold callvK
  have hn' : fn.name ≠ "runtime.NumGoroutine" := by simpa using hn
  have hb' : fn.body = none := by simpa using hb
  simp [Deferred.ofValue, invoke, callFunc, hf, hb', hn', h1, h2, hr]
  exact k

def rangeK (P : Program) (t : TypeId) (x : Value) (w : World) (next : Value → World → Prop) (QP : List PanicEntry → World → Prop) : Prop := effUpon P next QP ((runV (Instr.range t x)).run P w)
def nextK (P : Program) (s : Bool) (t : TypeId) (x : Value) (w : World) (next : Value → World → Prop) (QP : List PanicEntry → World → Prop) : Prop := effUpon P next QP ((runV (Instr.next x s t)).run P w)
theorem f_range {t ty : TypeId} {x : Operand} {ρ : Operand → Value} : heff P (.range t x) ty ρ w next QP = rangeK P t (ρ x) w next QP := rfl
theorem f_next {s : Bool} {ty : TypeId} {x : Operand} {ρ : Operand → Value} : heff P (.next x s) ty ρ w next QP = nextK P s ty (ρ x) w next QP := rfl
attribute [go_sem] f_range f_next

/-- a string that is ranged over, from a place on -/
def SIt (w : World) (b : Nat) (s : List UInt8) (pos : Nat) : Prop := w.heap[b]? = some (.stringIter ⟨s.toArray⟩ pos)
theorem SIt.lt {b : Nat} {s : List UInt8} {pos : Nat} (h : SIt w b s pos) : b < w.heap.size := by
  unfold SIt at h; exact (Array.getElem?_eq_some_iff.1 h).1
theorem SIt.mod {w' : World} {S : Nat → Prop} {b : Nat} {s : List UInt8} {pos : Nat} (h : SIt w b s pos) (m : Mod S w w') (hd : ¬ S b) : SIt w' b s pos := by
  unfold SIt; rw [m.block b h.lt hd]; exact h

theorem range_ {t : TypeId} (ht : P.underlying t = some .string) {s : List UInt8} (k : ∀ b w', w.heap.size = b → SIt w' b s 0 → Mod none' w w' → w'.heap.size = b + 1 → next (.pointer (some ⟨b, 0, none⟩)) w') : rangeK P t (str s) w next QP := by
  refine eff_value (v := .pointer (some ⟨w.heap.size, 0, none⟩)) (w' := w.alloc (.stringIter ⟨s.toArray⟩ 0)) ?_ (k _ _ rfl (by unfold SIt World.alloc; simp) (alloc_mod w _) (by simp))
  simp [Instr.range, str, run_underlying ht]

theorem next_ {ty : TypeId} {b : Nat} {s : List UInt8} {pos : Nat} (h : SIt w b s pos) (k0 : s.length ≤ pos → next (.tuple #[.bool false]) w)
    (k1 : pos < s.length → ∀ w', SIt w' b s (pos + (Utf8.decode ⟨s.toArray⟩ pos).2) → Mod (fun k => k = b) w w' → next (.tuple #[.bool true, .int .i64 pos, .int .i32 ((Utf8.decode ⟨s.toArray⟩ pos).1 : Nat)]) w') : nextK P true ty (.pointer (some ⟨b, 0, none⟩)) w next QP := by
  unfold SIt at h
  by_cases hp : pos < s.length
  · have hb := h
    refine eff_value (v := .tuple #[.bool true, .int .i64 pos, .int .i32 ((Utf8.decode ⟨s.toArray⟩ pos).1 : Nat)]) (w' := { w with heap := w.heap.setIfInBounds b (.stringIter ⟨s.toArray⟩ (pos + (Utf8.decode ⟨s.toArray⟩ pos).2)) }) ?_ (k1 hp _ ?_ ?_)
    · have hs : pos < (ByteArray.mk s.toArray).size := by simpa [ByteArray.size] using hp
      simp [Instr.next, h, hs, getObj, setObj, goInt, Sem.run]
    · unfold SIt
      have := (Array.getElem?_eq_some_iff.1 h).1
      simp [this]
    · refine ⟨rfl, rfl, rfl, by simp, fun k hk hne => ?_⟩
      have hne : ¬ k = b := hne
      simp [Array.getElem?_setIfInBounds, Ne.symm hne]
  · refine eff_value (v := .tuple #[.bool false]) (w' := w) ?_ (k0 (by omega))
    have hs : ¬ pos < (ByteArray.mk s.toArray).size := by simpa [ByteArray.size] using hp
    simp [Instr.next, h, hs, getObj, Sem.run]

theorem get!_mk (l : List UInt8) (i : Nat) : (ByteArray.mk l.toArray).get! i = l.getD i 0 := by
  show l.toArray[i]! = _
  rw [List.getElem!_toArray, List.getElem!_eq_getElem?_getD, List.getD_eq_getElem?_getD]; rfl
theorem dec_low {s : List UInt8} {i : Nat} (h : s.getD i 0 < 128) : Utf8.decode ⟨s.toArray⟩ i = ((s.getD i 0).toNat, 1) := by
  have h' : (s.getD i 0).toNat < 128 := h
  unfold Utf8.decode
  simp only [Nat.add_zero, get!_mk]
  rw [if_pos h']
theorem dec_high {s : List UInt8} {i : Nat} (h : ¬ s.getD i 0 < 128) : 128 ≤ (Utf8.decode ⟨s.toArray⟩ i).1 ∧ 1 ≤ (Utf8.decode ⟨s.toArray⟩ i).2 := by
  have h' : ¬ (s.getD i 0).toNat < 128 := h
  unfold Utf8.decode
  simp only [Nat.add_zero, get!_mk]
  rw [if_neg h']
  repeat' split
  all_goals simp only [Utf8.runeError]
  all_goals first
    | omega
    | (rename_i h1 h2; simp only [Bool.and_eq_true, decide_eq_true_eq] at h2; omega)
    | skip

/-! ### single cells of a slice that is held -/
theorem own_at {g c e n : Nat} {xs : List Value} (h : Own w (.slice (some ⟨g, 0, none⟩) n c) e 1 n xs) {i : Nat} (hi : i < n) : w.cell? ⟨g, i, none⟩ = xs[i]? := by
  obtain ⟨-, a, c', he, -, hc⟩ := h.sl
  simp only [Value.slice.injEq] at he
  obtain ⟨rfl, -, rfl⟩ := he
  obtain ⟨b, o, e1, hcell⟩ := hc (by omega)
  simp only [Option.some.injEq, Addr.mk.injEq] at e1
  obtain ⟨rfl, rfl, -⟩ := e1
  have := hcell i (by omega)
  simpa using this
theorem own_store {t : TypeId} {g c e n : Nat} {xs : List Value} (hs : szOf P t = some 1) (h : Own w (.slice (some ⟨g, 0, none⟩) n c) e 1 n xs) {i : Nat} (hi : i < n) {v : Value} (h1 : v.oneCell' = true)
    (k : ∀ w', Own w' (.slice (some ⟨g, 0, none⟩) n c) e 1 n (xs.set i v) → Mod (fun k => k = g) w w' → w'.heap.size = w.heap.size → next undef w') : storeK P t (.pointer (some ⟨g, i, none⟩)) v w next QP := by
  have hlen : xs.length = n := by have := h.1; omega
  rcases h.blk with ⟨-, h0, -⟩ | ⟨g', c', rest, e, hb, hr, hc, hm⟩
  · omega
  simp only [Value.slice.injEq, Option.some.injEq, Addr.mk.injEq] at e
  obtain ⟨⟨rfl, -⟩, -, rfl⟩ := e
  refine store1 hs hb (by simp; omega) h1 ?_
  intro w' hb' m hsz
  refine k w' ?_ m hsz
  rw [List.set_append_left _ _ (by omega)] at hb'
  exact Own.of_blk (by simp [hlen]) hb' hr hc hm
end
end Go.HL

/- the functions of the program as code over named slots, printed by hl.py -/
set_option maxRecDepth 100000
namespace Go.Proofs.Y
open Go Go.HL Go.Proofs
theorem mixed : Tryd.prog.follows .mixedOrders = true := by kernel_rfl
/- missive/msgid.First -/
def h9_1 : HC :=
  (.seq
  (.reg [.need (.n2 (.iaddr 1) (.slot 4) (.lit (.int .i64 0))),
    .need (.n1 .ld (.n2 (.iaddr 1) (.slot 4) (.lit (.int .i64 0)))),
    .asg 2 (.n1 .ld (.n2 (.iaddr 1) (.slot 4) (.lit (.int .i64 0)))),
    .asg 3 (.lit (.bool true))])
  .ret)
def h9 : HC :=
  (.seq
  (.reg [.asg 2 (.lit (str [])),
    .asg 3 (.lit (.bool false))])
  (.seq
  (.reg [.eff (some 6) (.call { callee := .value (.func 18), args := #[.tmp 5], argTypes := #[9] }) 31 [(5, .slot 0)] none [],
    .asg 4 (.slot 6)])
  (.seq
  (.seq
  (.reg [.need (.n1 .lensl (.slot 4)),
    .need (.n2 (.bin .eql) (.n1 .lensl (.slot 4)) (.lit (.int .i64 0))),
    .asg 9 (.n2 (.bin .eql) (.n1 .lensl (.slot 4)) (.lit (.int .i64 0)))])
  (.cond (.slot 9)
    (.seq
    (.reg [.asg 2 (.lit (str [])),
      .asg 3 (.lit (.bool false))])
    .ret)
    .skip))
  h9_1)))
theorem k9 : fnOK Tryd.prog 605 [] [.tmp 2, .tmp 3] 1 Tryd.f9 = some h9 := by kernel_rfl
theorem c9 : callable Tryd.prog 9 = true := by kernel_rfl
theorem q9 {args : List Value} (ha : args.length = 1) {w : World} {next : Value → World → Prop} {QP : List PanicEntry → World → Prop} (H : hw Tryd.prog noPanic h9 (endV [.tmp 2, .tmp 3] next) (σ0 args) w) : callK Tryd.prog 9 args w next QP := fn_rule Tryd.func9 mixed k9 ha H
theorem r9 {args : List Value} (ha : args.length = 1) {w : World} {next : Value → World → Prop} {QP : List PanicEntry → World → Prop} (H : hw Tryd.prog noPanic h9 (endV [.tmp 2, .tmp 3] next) (σ0 args) w) : callvK Tryd.prog (.func (.func 9) #[] #[]) args w next QP := callf c9 (q9 ha H)

/- missive/missiveref12.First -/
def h10_1 : HC :=
  (.seq
  (.reg [.need (.n2 (.iaddr 1) (.slot 4) (.lit (.int .i64 0))),
    .need (.n1 .ld (.n2 (.iaddr 1) (.slot 4) (.lit (.int .i64 0)))),
    .asg 2 (.n1 .ld (.n2 (.iaddr 1) (.slot 4) (.lit (.int .i64 0)))),
    .asg 3 (.lit (.bool true))])
  .ret)
def h10 : HC :=
  (.seq
  (.reg [.asg 2 (.lit (str [])),
    .asg 3 (.lit (.bool false))])
  (.seq
  (.reg [.eff (some 6) (.call { callee := .value (.func 19), args := #[.tmp 5], argTypes := #[9] }) 31 [(5, .slot 0)] none [],
    .asg 4 (.slot 6)])
  (.seq
  (.seq
  (.reg [.need (.n1 .lensl (.slot 4)),
    .need (.n2 (.bin .eql) (.n1 .lensl (.slot 4)) (.lit (.int .i64 0))),
    .asg 9 (.n2 (.bin .eql) (.n1 .lensl (.slot 4)) (.lit (.int .i64 0)))])
  (.cond (.slot 9)
    (.seq
    (.reg [.asg 2 (.lit (str [])),
      .asg 3 (.lit (.bool false))])
    .ret)
    .skip))
  h10_1)))
theorem k10 : fnOK Tryd.prog 605 [] [.tmp 2, .tmp 3] 1 Tryd.f10 = some h10 := by kernel_rfl
theorem c10 : callable Tryd.prog 10 = true := by kernel_rfl
theorem q10 {args : List Value} (ha : args.length = 1) {w : World} {next : Value → World → Prop} {QP : List PanicEntry → World → Prop} (H : hw Tryd.prog noPanic h10 (endV [.tmp 2, .tmp 3] next) (σ0 args) w) : callK Tryd.prog 10 args w next QP := fn_rule Tryd.func10 mixed k10 ha H
theorem r10 {args : List Value} (ha : args.length = 1) {w : World} {next : Value → World → Prop} {QP : List PanicEntry → World → Prop} (H : hw Tryd.prog noPanic h10 (endV [.tmp 2, .tmp 3] next) (σ0 args) w) : callvK Tryd.prog (.func (.func 10) #[] #[]) args w next QP := callf c10 (q10 ha H)

/- missive/msgid.Own -/
def h11 : HC :=
  (.seq
  (.reg [.asg 2 (.lit (str [])),
    .asg 3 (.lit (.bool false))])
  (.seq
  (.reg [.eff (some 8) (.call { callee := .value (.func 22), args := #[.tmp 7, .const (str [77, 101, 115, 115, 97, 103, 101, 45, 73, 68])], argTypes := #[22, 9] }) 25 [(7, .slot 0)] none [],
    .need (.n1 (.ext 0) (.slot 8)),
    .need (.n1 (.ext 1) (.slot 8)),
    .asg 4 (.n1 (.ext 0) (.slot 8))])
  (.seq
  (.reg [.eff (some 12) (.call { callee := .value (.func 9), args := #[.tmp 11], argTypes := #[9] }) 25 [(11, .slot 4)] none [],
    .need (.n1 (.ext 0) (.slot 12)),
    .need (.n1 (.ext 1) (.slot 12)),
    .asg 2 (.n1 (.ext 0) (.slot 12)),
    .asg 3 (.n1 (.ext 1) (.slot 12))])
  .ret)))
theorem k11 : fnOK Tryd.prog 4381 [] [.tmp 2, .tmp 3] 1 Tryd.f11 = some h11 := by kernel_rfl
theorem c11 : callable Tryd.prog 11 = true := by kernel_rfl
theorem q11 {args : List Value} (ha : args.length = 1) {w : World} {next : Value → World → Prop} {QP : List PanicEntry → World → Prop} (H : hw Tryd.prog noPanic h11 (endV [.tmp 2, .tmp 3] next) (σ0 args) w) : callK Tryd.prog 11 args w next QP := fn_rule Tryd.func11 mixed k11 ha H
theorem r11 {args : List Value} (ha : args.length = 1) {w : World} {next : Value → World → Prop} {QP : List PanicEntry → World → Prop} (H : hw Tryd.prog noPanic h11 (endV [.tmp 2, .tmp 3] next) (σ0 args) w) : callvK Tryd.prog (.func (.func 11) #[] #[]) args w next QP := callf c11 (q11 ha H)

/- missive/missiveref12.Own -/
def h12 : HC :=
  (.seq
  (.reg [.asg 2 (.lit (str [])),
    .asg 3 (.lit (.bool false))])
  (.seq
  (.reg [.eff (some 8) (.call { callee := .value (.func 25), args := #[.tmp 7, .const (str [77, 101, 115, 115, 97, 103, 101, 45, 73, 68])], argTypes := #[22, 9] }) 25 [(7, .slot 0)] none [],
    .need (.n1 (.ext 0) (.slot 8)),
    .need (.n1 (.ext 1) (.slot 8)),
    .asg 4 (.n1 (.ext 0) (.slot 8))])
  (.seq
  (.reg [.eff (some 12) (.call { callee := .value (.func 10), args := #[.tmp 11], argTypes := #[9] }) 25 [(11, .slot 4)] none [],
    .need (.n1 (.ext 0) (.slot 12)),
    .need (.n1 (.ext 1) (.slot 12)),
    .asg 2 (.n1 (.ext 0) (.slot 12)),
    .asg 3 (.n1 (.ext 1) (.slot 12))])
  .ret)))
theorem k12 : fnOK Tryd.prog 4381 [] [.tmp 2, .tmp 3] 1 Tryd.f12 = some h12 := by kernel_rfl
theorem c12 : callable Tryd.prog 12 = true := by kernel_rfl
theorem q12 {args : List Value} (ha : args.length = 1) {w : World} {next : Value → World → Prop} {QP : List PanicEntry → World → Prop} (H : hw Tryd.prog noPanic h12 (endV [.tmp 2, .tmp 3] next) (σ0 args) w) : callK Tryd.prog 12 args w next QP := fn_rule Tryd.func12 mixed k12 ha H
theorem r12 {args : List Value} (ha : args.length = 1) {w : World} {next : Value → World → Prop} {QP : List PanicEntry → World → Prop} (H : hw Tryd.prog noPanic h12 (endV [.tmp 2, .tmp 3] next) (σ0 args) w) : callvK Tryd.prog (.func (.func 12) #[] #[]) args w next QP := callf c12 (q12 ha H)

/- missive/msgid.Valid -/
def h13_1 : HC :=
  (.seq
  (.reg [.eff (some 30) (.call { callee := .value (.func 27), args := #[.tmp 29, .func 28], argTypes := #[9, 44] }) 4 [(29, .slot 0)] none [],
    .need (.n1 .bnot (.slot 30)),
    .asg 2 (.n1 .bnot (.slot 30))])
  .ret)
def h13 : HC :=
  (.seq
  (.reg [.asg 2 (.lit (.bool false))])
  (.seq
  (.seq
  (.reg [.need (.n1 .lens (.slot 0)),
    .need (.n2 (.bin .lss) (.n1 .lens (.slot 0)) (.lit (.int .i64 3))),
    .need (.gif (.n2 (.bin .lss) (.n1 .lens (.slot 0)) (.lit (.int .i64 3))) false (.n1 .lens (.slot 0))),
    .need (.gif (.n2 (.bin .lss) (.n1 .lens (.slot 0)) (.lit (.int .i64 3))) false (.n2 (.bin .gtr) (.n1 .lens (.slot 0)) (.lit (.int .i64 250)))),
    .need (.n3 .pick (.n2 (.bin .lss) (.n1 .lens (.slot 0)) (.lit (.int .i64 3))) (.lit (.bool true)) (.n2 (.bin .gtr) (.n1 .lens (.slot 0)) (.lit (.int .i64 250)))),
    .eff (some 13) (.call { callee := .value (.func 26), args := #[.tmp 12, .const (str [64])], argTypes := #[9, 9] }) 3 [(12, .slot 0)] (some (.n3 .pick (.n2 (.bin .lss) (.n1 .lens (.slot 0)) (.lit (.int .i64 3))) (.lit (.bool true)) (.n2 (.bin .gtr) (.n1 .lens (.slot 0)) (.lit (.int .i64 250))), false)) [],
    .need (.gif (.n3 .pick (.n2 (.bin .lss) (.n1 .lens (.slot 0)) (.lit (.int .i64 3))) (.lit (.bool true)) (.n2 (.bin .gtr) (.n1 .lens (.slot 0)) (.lit (.int .i64 250)))) false (.n2 (.bin .neq) (.slot 13) (.lit (.int .i64 1)))),
    .need (.n3 .pick (.n3 .pick (.n2 (.bin .lss) (.n1 .lens (.slot 0)) (.lit (.int .i64 3))) (.lit (.bool true)) (.n2 (.bin .gtr) (.n1 .lens (.slot 0)) (.lit (.int .i64 250)))) (.lit (.bool true)) (.n2 (.bin .neq) (.slot 13) (.lit (.int .i64 1)))),
    .need (.gif (.n3 .pick (.n3 .pick (.n2 (.bin .lss) (.n1 .lens (.slot 0)) (.lit (.int .i64 3))) (.lit (.bool true)) (.n2 (.bin .gtr) (.n1 .lens (.slot 0)) (.lit (.int .i64 250)))) (.lit (.bool true)) (.n2 (.bin .neq) (.slot 13) (.lit (.int .i64 1)))) false (.n2 .idxs (.slot 0) (.lit (.int .i64 0)))),
    .need (.gif (.n3 .pick (.n3 .pick (.n2 (.bin .lss) (.n1 .lens (.slot 0)) (.lit (.int .i64 3))) (.lit (.bool true)) (.n2 (.bin .gtr) (.n1 .lens (.slot 0)) (.lit (.int .i64 250)))) (.lit (.bool true)) (.n2 (.bin .neq) (.slot 13) (.lit (.int .i64 1)))) false (.n2 (.bin .eql) (.n2 .idxs (.slot 0) (.lit (.int .i64 0))) (.lit (.int .u8 64)))),
    .need (.n3 .pick (.n3 .pick (.n3 .pick (.n2 (.bin .lss) (.n1 .lens (.slot 0)) (.lit (.int .i64 3))) (.lit (.bool true)) (.n2 (.bin .gtr) (.n1 .lens (.slot 0)) (.lit (.int .i64 250)))) (.lit (.bool true)) (.n2 (.bin .neq) (.slot 13) (.lit (.int .i64 1)))) (.lit (.bool true)) (.n2 (.bin .eql) (.n2 .idxs (.slot 0) (.lit (.int .i64 0))) (.lit (.int .u8 64)))),
    .need (.gif (.n3 .pick (.n3 .pick (.n3 .pick (.n2 (.bin .lss) (.n1 .lens (.slot 0)) (.lit (.int .i64 3))) (.lit (.bool true)) (.n2 (.bin .gtr) (.n1 .lens (.slot 0)) (.lit (.int .i64 250)))) (.lit (.bool true)) (.n2 (.bin .neq) (.slot 13) (.lit (.int .i64 1)))) (.lit (.bool true)) (.n2 (.bin .eql) (.n2 .idxs (.slot 0) (.lit (.int .i64 0))) (.lit (.int .u8 64)))) false (.n1 .lens (.slot 0))),
    .need (.gif (.n3 .pick (.n3 .pick (.n3 .pick (.n2 (.bin .lss) (.n1 .lens (.slot 0)) (.lit (.int .i64 3))) (.lit (.bool true)) (.n2 (.bin .gtr) (.n1 .lens (.slot 0)) (.lit (.int .i64 250)))) (.lit (.bool true)) (.n2 (.bin .neq) (.slot 13) (.lit (.int .i64 1)))) (.lit (.bool true)) (.n2 (.bin .eql) (.n2 .idxs (.slot 0) (.lit (.int .i64 0))) (.lit (.int .u8 64)))) false (.n2 (.bin .sub) (.n1 .lens (.slot 0)) (.lit (.int .i64 1)))),
    .need (.gif (.n3 .pick (.n3 .pick (.n3 .pick (.n2 (.bin .lss) (.n1 .lens (.slot 0)) (.lit (.int .i64 3))) (.lit (.bool true)) (.n2 (.bin .gtr) (.n1 .lens (.slot 0)) (.lit (.int .i64 250)))) (.lit (.bool true)) (.n2 (.bin .neq) (.slot 13) (.lit (.int .i64 1)))) (.lit (.bool true)) (.n2 (.bin .eql) (.n2 .idxs (.slot 0) (.lit (.int .i64 0))) (.lit (.int .u8 64)))) false (.n2 .idxs (.slot 0) (.n2 (.bin .sub) (.n1 .lens (.slot 0)) (.lit (.int .i64 1))))),
    .need (.gif (.n3 .pick (.n3 .pick (.n3 .pick (.n2 (.bin .lss) (.n1 .lens (.slot 0)) (.lit (.int .i64 3))) (.lit (.bool true)) (.n2 (.bin .gtr) (.n1 .lens (.slot 0)) (.lit (.int .i64 250)))) (.lit (.bool true)) (.n2 (.bin .neq) (.slot 13) (.lit (.int .i64 1)))) (.lit (.bool true)) (.n2 (.bin .eql) (.n2 .idxs (.slot 0) (.lit (.int .i64 0))) (.lit (.int .u8 64)))) false (.n2 (.bin .eql) (.n2 .idxs (.slot 0) (.n2 (.bin .sub) (.n1 .lens (.slot 0)) (.lit (.int .i64 1)))) (.lit (.int .u8 64)))),
    .need (.n3 .pick (.n3 .pick (.n3 .pick (.n3 .pick (.n2 (.bin .lss) (.n1 .lens (.slot 0)) (.lit (.int .i64 3))) (.lit (.bool true)) (.n2 (.bin .gtr) (.n1 .lens (.slot 0)) (.lit (.int .i64 250)))) (.lit (.bool true)) (.n2 (.bin .neq) (.slot 13) (.lit (.int .i64 1)))) (.lit (.bool true)) (.n2 (.bin .eql) (.n2 .idxs (.slot 0) (.lit (.int .i64 0))) (.lit (.int .u8 64)))) (.lit (.bool true)) (.n2 (.bin .eql) (.n2 .idxs (.slot 0) (.n2 (.bin .sub) (.n1 .lens (.slot 0)) (.lit (.int .i64 1)))) (.lit (.int .u8 64)))),
    .asg 28 (.n3 .pick (.n3 .pick (.n3 .pick (.n3 .pick (.n2 (.bin .lss) (.n1 .lens (.slot 0)) (.lit (.int .i64 3))) (.lit (.bool true)) (.n2 (.bin .gtr) (.n1 .lens (.slot 0)) (.lit (.int .i64 250)))) (.lit (.bool true)) (.n2 (.bin .neq) (.slot 13) (.lit (.int .i64 1)))) (.lit (.bool true)) (.n2 (.bin .eql) (.n2 .idxs (.slot 0) (.lit (.int .i64 0))) (.lit (.int .u8 64)))) (.lit (.bool true)) (.n2 (.bin .eql) (.n2 .idxs (.slot 0) (.n2 (.bin .sub) (.n1 .lens (.slot 0)) (.lit (.int .i64 1)))) (.lit (.int .u8 64))))])
  (.cond (.slot 28)
    (.seq
    (.reg [.asg 2 (.lit (.bool false))])
    .ret)
    .skip))
  h13_1))
theorem k13 : fnOK Tryd.prog 1342185477 [] [.tmp 2] 1 Tryd.f13 = some h13 := by kernel_rfl
theorem c13 : callable Tryd.prog 13 = true := by kernel_rfl
theorem q13 {args : List Value} (ha : args.length = 1) {w : World} {next : Value → World → Prop} {QP : List PanicEntry → World → Prop} (H : hw Tryd.prog noPanic h13 (endV [.tmp 2] next) (σ0 args) w) : callK Tryd.prog 13 args w next QP := fn_rule Tryd.func13 mixed k13 ha H
theorem r13 {args : List Value} (ha : args.length = 1) {w : World} {next : Value → World → Prop} {QP : List PanicEntry → World → Prop} (H : hw Tryd.prog noPanic h13 (endV [.tmp 2] next) (σ0 args) w) : callvK Tryd.prog (.func (.func 13) #[] #[]) args w next QP := callf c13 (q13 ha H)

/- missive/missiveref12.Valid -/
def h14_4 : HC :=
  (.seq
  (.reg [.need (.n2 .idxs (.slot 0) (.slot 4)),
    .need (.n2 (.bin .eql) (.n2 .idxs (.slot 0) (.slot 4)) (.lit (.int .u8 64))),
    .asg 54 (.n2 (.bin .eql) (.n2 .idxs (.slot 0) (.slot 4)) (.lit (.int .u8 64)))])
  (.cond (.slot 54)
    (.reg [.asg 3 (.slot 4)])
    .skip))
def h14_5 : HC :=
  (.reg [.need (.n2 (.bin .add) (.slot 4) (.lit (.int .i64 1))),
    .asg 4 (.n2 (.bin .add) (.slot 4) (.lit (.int .i64 1)))])
def h14_3 : HC :=
  (.seq
  (.block 1
    (.seq
    (.seq
    (.reg [.need (.n2 .idxs (.slot 0) (.slot 4)),
      .need (.n2 (.bin .lss) (.n2 .idxs (.slot 0) (.slot 4)) (.lit (.int .u8 33))),
      .need (.gif (.n2 (.bin .lss) (.n2 .idxs (.slot 0) (.slot 4)) (.lit (.int .u8 33))) false (.n2 .idxs (.slot 0) (.slot 4))),
      .need (.gif (.n2 (.bin .lss) (.n2 .idxs (.slot 0) (.slot 4)) (.lit (.int .u8 33))) false (.n2 (.bin .gtr) (.n2 .idxs (.slot 0) (.slot 4)) (.lit (.int .u8 126)))),
      .need (.n3 .pick (.n2 (.bin .lss) (.n2 .idxs (.slot 0) (.slot 4)) (.lit (.int .u8 33))) (.lit (.bool true)) (.n2 (.bin .gtr) (.n2 .idxs (.slot 0) (.slot 4)) (.lit (.int .u8 126)))),
      .need (.gif (.n3 .pick (.n2 (.bin .lss) (.n2 .idxs (.slot 0) (.slot 4)) (.lit (.int .u8 33))) (.lit (.bool true)) (.n2 (.bin .gtr) (.n2 .idxs (.slot 0) (.slot 4)) (.lit (.int .u8 126)))) false (.n2 .idxs (.slot 0) (.slot 4))),
      .need (.gif (.n3 .pick (.n2 (.bin .lss) (.n2 .idxs (.slot 0) (.slot 4)) (.lit (.int .u8 33))) (.lit (.bool true)) (.n2 (.bin .gtr) (.n2 .idxs (.slot 0) (.slot 4)) (.lit (.int .u8 126)))) false (.n2 (.bin .eql) (.n2 .idxs (.slot 0) (.slot 4)) (.lit (.int .u8 60)))),
      .need (.n3 .pick (.n3 .pick (.n2 (.bin .lss) (.n2 .idxs (.slot 0) (.slot 4)) (.lit (.int .u8 33))) (.lit (.bool true)) (.n2 (.bin .gtr) (.n2 .idxs (.slot 0) (.slot 4)) (.lit (.int .u8 126)))) (.lit (.bool true)) (.n2 (.bin .eql) (.n2 .idxs (.slot 0) (.slot 4)) (.lit (.int .u8 60)))),
      .need (.gif (.n3 .pick (.n3 .pick (.n2 (.bin .lss) (.n2 .idxs (.slot 0) (.slot 4)) (.lit (.int .u8 33))) (.lit (.bool true)) (.n2 (.bin .gtr) (.n2 .idxs (.slot 0) (.slot 4)) (.lit (.int .u8 126)))) (.lit (.bool true)) (.n2 (.bin .eql) (.n2 .idxs (.slot 0) (.slot 4)) (.lit (.int .u8 60)))) false (.n2 .idxs (.slot 0) (.slot 4))),
      .need (.gif (.n3 .pick (.n3 .pick (.n2 (.bin .lss) (.n2 .idxs (.slot 0) (.slot 4)) (.lit (.int .u8 33))) (.lit (.bool true)) (.n2 (.bin .gtr) (.n2 .idxs (.slot 0) (.slot 4)) (.lit (.int .u8 126)))) (.lit (.bool true)) (.n2 (.bin .eql) (.n2 .idxs (.slot 0) (.slot 4)) (.lit (.int .u8 60)))) false (.n2 (.bin .eql) (.n2 .idxs (.slot 0) (.slot 4)) (.lit (.int .u8 62)))),
      .need (.n3 .pick (.n3 .pick (.n3 .pick (.n2 (.bin .lss) (.n2 .idxs (.slot 0) (.slot 4)) (.lit (.int .u8 33))) (.lit (.bool true)) (.n2 (.bin .gtr) (.n2 .idxs (.slot 0) (.slot 4)) (.lit (.int .u8 126)))) (.lit (.bool true)) (.n2 (.bin .eql) (.n2 .idxs (.slot 0) (.slot 4)) (.lit (.int .u8 60)))) (.lit (.bool true)) (.n2 (.bin .eql) (.n2 .idxs (.slot 0) (.slot 4)) (.lit (.int .u8 62)))),
      .need (.gif (.n3 .pick (.n3 .pick (.n3 .pick (.n2 (.bin .lss) (.n2 .idxs (.slot 0) (.slot 4)) (.lit (.int .u8 33))) (.lit (.bool true)) (.n2 (.bin .gtr) (.n2 .idxs (.slot 0) (.slot 4)) (.lit (.int .u8 126)))) (.lit (.bool true)) (.n2 (.bin .eql) (.n2 .idxs (.slot 0) (.slot 4)) (.lit (.int .u8 60)))) (.lit (.bool true)) (.n2 (.bin .eql) (.n2 .idxs (.slot 0) (.slot 4)) (.lit (.int .u8 62)))) false (.n2 .idxs (.slot 0) (.slot 4))),
      .need (.gif (.n3 .pick (.n3 .pick (.n3 .pick (.n2 (.bin .lss) (.n2 .idxs (.slot 0) (.slot 4)) (.lit (.int .u8 33))) (.lit (.bool true)) (.n2 (.bin .gtr) (.n2 .idxs (.slot 0) (.slot 4)) (.lit (.int .u8 126)))) (.lit (.bool true)) (.n2 (.bin .eql) (.n2 .idxs (.slot 0) (.slot 4)) (.lit (.int .u8 60)))) (.lit (.bool true)) (.n2 (.bin .eql) (.n2 .idxs (.slot 0) (.slot 4)) (.lit (.int .u8 62)))) false (.n2 (.bin .eql) (.n2 .idxs (.slot 0) (.slot 4)) (.lit (.int .u8 64)))),
      .need (.gif (.gif (.n3 .pick (.n3 .pick (.n3 .pick (.n2 (.bin .lss) (.n2 .idxs (.slot 0) (.slot 4)) (.lit (.int .u8 33))) (.lit (.bool true)) (.n2 (.bin .gtr) (.n2 .idxs (.slot 0) (.slot 4)) (.lit (.int .u8 126)))) (.lit (.bool true)) (.n2 (.bin .eql) (.n2 .idxs (.slot 0) (.slot 4)) (.lit (.int .u8 60)))) (.lit (.bool true)) (.n2 (.bin .eql) (.n2 .idxs (.slot 0) (.slot 4)) (.lit (.int .u8 62)))) false (.n2 (.bin .eql) (.n2 .idxs (.slot 0) (.slot 4)) (.lit (.int .u8 64)))) true (.n2 (.bin .geq) (.slot 3) (.lit (.int .i64 0)))),
      .need (.gif (.n3 .pick (.n3 .pick (.n3 .pick (.n2 (.bin .lss) (.n2 .idxs (.slot 0) (.slot 4)) (.lit (.int .u8 33))) (.lit (.bool true)) (.n2 (.bin .gtr) (.n2 .idxs (.slot 0) (.slot 4)) (.lit (.int .u8 126)))) (.lit (.bool true)) (.n2 (.bin .eql) (.n2 .idxs (.slot 0) (.slot 4)) (.lit (.int .u8 60)))) (.lit (.bool true)) (.n2 (.bin .eql) (.n2 .idxs (.slot 0) (.slot 4)) (.lit (.int .u8 62)))) false (.n3 .pick (.n2 (.bin .eql) (.n2 .idxs (.slot 0) (.slot 4)) (.lit (.int .u8 64))) (.n2 (.bin .geq) (.slot 3) (.lit (.int .i64 0))) (.lit (.bool false)))),
      .need (.n3 .pick (.n3 .pick (.n3 .pick (.n3 .pick (.n2 (.bin .lss) (.n2 .idxs (.slot 0) (.slot 4)) (.lit (.int .u8 33))) (.lit (.bool true)) (.n2 (.bin .gtr) (.n2 .idxs (.slot 0) (.slot 4)) (.lit (.int .u8 126)))) (.lit (.bool true)) (.n2 (.bin .eql) (.n2 .idxs (.slot 0) (.slot 4)) (.lit (.int .u8 60)))) (.lit (.bool true)) (.n2 (.bin .eql) (.n2 .idxs (.slot 0) (.slot 4)) (.lit (.int .u8 62)))) (.lit (.bool true)) (.n3 .pick (.n2 (.bin .eql) (.n2 .idxs (.slot 0) (.slot 4)) (.lit (.int .u8 64))) (.n2 (.bin .geq) (.slot 3) (.lit (.int .i64 0))) (.lit (.bool false)))),
      .asg 50 (.n3 .pick (.n3 .pick (.n3 .pick (.n3 .pick (.n2 (.bin .lss) (.n2 .idxs (.slot 0) (.slot 4)) (.lit (.int .u8 33))) (.lit (.bool true)) (.n2 (.bin .gtr) (.n2 .idxs (.slot 0) (.slot 4)) (.lit (.int .u8 126)))) (.lit (.bool true)) (.n2 (.bin .eql) (.n2 .idxs (.slot 0) (.slot 4)) (.lit (.int .u8 60)))) (.lit (.bool true)) (.n2 (.bin .eql) (.n2 .idxs (.slot 0) (.slot 4)) (.lit (.int .u8 62)))) (.lit (.bool true)) (.n3 .pick (.n2 (.bin .eql) (.n2 .idxs (.slot 0) (.slot 4)) (.lit (.int .u8 64))) (.n2 (.bin .geq) (.slot 3) (.lit (.int .i64 0))) (.lit (.bool false))))])
    (.cond (.slot 50)
      (.seq
      (.reg [.asg 2 (.lit (.bool false))])
      .ret)
      .skip))
    h14_4))
  h14_5)
def h14_2 : HC :=
  (.seq
  (.seq
  (.reg [.need (.n1 .lens (.slot 0)),
    .need (.n2 (.bin .lss) (.slot 4) (.n1 .lens (.slot 0))),
    .asg 16 (.n2 (.bin .lss) (.slot 4) (.n1 .lens (.slot 0)))])
  (.cond (.slot 16)
    .skip
    (.exit 0)))
  h14_3)
def h14_6 : HC :=
  (.seq
  (.reg [.need (.n2 (.bin .gtr) (.slot 3) (.lit (.int .i64 0))),
    .need (.gif (.n2 (.bin .gtr) (.slot 3) (.lit (.int .i64 0))) true (.n1 .lens (.slot 0))),
    .need (.gif (.n2 (.bin .gtr) (.slot 3) (.lit (.int .i64 0))) true (.n2 (.bin .sub) (.n1 .lens (.slot 0)) (.lit (.int .i64 1)))),
    .need (.gif (.n2 (.bin .gtr) (.slot 3) (.lit (.int .i64 0))) true (.n2 (.bin .lss) (.slot 3) (.n2 (.bin .sub) (.n1 .lens (.slot 0)) (.lit (.int .i64 1))))),
    .need (.n3 .pick (.n2 (.bin .gtr) (.slot 3) (.lit (.int .i64 0))) (.n2 (.bin .lss) (.slot 3) (.n2 (.bin .sub) (.n1 .lens (.slot 0)) (.lit (.int .i64 1)))) (.lit (.bool false))),
    .asg 2 (.n3 .pick (.n2 (.bin .gtr) (.slot 3) (.lit (.int .i64 0))) (.n2 (.bin .lss) (.slot 3) (.n2 (.bin .sub) (.n1 .lens (.slot 0)) (.lit (.int .i64 1)))) (.lit (.bool false)))])
  .ret)
def h14_1 : HC :=
  (.seq
  (.reg [.asg 3 (.lit (.int .i64 (-1)))])
  (.seq
  (.seq
  (.reg [.asg 4 (.lit (.int .i64 0))])
  (.block 0
    (.loop
      h14_2)))
  h14_6))
def h14 : HC :=
  (.seq
  (.reg [.asg 2 (.lit (.bool false))])
  (.seq
  (.seq
  (.reg [.need (.n1 .lens (.slot 0)),
    .need (.n2 (.bin .lss) (.n1 .lens (.slot 0)) (.lit (.int .i64 3))),
    .need (.gif (.n2 (.bin .lss) (.n1 .lens (.slot 0)) (.lit (.int .i64 3))) false (.n1 .lens (.slot 0))),
    .need (.gif (.n2 (.bin .lss) (.n1 .lens (.slot 0)) (.lit (.int .i64 3))) false (.n2 (.bin .gtr) (.n1 .lens (.slot 0)) (.lit (.int .i64 250)))),
    .need (.n3 .pick (.n2 (.bin .lss) (.n1 .lens (.slot 0)) (.lit (.int .i64 3))) (.lit (.bool true)) (.n2 (.bin .gtr) (.n1 .lens (.slot 0)) (.lit (.int .i64 250)))),
    .asg 12 (.n3 .pick (.n2 (.bin .lss) (.n1 .lens (.slot 0)) (.lit (.int .i64 3))) (.lit (.bool true)) (.n2 (.bin .gtr) (.n1 .lens (.slot 0)) (.lit (.int .i64 250))))])
  (.cond (.slot 12)
    (.seq
    (.reg [.asg 2 (.lit (.bool false))])
    .ret)
    .skip))
  h14_1))
theorem k14 : fnOK Tryd.prog 19140298416394269 [] [.tmp 2] 1 Tryd.f14 = some h14 := by kernel_rfl
theorem c14 : callable Tryd.prog 14 = true := by kernel_rfl
theorem q14 {args : List Value} (ha : args.length = 1) {w : World} {next : Value → World → Prop} {QP : List PanicEntry → World → Prop} (H : hw Tryd.prog noPanic h14 (endV [.tmp 2] next) (σ0 args) w) : callK Tryd.prog 14 args w next QP := fn_rule Tryd.func14 mixed k14 ha H
theorem r14 {args : List Value} (ha : args.length = 1) {w : World} {next : Value → World → Prop} {QP : List PanicEntry → World → Prop} (H : hw Tryd.prog noPanic h14 (endV [.tmp 2] next) (σ0 args) w) : callvK Tryd.prog (.func (.func 14) #[] #[]) args w next QP := callf c14 (q14 ha H)

/- missive/msgid.Make -/
def h15 : HC :=
  (.seq
  (.reg [.asg 2 (.lit (str []))])
  (.seq
  (.reg [.eff (some 4) (.makeSlice 45 (.const (.int .i64 10)) (.const (.int .i64 10))) 45 [] none [],
    .asg 3 (.slot 4)])
  (.seq
  (.reg [.eff (some 7) (.call { callee := .builtin .copy, args := #[.tmp 5, .tmp 6], argTypes := #[45, 9] }) 3 [(5, .slot 3), (6, .slot 0)] none []])
  (.seq
  (.reg [.eff (some 9) (.convert 45 9 (.tmp 8)) 9 [(8, .slot 3)] none [],
    .eff (some 10) (.call { callee := .value (.func 29), args := #[.tmp 9], argTypes := #[9] }) 9 [(9, .slot 9)] none [],
    .need (.n2 (.sbin .add) (.slot 10) (.lit (str [64]))),
    .need (.n2 (.sbin .add) (.n2 (.sbin .add) (.slot 10) (.lit (str [64]))) (.lit (str [108, 105, 115, 116, 115, 46, 101, 120, 97, 109, 112, 108, 101]))),
    .asg 2 (.n2 (.sbin .add) (.n2 (.sbin .add) (.slot 10) (.lit (str [64]))) (.lit (str [108, 105, 115, 116, 115, 46, 101, 120, 97, 109, 112, 108, 101])))])
  .ret))))
theorem k15 : fnOK Tryd.prog 1693 [] [.tmp 2] 1 Tryd.f15 = some h15 := by kernel_rfl
theorem c15 : callable Tryd.prog 15 = true := by kernel_rfl
theorem q15 {args : List Value} (ha : args.length = 1) {w : World} {next : Value → World → Prop} {QP : List PanicEntry → World → Prop} (H : hw Tryd.prog noPanic h15 (endV [.tmp 2] next) (σ0 args) w) : callK Tryd.prog 15 args w next QP := fn_rule Tryd.func15 mixed k15 ha H
theorem r15 {args : List Value} (ha : args.length = 1) {w : World} {next : Value → World → Prop} {QP : List PanicEntry → World → Prop} (H : hw Tryd.prog noPanic h15 (endV [.tmp 2] next) (σ0 args) w) : callvK Tryd.prog (.func (.func 15) #[] #[]) args w next QP := callf c15 (q15 ha H)

/- missive/missiveref12.Make -/
def h16 : HC :=
  (.seq
  (.reg [.asg 2 (.lit (str []))])
  (.seq
  (.reg [.need (.n2 (.sbin .add) (.slot 0) (.lit (str [0, 0, 0, 0, 0, 0, 0, 0, 0, 0]))),
    .asg 3 (.n2 (.sbin .add) (.slot 0) (.lit (str [0, 0, 0, 0, 0, 0, 0, 0, 0, 0])))])
  (.seq
  (.reg [.need (.n3 (.sls false true) (.slot 3) (.lit (.tuple #[])) (.lit (.int .i64 10))),
    .eff (some 8) (.call { callee := .value (.func 30), args := #[.tmp 7], argTypes := #[9] }) 9 [(7, .n3 (.sls false true) (.slot 3) (.lit (.tuple #[])) (.lit (.int .i64 10)))] none [],
    .need (.n2 (.sbin .add) (.slot 8) (.lit (str [64, 108, 105, 115, 116, 115, 46, 101, 120, 97, 109, 112, 108, 101]))),
    .asg 2 (.n2 (.sbin .add) (.slot 8) (.lit (str [64, 108, 105, 115, 116, 115, 46, 101, 120, 97, 109, 112, 108, 101])))])
  .ret)))
theorem k16 : fnOK Tryd.prog 269 [] [.tmp 2] 1 Tryd.f16 = some h16 := by kernel_rfl
theorem c16 : callable Tryd.prog 16 = true := by kernel_rfl
theorem q16 {args : List Value} (ha : args.length = 1) {w : World} {next : Value → World → Prop} {QP : List PanicEntry → World → Prop} (H : hw Tryd.prog noPanic h16 (endV [.tmp 2] next) (σ0 args) w) : callK Tryd.prog 16 args w next QP := fn_rule Tryd.func16 mixed k16 ha H
theorem r16 {args : List Value} (ha : args.length = 1) {w : World} {next : Value → World → Prop} {QP : List PanicEntry → World → Prop} (H : hw Tryd.prog noPanic h16 (endV [.tmp 2] next) (σ0 args) w) : callvK Tryd.prog (.func (.func 16) #[] #[]) args w next QP := callf c16 (q16 ha H)

/- missive/missiveref09.SameTexts -/
def h17_4 : HC :=
  (.reg [.need (.n2 (.bin .add) (.slot 5) (.lit (.int .i64 1))),
    .asg 5 (.n2 (.bin .add) (.slot 5) (.lit (.int .i64 1)))])
def h17_3 : HC :=
  (.seq
  (.block 1
    (.seq
    (.draw [.need (.n2 (.iaddr 1) (.slot 0) (.slot 5)),
      .need (.n1 .ld (.n2 (.iaddr 1) (.slot 0) (.slot 5))),
      .need (.n2 (.iaddr 1) (.slot 1) (.slot 5)),
      .need (.n1 .ld (.n2 (.iaddr 1) (.slot 1) (.slot 5))),
      .need (.n2 (.sbin .neq) (.n1 .ld (.n2 (.iaddr 1) (.slot 0) (.slot 5))) (.n1 .ld (.n2 (.iaddr 1) (.slot 1) (.slot 5)))),
      .asg 25 (.n2 (.sbin .neq) (.n1 .ld (.n2 (.iaddr 1) (.slot 0) (.slot 5))) (.n1 .ld (.n2 (.iaddr 1) (.slot 1) (.slot 5))))])
    (.cond (.slot 25)
      (.seq
      (.reg [.asg 4 (.lit (.bool false))])
      .ret)
      .skip)))
  h17_4)
def h17_2 : HC :=
  (.seq
  (.seq
  (.reg [.need (.n1 .lensl (.slot 0)),
    .need (.n2 (.bin .lss) (.slot 5) (.n1 .lensl (.slot 0))),
    .asg 14 (.n2 (.bin .lss) (.slot 5) (.n1 .lensl (.slot 0)))])
  (.cond (.slot 14)
    .skip
    (.exit 0)))
  h17_3)
def h17_5 : HC :=
  (.seq
  (.reg [.asg 4 (.lit (.bool true))])
  .ret)
def h17_1 : HC :=
  (.seq
  (.seq
  (.reg [.asg 5 (.lit (.int .i64 0))])
  (.block 0
    (.loop
      h17_2)))
  h17_5)
def h17 : HC :=
  (.seq
  (.reg [.asg 4 (.lit (.bool false))])
  (.seq
  (.seq
  (.reg [.need (.n1 .lensl (.slot 0)),
    .need (.n1 .lensl (.slot 1)),
    .need (.n2 (.bin .neq) (.n1 .lensl (.slot 0)) (.n1 .lensl (.slot 1))),
    .asg 10 (.n2 (.bin .neq) (.n1 .lensl (.slot 0)) (.n1 .lensl (.slot 1)))])
  (.cond (.slot 10)
    (.seq
    (.reg [.asg 4 (.lit (.bool false))])
    .ret)
    .skip))
  h17_1))
theorem k17 : fnOK Tryd.prog 33571891 [⟨6, [0, 0, 3, 7, 0, 0, 48, 112, 255], [(0, []), (1, []), (2, []), (3, []), (4, []), (5, []), (6, []), (7, []), (8, [])], none⟩] [.tmp 4] 2 Tryd.f17 = some h17 := by kernel_rfl
theorem c17 : callable Tryd.prog 17 = true := by kernel_rfl
theorem q17 {args : List Value} (ha : args.length = 2) {w : World} {next : Value → World → Prop} {QP : List PanicEntry → World → Prop} (H : hw Tryd.prog noPanic h17 (endV [.tmp 4] next) (σ0 args) w) : callK Tryd.prog 17 args w next QP := fn_rule Tryd.func17 mixed k17 ha H
theorem r17 {args : List Value} (ha : args.length = 2) {w : World} {next : Value → World → Prop} {QP : List PanicEntry → World → Prop} (H : hw Tryd.prog noPanic h17 (endV [.tmp 4] next) (σ0 args) w) : callvK Tryd.prog (.func (.func 17) #[] #[]) args w next QP := callf c17 (q17 ha H)

/- missive/msgid.Ids -/
def h18_2 : HC :=
  (.seq
  (.reg [.asg 0 (.slot 5)])
  (.seq
  (.reg [.eff (some 19) (.call { callee := .value (.func 32), args := #[.tmp 18, .const (str [60, 62])], argTypes := #[9, 9] }) 3 [(18, .slot 5)] none [],
    .asg 7 (.slot 19)])
  (.seq
  (.reg [.need (.n2 (.bin .geq) (.slot 7) (.lit (.int .i64 0))),
    .need (.gif (.n2 (.bin .geq) (.slot 7) (.lit (.int .i64 0))) true (.n2 .idxs (.slot 5) (.slot 7))),
    .need (.gif (.n2 (.bin .geq) (.slot 7) (.lit (.int .i64 0))) true (.n2 (.bin .eql) (.n2 .idxs (.slot 5) (.slot 7)) (.lit (.int .u8 62)))),
    .need (.n3 .pick (.n2 (.bin .geq) (.slot 7) (.lit (.int .i64 0))) (.n2 (.bin .eql) (.n2 .idxs (.slot 5) (.slot 7)) (.lit (.int .u8 62))) (.lit (.bool false))),
    .need (.gif (.n3 .pick (.n2 (.bin .geq) (.slot 7) (.lit (.int .i64 0))) (.n2 (.bin .eql) (.n2 .idxs (.slot 5) (.slot 7)) (.lit (.int .u8 62))) (.lit (.bool false))) true (.n3 (.sls false true) (.slot 5) (.lit (.tuple #[])) (.slot 7))),
    .eff (some 32) (.call { callee := .value (.func 13), args := #[.tmp 31], argTypes := #[9] }) 4 [(31, .n3 (.sls false true) (.slot 5) (.lit (.tuple #[])) (.slot 7))] (some (.n3 .pick (.n2 (.bin .geq) (.slot 7) (.lit (.int .i64 0))) (.n2 (.bin .eql) (.n2 .idxs (.slot 5) (.slot 7)) (.lit (.int .u8 62))) (.lit (.bool false)), true)) [],
    .need (.n3 .pick (.n3 .pick (.n2 (.bin .geq) (.slot 7) (.lit (.int .i64 0))) (.n2 (.bin .eql) (.n2 .idxs (.slot 5) (.slot 7)) (.lit (.int .u8 62))) (.lit (.bool false))) (.slot 32) (.lit (.bool false))),
    .asg 33 (.n3 .pick (.n3 .pick (.n2 (.bin .geq) (.slot 7) (.lit (.int .i64 0))) (.n2 (.bin .eql) (.n2 .idxs (.slot 5) (.slot 7)) (.lit (.int .u8 62))) (.lit (.bool false))) (.slot 32) (.lit (.bool false)))])
  (.cond (.slot 33)
    (.reg [.need (.n3 (.sls false true) (.slot 5) (.lit (.tuple #[])) (.slot 7)),
      .eff (some 38) (.buildSlice 31 1 #[(0, .tmp 37)]) 31 [(37, .n3 (.sls false true) (.slot 5) (.lit (.tuple #[])) (.slot 7))] none [],
      .eff (some 39) (.call { callee := .builtin .append, args := #[.tmp 34, .tmp 38], argTypes := #[31, 31] }) 31 [(34, .slot 3), (38, .slot 38)] none [],
      .asg 3 (.slot 39)])
    .skip))))
def h18_1 : HC :=
  (.block 1
    (.seq
    (.reg [.eff (some 10) (.call { callee := .value (.func 31), args := #[.tmp 9, .const (str [60])], argTypes := #[9, 9] }) 46 [(9, .slot 0)] none [],
      .need (.n1 (.ext 0) (.slot 10)),
      .need (.n1 (.ext 1) (.slot 10)),
      .need (.n1 (.ext 2) (.slot 10)),
      .asg 5 (.n1 (.ext 1) (.slot 10)),
      .asg 6 (.n1 (.ext 2) (.slot 10))])
    (.seq
    (.seq
    (.reg [.need (.n1 .bnot (.slot 6)),
      .asg 15 (.n1 .bnot (.slot 6))])
    (.cond (.slot 15)
      (.seq
      (.reg [.asg 2 (.slot 3)])
      .ret)
      .skip))
    h18_2)))
def h18 : HC :=
  (.seq
  (.reg [.asg 2 (.lit (.slice none 0 0))])
  (.seq
  (.reg [.asg 3 (.lit (.slice none 0 0))])
  (.block 0
    (.loop
      h18_1))))
theorem k18 : fnOK Tryd.prog 837519181037 [] [.tmp 2] 1 Tryd.f18 = some h18 := by kernel_rfl
theorem c18 : callable Tryd.prog 18 = true := by kernel_rfl
theorem q18 {args : List Value} (ha : args.length = 1) {w : World} {next : Value → World → Prop} {QP : List PanicEntry → World → Prop} (H : hw Tryd.prog noPanic h18 (endV [.tmp 2] next) (σ0 args) w) : callK Tryd.prog 18 args w next QP := fn_rule Tryd.func18 mixed k18 ha H
theorem r18 {args : List Value} (ha : args.length = 1) {w : World} {next : Value → World → Prop} {QP : List PanicEntry → World → Prop} (H : hw Tryd.prog noPanic h18 (endV [.tmp 2] next) (σ0 args) w) : callvK Tryd.prog (.func (.func 18) #[] #[]) args w next QP := callf c18 (q18 ha H)

/- missive/missiveref12.Ids -/
def h19_4 : HC :=
  (.reg [.asg 4 (.lit (.int .i64 (-1)))])
def h19_3 : HC :=
  (.seq
  (.reg [.need (.n2 .idxs (.slot 0) (.slot 5)),
    .need (.n2 (.bin .eql) (.n2 .idxs (.slot 0) (.slot 5)) (.lit (.int .u8 62))),
    .need (.gif (.n2 (.bin .eql) (.n2 .idxs (.slot 0) (.slot 5)) (.lit (.int .u8 62))) true (.n2 (.bin .geq) (.slot 4) (.lit (.int .i64 0)))),
    .need (.n3 .pick (.n2 (.bin .eql) (.n2 .idxs (.slot 0) (.slot 5)) (.lit (.int .u8 62))) (.n2 (.bin .geq) (.slot 4) (.lit (.int .i64 0))) (.lit (.bool false))),
    .asg 25 (.n3 .pick (.n2 (.bin .eql) (.n2 .idxs (.slot 0) (.slot 5)) (.lit (.int .u8 62))) (.n2 (.bin .geq) (.slot 4) (.lit (.int .i64 0))) (.lit (.bool false)))])
  (.cond (.slot 25)
    (.seq
    (.reg [.need (.n2 (.bin .add) (.slot 4) (.lit (.int .i64 1))),
      .need (.n3 (.sls true true) (.slot 0) (.n2 (.bin .add) (.slot 4) (.lit (.int .i64 1))) (.slot 5)),
      .asg 6 (.n3 (.sls true true) (.slot 0) (.n2 (.bin .add) (.slot 4) (.lit (.int .i64 1))) (.slot 5))])
    (.seq
    (.seq
    (.reg [.eff (some 32) (.call { callee := .value (.func 14), args := #[.tmp 31], argTypes := #[9] }) 4 [(31, .slot 6)] none []])
    (.cond (.slot 32)
      (.reg [.eff (some 35) (.buildSlice 31 1 #[(0, .tmp 34)]) 31 [(34, .slot 6)] none [],
        .eff (some 36) (.call { callee := .builtin .append, args := #[.tmp 33, .tmp 35], argTypes := #[31, 31] }) 31 [(33, .slot 3), (35, .slot 35)] none [],
        .asg 3 (.slot 36)])
      .skip))
    h19_4))
    .skip))
def h19_5 : HC :=
  (.reg [.need (.n2 (.bin .add) (.slot 5) (.lit (.int .i64 1))),
    .asg 5 (.n2 (.bin .add) (.slot 5) (.lit (.int .i64 1)))])
def h19_2 : HC :=
  (.seq
  (.block 1
    (.seq
    (.seq
    (.reg [.need (.n2 .idxs (.slot 0) (.slot 5)),
      .need (.n2 (.bin .eql) (.n2 .idxs (.slot 0) (.slot 5)) (.lit (.int .u8 60))),
      .asg 16 (.n2 (.bin .eql) (.n2 .idxs (.slot 0) (.slot 5)) (.lit (.int .u8 60)))])
    (.cond (.slot 16)
      (.reg [.asg 4 (.slot 5)])
      .skip))
    h19_3))
  h19_5)
def h19_1 : HC :=
  (.seq
  (.seq
  (.reg [.need (.n1 .lens (.slot 0)),
    .need (.n2 (.bin .lss) (.slot 5) (.n1 .lens (.slot 0))),
    .asg 10 (.n2 (.bin .lss) (.slot 5) (.n1 .lens (.slot 0)))])
  (.cond (.slot 10)
    .skip
    (.exit 0)))
  h19_2)
def h19_6 : HC :=
  (.seq
  (.reg [.asg 2 (.slot 3)])
  .ret)
def h19 : HC :=
  (.seq
  (.reg [.asg 2 (.lit (.slice none 0 0))])
  (.seq
  (.reg [.asg 3 (.lit (.slice none 0 0))])
  (.seq
  (.reg [.asg 4 (.lit (.int .i64 (-1)))])
  (.seq
  (.seq
  (.reg [.asg 5 (.lit (.int .i64 0))])
  (.block 0
    (.loop
      h19_1)))
  h19_6))))
theorem k19 : fnOK Tryd.prog 107407803517 [] [.tmp 2] 1 Tryd.f19 = some h19 := by kernel_rfl
theorem c19 : callable Tryd.prog 19 = true := by kernel_rfl
theorem q19 {args : List Value} (ha : args.length = 1) {w : World} {next : Value → World → Prop} {QP : List PanicEntry → World → Prop} (H : hw Tryd.prog noPanic h19 (endV [.tmp 2] next) (σ0 args) w) : callK Tryd.prog 19 args w next QP := fn_rule Tryd.func19 mixed k19 ha H
theorem r19 {args : List Value} (ha : args.length = 1) {w : World} {next : Value → World → Prop} {QP : List PanicEntry → World → Prop} (H : hw Tryd.prog noPanic h19 (endV [.tmp 2] next) (σ0 args) w) : callvK Tryd.prog (.func (.func 19) #[] #[]) args w next QP := callf c19 (q19 ha H)

/- missive/missiveref12.Refs -/
def h21_4 : HC :=
  (.reg [.need (.n2 (.bin .add) (.slot 10) (.lit (.int .i64 1))),
    .asg 10 (.n2 (.bin .add) (.slot 10) (.lit (.int .i64 1)))])
def h21_3 : HC :=
  (.seq
  (.block 1
    (.reg [.need (.n2 (.iaddr 1) (.slot 7) (.slot 10)),
      .need (.n1 .ld (.n2 (.iaddr 1) (.slot 7) (.slot 10))),
      .eff (some 40) (.buildSlice 31 1 #[(0, .tmp 39)]) 31 [(39, .n1 .ld (.n2 (.iaddr 1) (.slot 7) (.slot 10)))] none [],
      .eff (some 41) (.call { callee := .builtin .append, args := #[.tmp 35, .tmp 40], argTypes := #[31, 31] }) 31 [(35, .slot 9), (40, .slot 40)] none [],
      .asg 9 (.slot 41)]))
  h21_4)
def h21_2 : HC :=
  (.seq
  (.seq
  (.reg [.need (.n2 (.bin .add) (.slot 10) (.lit (.int .i64 1))),
    .need (.n1 .lensl (.slot 7)),
    .need (.n2 (.bin .lss) (.n2 (.bin .add) (.slot 10) (.lit (.int .i64 1))) (.n1 .lensl (.slot 7))),
    .asg 32 (.n2 (.bin .lss) (.n2 (.bin .add) (.slot 10) (.lit (.int .i64 1))) (.n1 .lensl (.slot 7)))])
  (.cond (.slot 32)
    .skip
    (.exit 0)))
  h21_3)
def h21_8 : HC :=
  (.reg [.need (.n2 (.bin .add) (.slot 11) (.lit (.int .i64 1))),
    .asg 11 (.n2 (.bin .add) (.slot 11) (.lit (.int .i64 1)))])
def h21_7 : HC :=
  (.seq
  (.block 3
    (.seq
    (.reg [.need (.n2 (.iaddr 1) (.slot 8) (.slot 11)),
      .need (.n1 .ld (.n2 (.iaddr 1) (.slot 8) (.slot 11))),
      .eff (some 53) (.call { callee := .value (.func 23), args := #[.tmp 48, .tmp 52], argTypes := #[31, 9] }) 4 [(48, .slot 7), (52, .n1 .ld (.n2 (.iaddr 1) (.slot 8) (.slot 11)))] none [],
      .need (.n1 .bnot (.slot 53)),
      .asg 54 (.n1 .bnot (.slot 53))])
    (.cond (.slot 54)
      (.reg [.need (.n2 (.iaddr 1) (.slot 8) (.slot 11)),
        .need (.n1 .ld (.n2 (.iaddr 1) (.slot 8) (.slot 11))),
        .eff (some 60) (.buildSlice 31 1 #[(0, .tmp 59)]) 31 [(59, .n1 .ld (.n2 (.iaddr 1) (.slot 8) (.slot 11)))] none [],
        .eff (some 61) (.call { callee := .builtin .append, args := #[.tmp 55, .tmp 60], argTypes := #[31, 31] }) 31 [(55, .slot 9), (60, .slot 60)] none [],
        .asg 9 (.slot 61)])
      .skip)))
  h21_8)
def h21_6 : HC :=
  (.seq
  (.seq
  (.reg [.need (.n1 .lensl (.slot 8)),
    .need (.n2 (.bin .lss) (.slot 11) (.n1 .lensl (.slot 8))),
    .asg 45 (.n2 (.bin .lss) (.slot 11) (.n1 .lensl (.slot 8)))])
  (.cond (.slot 45)
    .skip
    (.exit 2)))
  h21_7)
def h21_13 : HC :=
  (.reg [.need (.n2 (.bin .add) (.slot 13) (.lit (.int .i64 1))),
    .asg 13 (.n2 (.bin .add) (.slot 13) (.lit (.int .i64 1)))])
def h21_12 : HC :=
  (.seq
  (.block 5
    (.seq
    (.draw [.need (.n2 (.bin .add) (.slot 13) (.lit (.int .i64 1))),
      .need (.n3 (.slv 1 true false) (.slot 9) (.n2 (.bin .add) (.slot 13) (.lit (.int .i64 1))) (.lit (.tuple #[]))),
      .need (.n2 (.iaddr 1) (.slot 9) (.slot 13)),
      .need (.n1 .ld (.n2 (.iaddr 1) (.slot 9) (.slot 13))),
      .eff (some 88) (.call { callee := .value (.func 23), args := #[.tmp 83, .tmp 87], argTypes := #[31, 9] }) 4 [(83, .n3 (.slv 1 true false) (.slot 9) (.n2 (.bin .add) (.slot 13) (.lit (.int .i64 1))) (.lit (.tuple #[]))), (87, .n1 .ld (.n2 (.iaddr 1) (.slot 9) (.slot 13)))] none [],
      .need (.n1 .bnot (.slot 88)),
      .asg 89 (.n1 .bnot (.slot 88))])
    (.cond (.slot 89)
      (.reg [.need (.n2 (.iaddr 1) (.slot 9) (.slot 13)),
        .need (.n1 .ld (.n2 (.iaddr 1) (.slot 9) (.slot 13))),
        .eff (some 95) (.buildSlice 31 1 #[(0, .tmp 94)]) 31 [(94, .n1 .ld (.n2 (.iaddr 1) (.slot 9) (.slot 13)))] none [],
        .eff (some 96) (.call { callee := .builtin .append, args := #[.tmp 90, .tmp 95], argTypes := #[31, 31] }) 31 [(90, .slot 12), (95, .slot 95)] none [],
        .asg 12 (.slot 96)])
      .skip)))
  h21_13)
def h21_11 : HC :=
  (.seq
  (.seq
  (.reg [.need (.n1 .lensl (.slot 9)),
    .need (.n2 (.bin .lss) (.slot 13) (.n1 .lensl (.slot 9))),
    .asg 77 (.n2 (.bin .lss) (.slot 13) (.n1 .lensl (.slot 9)))])
  (.cond (.slot 77)
    .skip
    (.exit 4)))
  h21_12)
def h21_15 : HC :=
  (.seq
  (.reg [.asg 2 (.slot 12)])
  .ret)
def h21_14 : HC :=
  (.seq
  (.seq
  (.reg [.need (.n1 .lensl (.slot 12)),
    .need (.n2 (.bin .gtr) (.n1 .lensl (.slot 12)) (.lit (.int .i64 100))),
    .asg 99 (.n2 (.bin .gtr) (.n1 .lensl (.slot 12)) (.lit (.int .i64 100)))])
  (.cond (.slot 99)
    (.reg [.need (.n1 .lensl (.slot 12)),
      .need (.n2 (.bin .sub) (.n1 .lensl (.slot 12)) (.lit (.int .i64 100))),
      .need (.n3 (.slv 1 true false) (.slot 12) (.n2 (.bin .sub) (.n1 .lensl (.slot 12)) (.lit (.int .i64 100))) (.lit (.tuple #[]))),
      .asg 12 (.n3 (.slv 1 true false) (.slot 12) (.n2 (.bin .sub) (.n1 .lensl (.slot 12)) (.lit (.int .i64 100))) (.lit (.tuple #[])))])
    .skip))
  h21_15)
def h21_10 : HC :=
  (.seq
  (.reg [.asg 12 (.lit (.slice none 0 0))])
  (.seq
  (.seq
  (.reg [.asg 13 (.lit (.int .i64 0))])
  (.block 4
    (.loop
      h21_11)))
  h21_14))
def h21_9 : HC :=
  (.seq
  (.seq
  (.reg [.need (.n1 .lensl (.slot 7)),
    .need (.n2 (.bin .gtr) (.n1 .lensl (.slot 7)) (.lit (.int .i64 0))),
    .asg 64 (.n2 (.bin .gtr) (.n1 .lensl (.slot 7)) (.lit (.int .i64 0)))])
  (.cond (.slot 64)
    (.reg [.need (.n1 .lensl (.slot 7)),
      .need (.n2 (.bin .sub) (.n1 .lensl (.slot 7)) (.lit (.int .i64 1))),
      .need (.n2 (.iaddr 1) (.slot 7) (.n2 (.bin .sub) (.n1 .lensl (.slot 7)) (.lit (.int .i64 1)))),
      .need (.n1 .ld (.n2 (.iaddr 1) (.slot 7) (.n2 (.bin .sub) (.n1 .lensl (.slot 7)) (.lit (.int .i64 1))))),
      .eff (some 72) (.buildSlice 31 1 #[(0, .tmp 71)]) 31 [(71, .n1 .ld (.n2 (.iaddr 1) (.slot 7) (.n2 (.bin .sub) (.n1 .lensl (.slot 7)) (.lit (.int .i64 1)))))] none [],
      .eff (some 73) (.call { callee := .builtin .append, args := #[.tmp 65, .tmp 72], argTypes := #[31, 31] }) 31 [(65, .slot 9), (72, .slot 72)] none [],
      .asg 9 (.slot 73)])
    .skip))
  h21_10)
def h21_5 : HC :=
  (.seq
  (.seq
  (.reg [.asg 11 (.lit (.int .i64 0))])
  (.block 2
    (.loop
      h21_6)))
  h21_9)
def h21_1 : HC :=
  (.seq
  (.reg [.asg 9 (.lit (.slice none 0 0))])
  (.seq
  (.seq
  (.reg [.asg 10 (.lit (.int .i64 0))])
  (.block 0
    (.loop
      h21_2)))
  h21_5))
def h21 : HC :=
  (.seq
  (.reg [.asg 2 (.lit (.slice none 0 0))])
  (.seq
  (.reg [.eff (some 16) (.call { callee := .value (.func 25), args := #[.tmp 15, .const (str [82, 101, 102, 101, 114, 101, 110, 99, 101, 115])], argTypes := #[22, 9] }) 25 [(15, .slot 0)] none [],
    .need (.n1 (.ext 0) (.slot 16)),
    .need (.n1 (.ext 1) (.slot 16)),
    .asg 3 (.n1 (.ext 0) (.slot 16))])
  (.seq
  (.reg [.eff (some 21) (.call { callee := .value (.func 25), args := #[.tmp 20, .const (str [73, 110, 45, 82, 101, 112, 108, 121, 45, 84, 111])], argTypes := #[22, 9] }) 25 [(20, .slot 0)] none [],
    .need (.n1 (.ext 0) (.slot 21)),
    .need (.n1 (.ext 1) (.slot 21)),
    .asg 5 (.n1 (.ext 0) (.slot 21))])
  (.seq
  (.reg [.eff (some 25) (.call { callee := .value (.func 19), args := #[.tmp 24], argTypes := #[9] }) 31 [(24, .slot 3)] none [],
    .asg 7 (.slot 25)])
  (.seq
  (.reg [.eff (some 27) (.call { callee := .value (.func 19), args := #[.tmp 26], argTypes := #[9] }) 31 [(26, .slot 5)] none [],
    .asg 8 (.slot 27)])
  h21_1)))))
theorem k21 : fnOK Tryd.prog 753596164219734711455090556845 [⟨21, [0, 0, 2, 7, 0, 0, 48, 112, 255, 511], [(0, []), (1, []), (2, []), (3, []), (4, []), (5, []), (6, []), (7, []), (8, []), (9, [])], none⟩] [.tmp 2] 1 Tryd.f21 = some h21 := by kernel_rfl
theorem c21 : callable Tryd.prog 21 = true := by kernel_rfl
theorem q21 {args : List Value} (ha : args.length = 1) {w : World} {next : Value → World → Prop} {QP : List PanicEntry → World → Prop} (H : hw Tryd.prog noPanic h21 (endV [.tmp 2] next) (σ0 args) w) : callK Tryd.prog 21 args w next QP := fn_rule Tryd.func21 mixed k21 ha H
theorem r21 {args : List Value} (ha : args.length = 1) {w : World} {next : Value → World → Prop} {QP : List PanicEntry → World → Prop} (H : hw Tryd.prog noPanic h21 (endV [.tmp 2] next) (σ0 args) w) : callvK Tryd.prog (.func (.func 21) #[] #[]) args w next QP := callf c21 (q21 ha H)

/- missive/header.Get -/
def h22_1 : HC :=
  (.seq
  (.reg [.need (.n2 (.iaddr 2) (.slot 0) (.slot 6)),
    .need (.n1 (.faddr 1) (.n2 (.iaddr 2) (.slot 0) (.slot 6))),
    .need (.n1 .ld (.n1 (.faddr 1) (.n2 (.iaddr 2) (.slot 0) (.slot 6)))),
    .asg 4 (.n1 .ld (.n1 (.faddr 1) (.n2 (.iaddr 2) (.slot 0) (.slot 6)))),
    .asg 5 (.lit (.bool true))])
  .ret)
def h22 : HC :=
  (.seq
  (.reg [.asg 4 (.lit (str [])),
    .asg 5 (.lit (.bool false))])
  (.seq
  (.reg [.eff (some 9) (.call { callee := .value (.func 39), args := #[.tmp 8], argTypes := #[9] }) 58 [(8, .slot 1)] none [],
    .eff (some 10) (.call { callee := .value (.func 38), args := #[.tmp 7, .tmp 9], argTypes := #[22, 58] }) 3 [(7, .slot 0), (9, .slot 9)] none [],
    .asg 6 (.slot 10)])
  (.seq
  (.seq
  (.reg [.need (.n2 (.bin .lss) (.slot 6) (.lit (.int .i64 0))),
    .asg 12 (.n2 (.bin .lss) (.slot 6) (.lit (.int .i64 0)))])
  (.cond (.slot 12)
    (.seq
    (.reg [.asg 4 (.lit (str [])),
      .asg 5 (.lit (.bool false))])
    .ret)
    .skip))
  h22_1)))
theorem k22 : fnOK Tryd.prog 5747 [] [.tmp 4, .tmp 5] 2 Tryd.f22 = some h22 := by kernel_rfl
theorem c22 : callable Tryd.prog 22 = true := by kernel_rfl
theorem q22 {args : List Value} (ha : args.length = 2) {w : World} {next : Value → World → Prop} {QP : List PanicEntry → World → Prop} (H : hw Tryd.prog noPanic h22 (endV [.tmp 4, .tmp 5] next) (σ0 args) w) : callK Tryd.prog 22 args w next QP := fn_rule Tryd.func22 mixed k22 ha H
theorem r22 {args : List Value} (ha : args.length = 2) {w : World} {next : Value → World → Prop} {QP : List PanicEntry → World → Prop} (H : hw Tryd.prog noPanic h22 (endV [.tmp 4, .tmp 5] next) (σ0 args) w) : callvK Tryd.prog (.func (.func 22) #[] #[]) args w next QP := callf c22 (q22 ha H)

/- missive/missiveref12.In -/
def h23_3 : HC :=
  (.reg [.need (.n2 (.bin .add) (.slot 5) (.lit (.int .i64 1))),
    .asg 5 (.n2 (.bin .add) (.slot 5) (.lit (.int .i64 1)))])
def h23_2 : HC :=
  (.seq
  (.block 1
    (.seq
    (.reg [.need (.n2 (.iaddr 1) (.slot 0) (.slot 5)),
      .need (.n1 .ld (.n2 (.iaddr 1) (.slot 0) (.slot 5))),
      .need (.n2 (.sbin .eql) (.n1 .ld (.n2 (.iaddr 1) (.slot 0) (.slot 5))) (.slot 1)),
      .asg 17 (.n2 (.sbin .eql) (.n1 .ld (.n2 (.iaddr 1) (.slot 0) (.slot 5))) (.slot 1))])
    (.cond (.slot 17)
      (.seq
      (.reg [.asg 4 (.lit (.bool true))])
      .ret)
      .skip)))
  h23_3)
def h23_1 : HC :=
  (.seq
  (.seq
  (.reg [.need (.n1 .lensl (.slot 0)),
    .need (.n2 (.bin .lss) (.slot 5) (.n1 .lensl (.slot 0))),
    .asg 9 (.n2 (.bin .lss) (.slot 5) (.n1 .lensl (.slot 0)))])
  (.cond (.slot 9)
    .skip
    (.exit 0)))
  h23_2)
def h23_4 : HC :=
  (.seq
  (.reg [.asg 4 (.lit (.bool false))])
  .ret)
def h23 : HC :=
  (.seq
  (.reg [.asg 4 (.lit (.bool false))])
  (.seq
  (.seq
  (.reg [.asg 5 (.lit (.int .i64 0))])
  (.block 0
    (.loop
      h23_1)))
  h23_4))
theorem k23 : fnOK Tryd.prog 131635 [] [.tmp 4] 2 Tryd.f23 = some h23 := by kernel_rfl
theorem c23 : callable Tryd.prog 23 = true := by kernel_rfl
theorem q23 {args : List Value} (ha : args.length = 2) {w : World} {next : Value → World → Prop} {QP : List PanicEntry → World → Prop} (H : hw Tryd.prog noPanic h23 (endV [.tmp 4] next) (σ0 args) w) : callK Tryd.prog 23 args w next QP := fn_rule Tryd.func23 mixed k23 ha H
theorem r23 {args : List Value} (ha : args.length = 2) {w : World} {next : Value → World → Prop} {QP : List PanicEntry → World → Prop} (H : hw Tryd.prog noPanic h23 (endV [.tmp 4] next) (σ0 args) w) : callvK Tryd.prog (.func (.func 23) #[] #[]) args w next QP := callf c23 (q23 ha H)

/- missive/missiveref09.Get -/
def h25_3 : HC :=
  (.reg [.need (.n2 (.bin .add) (.slot 6) (.lit (.int .i64 1))),
    .asg 6 (.n2 (.bin .add) (.slot 6) (.lit (.int .i64 1)))])
def h25_2 : HC :=
  (.seq
  (.block 1
    (.seq
    (.reg [.need (.n2 (.iaddr 2) (.slot 0) (.slot 6)),
      .need (.n1 (.faddr 0) (.n2 (.iaddr 2) (.slot 0) (.slot 6))),
      .need (.n1 .ld (.n1 (.faddr 0) (.n2 (.iaddr 2) (.slot 0) (.slot 6)))),
      .eff (some 19) (.call { callee := .value (.func 44), args := #[.tmp 17, .tmp 18], argTypes := #[9, 9] }) 4 [(17, .n1 .ld (.n1 (.faddr 0) (.n2 (.iaddr 2) (.slot 0) (.slot 6)))), (18, .slot 1)] none []])
    (.cond (.slot 19)
      (.seq
      (.reg [.need (.n2 (.iaddr 2) (.slot 0) (.slot 6)),
        .need (.n1 (.faddr 1) (.n2 (.iaddr 2) (.slot 0) (.slot 6))),
        .need (.n1 .ld (.n1 (.faddr 1) (.n2 (.iaddr 2) (.slot 0) (.slot 6)))),
        .asg 4 (.n1 .ld (.n1 (.faddr 1) (.n2 (.iaddr 2) (.slot 0) (.slot 6)))),
        .asg 5 (.lit (.bool true))])
      .ret)
      .skip)))
  h25_3)
def h25_1 : HC :=
  (.seq
  (.seq
  (.reg [.need (.n1 .lensl (.slot 0)),
    .need (.n2 (.bin .lss) (.slot 6) (.n1 .lensl (.slot 0))),
    .asg 10 (.n2 (.bin .lss) (.slot 6) (.n1 .lensl (.slot 0)))])
  (.cond (.slot 10)
    .skip
    (.exit 0)))
  h25_2)
def h25_4 : HC :=
  (.seq
  (.reg [.asg 4 (.lit (str [])),
    .asg 5 (.lit (.bool false))])
  .ret)
def h25 : HC :=
  (.seq
  (.reg [.asg 4 (.lit (str [])),
    .asg 5 (.lit (.bool false))])
  (.seq
  (.seq
  (.reg [.asg 6 (.lit (.int .i64 0))])
  (.block 0
    (.loop
      h25_1)))
  h25_4))
theorem k25 : fnOK Tryd.prog 525427 [] [.tmp 4, .tmp 5] 2 Tryd.f25 = some h25 := by kernel_rfl
theorem c25 : callable Tryd.prog 25 = true := by kernel_rfl
theorem q25 {args : List Value} (ha : args.length = 2) {w : World} {next : Value → World → Prop} {QP : List PanicEntry → World → Prop} (H : hw Tryd.prog noPanic h25 (endV [.tmp 4, .tmp 5] next) (σ0 args) w) : callK Tryd.prog 25 args w next QP := fn_rule Tryd.func25 mixed k25 ha H
theorem r25 {args : List Value} (ha : args.length = 2) {w : World} {next : Value → World → Prop} {QP : List PanicEntry → World → Prop} (H : hw Tryd.prog noPanic h25 (endV [.tmp 4, .tmp 5] next) (σ0 args) w) : callvK Tryd.prog (.func (.func 25) #[] #[]) args w next QP := callf c25 (q25 ha H)

/- strings.Count -/
def h26_4 : HC :=
  (.seq
  (.reg [.need (.n2 (.bin .add) (.slot 5) (.lit (.int .i64 1))),
    .asg 5 (.n2 (.bin .add) (.slot 5) (.lit (.int .i64 1)))])
  (.reg [.need (.n1 .lens (.slot 1)),
    .need (.n2 (.bin .add) (.slot 6) (.n1 .lens (.slot 1))),
    .need (.n3 (.sls true false) (.slot 0) (.n2 (.bin .add) (.slot 6) (.n1 .lens (.slot 1))) (.lit (.tuple #[]))),
    .asg 0 (.n3 (.sls true false) (.slot 0) (.n2 (.bin .add) (.slot 6) (.n1 .lens (.slot 1))) (.lit (.tuple #[])))]))
def h26_3 : HC :=
  (.block 1
    (.seq
    (.reg [.eff (some 22) (.call { callee := .value (.func 47), args := #[.tmp 20, .tmp 21], argTypes := #[9, 9] }) 3 [(20, .slot 0), (21, .slot 1)] none [],
      .asg 6 (.slot 22)])
    (.seq
    (.seq
    (.reg [.need (.n2 (.bin .eql) (.slot 6) (.lit (.int .i64 (-1)))),
      .asg 24 (.n2 (.bin .eql) (.slot 6) (.lit (.int .i64 (-1))))])
    (.cond (.slot 24)
      (.seq
      (.reg [.asg 4 (.slot 5)])
      .ret)
      .skip))
    h26_4)))
def h26_2 : HC :=
  (.seq
  (.reg [.asg 5 (.lit (.int .i64 0))])
  (.block 0
    (.loop
      h26_3)))
def h26_1 : HC :=
  (.seq
  (.seq
  (.reg [.need (.n1 .lens (.slot 1)),
    .need (.n2 (.bin .eql) (.n1 .lens (.slot 1)) (.lit (.int .i64 1))),
    .asg 15 (.n2 (.bin .eql) (.n1 .lens (.slot 1)) (.lit (.int .i64 1)))])
  (.cond (.slot 15)
    (.seq
    (.reg [.need (.n2 .idxs (.slot 1) (.lit (.int .i64 0))),
      .eff (some 19) (.call { callee := .value (.func 46), args := #[.tmp 16, .tmp 18], argTypes := #[9, 5] }) 3 [(16, .slot 0), (18, .n2 .idxs (.slot 1) (.lit (.int .i64 0)))] none [],
      .asg 4 (.slot 19)])
    .ret)
    .skip))
  h26_2)
def h26 : HC :=
  (.seq
  (.reg [.asg 4 (.lit (.int .i64 0))])
  (.seq
  (.seq
  (.reg [.need (.n1 .lens (.slot 1)),
    .need (.n2 (.bin .eql) (.n1 .lens (.slot 1)) (.lit (.int .i64 0))),
    .asg 9 (.n2 (.bin .eql) (.n1 .lens (.slot 1)) (.lit (.int .i64 0)))])
  (.cond (.slot 9)
    (.seq
    (.reg [.eff (some 11) (.call { callee := .value (.func 45), args := #[.tmp 10], argTypes := #[9] }) 3 [(10, .slot 0)] none [],
      .need (.n2 (.bin .add) (.slot 11) (.lit (.int .i64 1))),
      .asg 4 (.n2 (.bin .add) (.slot 11) (.lit (.int .i64 1)))])
    .ret)
    .skip))
  h26_1))
theorem k26 : fnOK Tryd.prog 21531251 [] [.tmp 4] 2 Tryd.f26 = some h26 := by kernel_rfl
theorem c26 : callable Tryd.prog 26 = true := by kernel_rfl
theorem q26 {args : List Value} (ha : args.length = 2) {w : World} {next : Value → World → Prop} {QP : List PanicEntry → World → Prop} (H : hw Tryd.prog noPanic h26 (endV [.tmp 4] next) (σ0 args) w) : callK Tryd.prog 26 args w next QP := fn_rule Tryd.func26 mixed k26 ha H
theorem r26 {args : List Value} (ha : args.length = 2) {w : World} {next : Value → World → Prop} {QP : List PanicEntry → World → Prop} (H : hw Tryd.prog noPanic h26 (endV [.tmp 4] next) (σ0 args) w) : callvK Tryd.prog (.func (.func 26) #[] #[]) args w next QP := callf c26 (q26 ha H)

/- strings.ContainsFunc -/
def h27 : HC :=
  (.seq
  (.reg [.asg 4 (.lit (.bool false))])
  (.seq
  (.reg [.eff (some 7) (.call { callee := .value (.func 48), args := #[.tmp 5, .tmp 6], argTypes := #[9, 44] }) 3 [(5, .slot 0), (6, .slot 1)] none [],
    .need (.n2 (.bin .geq) (.slot 7) (.lit (.int .i64 0))),
    .asg 4 (.n2 (.bin .geq) (.slot 7) (.lit (.int .i64 0)))])
  .ret))
theorem k27 : fnOK Tryd.prog 147 [] [.tmp 4] 2 Tryd.f27 = some h27 := by kernel_rfl
theorem c27 : callable Tryd.prog 27 = true := by kernel_rfl
theorem q27 {args : List Value} (ha : args.length = 2) {w : World} {next : Value → World → Prop} {QP : List PanicEntry → World → Prop} (H : hw Tryd.prog noPanic h27 (endV [.tmp 4] next) (σ0 args) w) : callK Tryd.prog 27 args w next QP := fn_rule Tryd.func27 mixed k27 ha H
theorem r27 {args : List Value} (ha : args.length = 2) {w : World} {next : Value → World → Prop} {QP : List PanicEntry → World → Prop} (H : hw Tryd.prog noPanic h27 (endV [.tmp 4] next) (σ0 args) w) : callvK Tryd.prog (.func (.func 27) #[] #[]) args w next QP := callf c27 (q27 ha H)

/- missive/msgid.Valid$1 -/
def h28 : HC :=
  (.seq
  (.reg [.asg 2 (.lit (.bool false))])
  (.seq
  (.reg [.need (.n2 (.bin .lss) (.slot 0) (.lit (.int .i32 33))),
    .need (.gif (.n2 (.bin .lss) (.slot 0) (.lit (.int .i32 33))) false (.n2 (.bin .gtr) (.slot 0) (.lit (.int .i32 126)))),
    .need (.n3 .pick (.n2 (.bin .lss) (.slot 0) (.lit (.int .i32 33))) (.lit (.bool true)) (.n2 (.bin .gtr) (.slot 0) (.lit (.int .i32 126)))),
    .need (.gif (.n3 .pick (.n2 (.bin .lss) (.slot 0) (.lit (.int .i32 33))) (.lit (.bool true)) (.n2 (.bin .gtr) (.slot 0) (.lit (.int .i32 126)))) false (.n2 (.bin .eql) (.slot 0) (.lit (.int .i32 60)))),
    .need (.n3 .pick (.n3 .pick (.n2 (.bin .lss) (.slot 0) (.lit (.int .i32 33))) (.lit (.bool true)) (.n2 (.bin .gtr) (.slot 0) (.lit (.int .i32 126)))) (.lit (.bool true)) (.n2 (.bin .eql) (.slot 0) (.lit (.int .i32 60)))),
    .need (.gif (.n3 .pick (.n3 .pick (.n2 (.bin .lss) (.slot 0) (.lit (.int .i32 33))) (.lit (.bool true)) (.n2 (.bin .gtr) (.slot 0) (.lit (.int .i32 126)))) (.lit (.bool true)) (.n2 (.bin .eql) (.slot 0) (.lit (.int .i32 60)))) false (.n2 (.bin .eql) (.slot 0) (.lit (.int .i32 62)))),
    .need (.n3 .pick (.n3 .pick (.n3 .pick (.n2 (.bin .lss) (.slot 0) (.lit (.int .i32 33))) (.lit (.bool true)) (.n2 (.bin .gtr) (.slot 0) (.lit (.int .i32 126)))) (.lit (.bool true)) (.n2 (.bin .eql) (.slot 0) (.lit (.int .i32 60)))) (.lit (.bool true)) (.n2 (.bin .eql) (.slot 0) (.lit (.int .i32 62)))),
    .asg 2 (.n3 .pick (.n3 .pick (.n3 .pick (.n2 (.bin .lss) (.slot 0) (.lit (.int .i32 33))) (.lit (.bool true)) (.n2 (.bin .gtr) (.slot 0) (.lit (.int .i32 126)))) (.lit (.bool true)) (.n2 (.bin .eql) (.slot 0) (.lit (.int .i32 60)))) (.lit (.bool true)) (.n2 (.bin .eql) (.slot 0) (.lit (.int .i32 62))))])
  .ret))
theorem k28 : fnOK Tryd.prog 5 [] [.tmp 2] 1 Tryd.f28 = some h28 := by kernel_rfl
theorem c28 : callable Tryd.prog 28 = true := by kernel_rfl
theorem q28 {args : List Value} (ha : args.length = 1) {w : World} {next : Value → World → Prop} {QP : List PanicEntry → World → Prop} (H : hw Tryd.prog noPanic h28 (endV [.tmp 2] next) (σ0 args) w) : callK Tryd.prog 28 args w next QP := fn_rule Tryd.func28 mixed k28 ha H
theorem r28 {args : List Value} (ha : args.length = 1) {w : World} {next : Value → World → Prop} {QP : List PanicEntry → World → Prop} (H : hw Tryd.prog noPanic h28 (endV [.tmp 2] next) (σ0 args) w) : callvK Tryd.prog (.func (.func 28) #[] #[]) args w next QP := callf c28 (q28 ha H)

/- missive/digest.Hex -/
def h29_3 : HC :=
  (.reg [.need (.n2 (.bin .add) (.slot 7) (.lit (.int .i64 1))),
    .asg 7 (.n2 (.bin .add) (.slot 7) (.lit (.int .i64 1)))])
def h29_2 : HC :=
  (.seq
  (.block 1
    (.seq
    (.reg [.asg 4 (.slot 7)])
    (.seq
    (.reg [.need (.n2 .idxs (.slot 0) (.slot 4)),
      .need (.n2 (.bin .shr) (.n2 .idxs (.slot 0) (.slot 4)) (.lit (.int .u64 4))),
      .need (.n2 .idxs (.lit (str [48, 49, 50, 51, 52, 53, 54, 55, 56, 57, 97, 98, 99, 100, 101, 102])) (.n2 (.bin .shr) (.n2 .idxs (.slot 0) (.slot 4)) (.lit (.int .u64 4)))),
      .eff (some 15) (.call { callee := .value (.func 49), args := #[.tmp 3, .tmp 14], argTypes := #[68, 5] }) 70 [(3, .slot 3), (14, .n2 .idxs (.lit (str [48, 49, 50, 51, 52, 53, 54, 55, 56, 57, 97, 98, 99, 100, 101, 102])) (.n2 (.bin .shr) (.n2 .idxs (.slot 0) (.slot 4)) (.lit (.int .u64 4))))] none []])
    (.reg [.need (.n2 .idxs (.slot 0) (.slot 4)),
      .need (.n2 (.bin .and) (.n2 .idxs (.slot 0) (.slot 4)) (.lit (.int .u8 15))),
      .need (.n2 .idxs (.lit (str [48, 49, 50, 51, 52, 53, 54, 55, 56, 57, 97, 98, 99, 100, 101, 102])) (.n2 (.bin .and) (.n2 .idxs (.slot 0) (.slot 4)) (.lit (.int .u8 15)))),
      .eff (some 21) (.call { callee := .value (.func 49), args := #[.tmp 3, .tmp 20], argTypes := #[68, 5] }) 70 [(3, .slot 3), (20, .n2 .idxs (.lit (str [48, 49, 50, 51, 52, 53, 54, 55, 56, 57, 97, 98, 99, 100, 101, 102])) (.n2 (.bin .and) (.n2 .idxs (.slot 0) (.slot 4)) (.lit (.int .u8 15))))] none []]))))
  h29_3)
def h29_1 : HC :=
  (.seq
  (.reg [.need (.n2 (.bin .lss) (.slot 7) (.slot 6)),
    .asg 8 (.n2 (.bin .lss) (.slot 7) (.slot 6))])
  (.seq
  (.cond (.slot 8)
    .skip
    (.exit 0))
  h29_2))
def h29_4 : HC :=
  (.seq
  (.reg [.eff (some 23) (.call { callee := .value (.func 43), args := #[.tmp 3], argTypes := #[68] }) 9 [(3, .slot 3)] none [],
    .asg 2 (.slot 23)])
  .ret)
def h29 : HC :=
  (.seq
  (.reg [.asg 2 (.lit (str []))])
  (.seq
  (.reg [.eff (some 3) (.alloc 68) 0 [] none []])
  (.seq
  (.seq
  (.reg [.need (.n1 .lens (.slot 0)),
    .asg 6 (.n1 .lens (.slot 0)),
    .asg 7 (.lit (.int .i64 0))])
  (.block 0
    (.loop
      h29_1)))
  h29_4)))
theorem k29 : fnOK Tryd.prog 10519005 [] [.tmp 2] 1 Tryd.f29 = some h29 := by kernel_rfl
theorem c29 : callable Tryd.prog 29 = true := by kernel_rfl
theorem q29 {args : List Value} (ha : args.length = 1) {w : World} {next : Value → World → Prop} {QP : List PanicEntry → World → Prop} (H : hw Tryd.prog noPanic h29 (endV [.tmp 2] next) (σ0 args) w) : callK Tryd.prog 29 args w next QP := fn_rule Tryd.func29 mixed k29 ha H
theorem r29 {args : List Value} (ha : args.length = 1) {w : World} {next : Value → World → Prop} {QP : List PanicEntry → World → Prop} (H : hw Tryd.prog noPanic h29 (endV [.tmp 2] next) (σ0 args) w) : callvK Tryd.prog (.func (.func 29) #[] #[]) args w next QP := callf c29 (q29 ha H)

/- missive/missiveref03.Hex -/
def h30_3 : HC :=
  (.reg [.need (.n2 (.bin .add) (.slot 4) (.lit (.int .i64 1))),
    .asg 4 (.n2 (.bin .add) (.slot 4) (.lit (.int .i64 1)))])
def h30_2 : HC :=
  (.seq
  (.block 1
    (.draw [.need (.n2 .idxs (.slot 0) (.slot 4)),
      .need (.n1 (.conv .i64) (.n2 .idxs (.slot 0) (.slot 4))),
      .need (.n2 (.bin .quo) (.n1 (.conv .i64) (.n2 .idxs (.slot 0) (.slot 4))) (.lit (.int .i64 16))),
      .need (.n2 .idxs (.slot 0) (.slot 4)),
      .need (.n1 (.conv .i64) (.n2 .idxs (.slot 0) (.slot 4))),
      .need (.n2 (.bin .rem) (.n1 (.conv .i64) (.n2 .idxs (.slot 0) (.slot 4))) (.lit (.int .i64 16))),
      .eff (some 17) (.call { callee := .value (.func 50), args := #[.tmp 16], argTypes := #[3] }) 5 [(16, .n2 (.bin .quo) (.n1 (.conv .i64) (.n2 .idxs (.slot 0) (.slot 4))) (.lit (.int .i64 16)))] none [],
      .eff (some 23) (.call { callee := .value (.func 50), args := #[.tmp 22], argTypes := #[3] }) 5 [(22, .n2 (.bin .rem) (.n1 (.conv .i64) (.n2 .idxs (.slot 0) (.slot 4))) (.lit (.int .i64 16)))] none [],
      .eff (some 24) (.buildSlice 45 2 #[(0, .tmp 17), (1, .tmp 23)]) 45 [(17, .slot 17), (23, .slot 23)] none [],
      .eff (some 25) (.call { callee := .builtin .append, args := #[.tmp 11, .tmp 24], argTypes := #[45, 45] }) 45 [(11, .slot 3), (24, .slot 24)] none [],
      .asg 3 (.slot 25)]))
  h30_3)
def h30_1 : HC :=
  (.seq
  (.seq
  (.reg [.need (.n1 .lens (.slot 0)),
    .need (.n2 (.bin .lss) (.slot 4) (.n1 .lens (.slot 0))),
    .asg 8 (.n2 (.bin .lss) (.slot 4) (.n1 .lens (.slot 0)))])
  (.cond (.slot 8)
    .skip
    (.exit 0)))
  h30_2)
def h30_4 : HC :=
  (.seq
  (.reg [.eff (some 27) (.convert 45 9 (.tmp 26)) 9 [(26, .slot 3)] none [],
    .asg 2 (.slot 27)])
  .ret)
def h30 : HC :=
  (.seq
  (.reg [.asg 2 (.lit (str []))])
  (.seq
  (.reg [.asg 3 (.lit (.slice none 0 0))])
  (.seq
  (.seq
  (.reg [.asg 4 (.lit (.int .i64 0))])
  (.block 0
    (.loop
      h30_1)))
  h30_4)))
theorem k30 : fnOK Tryd.prog 193069341 [⟨5, [0, 0, 0, 6, 14, 30, 62, 0, 0, 384, 896, 1920, 4094, 8190, 16383, 32767], [(0, []), (1, []), (2, []), (3, []), (4, []), (5, []), (7, []), (8, []), (9, []), (10, []), (11, []), (6, []), (12, []), (13, []), (14, []), (15, [])], none⟩] [.tmp 2] 1 Tryd.f30 = some h30 := by kernel_rfl
theorem c30 : callable Tryd.prog 30 = true := by kernel_rfl
theorem q30 {args : List Value} (ha : args.length = 1) {w : World} {next : Value → World → Prop} {QP : List PanicEntry → World → Prop} (H : hw Tryd.prog noPanic h30 (endV [.tmp 2] next) (σ0 args) w) : callK Tryd.prog 30 args w next QP := fn_rule Tryd.func30 mixed k30 ha H
theorem r30 {args : List Value} (ha : args.length = 1) {w : World} {next : Value → World → Prop} {QP : List PanicEntry → World → Prop} (H : hw Tryd.prog noPanic h30 (endV [.tmp 2] next) (σ0 args) w) : callvK Tryd.prog (.func (.func 30) #[] #[]) args w next QP := callf c30 (q30 ha H)

/- strings.Cut -/
def h31 : HC :=
  (.seq
  (.reg [.asg 4 (.lit (str [])),
    .asg 5 (.lit (str [])),
    .asg 6 (.lit (.bool false))])
  (.seq
  (.reg [.eff (some 9) (.call { callee := .value (.func 51), args := #[.tmp 7, .tmp 8], argTypes := #[9, 9] }) 46 [(7, .slot 0), (8, .slot 1)] none [],
    .need (.n1 (.ext 0) (.slot 9)),
    .need (.n1 (.ext 1) (.slot 9)),
    .need (.n1 (.ext 2) (.slot 9)),
    .asg 4 (.n1 (.ext 0) (.slot 9)),
    .asg 5 (.n1 (.ext 1) (.slot 9)),
    .asg 6 (.n1 (.ext 2) (.slot 9))])
  .ret))
theorem k31 : fnOK Tryd.prog 627 [] [.tmp 4, .tmp 5, .tmp 6] 2 Tryd.f31 = some h31 := by kernel_rfl
theorem c31 : callable Tryd.prog 31 = true := by kernel_rfl
theorem q31 {args : List Value} (ha : args.length = 2) {w : World} {next : Value → World → Prop} {QP : List PanicEntry → World → Prop} (H : hw Tryd.prog noPanic h31 (endV [.tmp 4, .tmp 5, .tmp 6] next) (σ0 args) w) : callK Tryd.prog 31 args w next QP := fn_rule Tryd.func31 mixed k31 ha H
theorem r31 {args : List Value} (ha : args.length = 2) {w : World} {next : Value → World → Prop} {QP : List PanicEntry → World → Prop} (H : hw Tryd.prog noPanic h31 (endV [.tmp 4, .tmp 5, .tmp 6] next) (σ0 args) w) : callvK Tryd.prog (.func (.func 31) #[] #[]) args w next QP := callf c31 (q31 ha H)

/- missive/msgid.of -/
def h33 : HC :=
  (.seq
  (.reg [.asg 4 (.lit (.slice none 0 0))])
  (.seq
  (.reg [.eff (some 10) (.call { callee := .value (.func 22), args := #[.tmp 8, .tmp 9], argTypes := #[22, 9] }) 25 [(8, .slot 0), (9, .slot 1)] none [],
    .need (.n1 (.ext 0) (.slot 10)),
    .need (.n1 (.ext 1) (.slot 10)),
    .asg 5 (.n1 (.ext 0) (.slot 10))])
  (.seq
  (.reg [.eff (some 14) (.call { callee := .value (.func 18), args := #[.tmp 13], argTypes := #[9] }) 31 [(13, .slot 5)] none [],
    .asg 4 (.slot 14)])
  .ret)))
theorem k33 : fnOK Tryd.prog 17459 [] [.tmp 4] 2 Tryd.f33 = some h33 := by kernel_rfl
theorem c33 : callable Tryd.prog 33 = true := by kernel_rfl
theorem q33 {args : List Value} (ha : args.length = 2) {w : World} {next : Value → World → Prop} {QP : List PanicEntry → World → Prop} (H : hw Tryd.prog noPanic h33 (endV [.tmp 4] next) (σ0 args) w) : callK Tryd.prog 33 args w next QP := fn_rule Tryd.func33 mixed k33 ha H
theorem r33 {args : List Value} (ha : args.length = 2) {w : World} {next : Value → World → Prop} {QP : List PanicEntry → World → Prop} (H : hw Tryd.prog noPanic h33 (endV [.tmp 4] next) (σ0 args) w) : callvK Tryd.prog (.func (.func 33) #[] #[]) args w next QP := callf c33 (q33 ha H)

/- slices.Contains(()string,string) -/
def h34 : HC :=
  (.seq
  (.reg [.asg 4 (.lit (.bool false))])
  (.seq
  (.reg [.eff (some 7) (.call { callee := .value (.func 56), args := #[.tmp 5, .tmp 6], argTypes := #[31, 9] }) 3 [(5, .slot 0), (6, .slot 1)] none [],
    .need (.n2 (.bin .geq) (.slot 7) (.lit (.int .i64 0))),
    .asg 4 (.n2 (.bin .geq) (.slot 7) (.lit (.int .i64 0)))])
  .ret))
theorem k34 : fnOK Tryd.prog 147 [] [.tmp 4] 2 Tryd.f34 = some h34 := by kernel_rfl
theorem c34 : callable Tryd.prog 34 = true := by kernel_rfl
theorem q34 {args : List Value} (ha : args.length = 2) {w : World} {next : Value → World → Prop} {QP : List PanicEntry → World → Prop} (H : hw Tryd.prog noPanic h34 (endV [.tmp 4] next) (σ0 args) w) : callK Tryd.prog 34 args w next QP := fn_rule Tryd.func34 mixed k34 ha H
theorem r34 {args : List Value} (ha : args.length = 2) {w : World} {next : Value → World → Prop} {QP : List PanicEntry → World → Prop} (H : hw Tryd.prog noPanic h34 (endV [.tmp 4] next) (σ0 args) w) : callvK Tryd.prog (.func (.func 34) #[] #[]) args w next QP := callf c34 (q34 ha H)

/- slices.Concat(()string,string) -/
def h35_3 : HC :=
  (.reg [.need (.n2 (.bin .add) (.slot 11) (.lit (.int .i64 1))),
    .asg 11 (.n2 (.bin .add) (.slot 11) (.lit (.int .i64 1)))])
def h35_2 : HC :=
  (.seq
  (.block 1
    (.seq
    (.reg [.need (.n2 (.iaddr 1) (.slot 9) (.slot 11)),
      .need (.n1 .ld (.n2 (.iaddr 1) (.slot 9) (.slot 11))),
      .asg 5 (.n1 .ld (.n2 (.iaddr 1) (.slot 9) (.slot 11)))])
    (.seq
    (.reg [.need (.n1 .lensl (.slot 5)),
      .need (.n2 (.bin .add) (.slot 3) (.n1 .lensl (.slot 5))),
      .asg 3 (.n2 (.bin .add) (.slot 3) (.n1 .lensl (.slot 5)))])
    (.seq
    (.reg [.need (.n2 (.bin .lss) (.slot 3) (.lit (.int .i64 0))),
      .asg 20 (.n2 (.bin .lss) (.slot 3) (.lit (.int .i64 0)))])
    (.cond (.slot 20)
      (.reg [.need (.n1 (.mkif 9) (.lit (str [108, 101, 110, 32, 111, 117, 116, 32, 111, 102, 32, 114, 97, 110, 103, 101]))),
        .eff none (.panic (.tmp 21)) 0 [(21, .n1 (.mkif 9) (.lit (str [108, 101, 110, 32, 111, 117, 116, 32, 111, 102, 32, 114, 97, 110, 103, 101])))] none []])
      .skip)))))
  h35_3)
def h35_1 : HC :=
  (.seq
  (.reg [.need (.n2 (.bin .lss) (.slot 11) (.slot 10)),
    .asg 12 (.n2 (.bin .lss) (.slot 11) (.slot 10))])
  (.seq
  (.cond (.slot 12)
    .skip
    (.exit 0))
  h35_2))
def h35_7 : HC :=
  (.reg [.need (.n2 (.bin .add) (.slot 27) (.lit (.int .i64 1))),
    .asg 27 (.n2 (.bin .add) (.slot 27) (.lit (.int .i64 1)))])
def h35_6 : HC :=
  (.seq
  (.block 3
    (.seq
    (.reg [.need (.n2 (.iaddr 1) (.slot 25) (.slot 27)),
      .need (.n1 .ld (.n2 (.iaddr 1) (.slot 25) (.slot 27))),
      .asg 8 (.n1 .ld (.n2 (.iaddr 1) (.slot 25) (.slot 27)))])
    (.reg [.eff (some 33) (.call { callee := .builtin .append, args := #[.tmp 31, .tmp 32], argTypes := #[31, 31] }) 31 [(31, .slot 6), (32, .slot 8)] none [],
      .asg 6 (.slot 33)])))
  h35_7)
def h35_5 : HC :=
  (.seq
  (.reg [.need (.n2 (.bin .lss) (.slot 27) (.slot 26)),
    .asg 28 (.n2 (.bin .lss) (.slot 27) (.slot 26))])
  (.seq
  (.cond (.slot 28)
    .skip
    (.exit 2))
  h35_6))
def h35_8 : HC :=
  (.seq
  (.reg [.asg 2 (.slot 6)])
  .ret)
def h35_4 : HC :=
  (.seq
  (.reg [.eff (some 24) (.call { callee := .value (.func 57), args := #[.const (.slice none 0 0), .tmp 23], argTypes := #[31, 3] }) 31 [(23, .slot 3)] none [],
    .asg 6 (.slot 24)])
  (.seq
  (.seq
  (.reg [.asg 25 (.slot 0),
    .need (.n1 .lensl (.slot 25)),
    .asg 26 (.n1 .lensl (.slot 25)),
    .asg 27 (.lit (.int .i64 0))])
  (.block 2
    (.loop
      h35_5)))
  h35_8))
def h35 : HC :=
  (.seq
  (.reg [.asg 2 (.lit (.slice none 0 0))])
  (.seq
  (.reg [.asg 3 (.lit (.int .i64 0))])
  (.seq
  (.seq
  (.reg [.asg 9 (.slot 0),
    .need (.n1 .lensl (.slot 9)),
    .asg 10 (.n1 .lensl (.slot 9)),
    .asg 11 (.lit (.int .i64 0))])
  (.block 0
    (.loop
      h35_1)))
  h35_4)))
theorem k35 : fnOK Tryd.prog 9111084909 [] [.tmp 2] 1 Tryd.f35 = some h35 := by kernel_rfl
theorem c35 : callable Tryd.prog 35 = true := by kernel_rfl
theorem q35 {args : List Value} (ha : args.length = 1) {w : World} {next : Value → World → Prop} {QP : List PanicEntry → World → Prop} (H : hw Tryd.prog noPanic h35 (endV [.tmp 2] next) (σ0 args) w) : callK Tryd.prog 35 args w next QP := fn_rule Tryd.func35 mixed k35 ha H
theorem r35 {args : List Value} (ha : args.length = 1) {w : World} {next : Value → World → Prop} {QP : List PanicEntry → World → Prop} (H : hw Tryd.prog noPanic h35 (endV [.tmp 2] next) (σ0 args) w) : callvK Tryd.prog (.func (.func 35) #[] #[]) args w next QP := callf c35 (q35 ha H)

/- slices.Backward(()string,string) -/
def h36 : HC :=
  (.seq
  (.reg [.eff (some 1) (.box 31 (.tmp 0)) 0 [(0, .slot 0)] none [],
    .asg 2 (.lit .nilFunc)])
  (.seq
  (.reg [.asg 2 (.n2 .capt (.lit (.func (.func 58) #[] #[])) (.slot 1))])
  .ret))
theorem k36 : fnOK Tryd.prog 7 [] [.tmp 2] 1 Tryd.f36 = some h36 := by kernel_rfl
theorem c36 : callable Tryd.prog 36 = true := by kernel_rfl
theorem q36 {args : List Value} (ha : args.length = 1) {w : World} {next : Value → World → Prop} {QP : List PanicEntry → World → Prop} (H : hw Tryd.prog noPanic h36 (endV [.tmp 2] next) (σ0 args) w) : callK Tryd.prog 36 args w next QP := fn_rule Tryd.func36 mixed k36 ha H
theorem r36 {args : List Value} (ha : args.length = 1) {w : World} {next : Value → World → Prop} {QP : List PanicEntry → World → Prop} (H : hw Tryd.prog noPanic h36 (endV [.tmp 2] next) (σ0 args) w) : callvK Tryd.prog (.func (.func 36) #[] #[]) args w next QP := callf c36 (q36 ha H)

/- slices.Reverse(()string,string) -/
def h37_3 : HC :=
  (.reg [.need (.n2 (.bin .add) (.slot 2) (.lit (.int .i64 1))),
    .need (.n2 (.bin .sub) (.slot 3) (.lit (.int .i64 1))),
    .asg 2 (.n2 (.bin .add) (.slot 2) (.lit (.int .i64 1))),
    .asg 3 (.n2 (.bin .sub) (.slot 3) (.lit (.int .i64 1)))])
def h37_2 : HC :=
  (.seq
  (.block 1
    (.draw [.need (.n2 (.iaddr 1) (.slot 0) (.slot 3)),
      .need (.n1 .ld (.n2 (.iaddr 1) (.slot 0) (.slot 3))),
      .need (.n2 (.iaddr 1) (.slot 0) (.slot 2)),
      .need (.n1 .ld (.n2 (.iaddr 1) (.slot 0) (.slot 2))),
      .asg 25 (.n1 .ld (.n2 (.iaddr 1) (.slot 0) (.slot 2))),
      .need (.n2 (.iaddr 1) (.slot 0) (.slot 2)),
      .eff none (.store 9 (.tmp 26) (.tmp 21)) 0 [(26, .n2 (.iaddr 1) (.slot 0) (.slot 2)), (21, .n1 .ld (.n2 (.iaddr 1) (.slot 0) (.slot 3)))] none [],
      .need (.n2 (.iaddr 1) (.slot 0) (.slot 3)),
      .eff none (.store 9 (.tmp 27) (.tmp 25)) 0 [(27, .n2 (.iaddr 1) (.slot 0) (.slot 3)), (25, .slot 25)] none []]))
  h37_3)
def h37_1 : HC :=
  (.seq
  (.seq
  (.reg [.need (.n2 (.bin .lss) (.slot 2) (.slot 3)),
    .asg 9 (.n2 (.bin .lss) (.slot 2) (.slot 3))])
  (.cond (.slot 9)
    .skip
    (.exit 0)))
  h37_2)
def h37 : HC :=
  (.seq
  (.reg [.need (.n1 .lensl (.slot 0)),
    .need (.n2 (.bin .sub) (.n1 .lensl (.slot 0)) (.lit (.int .i64 1))),
    .asg 2 (.lit (.int .i64 0)),
    .asg 3 (.n2 (.bin .sub) (.n1 .lensl (.slot 0)) (.lit (.int .i64 1)))])
  (.block 0
    (.loop
      h37_1)))
theorem k37 : fnOK Tryd.prog 33554957 [⟨3, [0, 0, 0, 0, 0, 0, 48, 112, 0, 0, 768, 1792, 4083, 8179, 16383, 32767], [(0, []), (1, []), (2, []), (3, []), (4, []), (5, []), (6, []), (7, []), (8, []), (9, []), (10, []), (11, []), (12, []), (13, []), (14, []), (15, [])], none⟩] [] 1 Tryd.f37 = some h37 := by kernel_rfl
theorem c37 : callable Tryd.prog 37 = true := by kernel_rfl
theorem q37 {args : List Value} (ha : args.length = 1) {w : World} {next : Value → World → Prop} {QP : List PanicEntry → World → Prop} (H : hw Tryd.prog noPanic h37 (endV [] next) (σ0 args) w) : callK Tryd.prog 37 args w next QP := fn_rule Tryd.func37 mixed k37 ha H
theorem r37 {args : List Value} (ha : args.length = 1) {w : World} {next : Value → World → Prop} {QP : List PanicEntry → World → Prop} (H : hw Tryd.prog noPanic h37 (endV [] next) (σ0 args) w) : callvK Tryd.prog (.func (.func 37) #[] #[]) args w next QP := callf c37 (q37 ha H)

/- slices.IndexFunc(()missive/api.Field,missive/api.Field) -/
def h38_3 : HC :=
  (.reg [.need (.n2 (.bin .add) (.slot 8) (.lit (.int .i64 1))),
    .asg 8 (.n2 (.bin .add) (.slot 8) (.lit (.int .i64 1)))])
def h38_2 : HC :=
  (.seq
  (.block 1
    (.seq
    (.reg [.asg 5 (.slot 8)])
    (.seq
    (.reg [.need (.n2 (.iaddr 2) (.slot 0) (.slot 5)),
      .need (.n1 (.ldn 2) (.n2 (.iaddr 2) (.slot 0) (.slot 5))),
      .eff (some 16) (.call { callee := .value (.tmp 11), args := #[.tmp 15], argTypes := #[37] }) 4 [(11, .slot 1), (15, .n1 (.ldn 2) (.n2 (.iaddr 2) (.slot 0) (.slot 5)))] none []])
    (.cond (.slot 16)
      (.seq
      (.reg [.asg 4 (.slot 5)])
      .ret)
      .skip))))
  h38_3)
def h38_1 : HC :=
  (.seq
  (.reg [.need (.n2 (.bin .lss) (.slot 8) (.slot 7)),
    .asg 9 (.n2 (.bin .lss) (.slot 8) (.slot 7))])
  (.seq
  (.cond (.slot 9)
    .skip
    (.exit 0))
  h38_2))
def h38_4 : HC :=
  (.seq
  (.reg [.asg 4 (.lit (.int .i64 (-1)))])
  .ret)
def h38 : HC :=
  (.seq
  (.reg [.asg 4 (.lit (.int .i64 0))])
  (.seq
  (.seq
  (.reg [.need (.n1 .lensl (.slot 0)),
    .asg 7 (.n1 .lensl (.slot 0)),
    .asg 8 (.lit (.int .i64 0))])
  (.block 0
    (.loop
      h38_1)))
  h38_4))
theorem k38 : fnOK Tryd.prog 66483 [] [.tmp 4] 2 Tryd.f38 = some h38 := by kernel_rfl
theorem c38 : callable Tryd.prog 38 = true := by kernel_rfl
theorem q38 {args : List Value} (ha : args.length = 2) {w : World} {next : Value → World → Prop} {QP : List PanicEntry → World → Prop} (H : hw Tryd.prog noPanic h38 (endV [.tmp 4] next) (σ0 args) w) : callK Tryd.prog 38 args w next QP := fn_rule Tryd.func38 mixed k38 ha H
theorem r38 {args : List Value} (ha : args.length = 2) {w : World} {next : Value → World → Prop} {QP : List PanicEntry → World → Prop} (H : hw Tryd.prog noPanic h38 (endV [.tmp 4] next) (σ0 args) w) : callvK Tryd.prog (.func (.func 38) #[] #[]) args w next QP := callf c38 (q38 ha H)

/- missive/header.has -/
def h39 : HC :=
  (.seq
  (.reg [.eff (some 1) (.box 9 (.tmp 0)) 0 [(0, .slot 0)] none [],
    .asg 2 (.lit .nilFunc)])
  (.seq
  (.reg [.asg 2 (.n2 .capt (.lit (.func (.func 59) #[] #[])) (.slot 1))])
  .ret))
theorem k39 : fnOK Tryd.prog 7 [] [.tmp 2] 1 Tryd.f39 = some h39 := by kernel_rfl
theorem c39 : callable Tryd.prog 39 = true := by kernel_rfl
theorem q39 {args : List Value} (ha : args.length = 1) {w : World} {next : Value → World → Prop} {QP : List PanicEntry → World → Prop} (H : hw Tryd.prog noPanic h39 (endV [.tmp 2] next) (σ0 args) w) : callK Tryd.prog 39 args w next QP := fn_rule Tryd.func39 mixed k39 ha H
theorem r39 {args : List Value} (ha : args.length = 1) {w : World} {next : Value → World → Prop} {QP : List PanicEntry → World → Prop} (H : hw Tryd.prog noPanic h39 (endV [.tmp 2] next) (σ0 args) w) : callvK Tryd.prog (.func (.func 39) #[] #[]) args w next QP := callf c39 (q39 ha H)

/- (*strings.Builder).Write -/
def h42 : HC :=
  (.seq
  (.reg [.asg 4 (.lit (.int .i64 0)),
    .asg 5 (.lit .nilIface)])
  (.seq
  (.reg [.eff (some 7) (.call { callee := .value (.func 63), args := #[.tmp 6], argTypes := #[66] }) 0 [(6, .slot 0)] none []])
  (.seq
  (.reg [.need (.n1 .nilchk (.slot 0)),
    .need (.n1 (.faddr 1) (.n1 .nilchk (.slot 0))),
    .need (.n1 .ld (.n1 (.faddr 1) (.n1 .nilchk (.slot 0)))),
    .eff (some 14) (.call { callee := .builtin .append, args := #[.tmp 12, .tmp 13], argTypes := #[45, 45] }) 45 [(12, .n1 .ld (.n1 (.faddr 1) (.n1 .nilchk (.slot 0)))), (13, .slot 1)] none [],
    .need (.n1 .nilchk (.slot 0)),
    .need (.n1 (.faddr 1) (.n1 .nilchk (.slot 0))),
    .eff none (.store 45 (.tmp 16) (.tmp 14)) 0 [(16, .n1 (.faddr 1) (.n1 .nilchk (.slot 0))), (14, .slot 14)] none []])
  (.seq
  (.reg [.need (.n1 .lensl (.slot 1)),
    .asg 4 (.n1 .lensl (.slot 1)),
    .asg 5 (.lit .nilIface)])
  .ret))))
theorem k42 : fnOK Tryd.prog 16563 [] [.tmp 4, .tmp 5] 2 Tryd.f42 = some h42 := by kernel_rfl
theorem c42 : callable Tryd.prog 42 = true := by kernel_rfl
theorem q42 {args : List Value} (ha : args.length = 2) {w : World} {next : Value → World → Prop} {QP : List PanicEntry → World → Prop} (H : hw Tryd.prog noPanic h42 (endV [.tmp 4, .tmp 5] next) (σ0 args) w) : callK Tryd.prog 42 args w next QP := fn_rule Tryd.func42 mixed k42 ha H
theorem r42 {args : List Value} (ha : args.length = 2) {w : World} {next : Value → World → Prop} {QP : List PanicEntry → World → Prop} (H : hw Tryd.prog noPanic h42 (endV [.tmp 4, .tmp 5] next) (σ0 args) w) : callvK Tryd.prog (.func (.func 42) #[] #[]) args w next QP := callf c42 (q42 ha H)

/- (*strings.Builder).String -/
def h43 : HC :=
  (.seq
  (.reg [.asg 2 (.lit (str []))])
  (.seq
  (.draw [.need (.n1 .nilchk (.slot 0)),
    .need (.n1 (.faddr 1) (.n1 .nilchk (.slot 0))),
    .need (.n1 .ld (.n1 (.faddr 1) (.n1 .nilchk (.slot 0)))),
    .need (.n1 .nilchk (.slot 0)),
    .need (.n1 (.faddr 1) (.n1 .nilchk (.slot 0))),
    .need (.n1 .ld (.n1 (.faddr 1) (.n1 .nilchk (.slot 0)))),
    .need (.n1 .lensl (.n1 .ld (.n1 (.faddr 1) (.n1 .nilchk (.slot 0))))),
    .asg 12 (.n1 .lensl (.n1 .ld (.n1 (.faddr 1) (.n1 .nilchk (.slot 0))))),
    .eff (some 7) (.call { callee := .builtin .unsafeSliceData, args := #[.tmp 6], argTypes := #[45] }) 96 [(6, .n1 .ld (.n1 (.faddr 1) (.n1 .nilchk (.slot 0))))] none [⟨none, .ld, .n1 (.faddr 1) (.n1 .nilchk (.slot 0))⟩],
    .eff (some 13) (.call { callee := .builtin .unsafeString, args := #[.tmp 7, .tmp 12], argTypes := #[96, 3] }) 9 [(7, .slot 7), (12, .slot 12)] none [],
    .asg 2 (.slot 13)])
  .ret))
theorem k43 : fnOK Tryd.prog 12421 [⟨1, [0, 1, 3, 7, 15, 0, 32, 96, 224, 480, 1023, 2047], [(0, []), (1, []), (2, []), (3, []), (5, []), (6, []), (7, []), (8, []), (9, []), (4, [8]), (10, []), (11, [])], none⟩] [.tmp 2] 1 Tryd.f43 = some h43 := by kernel_rfl
theorem c43 : callable Tryd.prog 43 = true := by kernel_rfl
theorem q43 {args : List Value} (ha : args.length = 1) {w : World} {next : Value → World → Prop} {QP : List PanicEntry → World → Prop} (H : hw Tryd.prog noPanic h43 (endV [.tmp 2] next) (σ0 args) w) : callK Tryd.prog 43 args w next QP := fn_rule Tryd.func43 mixed k43 ha H
theorem r43 {args : List Value} (ha : args.length = 1) {w : World} {next : Value → World → Prop} {QP : List PanicEntry → World → Prop} (H : hw Tryd.prog noPanic h43 (endV [.tmp 2] next) (σ0 args) w) : callvK Tryd.prog (.func (.func 43) #[] #[]) args w next QP := callf c43 (q43 ha H)

/- missive/missiveref01.Same -/
def h44 : HC :=
  (.seq
  (.reg [.asg 4 (.lit (.bool false))])
  (.seq
  (.reg [.eff (some 6) (.call { callee := .value (.func 64), args := #[.tmp 5], argTypes := #[9] }) 9 [(5, .slot 0)] none [],
    .eff (some 8) (.call { callee := .value (.func 64), args := #[.tmp 7], argTypes := #[9] }) 9 [(7, .slot 1)] none [],
    .need (.n2 (.sbin .eql) (.slot 6) (.slot 8)),
    .asg 4 (.n2 (.sbin .eql) (.slot 6) (.slot 8))])
  .ret))
theorem k44 : fnOK Tryd.prog 339 [] [.tmp 4] 2 Tryd.f44 = some h44 := by kernel_rfl
theorem c44 : callable Tryd.prog 44 = true := by kernel_rfl
theorem q44 {args : List Value} (ha : args.length = 2) {w : World} {next : Value → World → Prop} {QP : List PanicEntry → World → Prop} (H : hw Tryd.prog noPanic h44 (endV [.tmp 4] next) (σ0 args) w) : callK Tryd.prog 44 args w next QP := fn_rule Tryd.func44 mixed k44 ha H
theorem r44 {args : List Value} (ha : args.length = 2) {w : World} {next : Value → World → Prop} {QP : List PanicEntry → World → Prop} (H : hw Tryd.prog noPanic h44 (endV [.tmp 4] next) (σ0 args) w) : callvK Tryd.prog (.func (.func 44) #[] #[]) args w next QP := callf c44 (q44 ha H)

/- strings.Index -/
def h47 : HC :=
  (.seq
  (.reg [.asg 4 (.lit (.int .i64 0))])
  (.seq
  (.reg [.eff (some 7) (.call { callee := .value (.func 65), args := #[.tmp 5, .tmp 6], argTypes := #[9, 9] }) 3 [(5, .slot 0), (6, .slot 1)] none [],
    .asg 4 (.slot 7)])
  .ret))
theorem k47 : fnOK Tryd.prog 147 [] [.tmp 4] 2 Tryd.f47 = some h47 := by kernel_rfl
theorem c47 : callable Tryd.prog 47 = true := by kernel_rfl
theorem q47 {args : List Value} (ha : args.length = 2) {w : World} {next : Value → World → Prop} {QP : List PanicEntry → World → Prop} (H : hw Tryd.prog noPanic h47 (endV [.tmp 4] next) (σ0 args) w) : callK Tryd.prog 47 args w next QP := fn_rule Tryd.func47 mixed k47 ha H
theorem r47 {args : List Value} (ha : args.length = 2) {w : World} {next : Value → World → Prop} {QP : List PanicEntry → World → Prop} (H : hw Tryd.prog noPanic h47 (endV [.tmp 4] next) (σ0 args) w) : callvK Tryd.prog (.func (.func 47) #[] #[]) args w next QP := callf c47 (q47 ha H)

/- strings.IndexFunc -/
def h48 : HC :=
  (.seq
  (.reg [.asg 4 (.lit (.int .i64 0))])
  (.seq
  (.reg [.eff (some 7) (.call { callee := .value (.func 66), args := #[.tmp 5, .tmp 6, .const (.bool true)], argTypes := #[9, 44, 4] }) 3 [(5, .slot 0), (6, .slot 1)] none [],
    .asg 4 (.slot 7)])
  .ret))
theorem k48 : fnOK Tryd.prog 147 [] [.tmp 4] 2 Tryd.f48 = some h48 := by kernel_rfl
theorem c48 : callable Tryd.prog 48 = true := by kernel_rfl
theorem q48 {args : List Value} (ha : args.length = 2) {w : World} {next : Value → World → Prop} {QP : List PanicEntry → World → Prop} (H : hw Tryd.prog noPanic h48 (endV [.tmp 4] next) (σ0 args) w) : callK Tryd.prog 48 args w next QP := fn_rule Tryd.func48 mixed k48 ha H
theorem r48 {args : List Value} (ha : args.length = 2) {w : World} {next : Value → World → Prop} {QP : List PanicEntry → World → Prop} (H : hw Tryd.prog noPanic h48 (endV [.tmp 4] next) (σ0 args) w) : callvK Tryd.prog (.func (.func 48) #[] #[]) args w next QP := callf c48 (q48 ha H)

/- (*strings.Builder).WriteByte -/
def h49_1 : HC :=
  (.seq
  (.reg [.asg 4 (.lit .nilIface)])
  .ret)
def h49 : HC :=
  (.seq
  (.reg [.asg 4 (.lit .nilIface)])
  (.seq
  (.reg [.eff (some 6) (.call { callee := .value (.func 63), args := #[.tmp 5], argTypes := #[66] }) 0 [(5, .slot 0)] none []])
  (.seq
  (.reg [.need (.n1 .nilchk (.slot 0)),
    .need (.n1 (.faddr 1) (.n1 .nilchk (.slot 0))),
    .need (.n1 .ld (.n1 (.faddr 1) (.n1 .nilchk (.slot 0)))),
    .asg 11 (.n1 .ld (.n1 (.faddr 1) (.n1 .nilchk (.slot 0)))),
    .eff (some 13) (.buildSlice 45 1 #[(0, .tmp 12)]) 45 [(12, .slot 1)] none [],
    .eff (some 14) (.call { callee := .builtin .append, args := #[.tmp 11, .tmp 13], argTypes := #[45, 45] }) 45 [(11, .slot 11), (13, .slot 13)] none [],
    .need (.n1 .nilchk (.slot 0)),
    .need (.n1 (.faddr 1) (.n1 .nilchk (.slot 0))),
    .eff none (.store 45 (.tmp 16) (.tmp 14)) 0 [(16, .n1 (.faddr 1) (.n1 .nilchk (.slot 0))), (14, .slot 14)] none []])
  h49_1)))
theorem k49 : fnOK Tryd.prog 26707 [] [.tmp 4] 2 Tryd.f49 = some h49 := by kernel_rfl
theorem c49 : callable Tryd.prog 49 = true := by kernel_rfl
theorem q49 {args : List Value} (ha : args.length = 2) {w : World} {next : Value → World → Prop} {QP : List PanicEntry → World → Prop} (H : hw Tryd.prog noPanic h49 (endV [.tmp 4] next) (σ0 args) w) : callK Tryd.prog 49 args w next QP := fn_rule Tryd.func49 mixed k49 ha H
theorem r49 {args : List Value} (ha : args.length = 2) {w : World} {next : Value → World → Prop} {QP : List PanicEntry → World → Prop} (H : hw Tryd.prog noPanic h49 (endV [.tmp 4] next) (σ0 args) w) : callvK Tryd.prog (.func (.func 49) #[] #[]) args w next QP := callf c49 (q49 ha H)

/- missive/missiveref03.digit -/
def h50_1 : HC :=
  (.seq
  (.reg [.need (.n2 (.bin .add) (.lit (.int .i64 97)) (.slot 0)),
    .need (.n2 (.bin .sub) (.n2 (.bin .add) (.lit (.int .i64 97)) (.slot 0)) (.lit (.int .i64 10))),
    .need (.n1 (.conv .u8) (.n2 (.bin .sub) (.n2 (.bin .add) (.lit (.int .i64 97)) (.slot 0)) (.lit (.int .i64 10)))),
    .asg 2 (.n1 (.conv .u8) (.n2 (.bin .sub) (.n2 (.bin .add) (.lit (.int .i64 97)) (.slot 0)) (.lit (.int .i64 10))))])
  .ret)
def h50 : HC :=
  (.seq
  (.reg [.asg 2 (.lit (.int .u8 0))])
  (.seq
  (.seq
  (.reg [.need (.n2 (.bin .lss) (.slot 0) (.lit (.int .i64 10))),
    .asg 4 (.n2 (.bin .lss) (.slot 0) (.lit (.int .i64 10)))])
  (.cond (.slot 4)
    (.seq
    (.reg [.need (.n2 (.bin .add) (.lit (.int .i64 48)) (.slot 0)),
      .need (.n1 (.conv .u8) (.n2 (.bin .add) (.lit (.int .i64 48)) (.slot 0))),
      .asg 2 (.n1 (.conv .u8) (.n2 (.bin .add) (.lit (.int .i64 48)) (.slot 0)))])
    .ret)
    .skip))
  h50_1))
theorem k50 : fnOK Tryd.prog 21 [] [.tmp 2] 1 Tryd.f50 = some h50 := by kernel_rfl
theorem c50 : callable Tryd.prog 50 = true := by kernel_rfl
theorem q50 {args : List Value} (ha : args.length = 1) {w : World} {next : Value → World → Prop} {QP : List PanicEntry → World → Prop} (H : hw Tryd.prog noPanic h50 (endV [.tmp 2] next) (σ0 args) w) : callK Tryd.prog 50 args w next QP := fn_rule Tryd.func50 mixed k50 ha H
theorem r50 {args : List Value} (ha : args.length = 1) {w : World} {next : Value → World → Prop} {QP : List PanicEntry → World → Prop} (H : hw Tryd.prog noPanic h50 (endV [.tmp 2] next) (σ0 args) w) : callvK Tryd.prog (.func (.func 50) #[] #[]) args w next QP := callf c50 (q50 ha H)

/- internal/stringslite.Cut -/
def h51_1 : HC :=
  (.seq
  (.reg [.asg 4 (.slot 0),
    .asg 5 (.lit (str [])),
    .asg 6 (.lit (.bool false))])
  .ret)
def h51 : HC :=
  (.seq
  (.reg [.asg 4 (.lit (str [])),
    .asg 5 (.lit (str [])),
    .asg 6 (.lit (.bool false))])
  (.seq
  (.seq
  (.reg [.eff (some 10) (.call { callee := .value (.func 65), args := #[.tmp 8, .tmp 9], argTypes := #[9, 9] }) 3 [(8, .slot 0), (9, .slot 1)] none [],
    .asg 7 (.slot 10)])
  (.seq
  (.reg [.need (.n2 (.bin .geq) (.slot 7) (.lit (.int .i64 0))),
    .asg 12 (.n2 (.bin .geq) (.slot 7) (.lit (.int .i64 0)))])
  (.cond (.slot 12)
    (.seq
    (.draw [.need (.n3 (.sls false true) (.slot 0) (.lit (.tuple #[])) (.slot 7)),
      .need (.n1 .lens (.slot 1)),
      .need (.n2 (.bin .add) (.slot 7) (.n1 .lens (.slot 1))),
      .need (.n3 (.sls true false) (.slot 0) (.n2 (.bin .add) (.slot 7) (.n1 .lens (.slot 1))) (.lit (.tuple #[]))),
      .asg 4 (.n3 (.sls false true) (.slot 0) (.lit (.tuple #[])) (.slot 7)),
      .asg 5 (.n3 (.sls true false) (.slot 0) (.n2 (.bin .add) (.slot 7) (.n1 .lens (.slot 1))) (.lit (.tuple #[]))),
      .asg 6 (.lit (.bool true))])
    .ret)
    .skip)))
  h51_1))
theorem k51 : fnOK Tryd.prog 5363 [⟨3, [0, 0, 3, 0, 0, 0, 32, 112, 248, 7, 1023, 2047], [(0, []), (1, []), (2, []), (3, []), (4, []), (5, []), (6, []), (7, []), (8, []), (9, []), (10, []), (11, [])], none⟩] [.tmp 4, .tmp 5, .tmp 6] 2 Tryd.f51 = some h51 := by kernel_rfl
theorem c51 : callable Tryd.prog 51 = true := by kernel_rfl
theorem q51 {args : List Value} (ha : args.length = 2) {w : World} {next : Value → World → Prop} {QP : List PanicEntry → World → Prop} (H : hw Tryd.prog noPanic h51 (endV [.tmp 4, .tmp 5, .tmp 6] next) (σ0 args) w) : callK Tryd.prog 51 args w next QP := fn_rule Tryd.func51 mixed k51 ha H
theorem r51 {args : List Value} (ha : args.length = 2) {w : World} {next : Value → World → Prop} {QP : List PanicEntry → World → Prop} (H : hw Tryd.prog noPanic h51 (endV [.tmp 4, .tmp 5, .tmp 6] next) (σ0 args) w) : callvK Tryd.prog (.func (.func 51) #[] #[]) args w next QP := callf c51 (q51 ha H)

/- strings.shouldUseASCIISet -/
def h53 : HC :=
  (.seq
  (.reg [.asg 2 (.lit (.bool false))])
  (.seq
  (.reg [.need (.n2 (.bin .gtr) (.slot 0) (.lit (.int .i64 8))),
    .asg 2 (.n2 (.bin .gtr) (.slot 0) (.lit (.int .i64 8)))])
  .ret))
theorem k53 : fnOK Tryd.prog 5 [] [.tmp 2] 1 Tryd.f53 = some h53 := by kernel_rfl
theorem c53 : callable Tryd.prog 53 = true := by kernel_rfl
theorem q53 {args : List Value} (ha : args.length = 1) {w : World} {next : Value → World → Prop} {QP : List PanicEntry → World → Prop} (H : hw Tryd.prog noPanic h53 (endV [.tmp 2] next) (σ0 args) w) : callK Tryd.prog 53 args w next QP := fn_rule Tryd.func53 mixed k53 ha H
theorem r53 {args : List Value} (ha : args.length = 1) {w : World} {next : Value → World → Prop} {QP : List PanicEntry → World → Prop} (H : hw Tryd.prog noPanic h53 (endV [.tmp 2] next) (σ0 args) w) : callvK Tryd.prog (.func (.func 53) #[] #[]) args w next QP := callf c53 (q53 ha H)

/- strings.makeASCIISet -/
def h54_3 : HC :=
  (.reg [.need (.n2 (.iaddra 256 1) (.slot 2) (.slot 5)),
    .eff none (.store 4 (.tmp 19) (.const (.bool true))) 0 [(19, .n2 (.iaddra 256 1) (.slot 2) (.slot 5))] none []])
def h54_4 : HC :=
  (.reg [.need (.n2 (.bin .add) (.slot 4) (.lit (.int .i64 1))),
    .asg 4 (.n2 (.bin .add) (.slot 4) (.lit (.int .i64 1)))])
def h54_2 : HC :=
  (.seq
  (.block 1
    (.seq
    (.reg [.need (.n2 .idxs (.slot 0) (.slot 4)),
      .asg 5 (.n2 .idxs (.slot 0) (.slot 4))])
    (.seq
    (.seq
    (.reg [.need (.n2 (.bin .geq) (.slot 5) (.lit (.int .u8 128))),
      .asg 16 (.n2 (.bin .geq) (.slot 5) (.lit (.int .u8 128)))])
    (.cond (.slot 16)
      (.seq
      (.reg [.need (.n1 (.ldn 256) (.slot 2)),
        .eff none (.store 84 (.tmp 2) (.tmp 17)) 0 [(2, .slot 2), (17, .n1 (.ldn 256) (.slot 2))] none [],
        .asg 3 (.lit (.bool false))])
      .ret)
      .skip))
    h54_3)))
  h54_4)
def h54_1 : HC :=
  (.seq
  (.seq
  (.reg [.need (.n1 .lens (.slot 0)),
    .need (.n2 (.bin .lss) (.slot 4) (.n1 .lens (.slot 0))),
    .asg 9 (.n2 (.bin .lss) (.slot 4) (.n1 .lens (.slot 0)))])
  (.cond (.slot 9)
    .skip
    (.exit 0)))
  h54_2)
def h54_5 : HC :=
  (.seq
  (.reg [.need (.n1 (.ldn 256) (.slot 2)),
    .eff none (.store 84 (.tmp 2) (.tmp 20)) 0 [(2, .slot 2), (20, .n1 (.ldn 256) (.slot 2))] none [],
    .asg 3 (.lit (.bool true))])
  .ret)
def h54 : HC :=
  (.seq
  (.reg [.eff (some 2) (.alloc 84) 0 [] none [],
    .asg 3 (.lit (.bool false))])
  (.seq
  (.seq
  (.reg [.asg 4 (.lit (.int .i64 0))])
  (.block 0
    (.loop
      h54_1)))
  h54_5))
theorem k54 : fnOK Tryd.prog 66109 [] [.cell 2 (.ldn 256), .tmp 3] 1 Tryd.f54 = some h54 := by kernel_rfl
theorem c54 : callable Tryd.prog 54 = true := by kernel_rfl
theorem q54 {args : List Value} (ha : args.length = 1) {w : World} {next : Value → World → Prop} {QP : List PanicEntry → World → Prop} (H : hw Tryd.prog noPanic h54 (endV [.cell 2 (.ldn 256), .tmp 3] next) (σ0 args) w) : callK Tryd.prog 54 args w next QP := fn_rule Tryd.func54 mixed k54 ha H
theorem r54 {args : List Value} (ha : args.length = 1) {w : World} {next : Value → World → Prop} {QP : List PanicEntry → World → Prop} (H : hw Tryd.prog noPanic h54 (endV [.cell 2 (.ldn 256), .tmp 3] next) (σ0 args) w) : callvK Tryd.prog (.func (.func 54) #[] #[]) args w next QP := callf c54 (q54 ha H)

/- (*strings.asciiSet).contains -/
def h55 : HC :=
  (.seq
  (.reg [.asg 4 (.lit (.bool false))])
  (.seq
  (.reg [.need (.n1 .nilchk (.slot 0)),
    .need (.n2 (.iaddra 256 1) (.n1 .nilchk (.slot 0)) (.slot 1)),
    .need (.n1 .ld (.n2 (.iaddra 256 1) (.n1 .nilchk (.slot 0)) (.slot 1))),
    .asg 4 (.n1 .ld (.n2 (.iaddra 256 1) (.n1 .nilchk (.slot 0)) (.slot 1)))])
  .ret))
theorem k55 : fnOK Tryd.prog 19 [] [.tmp 4] 2 Tryd.f55 = some h55 := by kernel_rfl
theorem c55 : callable Tryd.prog 55 = true := by kernel_rfl
theorem q55 {args : List Value} (ha : args.length = 2) {w : World} {next : Value → World → Prop} {QP : List PanicEntry → World → Prop} (H : hw Tryd.prog noPanic h55 (endV [.tmp 4] next) (σ0 args) w) : callK Tryd.prog 55 args w next QP := fn_rule Tryd.func55 mixed k55 ha H
theorem r55 {args : List Value} (ha : args.length = 2) {w : World} {next : Value → World → Prop} {QP : List PanicEntry → World → Prop} (H : hw Tryd.prog noPanic h55 (endV [.tmp 4] next) (σ0 args) w) : callvK Tryd.prog (.func (.func 55) #[] #[]) args w next QP := callf c55 (q55 ha H)

/- slices.Index(()string,string) -/
def h56_3 : HC :=
  (.reg [.need (.n2 (.bin .add) (.slot 8) (.lit (.int .i64 1))),
    .asg 8 (.n2 (.bin .add) (.slot 8) (.lit (.int .i64 1)))])
def h56_2 : HC :=
  (.seq
  (.block 1
    (.seq
    (.reg [.asg 5 (.slot 8)])
    (.seq
    (.reg [.need (.n2 (.iaddr 1) (.slot 0) (.slot 5)),
      .need (.n1 .ld (.n2 (.iaddr 1) (.slot 0) (.slot 5))),
      .need (.n2 (.sbin .eql) (.slot 1) (.n1 .ld (.n2 (.iaddr 1) (.slot 0) (.slot 5)))),
      .asg 16 (.n2 (.sbin .eql) (.slot 1) (.n1 .ld (.n2 (.iaddr 1) (.slot 0) (.slot 5))))])
    (.cond (.slot 16)
      (.seq
      (.reg [.asg 4 (.slot 5)])
      .ret)
      .skip))))
  h56_3)
def h56_1 : HC :=
  (.seq
  (.reg [.need (.n2 (.bin .lss) (.slot 8) (.slot 7)),
    .asg 9 (.n2 (.bin .lss) (.slot 8) (.slot 7))])
  (.seq
  (.cond (.slot 9)
    .skip
    (.exit 0))
  h56_2))
def h56_4 : HC :=
  (.seq
  (.reg [.asg 4 (.lit (.int .i64 (-1)))])
  .ret)
def h56 : HC :=
  (.seq
  (.reg [.asg 4 (.lit (.int .i64 0))])
  (.seq
  (.seq
  (.reg [.need (.n1 .lensl (.slot 0)),
    .asg 7 (.n1 .lensl (.slot 0)),
    .asg 8 (.lit (.int .i64 0))])
  (.block 0
    (.loop
      h56_1)))
  h56_4))
theorem k56 : fnOK Tryd.prog 66483 [] [.tmp 4] 2 Tryd.f56 = some h56 := by kernel_rfl
theorem c56 : callable Tryd.prog 56 = true := by kernel_rfl
theorem q56 {args : List Value} (ha : args.length = 2) {w : World} {next : Value → World → Prop} {QP : List PanicEntry → World → Prop} (H : hw Tryd.prog noPanic h56 (endV [.tmp 4] next) (σ0 args) w) : callK Tryd.prog 56 args w next QP := fn_rule Tryd.func56 mixed k56 ha H
theorem r56 {args : List Value} (ha : args.length = 2) {w : World} {next : Value → World → Prop} {QP : List PanicEntry → World → Prop} (H : hw Tryd.prog noPanic h56 (endV [.tmp 4] next) (σ0 args) w) : callvK Tryd.prog (.func (.func 56) #[] #[]) args w next QP := callf c56 (q56 ha H)

/- slices.Grow(()string,string) -/
def h57_2 : HC :=
  (.seq
  (.reg [.asg 4 (.slot 0)])
  .ret)
def h57_1 : HC :=
  (.seq
  (.seq
  (.reg [.need (.n1 .capsl (.slot 0)),
    .need (.n1 .lensl (.slot 0)),
    .need (.n2 (.bin .sub) (.n1 .capsl (.slot 0)) (.n1 .lensl (.slot 0))),
    .need (.n2 (.bin .sub) (.slot 1) (.n2 (.bin .sub) (.n1 .capsl (.slot 0)) (.n1 .lensl (.slot 0)))),
    .asg 1 (.n2 (.bin .sub) (.slot 1) (.n2 (.bin .sub) (.n1 .capsl (.slot 0)) (.n1 .lensl (.slot 0))))])
  (.seq
  (.reg [.need (.n2 (.bin .gtr) (.slot 1) (.lit (.int .i64 0))),
    .asg 16 (.n2 (.bin .gtr) (.slot 1) (.lit (.int .i64 0)))])
  (.cond (.slot 16)
    (.reg [.need (.n1 .capsl (.slot 0)),
      .need (.n3 (.slv 1 false true) (.slot 0) (.lit (.tuple #[])) (.n1 .capsl (.slot 0))),
      .eff (some 22) (.call { callee := .builtin .append, args := #[.tmp 20, .tmp 21], argTypes := #[31, 3] }) 31 [(20, .n3 (.slv 1 false true) (.slot 0) (.lit (.tuple #[])) (.n1 .capsl (.slot 0))), (21, .slot 1)] none [],
      .need (.n1 .lensl (.slot 0)),
      .need (.n3 (.slv 1 false true) (.slot 22) (.lit (.tuple #[])) (.n1 .lensl (.slot 0))),
      .asg 0 (.n3 (.slv 1 false true) (.slot 22) (.lit (.tuple #[])) (.n1 .lensl (.slot 0)))])
    .skip)))
  h57_2)
def h57 : HC :=
  (.seq
  (.reg [.asg 4 (.lit (.slice none 0 0))])
  (.seq
  (.seq
  (.reg [.need (.n2 (.bin .lss) (.slot 1) (.lit (.int .i64 0))),
    .asg 6 (.n2 (.bin .lss) (.slot 1) (.lit (.int .i64 0)))])
  (.cond (.slot 6)
    (.reg [.need (.n1 (.mkif 9) (.lit (str [99, 97, 110, 110, 111, 116, 32, 98, 101, 32, 110, 101, 103, 97, 116, 105, 118, 101]))),
      .eff none (.panic (.tmp 7)) 0 [(7, .n1 (.mkif 9) (.lit (str [99, 97, 110, 110, 111, 116, 32, 98, 101, 32, 110, 101, 103, 97, 116, 105, 118, 101])))] none []])
    .skip))
  h57_1))
theorem k57 : fnOK Tryd.prog 4259923 [] [.tmp 4] 2 Tryd.f57 = some h57 := by kernel_rfl
theorem c57 : callable Tryd.prog 57 = true := by kernel_rfl
theorem q57 {args : List Value} (ha : args.length = 2) {w : World} {next : Value → World → Prop} {QP : List PanicEntry → World → Prop} (H : hw Tryd.prog noPanic h57 (endV [.tmp 4] next) (σ0 args) w) : callK Tryd.prog 57 args w next QP := fn_rule Tryd.func57 mixed k57 ha H
theorem r57 {args : List Value} (ha : args.length = 2) {w : World} {next : Value → World → Prop} {QP : List PanicEntry → World → Prop} (H : hw Tryd.prog noPanic h57 (endV [.tmp 4] next) (σ0 args) w) : callvK Tryd.prog (.func (.func 57) #[] #[]) args w next QP := callf c57 (q57 ha H)

/- slices.Backward(()string,string)$1 -/
def h58_3 : HC :=
  (.reg [.need (.n2 (.bin .sub) (.slot 3) (.lit (.int .i64 1))),
    .asg 3 (.n2 (.bin .sub) (.slot 3) (.lit (.int .i64 1)))])
def h58_2 : HC :=
  (.seq
  (.block 1
    (.seq
    (.reg [.need (.n1 .ld (.slot 1)),
      .need (.n2 (.iaddr 1) (.n1 .ld (.slot 1)) (.slot 3)),
      .need (.n1 .ld (.n2 (.iaddr 1) (.n1 .ld (.slot 1)) (.slot 3))),
      .eff (some 17) (.call { callee := .value (.tmp 11), args := #[.tmp 12, .tmp 16], argTypes := #[3, 9] }) 4 [(11, .slot 0), (12, .slot 3), (16, .n1 .ld (.n2 (.iaddr 1) (.n1 .ld (.slot 1)) (.slot 3)))] none [],
      .need (.n1 .bnot (.slot 17)),
      .asg 18 (.n1 .bnot (.slot 17))])
    (.cond (.slot 18)
      .ret
      .skip)))
  h58_3)
def h58_1 : HC :=
  (.seq
  (.seq
  (.reg [.need (.n2 (.bin .geq) (.slot 3) (.lit (.int .i64 0))),
    .asg 8 (.n2 (.bin .geq) (.slot 3) (.lit (.int .i64 0)))])
  (.cond (.slot 8)
    .skip
    (.exit 0)))
  h58_2)
def h58 : HC :=
  (.seq
  (.reg [.need (.n1 .ld (.slot 1)),
    .need (.n1 .lensl (.n1 .ld (.slot 1))),
    .need (.n2 (.bin .sub) (.n1 .lensl (.n1 .ld (.slot 1))) (.lit (.int .i64 1))),
    .asg 3 (.n2 (.bin .sub) (.n1 .lensl (.n1 .ld (.slot 1))) (.lit (.int .i64 1)))])
  (.block 0
    (.loop
      h58_1)))
theorem k58 : fnOK Tryd.prog 393483 [] [] 2 Tryd.f58 = some h58 := by kernel_rfl
theorem c58 : callable Tryd.prog 58 = true := by kernel_rfl
theorem q58 {args : List Value} (ha : args.length = 2) {w : World} {next : Value → World → Prop} {QP : List PanicEntry → World → Prop} (H : hw Tryd.prog noPanic h58 (endV [] next) (σ0 args) w) : callK Tryd.prog 58 args w next QP := fn_rule Tryd.func58 mixed k58 ha H
theorem r58 {args : List Value} (ha : args.length = 2) {w : World} {next : Value → World → Prop} {QP : List PanicEntry → World → Prop} (H : hw Tryd.prog noPanic h58 (endV [] next) (σ0 args) w) : callvK Tryd.prog (.func (.func 58) #[] #[]) args w next QP := callf c58 (q58 ha H)

/- missive/header.has$1 -/
def h59 : HC :=
  (.seq
  (.reg [.eff (some 2) (.box 37 (.tmp 0)) 0 [(0, .slot 0)] none [],
    .asg 3 (.lit (.bool false))])
  (.seq
  (.reg [.need (.n1 (.faddr 0) (.slot 2)),
    .need (.n1 .ld (.n1 (.faddr 0) (.slot 2))),
    .need (.n1 .ld (.slot 1)),
    .eff (some 7) (.call { callee := .value (.func 60), args := #[.tmp 5, .tmp 6], argTypes := #[9, 9] }) 4 [(5, .n1 .ld (.n1 (.faddr 0) (.slot 2))), (6, .n1 .ld (.slot 1))] none [],
    .asg 3 (.slot 7)])
  .ret))
theorem k59 : fnOK Tryd.prog 143 [] [.tmp 3] 2 Tryd.f59 = some h59 := by kernel_rfl
theorem c59 : callable Tryd.prog 59 = true := by kernel_rfl
theorem q59 {args : List Value} (ha : args.length = 2) {w : World} {next : Value → World → Prop} {QP : List PanicEntry → World → Prop} (H : hw Tryd.prog noPanic h59 (endV [.tmp 3] next) (σ0 args) w) : callK Tryd.prog 59 args w next QP := fn_rule Tryd.func59 mixed k59 ha H
theorem r59 {args : List Value} (ha : args.length = 2) {w : World} {next : Value → World → Prop} {QP : List PanicEntry → World → Prop} (H : hw Tryd.prog noPanic h59 (endV [.tmp 3] next) (σ0 args) w) : callvK Tryd.prog (.func (.func 59) #[] #[]) args w next QP := callf c59 (q59 ha H)

/- missive/text.Same -/
def l60_1 : List HS :=
  .need (.gif (.n2 (.bin .eql) (.n1 .lens (.slot 0)) (.n1 .lens (.slot 1))) true (.n2 (.sbin .eql) (.slot 12) (.slot 14))) ::
  .need (.n3 .pick (.n2 (.bin .eql) (.n1 .lens (.slot 0)) (.n1 .lens (.slot 1))) (.n2 (.sbin .eql) (.slot 12) (.slot 14)) (.lit (.bool false))) ::
  .asg 4 (.n3 .pick (.n2 (.bin .eql) (.n1 .lens (.slot 0)) (.n1 .lens (.slot 1))) (.n2 (.sbin .eql) (.slot 12) (.slot 14)) (.lit (.bool false))) ::
  []
def l60_2 : List HS :=
  .eff (some 14) (.call { callee := .value (.func 71), args := #[.tmp 13], argTypes := #[9] }) 9 [(13, .slot 1)] (some (.n2 (.bin .eql) (.n1 .lens (.slot 0)) (.n1 .lens (.slot 1)), true)) [] ::
  l60_1
def h60 : HC :=
  (.seq
  (.reg [.asg 4 (.lit (.bool false))])
  (.seq
  (.reg (.need (.n1 .lens (.slot 0)) ::
    .need (.n1 .lens (.slot 1)) ::
    .need (.n2 (.bin .eql) (.n1 .lens (.slot 0)) (.n1 .lens (.slot 1))) ::
    .eff (some 12) (.call { callee := .value (.func 71), args := #[.tmp 11], argTypes := #[9] }) 9 [(11, .slot 0)] (some (.n2 (.bin .eql) (.n1 .lens (.slot 0)) (.n1 .lens (.slot 1)), true)) [] ::
    l60_2))
  .ret))
theorem k60 : fnOK Tryd.prog 20499 [] [.tmp 4] 2 Tryd.f60 = some h60 := by kernel_rfl
theorem c60 : callable Tryd.prog 60 = true := by kernel_rfl
theorem q60 {args : List Value} (ha : args.length = 2) {w : World} {next : Value → World → Prop} {QP : List PanicEntry → World → Prop} (H : hw Tryd.prog noPanic h60 (endV [.tmp 4] next) (σ0 args) w) : callK Tryd.prog 60 args w next QP := fn_rule Tryd.func60 mixed k60 ha H
theorem r60 {args : List Value} (ha : args.length = 2) {w : World} {next : Value → World → Prop} {QP : List PanicEntry → World → Prop} (H : hw Tryd.prog noPanic h60 (endV [.tmp 4] next) (σ0 args) w) : callvK Tryd.prog (.func (.func 60) #[] #[]) args w next QP := callf c60 (q60 ha H)

/- (*strings.Builder).copyCheck -/
def h63 : HC :=
  (.seq
  (.reg [.need (.n1 .nilchk (.slot 0)),
    .need (.n1 (.faddr 0) (.n1 .nilchk (.slot 0))),
    .need (.n1 .ld (.n1 (.faddr 0) (.n1 .nilchk (.slot 0)))),
    .need (.n2 (.pnil false) (.n1 .ld (.n1 (.faddr 0) (.n1 .nilchk (.slot 0)))) (.lit (.pointer none))),
    .asg 6 (.n2 (.pnil false) (.n1 .ld (.n1 (.faddr 0) (.n1 .nilchk (.slot 0)))) (.lit (.pointer none)))])
  (.cond (.slot 6)
    (.reg [.eff (some 9) (.convert 66 100 (.tmp 8)) 100 [(8, .slot 0)] none [],
      .eff (some 10) (.call { callee := .value (.func 72), args := #[.tmp 9], argTypes := #[100] }) 100 [(9, .slot 9)] none [],
      .eff (some 11) (.convert 100 66 (.tmp 10)) 66 [(10, .slot 10)] none [],
      .need (.n1 .nilchk (.slot 0)),
      .need (.n1 (.faddr 0) (.n1 .nilchk (.slot 0))),
      .eff none (.store 66 (.tmp 13) (.tmp 11)) 0 [(13, .n1 (.faddr 0) (.n1 .nilchk (.slot 0))), (11, .slot 11)] none []])
    (.seq
    (.reg [.need (.n1 .nilchk (.slot 0)),
      .need (.n1 (.faddr 0) (.n1 .nilchk (.slot 0))),
      .need (.n1 .ld (.n1 (.faddr 0) (.n1 .nilchk (.slot 0)))),
      .need (.n2 (.pnil true) (.n1 .ld (.n1 (.faddr 0) (.n1 .nilchk (.slot 0)))) (.slot 0)),
      .asg 19 (.n2 (.pnil true) (.n1 .ld (.n1 (.faddr 0) (.n1 .nilchk (.slot 0)))) (.slot 0))])
    (.cond (.slot 19)
      .never
      .skip))))
theorem k63 : fnOK Tryd.prog 527937 [] [] 1 Tryd.f63 = some h63 := by kernel_rfl
theorem c63 : callable Tryd.prog 63 = true := by kernel_rfl
theorem q63 {args : List Value} (ha : args.length = 1) {w : World} {next : Value → World → Prop} {QP : List PanicEntry → World → Prop} (H : hw Tryd.prog noPanic h63 (endV [] next) (σ0 args) w) : callK Tryd.prog 63 args w next QP := fn_rule Tryd.func63 mixed k63 ha H
theorem r63 {args : List Value} (ha : args.length = 1) {w : World} {next : Value → World → Prop} {QP : List PanicEntry → World → Prop} (H : hw Tryd.prog noPanic h63 (endV [] next) (σ0 args) w) : callvK Tryd.prog (.func (.func 63) #[] #[]) args w next QP := callf c63 (q63 ha H)

/- missive/missiveref01.Lower -/
def h64_3 : HC :=
  (.reg [.need (.n2 (.bin .add) (.slot 4) (.lit (.int .i64 1))),
    .asg 4 (.n2 (.bin .add) (.slot 4) (.lit (.int .i64 1)))])
def h64_2 : HC :=
  (.seq
  (.block 1
    (.reg [.need (.n2 (.iaddr 1) (.slot 3) (.slot 4)),
      .need (.n1 .ld (.n2 (.iaddr 1) (.slot 3) (.slot 4))),
      .eff (some 19) (.call { callee := .value (.func 73), args := #[.tmp 18], argTypes := #[5] }) 5 [(18, .n1 .ld (.n2 (.iaddr 1) (.slot 3) (.slot 4)))] none [],
      .need (.n2 (.iaddr 1) (.slot 3) (.slot 4)),
      .eff none (.store 5 (.tmp 20) (.tmp 19)) 0 [(20, .n2 (.iaddr 1) (.slot 3) (.slot 4)), (19, .slot 19)] none []]))
  h64_3)
def h64_1 : HC :=
  (.seq
  (.seq
  (.reg [.need (.n1 .lensl (.slot 3)),
    .need (.n2 (.bin .lss) (.slot 4) (.n1 .lensl (.slot 3))),
    .asg 10 (.n2 (.bin .lss) (.slot 4) (.n1 .lensl (.slot 3)))])
  (.cond (.slot 10)
    .skip
    (.exit 0)))
  h64_2)
def h64_4 : HC :=
  (.seq
  (.reg [.eff (some 22) (.convert 45 9 (.tmp 21)) 9 [(21, .slot 3)] none [],
    .asg 2 (.slot 22)])
  .ret)
def h64 : HC :=
  (.seq
  (.reg [.asg 2 (.lit (str []))])
  (.seq
  (.reg [.eff (some 6) (.convert 9 45 (.tmp 5)) 45 [(5, .slot 0)] none [],
    .asg 3 (.slot 6)])
  (.seq
  (.seq
  (.reg [.asg 4 (.lit (.int .i64 0))])
  (.block 0
    (.loop
      h64_1)))
  h64_4)))
theorem k64 : fnOK Tryd.prog 4719709 [] [.tmp 2] 1 Tryd.f64 = some h64 := by kernel_rfl
theorem c64 : callable Tryd.prog 64 = true := by kernel_rfl
theorem q64 {args : List Value} (ha : args.length = 1) {w : World} {next : Value → World → Prop} {QP : List PanicEntry → World → Prop} (H : hw Tryd.prog noPanic h64 (endV [.tmp 2] next) (σ0 args) w) : callK Tryd.prog 64 args w next QP := fn_rule Tryd.func64 mixed k64 ha H
theorem r64 {args : List Value} (ha : args.length = 1) {w : World} {next : Value → World → Prop} {QP : List PanicEntry → World → Prop} (H : hw Tryd.prog noPanic h64 (endV [.tmp 2] next) (σ0 args) w) : callvK Tryd.prog (.func (.func 64) #[] #[]) args w next QP := callf c64 (q64 ha H)

/- internal/stringslite.Index -/
def h65_4 : HC :=
  (.reg [.need (.n2 (.bin .add) (.slot 11) (.lit (.int .i64 1))),
    .need (.n2 (.bin .add) (.slot 8) (.n2 (.bin .add) (.slot 11) (.lit (.int .i64 1)))),
    .asg 8 (.n2 (.bin .add) (.slot 8) (.n2 (.bin .add) (.slot 11) (.lit (.int .i64 1))))])
def h65_7 : HC :=
  (.seq
  (.reg [.asg 4 (.lit (.int .i64 (-1)))])
  .ret)
def h65_8 : HC :=
  (.seq
  (.reg [.need (.n2 (.bin .add) (.slot 8) (.slot 13)),
    .asg 4 (.n2 (.bin .add) (.slot 8) (.slot 13))])
  .ret)
def h65_6 : HC :=
  (.seq
  (.reg [.need (.n2 (.bin .add) (.slot 8) (.lit (.int .i64 1))),
    .asg 8 (.n2 (.bin .add) (.slot 8) (.lit (.int .i64 1)))])
  (.seq
  (.reg [.need (.n2 (.bin .add) (.slot 10) (.lit (.int .i64 1))),
    .asg 10 (.n2 (.bin .add) (.slot 10) (.lit (.int .i64 1)))])
  (.seq
  (.reg [.need (.n1 .ld (.lit (.pointer (some ⟨1, 0, none⟩)))),
    .need (.n2 (.bin .leq) (.slot 5) (.n1 .ld (.lit (.pointer (some ⟨1, 0, none⟩))))),
    .asg 102 (.n2 (.bin .leq) (.slot 5) (.n1 .ld (.lit (.pointer (some ⟨1, 0, none⟩))))),
    .eff (some 105) (.call { callee := .value (.func 69), args := #[.tmp 104], argTypes := #[3] }) 3 [(104, .slot 8)] (some (.slot 102, true)) [],
    .need (.gif (.slot 102) true (.n2 (.bin .gtr) (.slot 10) (.slot 105))),
    .need (.n3 .pick (.slot 102) (.n2 (.bin .gtr) (.slot 10) (.slot 105)) (.lit (.bool false))),
    .asg 107 (.n3 .pick (.slot 102) (.n2 (.bin .gtr) (.slot 10) (.slot 105)) (.lit (.bool false)))])
  (.cond (.slot 107)
    (.seq
    (.reg [.need (.n3 (.sls true false) (.slot 0) (.slot 8) (.lit (.tuple #[]))),
      .eff (some 112) (.call { callee := .value (.func 70), args := #[.tmp 110, .tmp 111], argTypes := #[9, 9] }) 3 [(110, .n3 (.sls true false) (.slot 0) (.slot 8) (.lit (.tuple #[]))), (111, .slot 1)] none [],
      .asg 12 (.slot 112)])
    (.seq
    (.seq
    (.reg [.need (.n2 (.bin .geq) (.slot 12) (.lit (.int .i64 0))),
      .asg 114 (.n2 (.bin .geq) (.slot 12) (.lit (.int .i64 0)))])
    (.cond (.slot 114)
      (.seq
      (.reg [.need (.n2 (.bin .add) (.slot 12) (.slot 8)),
        .asg 4 (.n2 (.bin .add) (.slot 12) (.slot 8))])
      .ret)
      .skip))
    h65_7))
    (.seq
    (.reg [.need (.n1 .ld (.lit (.pointer (some ⟨1, 0, none⟩)))),
      .need (.n2 (.bin .gtr) (.slot 5) (.n1 .ld (.lit (.pointer (some ⟨1, 0, none⟩))))),
      .need (.gif (.n2 (.bin .gtr) (.slot 5) (.n1 .ld (.lit (.pointer (some ⟨1, 0, none⟩))))) true (.n2 (.bin .shr) (.slot 8) (.lit (.int .u64 4)))),
      .need (.gif (.n2 (.bin .gtr) (.slot 5) (.n1 .ld (.lit (.pointer (some ⟨1, 0, none⟩))))) true (.n2 (.bin .add) (.lit (.int .i64 4)) (.n2 (.bin .shr) (.slot 8) (.lit (.int .u64 4))))),
      .need (.gif (.n2 (.bin .gtr) (.slot 5) (.n1 .ld (.lit (.pointer (some ⟨1, 0, none⟩))))) true (.n2 (.bin .geq) (.slot 10) (.n2 (.bin .add) (.lit (.int .i64 4)) (.n2 (.bin .shr) (.slot 8) (.lit (.int .u64 4)))))),
      .need (.n3 .pick (.n2 (.bin .gtr) (.slot 5) (.n1 .ld (.lit (.pointer (some ⟨1, 0, none⟩))))) (.n2 (.bin .geq) (.slot 10) (.n2 (.bin .add) (.lit (.int .i64 4)) (.n2 (.bin .shr) (.slot 8) (.lit (.int .u64 4))))) (.lit (.bool false))),
      .need (.gif (.n3 .pick (.n2 (.bin .gtr) (.slot 5) (.n1 .ld (.lit (.pointer (some ⟨1, 0, none⟩))))) (.n2 (.bin .geq) (.slot 10) (.n2 (.bin .add) (.lit (.int .i64 4)) (.n2 (.bin .shr) (.slot 8) (.lit (.int .u64 4))))) (.lit (.bool false))) true (.n2 (.bin .lss) (.slot 8) (.slot 9))),
      .need (.n3 .pick (.n3 .pick (.n2 (.bin .gtr) (.slot 5) (.n1 .ld (.lit (.pointer (some ⟨1, 0, none⟩))))) (.n2 (.bin .geq) (.slot 10) (.n2 (.bin .add) (.lit (.int .i64 4)) (.n2 (.bin .shr) (.slot 8) (.lit (.int .u64 4))))) (.lit (.bool false))) (.n2 (.bin .lss) (.slot 8) (.slot 9)) (.lit (.bool false))),
      .asg 132 (.n3 .pick (.n3 .pick (.n2 (.bin .gtr) (.slot 5) (.n1 .ld (.lit (.pointer (some ⟨1, 0, none⟩))))) (.n2 (.bin .geq) (.slot 10) (.n2 (.bin .add) (.lit (.int .i64 4)) (.n2 (.bin .shr) (.slot 8) (.lit (.int .u64 4))))) (.lit (.bool false))) (.n2 (.bin .lss) (.slot 8) (.slot 9)) (.lit (.bool false)))])
    (.cond (.slot 132)
      (.seq
      (.reg [.need (.n3 (.sls true false) (.slot 0) (.slot 8) (.lit (.tuple #[]))),
        .eff (some 137) (.call { callee := .value (.func 75), args := #[.tmp 135, .tmp 136], argTypes := #[9, 9] }) 3 [(135, .n3 (.sls true false) (.slot 0) (.slot 8) (.lit (.tuple #[]))), (136, .slot 1)] none [],
        .asg 13 (.slot 137)])
      (.seq
      (.seq
      (.reg [.need (.n2 (.bin .lss) (.slot 13) (.lit (.int .i64 0))),
        .asg 139 (.n2 (.bin .lss) (.slot 13) (.lit (.int .i64 0)))])
      (.cond (.slot 139)
        (.seq
        (.reg [.asg 4 (.lit (.int .i64 (-1)))])
        .ret)
        .skip))
      h65_8))
      .skip))))))
def h65_5 : HC :=
  (.seq
  (.seq
  (.reg [.need (.n2 (.bin .add) (.slot 8) (.lit (.int .i64 1))),
    .need (.n2 .idxs (.slot 0) (.n2 (.bin .add) (.slot 8) (.lit (.int .i64 1)))),
    .need (.n2 (.bin .eql) (.n2 .idxs (.slot 0) (.n2 (.bin .add) (.slot 8) (.lit (.int .i64 1)))) (.slot 7)),
    .need (.gif (.n2 (.bin .eql) (.n2 .idxs (.slot 0) (.n2 (.bin .add) (.slot 8) (.lit (.int .i64 1)))) (.slot 7)) true (.n2 (.bin .add) (.slot 8) (.slot 5))),
    .need (.gif (.n2 (.bin .eql) (.n2 .idxs (.slot 0) (.n2 (.bin .add) (.slot 8) (.lit (.int .i64 1)))) (.slot 7)) true (.n3 (.sls true true) (.slot 0) (.slot 8) (.n2 (.bin .add) (.slot 8) (.slot 5)))),
    .need (.gif (.n2 (.bin .eql) (.n2 .idxs (.slot 0) (.n2 (.bin .add) (.slot 8) (.lit (.int .i64 1)))) (.slot 7)) true (.n2 (.sbin .eql) (.n3 (.sls true true) (.slot 0) (.slot 8) (.n2 (.bin .add) (.slot 8) (.slot 5))) (.slot 1))),
    .need (.n3 .pick (.n2 (.bin .eql) (.n2 .idxs (.slot 0) (.n2 (.bin .add) (.slot 8) (.lit (.int .i64 1)))) (.slot 7)) (.n2 (.sbin .eql) (.n3 (.sls true true) (.slot 0) (.slot 8) (.n2 (.bin .add) (.slot 8) (.slot 5))) (.slot 1)) (.lit (.bool false))),
    .asg 93 (.n3 .pick (.n2 (.bin .eql) (.n2 .idxs (.slot 0) (.n2 (.bin .add) (.slot 8) (.lit (.int .i64 1)))) (.slot 7)) (.n2 (.sbin .eql) (.n3 (.sls true true) (.slot 0) (.slot 8) (.n2 (.bin .add) (.slot 8) (.slot 5))) (.slot 1)) (.lit (.bool false)))])
  (.cond (.slot 93)
    (.seq
    (.reg [.asg 4 (.slot 8)])
    .ret)
    .skip))
  h65_6)
def h65_3 : HC :=
  (.block 2
    (.seq
    (.seq
    (.reg [.need (.n2 .idxs (.slot 0) (.slot 8)),
      .need (.n2 (.bin .neq) (.n2 .idxs (.slot 0) (.slot 8)) (.slot 6)),
      .asg 64 (.n2 (.bin .neq) (.n2 .idxs (.slot 0) (.slot 8)) (.slot 6))])
    (.cond (.slot 64)
      (.seq
      (.reg [.need (.n2 (.bin .add) (.slot 8) (.lit (.int .i64 1))),
        .need (.n3 (.sls true true) (.slot 0) (.n2 (.bin .add) (.slot 8) (.lit (.int .i64 1))) (.slot 9)),
        .eff (some 71) (.call { callee := .value (.func 74), args := #[.tmp 69, .tmp 70], argTypes := #[9, 5] }) 3 [(69, .n3 (.sls true true) (.slot 0) (.n2 (.bin .add) (.slot 8) (.lit (.int .i64 1))) (.slot 9)), (70, .slot 6)] none [],
        .asg 11 (.slot 71)])
      (.seq
      (.seq
      (.reg [.need (.n2 (.bin .lss) (.slot 11) (.lit (.int .i64 0))),
        .asg 73 (.n2 (.bin .lss) (.slot 11) (.lit (.int .i64 0)))])
      (.cond (.slot 73)
        (.seq
        (.reg [.asg 4 (.lit (.int .i64 (-1)))])
        .ret)
        .skip))
      h65_4))
      .skip))
    h65_5))
def h65_2 : HC :=
  (.seq
  (.seq
  (.reg [.need (.n2 (.bin .lss) (.slot 8) (.slot 9)),
    .asg 59 (.n2 (.bin .lss) (.slot 8) (.slot 9))])
  (.cond (.slot 59)
    .skip
    (.exit 1)))
  h65_3)
def h65_9 : HC :=
  (.seq
  (.reg [.asg 4 (.lit (.int .i64 (-1)))])
  .ret)
def h65_1 : HC :=
  (.seq
  (.reg [.need (.n2 .idxs (.slot 1) (.lit (.int .i64 0))),
    .asg 6 (.n2 .idxs (.slot 1) (.lit (.int .i64 0)))])
  (.seq
  (.reg [.need (.n2 .idxs (.slot 1) (.lit (.int .i64 1))),
    .asg 7 (.n2 .idxs (.slot 1) (.lit (.int .i64 1)))])
  (.seq
  (.reg [.asg 8 (.lit (.int .i64 0))])
  (.seq
  (.reg [.need (.n1 .lens (.slot 0)),
    .need (.n2 (.bin .sub) (.n1 .lens (.slot 0)) (.slot 5)),
    .need (.n2 (.bin .add) (.n2 (.bin .sub) (.n1 .lens (.slot 0)) (.slot 5)) (.lit (.int .i64 1))),
    .asg 9 (.n2 (.bin .add) (.n2 (.bin .sub) (.n1 .lens (.slot 0)) (.slot 5)) (.lit (.int .i64 1)))])
  (.seq
  (.reg [.asg 10 (.lit (.int .i64 0))])
  (.seq
  (.block 1
    (.loop
      h65_2))
  h65_9))))))
def h65 : HC :=
  (.seq
  (.reg [.asg 4 (.lit (.int .i64 0))])
  (.seq
  (.reg [.need (.n1 .lens (.slot 1)),
    .asg 5 (.n1 .lens (.slot 1))])
  (.seq
  (.block 0
    (.seq
    (.reg [.need (.n2 (.bin .eql) (.slot 5) (.lit (.int .i64 0))),
      .need (.gif (.n2 (.bin .eql) (.slot 5) (.lit (.int .i64 0))) false (.n2 (.sbin .eql) (.slot 1) (.slot 0))),
      .need (.n3 .pick (.n2 (.bin .eql) (.slot 5) (.lit (.int .i64 0))) (.lit (.bool true)) (.n2 (.sbin .eql) (.slot 1) (.slot 0))),
      .asg 16 (.n3 .pick (.n2 (.bin .eql) (.slot 5) (.lit (.int .i64 0))) (.lit (.bool true)) (.n2 (.sbin .eql) (.slot 1) (.slot 0)))])
    (.cond (.slot 16)
      (.seq
      (.reg [.asg 4 (.lit (.int .i64 0))])
      .ret)
      (.seq
      (.reg [.need (.n2 (.bin .eql) (.slot 5) (.lit (.int .i64 1))),
        .asg 24 (.n2 (.bin .eql) (.slot 5) (.lit (.int .i64 1)))])
      (.cond (.slot 24)
        (.seq
        (.reg [.need (.n2 .idxs (.slot 1) (.lit (.int .i64 0))),
          .eff (some 30) (.call { callee := .value (.func 74), args := #[.tmp 27, .tmp 29], argTypes := #[9, 5] }) 3 [(27, .slot 0), (29, .n2 .idxs (.slot 1) (.lit (.int .i64 0)))] none [],
          .asg 4 (.slot 30)])
        .ret)
        (.seq
        (.reg [.need (.n1 .lens (.slot 0)),
          .need (.n2 (.bin .geq) (.slot 5) (.n1 .lens (.slot 0))),
          .asg 31 (.n2 (.bin .geq) (.slot 5) (.n1 .lens (.slot 0)))])
        (.cond (.slot 31)
          (.seq
          (.reg [.asg 4 (.lit (.int .i64 (-1)))])
          .ret)
          (.seq
          (.reg [.need (.n1 .ld (.lit (.pointer (some ⟨1, 0, none⟩)))),
            .need (.n2 (.bin .leq) (.slot 5) (.n1 .ld (.lit (.pointer (some ⟨1, 0, none⟩))))),
            .need (.gif (.n2 (.bin .leq) (.slot 5) (.n1 .ld (.lit (.pointer (some ⟨1, 0, none⟩))))) true (.n1 .lens (.slot 0))),
            .need (.gif (.n2 (.bin .leq) (.slot 5) (.n1 .ld (.lit (.pointer (some ⟨1, 0, none⟩))))) true (.n2 (.bin .leq) (.n1 .lens (.slot 0)) (.lit (.int .i64 64)))),
            .need (.n3 .pick (.n2 (.bin .leq) (.slot 5) (.n1 .ld (.lit (.pointer (some ⟨1, 0, none⟩))))) (.n2 (.bin .leq) (.n1 .lens (.slot 0)) (.lit (.int .i64 64))) (.lit (.bool false))),
            .asg 36 (.n3 .pick (.n2 (.bin .leq) (.slot 5) (.n1 .ld (.lit (.pointer (some ⟨1, 0, none⟩))))) (.n2 (.bin .leq) (.n1 .lens (.slot 0)) (.lit (.int .i64 64))) (.lit (.bool false)))])
          (.cond (.slot 36)
            (.seq
            (.reg [.eff (some 47) (.call { callee := .value (.func 70), args := #[.tmp 45, .tmp 46], argTypes := #[9, 9] }) 3 [(45, .slot 0), (46, .slot 1)] none [],
              .asg 4 (.slot 47)])
            .ret)
            .skip)))))))))
  h65_1)))
theorem k65 : fnOK Tryd.prog 876567403357726376525359975837184649412595 [] [.tmp 4] 2 Tryd.f65 = some h65 := by kernel_rfl
theorem c65 : callable Tryd.prog 65 = true := by kernel_rfl
theorem q65 {args : List Value} (ha : args.length = 2) {w : World} {next : Value → World → Prop} {QP : List PanicEntry → World → Prop} (H : hw Tryd.prog noPanic h65 (endV [.tmp 4] next) (σ0 args) w) : callK Tryd.prog 65 args w next QP := fn_rule Tryd.func65 mixed k65 ha H
theorem r65 {args : List Value} (ha : args.length = 2) {w : World} {next : Value → World → Prop} {QP : List PanicEntry → World → Prop} (H : hw Tryd.prog noPanic h65 (endV [.tmp 4] next) (σ0 args) w) : callvK Tryd.prog (.func (.func 65) #[] #[]) args w next QP := callf c65 (q65 ha H)

/- strings.indexFunc -/
def h66_2 : HC :=
  (.block 1
    (.seq
    (.reg [.need (.n1 (.ext 1) (.slot 11)),
      .need (.n1 (.ext 2) (.slot 11)),
      .asg 7 (.n1 (.ext 1) (.slot 11)),
      .asg 8 (.n1 (.ext 2) (.slot 11))])
    (.seq
    (.reg [.eff (some 17) (.call { callee := .value (.tmp 15), args := #[.tmp 16], argTypes := #[21] }) 4 [(15, .slot 1), (16, .slot 8)] none [],
      .need (.n2 (.beq false) (.slot 17) (.slot 2)),
      .asg 19 (.n2 (.beq false) (.slot 17) (.slot 2))])
    (.cond (.slot 19)
      (.seq
      (.reg [.asg 6 (.slot 7)])
      .ret)
      .skip))))
def h66_1 : HC :=
  (.seq
  (.reg [.eff (some 11) (.next (.tmp 10) true) 0 [(10, .slot 10)] none [],
    .need (.n1 (.ext 0) (.slot 11)),
    .asg 12 (.n1 (.ext 0) (.slot 11))])
  (.seq
  (.cond (.slot 12)
    .skip
    (.exit 0))
  h66_2))
def h66_3 : HC :=
  (.seq
  (.reg [.asg 6 (.lit (.int .i64 (-1)))])
  .ret)
def h66 : HC :=
  (.seq
  (.reg [.asg 6 (.lit (.int .i64 0))])
  (.seq
  (.seq
  (.reg [.eff (some 10) (.range 9 (.tmp 9)) 0 [(9, .slot 0)] none []])
  (.block 0
    (.loop
      h66_1)))
  h66_3))
theorem k66 : fnOK Tryd.prog 662983 [] [.tmp 6] 3 Tryd.f66 = some h66 := by kernel_rfl
theorem c66 : callable Tryd.prog 66 = true := by kernel_rfl
theorem q66 {args : List Value} (ha : args.length = 3) {w : World} {next : Value → World → Prop} {QP : List PanicEntry → World → Prop} (H : hw Tryd.prog noPanic h66 (endV [.tmp 6] next) (σ0 args) w) : callK Tryd.prog 66 args w next QP := fn_rule Tryd.func66 mixed k66 ha H
theorem r66 {args : List Value} (ha : args.length = 3) {w : World} {next : Value → World → Prop} {QP : List PanicEntry → World → Prop} (H : hw Tryd.prog noPanic h66 (endV [.tmp 6] next) (σ0 args) w) : callvK Tryd.prog (.func (.func 66) #[] #[]) args w next QP := callf c66 (q66 ha H)

/- strings.IndexByte -/
def h67 : HC :=
  (.seq
  (.reg [.asg 4 (.lit (.int .i64 0))])
  (.seq
  (.reg [.eff (some 7) (.call { callee := .value (.func 74), args := #[.tmp 5, .tmp 6], argTypes := #[9, 5] }) 3 [(5, .slot 0), (6, .slot 1)] none [],
    .asg 4 (.slot 7)])
  .ret))
theorem k67 : fnOK Tryd.prog 147 [] [.tmp 4] 2 Tryd.f67 = some h67 := by kernel_rfl
theorem c67 : callable Tryd.prog 67 = true := by kernel_rfl
theorem q67 {args : List Value} (ha : args.length = 2) {w : World} {next : Value → World → Prop} {QP : List PanicEntry → World → Prop} (H : hw Tryd.prog noPanic h67 (endV [.tmp 4] next) (σ0 args) w) : callK Tryd.prog 67 args w next QP := fn_rule Tryd.func67 mixed k67 ha H
theorem r67 {args : List Value} (ha : args.length = 2) {w : World} {next : Value → World → Prop} {QP : List PanicEntry → World → Prop} (H : hw Tryd.prog noPanic h67 (endV [.tmp 4] next) (σ0 args) w) : callvK Tryd.prog (.func (.func 67) #[] #[]) args w next QP := callf c67 (q67 ha H)

/- unicode/utf8.ValidRune -/
def h68_1 : HC :=
  (.seq
  (.reg [.asg 2 (.lit (.bool false))])
  .ret)
def h68 : HC :=
  (.seq
  (.reg [.asg 2 (.lit (.bool false))])
  (.seq
  (.block 0
    (.seq
    (.reg [.need (.n2 (.bin .leq) (.lit (.int .i32 0)) (.slot 0)),
      .need (.gif (.n2 (.bin .leq) (.lit (.int .i32 0)) (.slot 0)) true (.n2 (.bin .lss) (.slot 0) (.lit (.int .i32 55296)))),
      .need (.n3 .pick (.n2 (.bin .leq) (.lit (.int .i32 0)) (.slot 0)) (.n2 (.bin .lss) (.slot 0) (.lit (.int .i32 55296))) (.lit (.bool false))),
      .asg 3 (.n3 .pick (.n2 (.bin .leq) (.lit (.int .i32 0)) (.slot 0)) (.n2 (.bin .lss) (.slot 0) (.lit (.int .i32 55296))) (.lit (.bool false)))])
    (.cond (.slot 3)
      (.seq
      (.reg [.asg 2 (.lit (.bool true))])
      .ret)
      (.seq
      (.reg [.need (.n2 (.bin .lss) (.lit (.int .i32 57343)) (.slot 0)),
        .need (.gif (.n2 (.bin .lss) (.lit (.int .i32 57343)) (.slot 0)) true (.n2 (.bin .leq) (.slot 0) (.lit (.int .i32 1114111)))),
        .need (.n3 .pick (.n2 (.bin .lss) (.lit (.int .i32 57343)) (.slot 0)) (.n2 (.bin .leq) (.slot 0) (.lit (.int .i32 1114111))) (.lit (.bool false))),
        .asg 10 (.n3 .pick (.n2 (.bin .lss) (.lit (.int .i32 57343)) (.slot 0)) (.n2 (.bin .leq) (.slot 0) (.lit (.int .i32 1114111))) (.lit (.bool false)))])
      (.cond (.slot 10)
        (.seq
        (.reg [.asg 2 (.lit (.bool true))])
        .ret)
        .skip)))))
  h68_1))
theorem k68 : fnOK Tryd.prog 1037 [] [.tmp 2] 1 Tryd.f68 = some h68 := by kernel_rfl
theorem c68 : callable Tryd.prog 68 = true := by kernel_rfl
theorem q68 {args : List Value} (ha : args.length = 1) {w : World} {next : Value → World → Prop} {QP : List PanicEntry → World → Prop} (H : hw Tryd.prog noPanic h68 (endV [.tmp 2] next) (σ0 args) w) : callK Tryd.prog 68 args w next QP := fn_rule Tryd.func68 mixed k68 ha H
theorem r68 {args : List Value} (ha : args.length = 1) {w : World} {next : Value → World → Prop} {QP : List PanicEntry → World → Prop} (H : hw Tryd.prog noPanic h68 (endV [.tmp 2] next) (σ0 args) w) : callvK Tryd.prog (.func (.func 68) #[] #[]) args w next QP := callf c68 (q68 ha H)

/- internal/bytealg.Cutover -/
def h69 : HC :=
  (.seq
  (.reg [.asg 2 (.lit (.int .i64 0))])
  (.seq
  (.reg [.need (.n2 (.bin .add) (.slot 0) (.lit (.int .i64 16))),
    .need (.n2 (.bin .quo) (.n2 (.bin .add) (.slot 0) (.lit (.int .i64 16))) (.lit (.int .i64 8))),
    .asg 2 (.n2 (.bin .quo) (.n2 (.bin .add) (.slot 0) (.lit (.int .i64 16))) (.lit (.int .i64 8)))])
  .ret))
theorem k69 : fnOK Tryd.prog 5 [] [.tmp 2] 1 Tryd.f69 = some h69 := by kernel_rfl
theorem c69 : callable Tryd.prog 69 = true := by kernel_rfl
theorem q69 {args : List Value} (ha : args.length = 1) {w : World} {next : Value → World → Prop} {QP : List PanicEntry → World → Prop} (H : hw Tryd.prog noPanic h69 (endV [.tmp 2] next) (σ0 args) w) : callK Tryd.prog 69 args w next QP := fn_rule Tryd.func69 mixed k69 ha H
theorem r69 {args : List Value} (ha : args.length = 1) {w : World} {next : Value → World → Prop} {QP : List PanicEntry → World → Prop} (H : hw Tryd.prog noPanic h69 (endV [.tmp 2] next) (σ0 args) w) : callvK Tryd.prog (.func (.func 69) #[] #[]) args w next QP := callf c69 (q69 ha H)

/- missive/text.Lower -/
def h71 : HC :=
  (.seq
  (.reg [.asg 2 (.lit (str []))])
  (.seq
  (.reg [.eff (some 4) (.call { callee := .value (.func 76), args := #[.tmp 3, .const (.int .u8 65), .const (.int .u8 90), .const (.int .i64 32)], argTypes := #[9, 5, 5, 3] }) 9 [(3, .slot 0)] none [],
    .asg 2 (.slot 4)])
  .ret))
theorem k71 : fnOK Tryd.prog 21 [] [.tmp 2] 1 Tryd.f71 = some h71 := by kernel_rfl
theorem c71 : callable Tryd.prog 71 = true := by kernel_rfl
theorem q71 {args : List Value} (ha : args.length = 1) {w : World} {next : Value → World → Prop} {QP : List PanicEntry → World → Prop} (H : hw Tryd.prog noPanic h71 (endV [.tmp 2] next) (σ0 args) w) : callK Tryd.prog 71 args w next QP := fn_rule Tryd.func71 mixed k71 ha H
theorem r71 {args : List Value} (ha : args.length = 1) {w : World} {next : Value → World → Prop} {QP : List PanicEntry → World → Prop} (H : hw Tryd.prog noPanic h71 (endV [.tmp 2] next) (σ0 args) w) : callvK Tryd.prog (.func (.func 71) #[] #[]) args w next QP := callf c71 (q71 ha H)

/- missive/missiveref01.lower -/
def h73_1 : HC :=
  (.seq
  (.reg [.asg 2 (.slot 0)])
  .ret)
def h73 : HC :=
  (.seq
  (.reg [.asg 2 (.lit (.int .u8 0))])
  (.seq
  (.seq
  (.reg [.need (.n2 (.bin .geq) (.slot 0) (.lit (.int .u8 65))),
    .need (.gif (.n2 (.bin .geq) (.slot 0) (.lit (.int .u8 65))) true (.n2 (.bin .leq) (.slot 0) (.lit (.int .u8 90)))),
    .need (.n3 .pick (.n2 (.bin .geq) (.slot 0) (.lit (.int .u8 65))) (.n2 (.bin .leq) (.slot 0) (.lit (.int .u8 90))) (.lit (.bool false))),
    .asg 8 (.n3 .pick (.n2 (.bin .geq) (.slot 0) (.lit (.int .u8 65))) (.n2 (.bin .leq) (.slot 0) (.lit (.int .u8 90))) (.lit (.bool false)))])
  (.cond (.slot 8)
    (.seq
    (.reg [.need (.n2 (.bin .add) (.slot 0) (.lit (.int .u8 32))),
      .asg 2 (.n2 (.bin .add) (.slot 0) (.lit (.int .u8 32)))])
    .ret)
    .skip))
  h73_1))
theorem k73 : fnOK Tryd.prog 261 [] [.tmp 2] 1 Tryd.f73 = some h73 := by kernel_rfl
theorem c73 : callable Tryd.prog 73 = true := by kernel_rfl
theorem q73 {args : List Value} (ha : args.length = 1) {w : World} {next : Value → World → Prop} {QP : List PanicEntry → World → Prop} (H : hw Tryd.prog noPanic h73 (endV [.tmp 2] next) (σ0 args) w) : callK Tryd.prog 73 args w next QP := fn_rule Tryd.func73 mixed k73 ha H
theorem r73 {args : List Value} (ha : args.length = 1) {w : World} {next : Value → World → Prop} {QP : List PanicEntry → World → Prop} (H : hw Tryd.prog noPanic h73 (endV [.tmp 2] next) (σ0 args) w) : callvK Tryd.prog (.func (.func 73) #[] #[]) args w next QP := callf c73 (q73 ha H)

/- internal/stringslite.IndexByte -/
def h74 : HC :=
  (.seq
  (.reg [.asg 4 (.lit (.int .i64 0))])
  (.seq
  (.reg [.eff (some 7) (.call { callee := .value (.func 77), args := #[.tmp 5, .tmp 6], argTypes := #[9, 5] }) 3 [(5, .slot 0), (6, .slot 1)] none [],
    .asg 4 (.slot 7)])
  .ret))
theorem k74 : fnOK Tryd.prog 147 [] [.tmp 4] 2 Tryd.f74 = some h74 := by kernel_rfl
theorem c74 : callable Tryd.prog 74 = true := by kernel_rfl
theorem q74 {args : List Value} (ha : args.length = 2) {w : World} {next : Value → World → Prop} {QP : List PanicEntry → World → Prop} (H : hw Tryd.prog noPanic h74 (endV [.tmp 4] next) (σ0 args) w) : callK Tryd.prog 74 args w next QP := fn_rule Tryd.func74 mixed k74 ha H
theorem r74 {args : List Value} (ha : args.length = 2) {w : World} {next : Value → World → Prop} {QP : List PanicEntry → World → Prop} (H : hw Tryd.prog noPanic h74 (endV [.tmp 4] next) (σ0 args) w) : callvK Tryd.prog (.func (.func 74) #[] #[]) args w next QP := callf c74 (q74 ha H)

/- missive/text.mapped -/
def h76_3 : HC :=
  (.reg [.need (.n2 (.bin .add) (.slot 16) (.lit (.int .i64 1))),
    .asg 16 (.n2 (.bin .add) (.slot 16) (.lit (.int .i64 1)))])
def h76_2 : HC :=
  (.seq
  (.block 1
    (.seq
    (.reg [.need (.n2 (.iaddr 1) (.slot 14) (.slot 16)),
      .need (.n1 .ld (.n2 (.iaddr 1) (.slot 14) (.slot 16))),
      .asg 10 (.slot 16),
      .asg 11 (.n1 .ld (.n2 (.iaddr 1) (.slot 14) (.slot 16)))])
    (.seq
    (.reg [.need (.n2 (.bin .geq) (.slot 11) (.slot 1)),
      .need (.gif (.n2 (.bin .geq) (.slot 11) (.slot 1)) true (.n2 (.bin .leq) (.slot 11) (.slot 2))),
      .need (.n3 .pick (.n2 (.bin .geq) (.slot 11) (.slot 1)) (.n2 (.bin .leq) (.slot 11) (.slot 2)) (.lit (.bool false))),
      .asg 28 (.n3 .pick (.n2 (.bin .geq) (.slot 11) (.slot 1)) (.n2 (.bin .leq) (.slot 11) (.slot 2)) (.lit (.bool false)))])
    (.cond (.slot 28)
      (.reg [.need (.n1 (.conv .i64) (.slot 11)),
        .need (.n2 (.bin .add) (.n1 (.conv .i64) (.slot 11)) (.slot 3)),
        .need (.n1 (.conv .u8) (.n2 (.bin .add) (.n1 (.conv .i64) (.slot 11)) (.slot 3))),
        .need (.n2 (.iaddr 1) (.slot 9) (.slot 10)),
        .eff none (.store 5 (.tmp 36) (.tmp 35)) 0 [(36, .n2 (.iaddr 1) (.slot 9) (.slot 10)), (35, .n1 (.conv .u8) (.n2 (.bin .add) (.n1 (.conv .i64) (.slot 11)) (.slot 3)))] none []])
      .skip))))
  h76_3)
def h76_1 : HC :=
  (.seq
  (.reg [.need (.n2 (.bin .lss) (.slot 16) (.slot 15)),
    .asg 17 (.n2 (.bin .lss) (.slot 16) (.slot 15))])
  (.seq
  (.cond (.slot 17)
    .skip
    (.exit 0))
  h76_2))
def h76_4 : HC :=
  (.seq
  (.reg [.eff (some 39) (.convert 45 9 (.tmp 38)) 9 [(38, .slot 9)] none [],
    .asg 8 (.slot 39)])
  .ret)
def h76 : HC :=
  (.seq
  (.reg [.asg 8 (.lit (str []))])
  (.seq
  (.reg [.eff (some 13) (.convert 9 45 (.tmp 12)) 45 [(12, .slot 0)] none [],
    .asg 9 (.slot 13)])
  (.seq
  (.seq
  (.reg [.asg 14 (.slot 9),
    .need (.n1 .lensl (.slot 14)),
    .asg 15 (.n1 .lensl (.slot 14)),
    .asg 16 (.lit (.int .i64 0))])
  (.block 0
    (.loop
      h76_1)))
  h76_4)))
theorem k76 : fnOK Tryd.prog 550024507151 [] [.tmp 8] 4 Tryd.f76 = some h76 := by kernel_rfl
theorem c76 : callable Tryd.prog 76 = true := by kernel_rfl
theorem q76 {args : List Value} (ha : args.length = 4) {w : World} {next : Value → World → Prop} {QP : List PanicEntry → World → Prop} (H : hw Tryd.prog noPanic h76 (endV [.tmp 8] next) (σ0 args) w) : callK Tryd.prog 76 args w next QP := fn_rule Tryd.func76 mixed k76 ha H
theorem r76 {args : List Value} (ha : args.length = 4) {w : World} {next : Value → World → Prop} {QP : List PanicEntry → World → Prop} (H : hw Tryd.prog noPanic h76 (endV [.tmp 8] next) (σ0 args) w) : callvK Tryd.prog (.func (.func 76) #[] #[]) args w next QP := callf c76 (q76 ha H)

end Go.Proofs.Y
