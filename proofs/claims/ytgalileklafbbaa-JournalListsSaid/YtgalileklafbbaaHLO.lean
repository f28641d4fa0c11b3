/- HLO: operations on bits, at numbers that are not negative; the wrap written out. -/
import Derived.Test.YtgalileklafbbaaHLM
set_option linter.unusedSimpArgs false
set_option linter.unusedVariables false
set_option maxRecDepth 100000
namespace Go.HL
open Go

theorem bv_nat {n a : Nat} (h : a < 2 ^ n) : (BitVec.ofInt n (a : Int)).toNat = a := by
  rw [BitVec.ofInt_natCast, BitVec.toNat_ofNat, Nat.mod_eq_of_lt h]

theorem xorV {k : IntKind} {a b : Nat} (ha : a < 2 ^ k.bits) (hb : b < 2 ^ k.bits) : intV .xor k (a : Int) (b : Int) = .int k (k.wrap ((a ^^^ b : Nat) : Int)) := by
  simp only [intV, BitVec.toNat_xor, bv_nat ha, bv_nat hb]
theorem andV {k : IntKind} {a b : Nat} (ha : a < 2 ^ k.bits) (hb : b < 2 ^ k.bits) : intV .and k (a : Int) (b : Int) = .int k (k.wrap ((a &&& b : Nat) : Int)) := by
  simp only [intV, BitVec.toNat_and, bv_nat ha, bv_nat hb]
theorem orV {k : IntKind} {a b : Nat} (ha : a < 2 ^ k.bits) (hb : b < 2 ^ k.bits) : intV .or k (a : Int) (b : Int) = .int k (k.wrap ((a ||| b : Nat) : Int)) := by
  simp only [intV, BitVec.toNat_or, bv_nat ha, bv_nat hb]

theorem wrap_u8 (n : Int) : IntKind.u8.wrap n = n % 256 := by simp [IntKind.wrap, IntKind.bits, IntKind.signed]
theorem wrap_u32 (n : Int) : IntKind.u32.wrap n = n % 4294967296 := by simp [IntKind.wrap, IntKind.bits, IntKind.signed]
theorem wrap_u64 (n : Int) : IntKind.u64.wrap n = n % 18446744073709551616 := by simp [IntKind.wrap, IntKind.bits, IntKind.signed]
theorem wrap_i64 (n : Int) : IntKind.i64.wrap n = (n + 9223372036854775808) % 18446744073709551616 - 9223372036854775808 := by
  have h : IntKind.i64.wrap n = if n % 18446744073709551616 ≥ 9223372036854775808 then n % 18446744073709551616 - 18446744073709551616 else n % 18446744073709551616 := by
    simp [IntKind.wrap, IntKind.bits, IntKind.signed]
  rw [h]; split <;> omega
theorem wrap_i32 (n : Int) : IntKind.i32.wrap n = (n + 2147483648) % 4294967296 - 2147483648 := by
  have h : IntKind.i32.wrap n = if n % 4294967296 ≥ 2147483648 then n % 4294967296 - 4294967296 else n % 4294967296 := by
    simp [IntKind.wrap, IntKind.bits, IntKind.signed]
  rw [h]; split <;> omega

theorem xor32 {a b : Nat} (ha : a < 4294967296) (hb : b < 4294967296) : intV .xor .u32 (a : Int) (b : Int) = .int .u32 ((a ^^^ b : Nat) : Int) := by
  have h : (a ^^^ b) < 2 ^ 32 := Nat.xor_lt_two_pow (by omega) (by omega)
  rw [xorV (show a < 2 ^ 32 by omega) (show b < 2 ^ 32 by omega), wrap_u32]
  congr 1; omega
theorem xor64 {a b : Nat} (ha : a < 9223372036854775808) (hb : b < 9223372036854775808) : intV .xor .i64 (a : Int) (b : Int) = .int .i64 ((a ^^^ b : Nat) : Int) := by
  have h : (a ^^^ b) < 9223372036854775808 := Nat.xor_lt_two_pow (n := 63) ha hb
  have hx := xorV (k := .i64) (a := a) (b := b) (show a < 2 ^ 64 by omega) (show b < 2 ^ 64 by omega)
  have key : ∀ c : Nat, c < 9223372036854775808 → ((c : Int) + 9223372036854775808) % 18446744073709551616 - 9223372036854775808 = c := by intro c hc; omega
  rw [hx, wrap_i64, key _ h]
theorem and1_32 {a : Nat} (ha : a < 4294967296) : intV .and .u32 (a : Int) 1 = .int .u32 ((a % 2 : Nat) : Int) := by
  have := andV (k := .u32) (a := a) (b := 1) (show a < 2 ^ 32 by omega) (show 1 < 2 ^ 32 by omega)
  refine this.trans ?_
  rw [Nat.and_one_is_mod, wrap_u32]
  congr 1; omega
/-- an or with a byte behind a shift is an addition -/
theorem or_byte (x : Int) (b : Nat) (hb : b < 256) : intV .or .i64 (IntKind.i64.wrap (x * 256)) (b : Int) = .int .i64 (IntKind.i64.wrap (x * 256 + b)) := by
  simp only [intV]
  congr 1
  have h1 : (BitVec.ofInt IntKind.i64.bits (IntKind.i64.wrap (x * 256))).toNat = ((x * 256) % 18446744073709551616).toNat := by
    rw [BitVec.toNat_ofInt, wrap_i64]
    show (((x * 256 + 9223372036854775808) % 18446744073709551616 - 9223372036854775808) % ((2 ^ 64 : Nat) : Int)).toNat = _
    congr 1; omega
  rw [BitVec.toNat_or, h1, bv_nat (n := IntKind.i64.bits) (show b < 2 ^ 64 by omega)]
  obtain ⟨q, hq⟩ : ∃ q : Nat, ((x * 256) % 18446744073709551616).toNat = 2 ^ 8 * q := ⟨((x * 256) % 18446744073709551616).toNat / 256, by omega⟩
  have h2 := Nat.two_pow_add_eq_or_of_lt (show b < 2 ^ 8 by omega) q
  rw [hq, ← h2, wrap_i64, wrap_i64]
  omega
end Go.HL
