/- JA: the journal's codec as plain functions: numbers, checksums, forms. -/
import Derived.Test.YtgalileklafbbaaHLO
set_option linter.unusedSimpArgs false
set_option linter.unusedVariables false
set_option maxRecDepth 100000
namespace Go.Proofs.Y
open Go Go.HL

/-! ### the checksum -/
def crcStep (x : Nat) : Nat := if x % 2 = 1 then (x / 2) ^^^ 3988292384 else x / 2
def crcIt : Nat → Nat → Nat
  | 0, x => x
  | n + 1, x => crcIt n (crcStep x)
theorem crcIt_succ : ∀ (n x : Nat), crcIt (n + 1) x = crcStep (crcIt n x)
  | 0, _ => rfl
  | n + 1, x => by rw [crcIt, crcIt_succ n]; rfl
def crcFold (x : Nat) (s : List UInt8) : Nat := s.foldl (fun x b => crcIt 8 (x ^^^ b.toNat)) x
def crc (s : List UInt8) : Nat := 4294967295 - crcFold 4294967295 s

theorem crcStep_lt {x : Nat} (h : x < 4294967296) : crcStep x < 4294967296 := by
  unfold crcStep; split
  · exact Nat.xor_lt_two_pow (n := 32) (by omega) (by decide)
  · omega
theorem crcIt_lt : ∀ (n x : Nat), x < 4294967296 → crcIt n x < 4294967296
  | 0, _, h => h
  | n + 1, x, h => crcIt_lt n _ (crcStep_lt h)
theorem crcFold_lt : ∀ (s : List UInt8) (x : Nat), x < 4294967296 → crcFold x s < 4294967296
  | [], _, h => h
  | b :: s, x, h => by
    simp only [crcFold, List.foldl_cons]
    exact crcFold_lt s _ (crcIt_lt 8 _ (Nat.xor_lt_two_pow (n := 32) h (by have := b.toNat_lt; omega)))
theorem crc_lt (s : List UInt8) : crc s < 4294967296 := by unfold crc; omega

theorem xor_big {a : Nat} (ha : a < 2147483648) : 2147483648 ≤ a ^^^ 3988292384 := by
  have h1 : (a ^^^ 3988292384).testBit 31 = true := by
    rw [Nat.testBit_xor, Nat.testBit_lt_two_pow (by omega : a < 2 ^ 31)]; decide
  have := Nat.ge_two_pow_of_testBit h1
  omega
theorem xor_cancel {a b c : Nat} (h : a ^^^ c = b ^^^ c) : a = b := by
  have := congrArg (· ^^^ c) h
  simpa [Nat.xor_assoc] using this
theorem crcStep_inj {x y : Nat} (hx : x < 4294967296) (hy : y < 4294967296) (h : crcStep x = crcStep y) : x = y := by
  unfold crcStep at h
  have b1 := xor_big (a := x / 2) (by omega)
  have b2 := xor_big (a := y / 2) (by omega)
  split at h <;> split at h
  · have := xor_cancel h; omega
  · omega
  · omega
  · omega
theorem crcIt_inj : ∀ (n x y : Nat), x < 4294967296 → y < 4294967296 → crcIt n x = crcIt n y → x = y
  | 0, _, _, _, _, h => h
  | n + 1, x, y, hx, hy, h => crcStep_inj hx hy (crcIt_inj n _ _ (crcStep_lt hx) (crcStep_lt hy) h)
theorem xor_byte {x : Nat} (h : x < 4294967296) (b : UInt8) : x ^^^ b.toNat < 4294967296 := Nat.xor_lt_two_pow (n := 32) h (by have := b.toNat_lt; omega)
theorem crcFold_inj : ∀ (s : List UInt8) (x y : Nat), x < 4294967296 → y < 4294967296 → crcFold x s = crcFold y s → x = y
  | [], _, _, _, _, h => h
  | b :: s, x, y, hx, hy, h => by
    simp only [crcFold, List.foldl_cons] at h
    have h1 := crcFold_inj s _ _ (crcIt_lt 8 _ (xor_byte hx b)) (crcIt_lt 8 _ (xor_byte hy b)) h
    exact xor_cancel (crcIt_inj 8 _ _ (xor_byte hx b) (xor_byte hy b) h1)
/-- one byte changed is seen -/
theorem crc_changed {s : List UInt8} {i : Nat} {b : UInt8} (hi : i < s.length) (hb : s[i] ≠ b) : crc (s.set i b) ≠ crc s := by
  intro h
  have hl1 := crcFold_lt s 4294967295 (by decide)
  have hl2 := crcFold_lt (s.set i b) 4294967295 (by decide)
  have h1 : crcFold 4294967295 (s.set i b) = crcFold 4294967295 s := by unfold crc at h; omega
  have e1 : s = s.take i ++ s[i] :: s.drop (i + 1) := by simp
  have e2 : s.set i b = s.take i ++ b :: s.drop (i + 1) := by rw [List.set_eq_take_append_cons_drop, if_pos hi]
  rw [e2] at h1
  conv at h1 => rhs; rw [e1]
  simp only [crcFold, List.foldl_append, List.foldl_cons] at h1
  have hm : List.foldl (fun x (b : UInt8) => crcIt 8 (x ^^^ b.toNat)) 4294967295 (s.take i) < 4294967296 := crcFold_lt _ _ (by decide)
  generalize List.foldl (fun x (b : UInt8) => crcIt 8 (x ^^^ b.toNat)) 4294967295 (s.take i) = m at h1 hm
  have h2 := crcFold_inj _ _ _ (crcIt_lt 8 _ (xor_byte hm b)) (crcIt_lt 8 _ (xor_byte hm s[i])) h1
  have h3 := crcIt_inj 8 _ _ (xor_byte hm b) (xor_byte hm s[i]) h2
  rw [Nat.xor_comm m, Nat.xor_comm m] at h3
  exact hb (UInt8.toNat_inj.1 (xor_cancel h3).symm)

/-! ### numbers -/
def byteOf (n : Int) (i : Nat) : UInt8 := UInt8.ofNat (n / 256 ^ i % 256).toNat
def num (n : Int) : List UInt8 := (List.range 8).map (byteOf n)
theorem num_len (n : Int) : (num n).length = 8 := by simp [num]
def wr (n : Int) : Int := IntKind.i64.wrap n
/-- the number of which the first bytes are the form -/
def valAt (s : List UInt8) (i : Nat) : Int := ((s[i]?).getD 0).toNat
/-- the bytes from the eighth down to number i -/
def valFrom (s : List UInt8) : Nat → Int
  | 0 => 0
  | k + 1 => wr (valFrom s k * 256 + valAt s (7 - k))
def val (s : List UInt8) : Int := valFrom s 8

theorem byteOf_nat (n : Int) (i : Nat) : ((byteOf n i).toNat : Int) = n / 256 ^ i % 256 := by
  have h : 0 ≤ n / 256 ^ i % 256 := Int.emod_nonneg _ (by decide)
  have h2 : n / 256 ^ i % 256 < 256 := Int.emod_lt_of_pos _ (by decide)
  simp only [byteOf, UInt8.toNat_ofNat']
  omega
theorem val_num {n : Int} (h1 : -9223372036854775808 ≤ n) (h2 : n ≤ 9223372036854775807) (t : List UInt8) : val (num n ++ t) = n := by
  have hb : ∀ i, i < 8 → valAt (num n ++ t) i = n / 256 ^ i % 256 := by
    intro i hi
    unfold valAt
    rw [List.getElem?_append_left (by rw [num_len]; exact hi)]
    simp [num, hi, byteOf_nat]
  have small : ∀ x : Int, 0 ≤ x → x < 9223372036854775808 → wr x = x := by intro x h0 h1; rw [wr, wrap_i64]; omega
  have q : ∀ i : Nat, n / 256 ^ (i + 1) = n / 256 ^ i / 256 := fun i => by
    have hp : (0 : Int) < 256 ^ i := Int.pow_pos (by decide)
    rw [Int.ediv_ediv, if_neg (by omega), Int.sub_zero, Int.pow_succ]
  have e0 : n / 256 ^ 0 = n := by simp
  have q0 := q 0; have q1 := q 1; have q2 := q 2; have q3 := q 3; have q4 := q 4; have q5 := q 5; have q6 := q 6
  rw [e0] at q0
  simp only [Nat.zero_add, Nat.reduceAdd] at q0 q1 q2 q3 q4 q5 q6
  simp only [val, valFrom, hb 0 (by omega), hb 1 (by omega), hb 2 (by omega), hb 3 (by omega), hb 4 (by omega), hb 5 (by omega), hb 6 (by omega), hb 7 (by omega), Nat.sub_zero, Nat.reduceSub, e0]
  generalize n / 256 ^ 7 = n7 at *
  generalize n / 256 ^ 6 = n6 at *
  generalize n / 256 ^ 5 = n5 at *
  generalize n / 256 ^ 4 = n4 at *
  generalize n / 256 ^ 3 = n3 at *
  generalize n / 256 ^ 2 = n2 at *
  generalize n / 256 ^ 1 = n1 at *
  rw [small (0 * 256 + n7 % 256) (by omega) (by omega)]
  rw [small ((0 * 256 + n7 % 256) * 256 + n6 % 256) (by omega) (by omega)]
  rw [small (((0 * 256 + n7 % 256) * 256 + n6 % 256) * 256 + n5 % 256) (by omega) (by omega)]
  rw [small ((((0 * 256 + n7 % 256) * 256 + n6 % 256) * 256 + n5 % 256) * 256 + n4 % 256) (by omega) (by omega)]
  rw [small (((((0 * 256 + n7 % 256) * 256 + n6 % 256) * 256 + n5 % 256) * 256 + n4 % 256) * 256 + n3 % 256) (by omega) (by omega)]
  rw [small ((((((0 * 256 + n7 % 256) * 256 + n6 % 256) * 256 + n5 % 256) * 256 + n4 % 256) * 256 + n3 % 256) * 256 + n2 % 256) (by omega) (by omega)]
  rw [small (((((((0 * 256 + n7 % 256) * 256 + n6 % 256) * 256 + n5 % 256) * 256 + n4 % 256) * 256 + n3 % 256) * 256 + n2 % 256) * 256 + n1 % 256) (by omega) (by omega)]
  rw [wr, wrap_i64]
  omega
end Go.Proofs.Y
