/- HLH: the equations by which code over named slots is worked out. -/
import Derived.Test.YtgalileklafbbaaHLG
set_option linter.unusedSimpArgs false
set_option linter.unusedVariables false
set_option maxRecDepth 100000
namespace Go.HL
open Go

theorem hcond_bool (b : Bool) (A B : Prop) : hcond (.bool b) A B ↔ (b = true → A) ∧ (b = false → B) := by
  constructor
  · rintro ⟨c, hc, h1, h2⟩; obtain rfl : b = c := by simpa using hc
    exact ⟨h1, h2⟩
  · rintro ⟨h1, h2⟩; exact ⟨b, rfl, h1, h2⟩

@[congr] theorem hcond_congr {v v' : Value} {A B : Prop} (h : v = v') : hcond v A B = hcond v' A B := by rw [h]
@[congr] theorem heff_congr {P : Program} {o : Op} {ty : TypeId} {ρ : Operand → Value} {w w' : World} {next : Value → World → Prop} {QP : List PanicEntry → World → Prop} (h : w = w') :
    heff P o ty ρ w next QP = heff P o ty ρ w' next QP := by rw [h]
@[congr] theorem hloop_congr {b : (HX → Env → World → Prop) → Env → World → Prop} {Q : HX → Env → World → Prop} {σ σ' : Env} {w : World} (h : σ = σ') : hloop b Q σ w = hloop b Q σ' w := by rw [h]

theorem upd_at (σ : Env) (d : Nat) (v : Value) (t : Nat) : upd σ d v t = if t = d then v else σ t := rfl
theorem σ0_zero (v : Value) (l : List Value) : σ0 (v :: l) 0 = v := rfl
theorem σ0_succ (v : Value) (l : List Value) (n : Nat) : σ0 (v :: l) (n + 1) = σ0 l n := rfl
theorem σ0_nil (n : Nat) : σ0 [] n = undef := rfl
theorem updO_some (σ : Env) (d : Nat) (v : Value) : updO σ (some d) v = upd σ d v := rfl
theorem updO_none (σ : Env) (v : Value) : updO σ none v = σ := rfl

theorem beq_dec (l m : List UInt8) : (l == m) = decide (l = m) := by
  by_cases h : l = m
  · simp [h]
  · simp [h]

section values
variable (w : World) (k k' : IntKind) (a b : Int) (l m : List UInt8) (p q : Bool) (v u : Value) (n c off : Nat) (ad : Addr) (oa : Option Addr)
theorem e_nil : v1 w .nilchk v = v := by cases v <;> rfl
theorem e_len : v1 w .lens (str l) = .int .i64 l.length := rfl
theorem e_lensl : v1 w .lensl (.slice oa n c) = .int .i64 n := rfl
theorem e_capsl : v1 w .capsl (.slice oa n c) = .int .i64 c := rfl
theorem e_not : v1 w .bnot (.bool p) = .bool !p := rfl
theorem e_neg : v1 w .neg (.int k a) = .int k (k.wrap (0 - a)) := rfl
theorem e_conv : v1 w (.conv k) (.int k' a) = .int k (k.wrap a) := rfl
theorem e_same : v1 w .same v = v := by cases v <;> rfl
theorem e_faddr : v1 w (.faddr off) (.pointer (some ad)) = .pointer (some (ad.add off)) := rfl
theorem e_ld : v1 w .ld (.pointer (some ad)) = (w.cell? ad).getD undef := rfl
theorem e_ldn : v1 w (.ldn n) (.pointer (some ad)) = .agg (loadN w ad n) := rfl
theorem e_ext (vs : List Value) : v1 w (.ext n) (.tuple vs.toArray) = (vs[n]?).getD undef := by simp [v1]
theorem e_mkif (t : TypeId) : v1 w (.mkif t) v = .iface t v := by cases v <;> rfl
theorem e_kint : v1 w (.kint n) v = .int .i64 n := by cases v <;> rfl
theorem e_fld1 (cs : List Value) : v1 w (.fld off n false) (.agg cs.toArray) = (cs[off]?).getD undef := by simp [v1]
theorem e_fldn (cs : List Value) : v1 w (.fld off n true) (.agg cs.toArray) = .agg ((cs.drop off).take n).toArray := by simp [v1]
theorem e_bin (op : BinOp) : v2 (.bin op) (.int k a) (.int k' b) = intV op k a b := rfl
theorem i_add : intV .add k a b = .int k (k.wrap (a + b)) := rfl
theorem i_sub : intV .sub k a b = .int k (k.wrap (a - b)) := rfl
theorem i_mul : intV .mul k a b = .int k (k.wrap (a * b)) := rfl
theorem i_quo : intV .quo k a b = .int k (k.wrap (a.tdiv b)) := rfl
theorem i_rem : intV .rem k a b = .int k (a.tmod b) := rfl
theorem i_shl : intV .shl k a b = .int k (k.wrap (a * 2 ^ (min b.toNat k.bits))) := rfl
theorem i_shr : intV .shr k a b = .int k (a.fdiv (2 ^ (min b.toNat k.bits))) := rfl
theorem i_eql : intV .eql k a b = .bool (decide (a = b)) := by simp only [intV]; congr 1
theorem i_neq : intV .neq k a b = .bool (!decide (a = b)) := by simp only [intV]; congr 1
theorem i_lss : intV .lss k a b = .bool (decide (a < b)) := rfl
theorem i_leq : intV .leq k a b = .bool (decide (a ≤ b)) := rfl
theorem i_gtr : intV .gtr k a b = .bool (decide (b < a)) := rfl
theorem i_geq : intV .geq k a b = .bool (decide (b ≤ a)) := rfl
theorem e_sadd : v2 (.sbin .add) (str l) (str m) = str (l ++ m) := by
  simp only [v2, strV, str]; congr 1
theorem e_seq : v2 (.sbin .eql) (str l) (str m) = .bool (decide (l = m)) := by
  simp only [v2, strV, str, ByteArray.toList_mk, beq_dec]
theorem e_sne : v2 (.sbin .neq) (str l) (str m) = .bool (!decide (l = m)) := by
  simp only [v2, strV, str, ByteArray.toList_mk, beq_dec]
theorem e_slt : v2 (.sbin .lss) (str l) (str m) = .bool (Op.bytesLess l m) := by simp only [v2, strV, str, ByteArray.toList_mk]
theorem e_sle : v2 (.sbin .leq) (str l) (str m) = .bool (Op.bytesLess l m || decide (l = m)) := by
  simp only [v2, strV, str, ByteArray.toList_mk, beq_dec]
theorem e_sgt : v2 (.sbin .gtr) (str l) (str m) = .bool (!(Op.bytesLess l m || decide (l = m))) := by
  simp only [v2, strV, str, ByteArray.toList_mk, beq_dec]
theorem e_sge : v2 (.sbin .geq) (str l) (str m) = .bool (!Op.bytesLess l m) := by simp only [v2, strV, str, ByteArray.toList_mk]
theorem e_beq (neg : Bool) : v2 (.beq neg) (.bool p) (.bool q) = .bool ((p == q) != neg) := rfl
theorem e_sln (neg : Bool) (n' c' : Nat) : v2 (.slnil neg) (.slice oa n c) (.slice none n' c') = .bool (oa.isNone != neg) := by cases oa <;> rfl
theorem e_pn (neg : Bool) : v2 (.pnil neg) (.pointer oa) (.pointer none) = .bool (oa.isNone != neg) := by cases oa <;> rfl
theorem e_peq (neg : Bool) : v2 (.pnil neg) (.pointer (some ad)) (.pointer (some ad)) = .bool (true != neg) := by simp [v2]
theorem e_mpn (neg : Bool) (r : Option Nat) : v2 (.mpnil neg) (.map r) (.map none) = .bool (r.isNone != neg) := by cases r <;> rfl
theorem e_idxs : v2 .idxs (str l) (.int k a) = .int .u8 ((l[a.toNat]?).getD 0).toNat := by
  have : (ByteArray.mk l.toArray)[a.toNat]? = l[a.toNat]? := by
    rcases Nat.lt_or_ge a.toNat l.length with h | h
    · rw [ByteArray.getElem?_lt' _ _ (by simpa [ByteArray.size] using h)]
      simp [h]; rfl
    · rw [ByteArray.getElem?_ge' _ _ (by simp [ByteArray.size]; omega)]
      simp [h]
  simp only [v2, str, this]
theorem e_idxa1 (cs : List Value) (len : Nat) : v2 (.idxa len 1 false) (.agg cs.toArray) (.int k a) = (cs[a.toNat]?).getD undef := by simp [v2]
theorem e_iaddr : v2 (.iaddr n) (.slice (some ad) off c) (.int k a) = .pointer (some (ad.add (a.toNat * n))) := rfl
theorem e_iaddra (len : Nat) : v2 (.iaddra len n) (.pointer (some ad)) (.int k a) = .pointer (some (ad.add (a.toNat * n))) := rfl
theorem e_mn : v2 .mn (.int k a) (.int k' b) = .int k (if b < a then b else a) := rfl
theorem e_mx : v2 .mx (.int k a) (.int k' b) = .int k (if a < b then b else a) := rfl
theorem e_put1 (cs : List Value) (h : v.cells = #[v]) : v2 (.put off 1) (.agg cs.toArray) v = .agg (cs.set off v).toArray := by
  simp [v2, putCells, h, Array.zipIdx]
theorem e_put_int (cs : List Value) : v2 (.put off 1) (.agg cs.toArray) (.int k a) = .agg (cs.set off (.int k a)).toArray := e_put1 _ _ _ rfl
theorem e_put_bool (cs : List Value) : v2 (.put off 1) (.agg cs.toArray) (.bool p) = .agg (cs.set off (.bool p)).toArray := e_put1 _ _ _ rfl
theorem e_put_str (cs : List Value) : v2 (.put off 1) (.agg cs.toArray) (str l) = .agg (cs.set off (str l)).toArray := e_put1 _ _ _ rfl
theorem e_put_slice (cs : List Value) : v2 (.put off 1) (.agg cs.toArray) (.slice oa n c) = .agg (cs.set off (.slice oa n c)).toArray := e_put1 _ _ _ rfl
theorem e_put_ptr (cs : List Value) : v2 (.put off 1) (.agg cs.toArray) (.pointer oa) = .agg (cs.set off (.pointer oa)).toArray := e_put1 _ _ _ rfl
theorem e_put_map (cs : List Value) (r : Option Nat) : v2 (.put off 1) (.agg cs.toArray) (.map r) = .agg (cs.set off (.map r)).toArray := e_put1 _ _ _ rfl
theorem e_capt (fn : Fn) (f cs : List Value) : v2 .capt (.func fn f.toArray cs.toArray) v = .func fn f.toArray (cs ++ [v]).toArray := by simp [v2]
theorem e_capf (fn : Fn) (f cs : List Value) : v2 .capf (.func fn f.toArray cs.toArray) v = .func fn (f ++ [v]).toArray cs.toArray := by simp [v2]
theorem e_pick : v3 .pick (.bool p) v u = if p = true then v else u := rfl
theorem e_slS00 : v3 (.sls false false) (str l) v u = str l := by
  simp [v3, str, ByteArray.extract_mk, ByteArray.size]
theorem e_slS10 : v3 (.sls true false) (str l) (.int k a) v = str (l.drop a.toNat) := by
  simp [v3, str, ByteArray.extract_mk, ByteArray.size, toI, List.take_of_length_le]
theorem e_slS01 : v3 (.sls false true) (str l) v (.int k a) = str (l.take a.toNat) := by
  simp [v3, str, ByteArray.extract_mk, ByteArray.size, toI]
theorem e_slS11 : v3 (.sls true true) (str l) (.int k a) (.int k' b) = str ((l.drop a.toNat).take (b.toNat - a.toNat)) := by
  simp [v3, str, ByteArray.extract_mk, ByteArray.size, toI]
theorem e_slV00 (sz : Nat) : v3 (.slv sz false false) (.slice oa n c) v u = .slice oa n c := by
  simp only [v3, Bool.false_eq_true, if_false, Nat.sub_zero, Nat.zero_mul]
  split
  · rfl
  · cases oa <;> simp [Addr.add]
theorem e_slV10 (sz : Nat) : v3 (.slv sz true false) (.slice oa n c) (.int k a) v = .slice (if c = a.toNat then oa else oa.map (·.add (a.toNat * sz))) (n - a.toNat) (c - a.toNat) := by simp [v3, toI]
theorem e_slV01 (sz : Nat) : v3 (.slv sz false true) (.slice oa n c) v (.int k a) = .slice oa a.toNat c := by
  simp only [v3, Bool.false_eq_true, if_false, if_true, Nat.sub_zero, Nat.zero_mul, toI]
  split
  · rfl
  · cases oa <;> simp [Addr.add]
theorem e_slV11 (sz : Nat) : v3 (.slv sz true true) (.slice oa n c) (.int k a) (.int k' b) = .slice (if c = a.toNat then oa else oa.map (·.add (a.toNat * sz))) (b.toNat - a.toNat) (c - a.toNat) := by simp [v3, toI]
theorem e_add (blk o : Nat) : (⟨blk, o, none⟩ : Addr).add n = ⟨blk, o + n, none⟩ := by
  unfold Addr.add; split
  · rename_i h; subst h; rfl
  · rfl
theorem e_isT : isB true (.bool p) = p := by cases p <;> rfl
theorem e_isF : isB false (.bool p) = !p := by cases p <;> rfl
theorem e_boolite (x y : Bool) : (if p = true then Value.bool x else .bool y) = .bool (if p = true then x else y) := by split <;> rfl
end values

section checks
variable (w : World) (k k' : IntKind) (a b : Int) (l m : List UInt8) (p q : Bool) (v u : Value) (n c off : Nat) (ad : Addr) (oa : Option Addr)
theorem c_nilp : c1 w .nilchk (.pointer (some ad)) = True := rfl
theorem c_nilf (f : FuncId) (x y : Array Value) : c1 w .nilchk (.func (.func f) x y) = True := rfl
theorem c_nili (t : TypeId) : c1 w .nilchk (.iface t v) = True := rfl
theorem c_len : c1 w .lens (str l) = True := rfl
theorem c_lensl : c1 w .lensl (.slice oa n c) = True := rfl
theorem c_capsl : c1 w .capsl (.slice oa n c) = True := rfl
theorem c_not : c1 w .bnot (.bool p) = True := rfl
theorem c_neg : c1 w .neg (.int k a) = True := rfl
theorem c_conv : c1 w (.conv k) (.int k' a) = True := rfl
theorem c_same : c1 w .same (str l) = True := rfl
theorem c_faddr : c1 w (.faddr off) (.pointer (some ad)) = True := rfl
theorem c_ld : c1 w .ld (.pointer (some ad)) = ((w.cell? ad).isSome = true) := rfl
theorem c_ldn : c1 w (.ldn n) (.pointer (some ad)) = (∀ i, i < n → (w.cell? (ad.add i)).isSome = true) := rfl
theorem c_ext (vs : List Value) : c1 w (.ext n) (.tuple vs.toArray) = (n < vs.length) := by simp [c1]
theorem c_mkif (t : TypeId) : c1 w (.mkif t) v = True := by cases v <;> rfl
theorem c_kint : c1 w (.kint n) v = True := by cases v <;> rfl
theorem c_fld1 (cs : List Value) : c1 w (.fld off n false) (.agg cs.toArray) = (off < cs.length) := by simp [c1]
theorem c_fldn (cs : List Value) : c1 w (.fld off n true) (.agg cs.toArray) = True := by simp [c1]
theorem c_bin (op : BinOp) : c2 (.bin op) (.int k a) (.int k' b) = intC op k k' b := rfl
theorem c_iadd : intC .add k k' b = (k = k') := rfl
theorem c_isub : intC .sub k k' b = (k = k') := rfl
theorem c_imul : intC .mul k k' b = (k = k') := rfl
theorem c_iand : intC .and k k' b = (k = k') := rfl
theorem c_ior : intC .or k k' b = (k = k') := rfl
theorem c_ixor : intC .xor k k' b = (k = k') := rfl
theorem c_ianot : intC .andNot k k' b = (k = k') := rfl
theorem c_iquo : intC .quo k k' b = (k = k' ∧ b ≠ 0) := rfl
theorem c_irem : intC .rem k k' b = (k = k' ∧ b ≠ 0) := rfl
theorem c_ishl : intC .shl k k' b = (0 ≤ b) := rfl
theorem c_ishr : intC .shr k k' b = (0 ≤ b) := rfl
theorem c_ieql : intC .eql k k' b = (k = k') := rfl
theorem c_ineq : intC .neq k k' b = (k = k') := rfl
theorem c_ilss : intC .lss k k' b = (k = k') := rfl
theorem c_ileq : intC .leq k k' b = (k = k') := rfl
theorem c_igtr : intC .gtr k k' b = (k = k') := rfl
theorem c_igeq : intC .geq k k' b = (k = k') := rfl
theorem c_sadd : c2 (.sbin .add) (str l) (str m) = (((l.length + m.length : Nat) : Int) ≤ 9223372036854775807) := by simp [c2, strC, str, ByteArray.size]
theorem c_seq : c2 (.sbin .eql) (str l) (str m) = True := rfl
theorem c_sne : c2 (.sbin .neq) (str l) (str m) = True := rfl
theorem c_slt : c2 (.sbin .lss) (str l) (str m) = True := rfl
theorem c_sle : c2 (.sbin .leq) (str l) (str m) = True := rfl
theorem c_sgt : c2 (.sbin .gtr) (str l) (str m) = True := rfl
theorem c_sge : c2 (.sbin .geq) (str l) (str m) = True := rfl
theorem c_beq (neg : Bool) : c2 (.beq neg) (.bool p) (.bool q) = True := rfl
theorem c_sln (neg : Bool) (n' c' : Nat) : c2 (.slnil neg) (.slice oa n c) (.slice none n' c') = True := by cases oa <;> rfl
theorem c_pn (neg : Bool) : c2 (.pnil neg) (.pointer oa) (.pointer none) = True := by cases oa <;> rfl
theorem c_peq (neg : Bool) : c2 (.pnil neg) (.pointer (some ad)) (.pointer (some ad)) = True := by simp [c2]
theorem c_mpn (neg : Bool) (r : Option Nat) : c2 (.mpnil neg) (.map r) (.map none) = True := by cases r <;> rfl
theorem c_idxs : c2 .idxs (str l) (.int k a) = (0 ≤ a ∧ a < l.length) := by simp [c2, str, ByteArray.size]
theorem c_idxa1 (cs : List Value) (len : Nat) : c2 (.idxa len 1 false) (.agg cs.toArray) (.int k a) = (0 ≤ a ∧ a < len ∧ a.toNat < cs.length) := by simp [c2]
theorem c_iaddr : c2 (.iaddr n) (.slice (some ad) off c) (.int k a) = (0 ≤ a ∧ a < off) := rfl
theorem c_iaddra (len : Nat) : c2 (.iaddra len n) (.pointer (some ad)) (.int k a) = (0 ≤ a ∧ a < len) := rfl
theorem c_mn : c2 .mn (.int k a) (.int k' b) = True := rfl
theorem c_mx : c2 .mx (.int k a) (.int k' b) = True := rfl
theorem c_put1 (cs : List Value) (h : v.cells = #[v]) : c2 (.put off 1) (.agg cs.toArray) v = (off + 1 ≤ cs.length) := by simp [c2, h]
theorem c_put_int (cs : List Value) : c2 (.put off 1) (.agg cs.toArray) (.int k a) = (off + 1 ≤ cs.length) := c_put1 _ _ _ rfl
theorem c_put_bool (cs : List Value) : c2 (.put off 1) (.agg cs.toArray) (.bool p) = (off + 1 ≤ cs.length) := c_put1 _ _ _ rfl
theorem c_put_str (cs : List Value) : c2 (.put off 1) (.agg cs.toArray) (str l) = (off + 1 ≤ cs.length) := c_put1 _ _ _ rfl
theorem c_put_slice (cs : List Value) : c2 (.put off 1) (.agg cs.toArray) (.slice oa n c) = (off + 1 ≤ cs.length) := c_put1 _ _ _ rfl
theorem c_put_ptr (cs : List Value) : c2 (.put off 1) (.agg cs.toArray) (.pointer oa) = (off + 1 ≤ cs.length) := c_put1 _ _ _ rfl
theorem c_put_map (cs : List Value) (r : Option Nat) : c2 (.put off 1) (.agg cs.toArray) (.map r) = (off + 1 ≤ cs.length) := c_put1 _ _ _ rfl
theorem c_pick : c3 .pick (.bool p) v u = True := rfl
theorem c_slS00 : c3 (.sls false false) (str l) v u = True := by simp [c3, str]
theorem c_slS10 : c3 (.sls true false) (str l) (.int k a) v = (0 ≤ a ∧ a ≤ l.length) := by simp [c3, str, isI, toI, ByteArray.size]
theorem c_slS01 : c3 (.sls false true) (str l) v (.int k a) = (0 ≤ a ∧ a ≤ l.length) := by simp [c3, str, isI, toI, ByteArray.size]
theorem c_slS11 : c3 (.sls true true) (str l) (.int k a) (.int k' b) = ((0 ≤ b ∧ b ≤ l.length) ∧ 0 ≤ a ∧ a ≤ b) := by simp [c3, str, isI, toI, ByteArray.size]
theorem c_slV00 (sz : Nat) : c3 (.slv sz false false) (.slice oa n c) v u = True := by simp [c3]
theorem c_slV10 (sz : Nat) : c3 (.slv sz true false) (.slice oa n c) (.int k a) v = (0 ≤ a ∧ a ≤ n) := by simp [c3, isI, toI]
theorem c_slV01 (sz : Nat) : c3 (.slv sz false true) (.slice oa n c) v (.int k a) = (0 ≤ a ∧ a ≤ c) := by simp [c3, isI, toI]
theorem c_slV11 (sz : Nat) : c3 (.slv sz true true) (.slice oa n c) (.int k a) (.int k' b) = ((0 ≤ b ∧ b ≤ c) ∧ 0 ≤ a ∧ a ≤ b) := by simp [c3, isI, toI]
end checks

theorem w64 {x : Int} (h1 : -9223372036854775808 ≤ x) (h2 : x ≤ 9223372036854775807) : IntKind.i64.wrap x = x := by rw [IntKind.wrap_i64]; omega
attribute [go_sem] e_peq c_peq e_nil e_len e_lensl e_capsl e_not e_neg e_conv e_same e_faddr e_ld e_ldn e_ext e_mkif e_kint e_fld1 e_fldn e_bin i_add i_sub i_mul i_quo i_rem i_shl i_shr i_eql i_neq i_lss i_leq i_gtr i_geq e_sadd e_seq e_sne e_slt e_sle e_sgt e_sge e_beq e_sln e_pn e_mpn e_idxs e_idxa1 e_iaddr e_iaddra e_mn e_mx e_put_int e_put_bool e_put_str e_put_slice e_put_ptr e_put_map e_capt e_capf e_pick e_slS00 e_slS10 e_slS01 e_slS11 e_slV00 e_slV10 e_slV01 e_slV11 e_add e_isT e_isF e_boolite c_nilp c_nilf c_nili c_len c_lensl c_capsl c_not c_neg c_conv c_same c_faddr c_ld c_ldn c_ext c_mkif c_kint c_fld1 c_fldn c_bin c_iadd c_isub c_imul c_iand c_ior c_ixor c_ianot c_iquo c_irem c_ishl c_ishr c_ieql c_ineq c_ilss c_ileq c_igtr c_igeq c_sadd c_seq c_sne c_slt c_sle c_sgt c_sge c_beq c_sln c_pn c_mpn c_idxs c_idxa1 c_iaddr c_iaddra c_mn c_mx c_put_int c_put_bool c_put_str c_put_slice c_put_ptr c_put_map c_pick c_slS00 c_slS10 c_slS01 c_slS11 c_slV00 c_slV10 c_slV01 c_slV11
attribute [go_sem] hcond_bool upd_at σ0_zero σ0_succ σ0_nil updO_some updO_none hw hs hsT seqX blockX val chk endX stabOK rvCs rvV retV List.map_cons List.map_nil true_and and_true
end Go.HL
