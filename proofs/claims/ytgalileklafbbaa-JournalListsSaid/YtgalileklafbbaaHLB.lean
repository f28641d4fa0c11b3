/- HLB: a resolved quiet operation, whose check holds, runs as its value says. -/
import Derived.Test.YtgalileklafbbaaHLA
set_option linter.unusedSimpArgs false
set_option linter.unusedVariables false
set_option maxRecDepth 100000
namespace Go.HL
open Go

section
variable {P : Program} {ρ : Operand → Value} {w : World}

theorem szOf_some {t : TypeId} {n : Nat} (h : szOf P t = some n) : (sizeOf t).run P w = .ok n w ∧ ∃ i, P.info? t = some i ∧ i.size = n := by
  unfold szOf at h
  cases hi : P.info? t with
  | none => simp [hi] at h
  | some i => simp [hi] at h; subst h; exact ⟨by simp [sizeOf, typeInfo, hi], i, rfl, rfl⟩

theorem run_und {t : TypeId} {d : TypeDesc} (h : P.underlying t = some d) : (underlying t).run P w = .ok d w := run_underlying h w

theorem aggT_some {t : TypeId} {b : Bool} (h : aggT P t = some b) : (isAgg t).run P w = .ok b w := by
  unfold aggT at h
  cases hd : P.underlying t with
  | none => simp [hd] at h
  | some d => 
    simp only [hd, Option.map_some, Option.some.injEq] at h
    subst h
    unfold isAgg
    simp only [Sem.run_bind, run_und hd, Result.andThen_ok]
    cases d <;> rfl

theorem int_ofC (op : BinOp) (k k' : IntKind) (a b : Int) (h : intC op k k' b) (t : TypeId) : (binOp op t (.int k a) (.int k' b)).run P w = .ok (intV op k a b) w := by
  unfold binOp
  cases op <;> simp only [intC] at h
  case shl => simp [Op.shift, intV, Int.not_lt.2 h]
  case shr => simp [Op.shift, intV, Int.not_lt.2 h]
  case quo => obtain ⟨rfl, hb⟩ := h; simp [Op.intDiv, intV, hb]
  case rem => obtain ⟨rfl, hb⟩ := h; simp [Op.intDiv, intV, hb]
  all_goals (subst h; simp [Op.intArith, Op.intBits, Op.intCmp, intV])

theorem guard_int (op : BinOp) (k k' : IntKind) (a b : Int) (t : TypeId) (x y : Operand) : (eqGuard op t x y (.int k a) (.int k' b)).run P w = .ok () w := by
  unfold eqGuard; cases op <;> simp <;> rfl

theorem guard_str (op : BinOp) (a b : ByteArray) (t : TypeId) (x y : Operand) : (eqGuard op t x y (.string a) (.string b)).run P w = .ok () w := by
  unfold eqGuard; cases op <;> simp <;> rfl

theorem str_ofC (op : BinOp) (a b : ByteArray) (h : strC op a b) (t : TypeId) : (binOp op t (.string a) (.string b)).run P w = .ok (strV op a b) w := by
  unfold binOp
  cases op <;> simp only [strC] at h <;> (try exact h.elim) <;> simp only [Op.stringOp, strV, Sem.run_pure]
  rw [if_neg (by rw [show IntKind.i64.max = 9223372036854775807 from rfl]; omega)]
  rfl

theorem guard_other (op : BinOp) (t : TypeId) (x y : Operand) (a b : Value) (h1 : a ≠ .nilIface) (h2 : ∀ c, a ≠ .agg c) : (eqGuard op t x y a b).run P w = .ok () w := by
  cases a <;> first | exact absurd rfl h1 | exact absurd rfl (h2 _) | (cases op <;> rfl)

theorem run_loadCellsFrom' (a : Addr) (n : Nat) : ∀ (i : Nat) (acc : Array Value), (∀ j, i ≤ j → j < i + n → (w.cell? (a.add j)).isSome = true) →
    (loadCellsFrom a i n acc).run P w = .ok (acc ++ ((List.range' i n).map fun j => (w.cell? (a.add j)).getD undef).toArray) w := by
  induction n with
  | zero => intro i acc _; simp [loadCellsFrom]
  | succ n ih =>
    intro i acc h
    obtain ⟨v, hv⟩ := Option.isSome_iff_exists.1 (h i (Nat.le_refl _) (by omega))
    simp only [loadCellsFrom, Sem.run_bind, run_load, hv, Result.andThen_ok]
    rw [ih (i + 1) (acc.push v) (fun j h1 h2 => h j (by omega) (by omega))]
    simp [List.range'_succ, hv]

theorem run_loadN (a : Addr) (n : Nat) (h : ∀ i, i < n → (w.cell? (a.add i)).isSome = true) : (loadCells a n).run P w = .ok (loadN w a n) w := by
  unfold loadCells
  rw [run_loadCellsFrom' a n 0 #[] (fun j _ h2 => h j (by omega))]
  simp [loadN, List.range_eq_range']


theorem run_v (s : Sem Value) (v : Value) (h : s.run P w = .ok v w) : (do pure (Next.value (← s)) : Sem Next).run P w = .ok (.value v) w := by
  simp only [Sem.run_bind, h, Result.andThen_ok]; rfl

theorem s_nil {v : Value} (h : c1 w .nilchk v) (o : Oper) (x : Operand) (ho : o.op = .nilCheck x) (hx : ρ x = v) : (execOp ρ o).run P w = .ok (.value v) w := by
  unfold execOp
  simp only [ho, hx]
  cases v <;> simp only [c1] at h
  case pointer a => cases a <;> simp only [c1] at h; rfl
  case iface t v => rfl
  case func fn a b => cases fn <;> simp only [c1] at h; rfl

theorem s_unop (op : UnOp) (t : TypeId) (x : Operand) (f : F1) (hf : (match op with | .not => some F1.bnot | .neg => some .neg | .xor => some .xor | _ => none) = some f) (v : Value) (h : c1 w f v) :
    (Op.unary op v).run P w = .ok (v1 w f v) w := by
  cases op <;> simp only [Option.some.injEq, reduceCtorEq] at hf <;> subst hf <;> cases v <;> simp only [c1] at h <;> simp [Op.unary, Op.intArith, Op.intBits, v1]

theorem s_load {t : TypeId} {q : Q Operand} {a : Operand} (h : resolve P (.load t a) = some q) (hc : qchk ρ w q) : (Instr.loadAt t (ρ a)).run P w = .ok (qval ρ w q) w := by
  simp only [resolve] at h
  cases ha : aggT P t with
  | none => simp [ha] at h
  | some b =>
    cases b with
    | false =>
      have hq : q = .q1 .ld a := by cases hs : szOf P t <;> simp [ha, hs] at h <;> exact h.symm
      subst hq
      simp only [qchk] at hc
      cases hv : ρ a <;> simp only [hv, c1] at hc
      rename_i p
      cases p <;> simp only [] at hc
      rename_i p
      obtain ⟨v, hv'⟩ := Option.isSome_iff_exists.1 hc
      simp [Instr.loadAt, Instr.sureAddr, loadVar, aggT_some ha, hv', qval, hv, v1]
    | true =>
      cases hs : szOf P t with
      | none => simp [ha, hs] at h
      | some n =>
        simp only [ha, hs, Option.some.injEq] at h; subst h
        simp only [qchk] at hc
        cases hv : ρ a <;> simp only [hv, c1] at hc
        rename_i p
        cases p <;> simp only [] at hc
        rename_i p
        simp [Instr.loadAt, Instr.sureAddr, loadVar, aggT_some ha, (szOf_some (w := w) hs).1, run_loadN p n hc, qval, hv, v1]

theorem s_faddr {s : TypeId} {f : Nat} {q : Q Operand} {x : Operand} (h : resolve P (.fieldAddr s x f) = some q) (hc : qchk ρ w q) : (Instr.fieldAt s (ρ x) f).run P w = .ok (qval ρ w q) w := by
  simp only [resolve] at h
  cases hu : P.underlying s with
  | none => simp [hu] at h
  | some d =>
    cases d <;> simp [hu] at h
    rename_i fields
    cases hf : fields[f]? with
    | none => simp [hf] at h
    | some fl =>
      simp only [hf] at h
      cases hz : szOf P fl.type with
      | none => simp [hz] at h
      | some n =>
        cases n with
        | zero => simp [hz] at h
        | succ n =>
          simp only [hz, Option.some.injEq] at h; subst h
          revert hc; simp only [qchk]; intro hc; cases hv : ρ x <;> simp only [hv, c1] at hc; rename_i p; cases p <;> simp only [c1] at hc
          simp [Instr.fieldAt, run_und hu, hf, Instr.sureAddr, fieldPlace, (szOf_some (w := w) hz).1, qval, hv, v1]

theorem s_part {t : TypeId} {b : Bool} {n off : Nat} {cs : Array Value} (ha : aggT P t = some b) (hs : szOf P t = some n) (h : b = true ∨ off < cs.size) :
    (part t cs off).run P w = .ok (if b then .agg (cs.extract off (off + n)) else (cs[off]?).getD undef) w := by
  unfold part
  cases b
  · have h' : off < cs.size := by simpa using h
    simp [aggT_some ha, h']
  · simp [aggT_some ha, (szOf_some (w := w) hs).1]

theorem s_field {s : TypeId} {f : Nat} {q : Q Operand} {x : Operand} (h : resolve P (.field s x f) = some q) (hc : qchk ρ w q) : (Instr.field s (ρ x) f).run P w = .ok (qval ρ w q) w := by
  simp only [resolve] at h
  cases hu : P.underlying s with
  | none => simp [hu] at h
  | some d =>
    cases d <;> simp [hu] at h
    rename_i fields
    cases hf : fields[f]? with
    | none => simp [hf] at h
    | some fl =>
      simp only [hf] at h
      cases ha : aggT P fl.type with
      | none => simp [ha] at h
      | some b =>
      cases hz : szOf P fl.type with
      | none => simp [ha, hz] at h
      | some n =>
          simp only [ha, hz, Option.some.injEq] at h; subst h
          revert hc; simp only [qchk]; intro hc; cases hv : ρ x <;> simp only [hv, c1] at hc
          simp [Instr.field, run_und hu, hf, asAgg, qval, hv, v1, s_part ha hz hc]

theorem toInt_of {v : Value} (h : isI v = true) : ∃ k, v = .int k (toI v) := by cases v <;> simp [isI] at h; exact ⟨_, rfl⟩

theorem s_iaddr {s : TypeId} {q : Q Operand} {x i : Operand} (h : resolve P (.indexAddr s x i) = some q) (hc : qchk ρ w q) : (Instr.indexAt s (ρ x) (ρ i)).run P w = .ok (qval ρ w q) w := by
  simp only [resolve] at h
  cases hu : P.underlying s with
  | none => simp [hu] at h
  | some d =>
    cases d <;> simp [hu] at h
    case slice e =>
      obtain ⟨n, hn, rfl⟩ := h
      simp only [qchk] at hc
      cases hv : ρ x <;> cases hi : ρ i <;> simp only [hv, hi, c2] at hc
      rename_i p len cap k ix
      cases p <;> simp only [] at hc
      simp [Instr.indexAt, asIntOf, hi, hv, run_und hu, hc, (szOf_some (w := w) hn).1, qval, v2]
    case array len e =>
      obtain ⟨n, hn, rfl⟩ := h
      simp only [qchk] at hc
      cases hv : ρ x <;> cases hi : ρ i <;> simp only [hv, hi, c2] at hc
      rename_i p k ix
      cases p <;> simp only [] at hc
      simp [Instr.indexAt, asIntOf, hi, hv, run_und hu, Instr.sureAddr, hc, (szOf_some (w := w) hn).1, qval, v2]

theorem s_index {s : TypeId} {q : Q Operand} {x i : Operand} (h : resolve P (.index s x i) = some q) (hc : qchk ρ w q) : (Instr.index s (ρ x) (ρ i)).run P w = .ok (qval ρ w q) w := by
  simp only [resolve] at h
  cases hu : P.underlying s with
  | none => simp [hu] at h
  | some d =>
    cases d <;> simp [hu] at h
    case string =>
      subst h
      revert hc; simp only [qchk]; intro hc; cases hv : ρ x <;> simp only [hv, c2] at hc
      cases hi : ρ i <;> simp only [hi, c2] at hc
      rename_i b k n
      obtain ⟨h0, h1⟩ := hc
      have hlt : n.toNat < b.size := by omega
      have e : b[n.toNat]? = some b[n.toNat] := ByteArray.getElem?_lt' b n.toNat hlt
      simp [Instr.index, asIntOf, hi, hv, run_und hu, h0, qval, v2, e]
    case array len e =>
      cases ha : aggT P e with
      | none => simp [ha] at h
      | some b =>
      cases hz : szOf P e with
      | none => simp [ha, hz] at h
      | some n =>
      simp only [ha, hz, Option.some.injEq] at h; subst h
      revert hc; simp only [qchk]; intro hc; cases hv : ρ x <;> simp only [hv, c2] at hc
      cases hi : ρ i <;> simp only [hi, c2] at hc
      simp [Instr.index, asIntOf, hi, hv, run_und hu, hc, (szOf_some (w := w) hz).1, qval, v2, s_part ha hz hc.2.2]

theorem s_bnd (v : Value) (y : Nat) (code : BoundsCode) (h : isI v = true ∧ 0 ≤ toI v ∧ toI v ≤ y) : (Instr.sliceBound v y code).run P w = .ok (toI v).toNat w := by
  cases v <;> simp only [isI, Bool.false_eq_true, false_and] at h
  simp only [toI, true_and] at h
  simp [Instr.sliceBound, asIntOf, toI, h]

theorem s_bounds (isS : Bool) (len cap : Nat) (lo hi : Option Value) (hh : hi.isSome = true → isI (hi.getD undef) = true ∧ 0 ≤ toI (hi.getD undef) ∧ toI (hi.getD undef) ≤ cap)
    (hl : lo.isSome = true → isI (lo.getD undef) = true ∧ 0 ≤ toI (lo.getD undef) ∧ toI (lo.getD undef) ≤ (if hi.isSome then toI (hi.getD undef) else len)) :
    (Instr.sliceBounds isS len cap lo hi none).run P w = .ok (if lo.isSome then (toI (lo.getD undef)).toNat else 0, if hi.isSome then (toI (hi.getD undef)).toNat else len, cap) w := by
  unfold Instr.sliceBounds
  cases hi with
  | none =>
    cases lo with
    | none => simp
    | some l => have := hl rfl; simp only [Option.getD_some, Option.isSome_none, Bool.false_eq_true, if_false] at this; simp [s_bnd l len _ this]
  | some h =>
    have h1 := hh rfl; simp only [Option.getD_some] at h1
    cases lo with
    | none => simp [s_bnd h cap _ h1]
    | some l =>
      have := hl rfl; simp only [Option.getD_some, Option.isSome_some, if_true] at this
      have h2 : isI l = true ∧ 0 ≤ toI l ∧ toI l ≤ ((toI h).toNat : Nat) := ⟨this.1, this.2.1, by omega⟩
      simp [s_bnd h cap _ h1, s_bnd l (toI h).toNat _ h2]

theorem optF_map (x : Option Operand) : (x.map ρ).getD undef = (if x.isSome then ρ (optF x) else undef) := by cases x <;> simp [optF]

theorem s_slice {s : TypeId} {q : Q Operand} {x : Operand} {lo hi : Option Operand} (h : resolve P (.slice s x lo hi none) = some q) (hc : qchk ρ w q) :
    (Instr.sliceAt s (ρ x) (lo.map ρ) (hi.map ρ) none).run P w = .ok (qval ρ w q) w := by
  simp only [resolve] at h
  cases hu : P.underlying s with
  | none => simp [hu] at h
  | some d =>
    cases d <;> simp [hu] at h
    case string =>
      subst h
      revert hc; simp only [qchk]; intro hc; cases hv : ρ x <;> simp only [hv, c3] at hc
      rename_i b
      have hb := s_bounds (P := P) (w := w) false b.size b.size (lo.map ρ) (hi.map ρ)
        (by intro h1; cases hi <;> simp at h1; have := hc.1 rfl; simpa [optF] using this)
        (by intro h1; cases lo <;> simp at h1; have := hc.2 rfl; cases hi <;> simpa [optF] using this)
      cases lo <;> cases hi <;> simp only [Option.map_none, Option.map_some] at hb <;> simp [Instr.sliceAt, run_und hu, Instr.slice, hb, qval, hv, v3, optF]
    case slice e =>
      obtain ⟨n, hn, rfl⟩ := h
      revert hc; simp only [qchk]; intro hc; cases hv : ρ x <;> simp only [hv, c3] at hc
      rename_i p len cap
      have hb := s_bounds (P := P) (w := w) true len cap (lo.map ρ) (hi.map ρ)
        (by intro h1; cases hi <;> simp at h1; have := hc.1 rfl; simpa [optF] using this)
        (by intro h1; cases lo <;> simp at h1; have := hc.2 rfl; cases hi <;> simpa [optF] using this)
      cases lo <;> cases hi <;> simp only [Option.map_none, Option.map_some] at hb <;> simp [Instr.sliceAt, run_und hu, Instr.slice, hb, (szOf_some (w := w) hn).1, qval, hv, v3, optF]

theorem eqIn_bool (D : Nat) {t : TypeId} (hu : P.underlying t = some .bool) (a b : Bool) : (Op.equalIn (D + 1) t (.bool a) (.bool b)).run P w = .ok (a == b) w := by
  simp [Op.equalIn, run_und hu]
theorem eqIn_slice (D : Nat) {t e : TypeId} (hu : P.underlying t = some (.slice e)) (a b : Option Addr) (la ca lb cb : Nat) (h : a = none ∨ b = none) :
    (Op.equalIn (D + 1) t (.slice a la ca) (.slice b lb cb)).run P w = .ok (if a.isNone then b.isNone else false) w := by
  cases a <;> cases b <;> simp at h <;> simp [Op.equalIn, run_und hu]
def ptrEq : Option Addr → Option Addr → Bool
  | none, none => true
  | some p, some q => p == q
  | _, _ => false
def ptrOK : Option Addr → Option Addr → Prop
  | some p, some q => p = q
  | _, _ => True
theorem eqIn_ptr (D : Nat) {t e : TypeId} (hu : P.underlying t = some (.pointer e)) (hi : (P.info? e).isSome = true) (a b : Option Addr) (h : ptrOK a b) :
    (Op.equalIn (D + 1) t (.pointer a) (.pointer b)).run P w = .ok (ptrEq a b) w := by
  obtain ⟨i, hi⟩ := Option.isSome_iff_exists.1 hi
  cases a <;> cases b <;> simp only [ptrOK] at h <;> simp [Op.equalIn, run_und hu, ptrEq, sameAddr, h, sizeOf, typeInfo, hi]
theorem eqIn_map (D : Nat) {t k e : TypeId} (hu : P.underlying t = some (.map k e)) (a b : Option Nat) (h : a = none ∨ b = none) :
    (Op.equalIn (D + 1) t (.map a) (.map b)).run P w = .ok (if a.isNone then b.isNone else false) w := by
  cases a <;> cases b <;> simp at h <;> simp [Op.equalIn, run_und hu]

theorem eq_bool {t : TypeId} (hu : P.underlying t = some .bool) (a b : Bool) : (Op.equal t (.bool a) (.bool b)).run P w = .ok (a == b) w := eqIn_bool 9999 hu a b
theorem eq_slice {t e : TypeId} (hu : P.underlying t = some (.slice e)) (a b : Option Addr) (la ca lb cb : Nat) (h : a = none ∨ b = none) :
    (Op.equal t (.slice a la ca) (.slice b lb cb)).run P w = .ok (if a.isNone then b.isNone else false) w := eqIn_slice 9999 hu a b la ca lb cb h
theorem eq_ptr {t e : TypeId} (hu : P.underlying t = some (.pointer e)) (hi : (P.info? e).isSome = true) (a b : Option Addr) (h : ptrOK a b) :
    (Op.equal t (.pointer a) (.pointer b)).run P w = .ok (ptrEq a b) w := eqIn_ptr 9999 hu hi a b h
theorem eq_map {t k e : TypeId} (hu : P.underlying t = some (.map k e)) (a b : Option Nat) (h : a = none ∨ b = none) :
    (Op.equal t (.map a) (.map b)).run P w = .ok (if a.isNone then b.isNone else false) w := eqIn_map 9999 hu a b h

theorem s_bin {t : TypeId} {op : BinOp} {q : Q Operand} {x y : Operand} {u : TypeId} (h : resolve P (.binOp op t x y u) = some q) (hc : qchk ρ w q) :
    (do eqGuard op t x y (ρ x) (ρ y); binOp op t (ρ x) (ρ y) : Sem Value).run P w = .ok (qval ρ w q) w := by
  simp only [resolve] at h
  cases hu : P.underlying t with
  | none => simp [hu] at h
  | some d =>
    cases d <;> simp [hu] at h
    case int k =>
      subst h; simp only [qchk] at hc
      cases hx : ρ x <;> cases hy : ρ y <;> simp only [hx, hy, c2] at hc
      simp only [Sem.run_bind, guard_int, Result.andThen_ok, int_ofC op _ _ _ _ hc, qval, hx, hy, v2]
    case string =>
      subst h; simp only [qchk] at hc
      cases hx : ρ x <;> cases hy : ρ y <;> simp only [hx, hy, c2] at hc
      simp only [Sem.run_bind, guard_str, Result.andThen_ok, str_ofC op _ _ hc, qval, hx, hy, v2]
    case bool =>
      cases op <;> simp at h <;> subst h <;> simp only [qchk] at hc <;>
      cases hx : ρ x <;> cases hy : ρ y <;> simp only [hx, hy, c2] at hc <;>
      simp [guard_other, binOp, eq_bool hu, qval, hx, hy, v2]
    case slice el =>
      have hc' : ∃ a la ca b lb cb, ρ x = .slice a la ca ∧ ρ y = .slice b lb cb ∧ (a = none ∨ b = none) := by
        cases op <;> simp at h <;> subst h <;> simp only [qchk] at hc <;>
        cases hx : ρ x <;> cases hy : ρ y <;> simp only [hx, hy, c2] at hc <;> (rename_i a _ _ b _ _) <;> cases a <;> cases b <;> simp at hc <;> simp
      obtain ⟨a, la, ca, b, lb, cb, hx, hy, hn⟩ := hc'
      cases op <;> simp at h <;> subst h <;>
      simp only [Sem.run_bind, hx, hy, guard_other _ _ _ _ (.slice a la ca) (.slice b lb cb) (by simp) (by simp), Result.andThen_ok, binOp, eq_slice hu a b la ca lb cb hn, Sem.run_pure, qval] <;>
      cases a <;> cases b <;> simp at hn <;> simp [v2]
    case pointer el =>
      cases hi : (P.info? el).isSome with
      | false => cases op <;> simp [hi] at h
      | true =>
        have hc' : ∃ a b, ρ x = .pointer a ∧ ρ y = .pointer b ∧ ptrOK a b := by
          cases op <;> simp [hi] at h <;> subst h <;> simp only [qchk] at hc <;>
          cases hx : ρ x <;> cases hy : ρ y <;> simp only [hx, hy, c2] at hc <;> (rename_i a b) <;> cases a <;> cases b <;> simp only at hc <;> simp_all [ptrOK]
        obtain ⟨a, b, hx, hy, hn⟩ := hc'
        cases op <;> simp [hi] at h <;> subst h <;>
        simp only [Sem.run_bind, hx, hy, guard_other _ _ _ _ (.pointer a) (.pointer b) (by simp) (by simp), Result.andThen_ok, binOp, eq_ptr hu hi a b hn, Sem.run_pure, qval] <;>
        cases a <;> cases b <;> simp [v2, ptrEq]
    case map k el =>
      have hc' : ∃ a b, ρ x = .map a ∧ ρ y = .map b ∧ (a = none ∨ b = none) := by
        cases op <;> simp at h <;> subst h <;> simp only [qchk] at hc <;>
        cases hx : ρ x <;> cases hy : ρ y <;> simp only [hx, hy, c2] at hc <;> (rename_i a b) <;> cases a <;> cases b <;> simp at hc <;> simp
      obtain ⟨a, b, hx, hy, hn⟩ := hc'
      cases op <;> simp at h <;> subst h <;>
      simp only [Sem.run_bind, hx, hy, guard_other _ _ _ _ (.map a) (.map b) (by simp) (by simp), Result.andThen_ok, binOp, eq_map hu a b hn, Sem.run_pure, qval] <;>
      cases a <;> cases b <;> simp at hn <;> simp [v2]

theorem s_conv {s d : TypeId} {q : Q Operand} {x : Operand} (h : resolve P (.convert s d x) = some q) (hc : qchk ρ w q) : (convert s d (ρ x)).run P w = .ok (qval ρ w q) w := by
  simp only [resolve] at h
  cases hu : P.underlying s with
  | none => simp [hu] at h
  | some a =>
    cases hd : P.underlying d with
    | none => cases a <;> simp [hu, hd] at h
    | some b =>
      cases a <;> cases b <;> simp [hu, hd] at h
      case int.int k k' =>
        subst h; simp only [qchk] at hc
        cases hx : ρ x <;> simp only [hx, c1] at hc
        simp [convert, run_und hu, run_und hd, Conv.intToInt, qval, hx, v1]
      case string.string =>
        subst h; simp only [qchk] at hc
        cases hx : ρ x <;> simp only [hx, c1] at hc
        simp [convert, run_und hu, run_und hd, qval, hx, v1]

theorem s_mkif {t : TypeId} {q : Q Operand} {x : Operand} (h : resolve P (.makeInterface t x) = some q) : (Instr.makeInterface t (ρ x)).run P w = .ok (qval ρ w q) w := by
  simp only [resolve] at h
  cases hu : P.underlying t with
  | none => simp [hu] at h
  | some a =>
    cases a <;> simp [hu] at h <;> subst h <;> simp [Instr.makeInterface, run_und hu, qval, v1]

theorem s_ext {x : Operand} {i : Nat} (hc : c1 w (.ext i) (ρ x)) : (Instr.extract (ρ x) i).run P w = .ok (v1 w (.ext i) (ρ x)) w := by
  cases hx : ρ x <;> simp only [hx, c1] at hc
  simp [Instr.extract, v1, hc]

theorem s_fill (places : Nat → Option (Nat × Nat)) : ∀ (parts : List (Nat × Operand)) (l : List (Nat × Nat × Operand)) (cs : Array Value),
    parts.mapM (fun p => (places p.1).map fun (q : Nat × Nat) => (q.1, q.2, p.2)) = some l → bldC ρ (.agg cs) l →
    ∃ cs', Instr.fill places cs (parts.map fun p => (p.1, ρ p.2)) = some cs' ∧ bldV ρ (.agg cs) l = .agg cs'
  | [], l, cs, h, _ => by simp at h; subst h; exact ⟨cs, rfl, rfl⟩
  | p :: r, l, cs, h, hc => by
    simp only [List.mapM_cons, Option.bind_eq_bind, Option.bind_eq_some_iff, Option.map_eq_some_iff, Option.pure_def, Option.some.injEq] at h
    obtain ⟨e, ⟨q, hq, rfl⟩, l', hl', rfl⟩ := h
    simp only [bldC, c2] at hc
    obtain ⟨cs', h1, h2⟩ := s_fill places r l' (putCells q.1 cs (ρ p.2).cells) hl' hc.2
    refine ⟨cs', ?_, h2⟩
    simp only [List.map_cons, Instr.fill, hq]
    rw [if_neg (by simp only [Bool.or_eq_true, decide_eq_true_eq]; rintro (h | h); exact h hc.1.1; have := hc.1; omega)]
    exact h1

theorem run_zero {t : TypeId} {z : Value} (h : (P.info? t).bind (·.zero) = some z) : (zeroValue t).run P w = .ok z w := by
  obtain ⟨i, hi, hz⟩ := Option.bind_eq_some_iff.1 h
  simp [zeroValue, typeInfo, hi, hz]

theorem mapM_sizes (fields : List Field) : ∀ (places : List (Nat × Nat)), (fields.mapM fun (f : Field) => (szOf P f.type).map fun n => (f.offset, n)) = some places →
    (fields.mapM fun f => (do pure (f.offset, ← sizeOf f.type) : Sem (Nat × Nat))).run P w = .ok places w := by
  induction fields with
  | nil => intro places h; simp at h; subst h; simp
  | cons f r ih =>
    intro places h
    simp only [List.mapM_cons, Option.bind_eq_bind, Option.bind_eq_some_iff, Option.map_eq_some_iff, Option.pure_def, Option.some.injEq] at h
    obtain ⟨e, ⟨n, hn, rfl⟩, l', hl', rfl⟩ := h
    simp only [List.mapM_cons, Sem.run_bind, (szOf_some (w := w) hn).1, Result.andThen_ok, Sem.run_pure, ih l' hl']

theorem s_build {t : TypeId} {parts : Array (Nat × Operand)} {q : Q Operand} (h : resolve P (.build t parts) = some q) (hc : qchk ρ w q) :
    (Instr.build t (parts.map fun (i, x) => (i, ρ x))).run P w = .ok (qval ρ w q) w := by
  simp only [resolve] at h
  have hl : (parts.map fun (i, x) => (i, ρ x)).toList = parts.toList.map fun p => (p.1, ρ p.2) := by simp
  cases hz : (P.info? t).bind (·.zero) with
  | none => simp [hz] at h
  | some z =>
    cases hu : P.underlying t with
    | none => simp [hz, hu] at h
    | some d =>
      cases d <;> simp only [hz, hu, reduceCtorEq] at h
      case struct fields =>
        cases hp : (fields.toList.mapM fun (f : Field) => (szOf P f.type).map fun n => (f.offset, n) : Option (List (Nat × Nat))) with
        | none => simp [hp] at h
        | some places =>
          simp only [hp, Option.map_eq_some_iff] at h
          obtain ⟨l, hl', rfl⟩ := h
          obtain ⟨cs', h1, h2⟩ := s_fill (ρ := ρ) (fun i => places[i]?) parts.toList l z.cells hl' hc
          have hm : (fields.mapM fun f => (do pure (f.offset, ← sizeOf f.type) : Sem (Nat × Nat))).run P w = .ok places.toArray w := by
            rw [← Array.toArray_toList (xs := fields), List.mapM_toArray]
            simp only [Sem.run_map, Sem.run_bind, mapM_sizes (P := P) (w := w) _ _ hp, Result.andThen_ok]
          simp only [Instr.build, Sem.run_bind, run_zero hz, Result.andThen_ok, run_und hu, hm, hl, qval, h2]
          have : (fun (x : Nat) => (places.toArray)[x]?) = fun i => places[i]? := by funext i; simp
          rw [this, h1]; rfl
      case array len e =>
        cases hn : szOf P e with
        | none => simp [hn] at h
        | some n =>
          simp only [hn, Option.some.injEq] at h; subst h
          obtain ⟨cs', h1, h2⟩ := s_fill (ρ := ρ) (fun i => some (i * n, n)) parts.toList _ z.cells (by
            show _ = some (parts.toList.map fun (p : Nat × Operand) => (p.1 * n, n, p.2))
            induction parts.toList with
            | nil => rfl
            | cons a r ih => simp only [Option.map_some] at ih ⊢; simp [List.mapM_cons, ih]) hc
          simp only [Instr.build, Sem.run_bind, run_zero hz, Result.andThen_ok, run_und hu, (szOf_some (w := w) hn).1, hl, h1, qval, h2]; rfl

theorem push_eq (f : F2) (hf : ∀ fn a c v, v2 f (.func fn a c) v = match f with | .capt => .func fn a (c.push v) | .capf => .func fn (a.push v) c | _ => undef) : True := trivial
theorem push_capt (fn : Fn) (a : Array Value) : ∀ (l : List Operand) (c : Array Value), pushAll ρ .capt (.func fn a c) l = .func fn a (c ++ (l.map ρ).toArray)
  | [], c => by simp [pushAll]
  | x :: r, c => by simp only [pushAll, v2]; rw [push_capt fn a r]; simp
theorem push_capf (fn : Fn) (c : Array Value) : ∀ (l : List Operand) (a : Array Value), pushAll ρ .capf (.func fn a c) l = .func fn (a ++ (l.map ρ).toArray) c
  | [], a => by simp [pushAll]
  | x :: r, a => by simp only [pushAll, v2]; rw [push_capf fn c r]; simp

theorem s_fun (fn : Fn) (first caps : Array Operand) : (Instr.makeFunc fn (first.map ρ) (caps.map ρ)).run P w = .ok (qval ρ w (.clo fn first.toList caps.toList)) w := by
  simp only [Instr.makeFunc, qval, push_capf, push_capt, Sem.run_pure]
  congr 2 <;> simp only [List.nil_append, Array.empty_append] <;> rw [← Array.toList_map, Array.toArray_toList]

theorem run_call_builtin (b : Builtin) (args : Array Operand) (ts : Array TypeId) (ty : TypeId) (o : Oper) (ho : o.op = .call { callee := .builtin b, args := args, argTypes := ts }) (ht : o.type = ty) :
    execOp ρ o = builtin b ts ty (args.map fun | .const _ => true | _ => false) (args.map ρ) := by
  subst ht
  unfold execOp; simp only [ho]; rfl

theorem one_list {α : Type} {a : Array α} {x : α} (h : a.toList = [x]) : a = #[x] := by rw [← Array.toArray_toList (xs := a), h]
theorem two_list {α : Type} {a : Array α} {x y : α} (h : a.toList = [x, y]) : a = #[x, y] := by rw [← Array.toArray_toList (xs := a), h]

/-- A RESOLVED OPERATION, ITS CHECK HOLDING, RUNS AS ITS VALUE SAYS. -/
theorem resolve_sound {o : Oper} {q : Q Operand} (h : resolve P o.op = some q) (hc : qchk ρ w q) : (execOp ρ o).run P w = .ok (.value (qval ρ w q)) w := by
  obtain ⟨dst, op, ty, pos, after, guard⟩ := o
  simp only at h
  cases op with
  | move x => simp only [resolve, Option.some.injEq] at h; subst h; rfl
  | assign x => simp only [resolve, Option.some.injEq] at h; subst h; rfl
  | pick c a b =>
    simp only [resolve, Option.some.injEq] at h; subst h; simp only [qchk] at hc
    cases hx : ρ c <;> simp only [hx, c3] at hc
    simp only [execOp, hx, asBool, Sem.run_bind, Sem.run_pure, Result.andThen_ok, qval, v3]
  | nilCheck x => simp only [resolve, Option.some.injEq] at h; subst h; exact s_nil hc _ x rfl rfl
  | binOp op t x y u => exact run_v _ _ (s_bin h hc)
  | unOp op t x =>
    simp only [resolve] at h
    cases op <;> simp only [Option.some.injEq, reduceCtorEq] at h <;> subst h <;> exact run_v _ _ (s_unop _ t x _ rfl _ hc)
  | convert s d x => exact run_v _ _ (s_conv h hc)
  | makeInterface t x => exact run_v _ _ (s_mkif h)
  | makeFunc fn a b => simp only [resolve, Option.some.injEq] at h; subst h; exact run_v _ _ (s_fun fn a b)
  | build t parts => exact run_v _ _ (s_build h hc)
  | load t a => exact run_v _ _ (s_load h hc)
  | fieldAddr s x f => exact run_v _ _ (s_faddr h hc)
  | field s x f => exact run_v _ _ (s_field h hc)
  | indexAddr t x i => exact run_v _ _ (s_iaddr h hc)
  | index t x i => exact run_v _ _ (s_index h hc)
  | slice t x lo hi mx =>
    cases mx with
    | none => exact run_v _ _ (s_slice h hc)
    | some m => simp [resolve] at h
  | extract x i => simp only [resolve, Option.some.injEq] at h; subst h; exact run_v _ _ (s_ext hc)
  | call c =>
    obtain ⟨callee, args, ts⟩ := c
    cases callee with
    | builtin b =>
      rw [run_call_builtin b args ts ty _ rfl rfl]
      cases b <;> simp only [resolve, reduceCtorEq] at h
      case len =>
        generalize ha : args.toList = la at h; generalize ht : ts.toList = lt at h
        match la, lt with
        | [x], [t] =>
          rw [one_list ha, one_list ht]
          simp only at h
          cases hu : P.underlying t with
          | none => simp [hu] at h
          | some d =>
            cases d <;> simp [hu] at h
            case string => subst h; simp only [qchk] at hc; cases hx : ρ x <;> simp only [hx, c1] at hc; exact run_v _ _ (by simp [Builtin.len_, run_und hu, hx, qval, v1])
            case slice e => subst h; simp only [qchk] at hc; cases hx : ρ x <;> simp only [hx, c1] at hc; exact run_v _ _ (by simp [Builtin.len_, run_und hu, hx, qval, v1])
            case array n e => subst h; exact run_v _ _ (by simp [Builtin.len_, run_und hu, qval, v1])
        | [], _ => simp at h
        | _ :: _ :: _, _ => simp at h
        | [_], [] => simp at h
        | [_], _ :: _ :: _ => simp at h
      case cap =>
        generalize ha : args.toList = la at h; generalize ht : ts.toList = lt at h
        match la, lt with
        | [x], [t] =>
          rw [one_list ha, one_list ht]
          simp only at h
          cases hu : P.underlying t with
          | none => simp [hu] at h
          | some d =>
            cases d <;> simp [hu] at h
            case slice e => subst h; simp only [qchk] at hc; cases hx : ρ x <;> simp only [hx, c1] at hc; exact run_v _ _ (by simp [Builtin.cap_, run_und hu, hx, qval, v1])
        | [], _ => simp at h
        | _ :: _ :: _, _ => simp at h
        | [_], [] => simp at h
        | [_], _ :: _ :: _ => simp at h
      case min =>
        generalize ha : args.toList = la at h
        match la with
        | [x, y] =>
          rw [two_list ha]
          simp only [Option.some.injEq] at h; subst h; simp only [qchk] at hc
          cases hx : ρ x <;> cases hy : ρ y <;> simp only [hx, hy, c2] at hc
          exact run_v _ _ (by simp [Builtin.min_, Builtin.min2, hx, hy, qval, v2])
        | [] => simp at h
        | [_] => simp at h
        | _ :: _ :: _ :: _ => simp at h
      case max =>
        generalize ha : args.toList = la at h
        match la with
        | [x, y] =>
          rw [two_list ha]
          simp only [Option.some.injEq] at h; subst h; simp only [qchk] at hc
          cases hx : ρ x <;> cases hy : ρ y <;> simp only [hx, hy, c2] at hc
          exact run_v _ _ (by simp [Builtin.max_, Builtin.max2, hx, hy, qval, v2])
        | [] => simp at h
        | [_] => simp at h
        | _ :: _ :: _ :: _ => simp at h
    | value f => simp [resolve] at h
    | invoke r m => simp [resolve] at h
  | _ => simp [resolve] at h
end
end Go.HL
