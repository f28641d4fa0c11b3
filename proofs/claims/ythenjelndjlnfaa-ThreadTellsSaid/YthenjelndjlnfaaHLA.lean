/- HLA: expressions over named slots, the quiet operations resolved against the program's type table, and that a resolved operation runs as its value says. -/
import Derived.WalkKit
set_option linter.unusedSimpArgs false
set_option linter.unusedVariables false
set_option maxRecDepth 100000
namespace Go.HL

abbrev Env := Nat → Value
def upd (σ : Env) (d : Nat) (v : Value) : Env := fun t => if t = d then v else σ t

def isB (want : Bool) : Value → Bool
  | .bool b => b == want
  | _ => false

def toI : Value → Int
  | .int _ n => n
  | _ => 0

inductive F1 where
  | nilchk | lens | lensl | capsl | bnot | neg | xor | conv (k : IntKind) | same | faddr (off : Nat) | fld (off n : Nat) (agg : Bool)
  | ld | ldn (n : Nat) | ext (i : Nat) | mkif (t : TypeId) | kint (n : Nat)
  deriving DecidableEq, Repr

inductive F2 where
  | bin (op : BinOp) | sbin (op : BinOp) | beq (neg : Bool) | slnil (neg : Bool) | pnil (neg : Bool) | mpnil (neg : Bool) | idxs | idxa (len n : Nat) (agg : Bool)
  | iaddr (sz : Nat) | iaddra (len sz : Nat) | mn | mx | put (off n : Nat) | capt | capf
  deriving DecidableEq, Repr

inductive F3 where
  | pick | sls (lo hi : Bool) | slv (sz : Nat) (lo hi : Bool)
  deriving DecidableEq, Repr

/-- quiet operations that read memory -/
def F1.reads : F1 → Bool
  | .ld | .ldn _ => true
  | _ => false

def loadN (w : World) (a : Addr) (n : Nat) : Array Value := ((List.range n).map fun i => (w.cell? (a.add i)).getD undef).toArray

def v1 (w : World) : F1 → Value → Value
  | .nilchk, v => v
  | .lens, .string s => goInt s.size
  | .lensl, .slice _ n _ => goInt n
  | .capsl, .slice _ _ n => goInt n
  | .bnot, .bool b => .bool !b
  | .neg, .int k n => .int k (k.wrap (0 - n))
  | .xor, .int k n => .int k (k.wrap (BitVec.ofInt k.bits (if k.signed then -1 else k.max) ^^^ BitVec.ofInt k.bits n).toNat)
  | .conv k, .int _ n => .int k (k.wrap n)
  | .same, v => v
  | .faddr off, .pointer (some a) => .pointer (some (a.add off))
  | .fld off n agg, .agg cs => if agg then .agg (cs.extract off (off + n)) else (cs[off]?).getD undef
  | .ld, .pointer (some a) => (w.cell? a).getD undef
  | .ldn n, .pointer (some a) => .agg (loadN w a n)
  | .ext i, .tuple vs => (vs[i]?).getD undef
  | .mkif t, v => .iface t v
  | .kint n, _ => goInt n
  | _, _ => undef

def c1 (w : World) : F1 → Value → Prop
  | .nilchk, .pointer (some _) => True
  | .nilchk, .iface _ _ => True
  | .nilchk, .func (.func _) _ _ => True
  | .lens, .string _ => True
  | .lensl, .slice _ _ _ => True
  | .capsl, .slice _ _ _ => True
  | .bnot, .bool _ => True
  | .neg, .int _ _ => True
  | .xor, .int _ _ => True
  | .conv _, .int _ _ => True
  | .same, .string _ => True
  | .faddr _, .pointer (some _) => True
  | .fld off _ agg, .agg cs => agg = true ∨ off < cs.size
  | .ld, .pointer (some a) => (w.cell? a).isSome = true
  | .ldn n, .pointer (some a) => ∀ i, i < n → (w.cell? (a.add i)).isSome = true
  | .ext i, .tuple vs => i < vs.size
  | .mkif _, _ => True
  | .kint _, _ => True
  | _, _ => False

def intV (op : BinOp) (k : IntKind) (a b : Int) : Value :=
  match op with
  | .add => .int k (k.wrap (a + b))
  | .sub => .int k (k.wrap (a - b))
  | .mul => .int k (k.wrap (a * b))
  | .quo => .int k (k.wrap (a.tdiv b))
  | .rem => .int k (a.tmod b)
  | .and => .int k (k.wrap (BitVec.ofInt k.bits a &&& BitVec.ofInt k.bits b).toNat)
  | .or => .int k (k.wrap (BitVec.ofInt k.bits a ||| BitVec.ofInt k.bits b).toNat)
  | .xor => .int k (k.wrap (BitVec.ofInt k.bits a ^^^ BitVec.ofInt k.bits b).toNat)
  | .andNot => .int k (k.wrap (BitVec.ofInt k.bits a &&& ~~~BitVec.ofInt k.bits b).toNat)
  | .shl => .int k (k.wrap (a * 2 ^ (min b.toNat k.bits)))
  | .shr => .int k (a.fdiv (2 ^ (min b.toNat k.bits)))
  | .eql => .bool (a == b)
  | .neq => .bool (a != b)
  | .lss => .bool (a < b)
  | .leq => .bool (a ≤ b)
  | .gtr => .bool (a > b)
  | .geq => .bool (a ≥ b)

def intC (op : BinOp) (k k' : IntKind) (b : Int) : Prop :=
  match op with
  | .shl | .shr => 0 ≤ b
  | .quo | .rem => k = k' ∧ b ≠ 0
  | _ => k = k'

def strV (op : BinOp) (x y : ByteArray) : Value :=
  match op with
  | .add => .string (x ++ y)
  | .eql => .bool (x.toList == y.toList)
  | .neq => .bool !(x.toList == y.toList)
  | .lss => .bool (Op.bytesLess x.toList y.toList)
  | .leq => .bool (Op.bytesLess x.toList y.toList || x.toList == y.toList)
  | .gtr => .bool !(Op.bytesLess x.toList y.toList || x.toList == y.toList)
  | .geq => .bool !(Op.bytesLess x.toList y.toList)
  | _ => undef

def strC (op : BinOp) (x y : ByteArray) : Prop :=
  match op with
  | .add => ((x.size + y.size : Nat) : Int) ≤ 9223372036854775807
  | .eql | .neq | .lss | .leq | .gtr | .geq => True
  | _ => False

def putCells (off : Nat) (cs v : Array Value) : Array Value := v.zipIdx.foldl (fun cs (c, j) => cs.setIfInBounds (off + j) c) cs

def v2 : F2 → Value → Value → Value
  | .bin op, .int k a, .int _ b => intV op k a b
  | .sbin op, .string a, .string b => strV op a b
  | .beq neg, .bool a, .bool b => .bool ((a == b) != neg)
  | .slnil neg, .slice a _ _, .slice none _ _ => .bool (a.isNone != neg)
  | .slnil neg, .slice none _ _, .slice b _ _ => .bool (b.isNone != neg)
  | .pnil neg, .pointer a, .pointer none => .bool (a.isNone != neg)
  | .pnil neg, .pointer none, .pointer b => .bool (b.isNone != neg)
  | .pnil neg, .pointer (some a), .pointer (some b) => .bool ((a == b) != neg)
  | .mpnil neg, .map a, .map none => .bool (a.isNone != neg)
  | .mpnil neg, .map none, .map b => .bool (b.isNone != neg)
  | .idxs, .string s, .int _ i => .int .u8 ((s[i.toNat]?).getD 0).toNat
  | .idxa _ n agg, .agg cs, .int _ i => if agg then .agg (cs.extract (i.toNat * n) (i.toNat * n + n)) else (cs[i.toNat * n]?).getD undef
  | .iaddr sz, .slice (some a) _ _, .int _ i => .pointer (some (a.add (i.toNat * sz)))
  | .iaddra _ sz, .pointer (some a), .int _ i => .pointer (some (a.add (i.toNat * sz)))
  | .mn, .int k a, .int _ b => .int k (if b < a then b else a)
  | .mx, .int k a, .int _ b => .int k (if b > a then b else a)
  | .put off _, .agg cs, v => .agg (putCells off cs v.cells)
  | .capt, .func fn f c, v => .func fn f (c.push v)
  | .capf, .func fn f c, v => .func fn (f.push v) c
  | _, _, _ => undef

def c2 : F2 → Value → Value → Prop
  | .bin op, .int k _, .int k' b => intC op k k' b
  | .sbin op, .string a, .string b => strC op a b
  | .beq _, .bool _, .bool _ => True
  | .slnil _, .slice _ _ _, .slice none _ _ => True
  | .slnil _, .slice none _ _, .slice _ _ _ => True
  | .pnil _, .pointer _, .pointer none => True
  | .pnil _, .pointer none, .pointer _ => True
  | .pnil _, .pointer (some a), .pointer (some b) => a = b
  | .mpnil _, .map _, .map none => True
  | .mpnil _, .map none, .map _ => True
  | .idxs, .string s, .int _ i => 0 ≤ i ∧ i < s.size
  | .idxa len n agg, .agg cs, .int _ i => 0 ≤ i ∧ i < len ∧ (agg = true ∨ i.toNat * n < cs.size)
  | .iaddr _, .slice (some _) len _, .int _ i => 0 ≤ i ∧ i < len
  | .iaddra len _, .pointer (some _), .int _ i => 0 ≤ i ∧ i < len
  | .mn, .int _ _, .int _ _ => True
  | .mx, .int _ _, .int _ _ => True
  | .put off n, .agg cs, v => v.cells.size = n ∧ off + n ≤ cs.size
  | .capt, .func _ _ _, _ => True
  | .capf, .func _ _ _, _ => True
  | _, _, _ => False

def v3 : F3 → Value → Value → Value → Value
  | .pick, .bool c, a, b => if c then a else b
  | .sls lo hi, .string s, l, h => .string (s.extract (if lo then (toI l).toNat else 0) (if hi then (toI h).toNat else s.size))
  | .slv sz lo hi, .slice a len cap, l, h =>
    let l := if lo then (toI l).toNat else 0
    let h := if hi then (toI h).toNat else len
    .slice (if cap = l then a else a.map (·.add (l * sz))) (h - l) (cap - l)
  | _, _, _, _ => undef

def isI : Value → Bool
  | .int _ _ => true
  | _ => false

def c3 : F3 → Value → Value → Value → Prop
  | .pick, .bool _, _, _ => True
  | .sls lo hi, .string s, l, h =>
    (hi = true → isI h = true ∧ 0 ≤ toI h ∧ toI h ≤ s.size) ∧ (lo = true → isI l = true ∧ 0 ≤ toI l ∧ toI l ≤ (if hi then toI h else s.size))
  | .slv _ lo hi, .slice _ len cap, l, h =>
    (hi = true → isI h = true ∧ 0 ≤ toI h ∧ toI h ≤ cap) ∧ (lo = true → isI l = true ∧ 0 ≤ toI l ∧ toI l ≤ (if hi then toI h else len))
  | _, _, _, _ => False

/-- a quiet operation, resolved -/
inductive Q (α : Type) where
  | mv (x : α)
  | q1 (f : F1) (x : α)
  | q2 (f : F2) (x y : α)
  | q3 (f : F3) (x y z : α)
  | bld (z : Array Value) (parts : List (Nat × Nat × α))
  | clo (fn : Fn) (first caps : List α)

def Q.reads {α : Type} : Q α → Bool
  | .q1 f _ => f.reads
  | _ => false

def bldV (ρ : Operand → Value) (acc : Value) : List (Nat × Nat × Operand) → Value
  | [] => acc
  | (off, n, x) :: r => bldV ρ (v2 (.put off n) acc (ρ x)) r
def bldC (ρ : Operand → Value) (acc : Value) : List (Nat × Nat × Operand) → Prop
  | [] => True
  | (off, n, x) :: r => c2 (.put off n) acc (ρ x) ∧ bldC ρ (v2 (.put off n) acc (ρ x)) r
def pushAll (ρ : Operand → Value) (f : F2) (acc : Value) : List Operand → Value
  | [] => acc
  | x :: r => pushAll ρ f (v2 f acc (ρ x)) r

def qval (ρ : Operand → Value) (w : World) : Q Operand → Value
  | .mv x => ρ x
  | .q1 f x => v1 w f (ρ x)
  | .q2 f x y => v2 f (ρ x) (ρ y)
  | .q3 f x y z => v3 f (ρ x) (ρ y) (ρ z)
  | .bld z parts => bldV ρ (.agg z) parts
  | .clo fn first caps => pushAll ρ .capt (pushAll ρ .capf (.func fn #[] #[]) first) caps

def qchk (ρ : Operand → Value) (w : World) : Q Operand → Prop
  | .mv _ => True
  | .q1 f x => c1 w f (ρ x)
  | .q2 f x y => c2 f (ρ x) (ρ y)
  | .q3 f x y z => c3 f (ρ x) (ρ y) (ρ z)
  | .bld z parts => bldC ρ (.agg z) parts
  | .clo _ _ _ => True

theorem qval_pure {ρ : Operand → Value} {w w' : World} {q : Q Operand} (h : q.reads = false) : qval ρ w q = qval ρ w' q := by
  cases q with
  | q1 f x => cases f <;> first | (simp [Q.reads, F1.reads] at h; done) | (simp only [qval]; cases ρ x <;> first | rfl | (rename_i a; cases a <;> rfl))
  | _ => rfl
theorem qchk_pure {ρ : Operand → Value} {w w' : World} {q : Q Operand} (h : q.reads = false) : qchk ρ w q = qchk ρ w' q := by
  cases q with
  | q1 f x =>
    cases f <;> first | (simp [Q.reads, F1.reads] at h; done) | (simp only [qchk]; cases ρ x <;> first | rfl | (rename_i a; cases a <;> rfl) | (rename_i a b c; cases a <;> rfl))
  | _ => rfl

def optF (ρ : Option Operand) : Operand := ρ.getD (.const undef)

def szOf (P : Program) (t : TypeId) : Option Nat := (P.info? t).map (·.size)
def aggT (P : Program) (t : TypeId) : Option Bool := (P.underlying t).map fun d => match d with | .struct _ | .array _ _ => true | _ => false

def resolve (P : Program) : Op → Option (Q Operand)
  | .move x | .assign x => some (.mv x)
  | .pick c a b => some (.q3 .pick c a b)
  | .nilCheck x => some (.q1 .nilchk x)
  | .binOp op t x y _ =>
    match P.underlying t with
    | some (.int _) => some (.q2 (.bin op) x y)
    | some .string => some (.q2 (.sbin op) x y)
    | some .bool => match op with | .eql => some (.q2 (.beq false) x y) | .neq => some (.q2 (.beq true) x y) | _ => none
    | some (.slice _) => match op with | .eql => some (.q2 (.slnil false) x y) | .neq => some (.q2 (.slnil true) x y) | _ => none
    | some (.pointer e) => match op, (P.info? e).isSome with | .eql, true => some (.q2 (.pnil false) x y) | .neq, true => some (.q2 (.pnil true) x y) | _, _ => none
    | some (.map _ _) => match op with | .eql => some (.q2 (.mpnil false) x y) | .neq => some (.q2 (.mpnil true) x y) | _ => none
    | _ => none
  | .unOp op _ x => match op with | .not => some (.q1 .bnot x) | .neg => some (.q1 .neg x) | .xor => some (.q1 .xor x) | _ => none
  | .convert s d x =>
    match P.underlying s, P.underlying d with
    | some (.int _), some (.int k) => some (.q1 (.conv k) x)
    | some .string, some .string => some (.q1 .same x)
    | _, _ => none
  | .makeInterface t x => match P.underlying t with | some (.interface _) => none | some _ => some (.q1 (.mkif t) x) | none => none
  | .makeFunc fn first caps => some (.clo fn first.toList caps.toList)
  | .build t parts =>
    match (P.info? t).bind (·.zero), P.underlying t with
    | some z, some (.struct fields) =>
      match (fields.toList.mapM fun (f : Field) => (szOf P f.type).map fun n => (f.offset, n) : Option (List (Nat × Nat))) with
      | some places => (parts.toList.mapM fun (p : Nat × Operand) => (places[p.1]?).map fun (q : Nat × Nat) => (q.1, q.2, p.2) : Option (List (Nat × Nat × Operand))).map fun l => .bld z.cells l
      | none => none
    | some z, some (.array _ e) =>
      match szOf P e with
      | some n => some (.bld z.cells (parts.toList.map fun (p : Nat × Operand) => (p.1 * n, n, p.2)))
      | none => none
    | _, _ => none
  | .load t a => match aggT P t, szOf P t with | some true, some n => some (.q1 (.ldn n) a) | some false, _ => some (.q1 .ld a) | _, _ => none
  | .fieldAddr s x f =>
    match P.underlying s with
    | some (.struct fields) => match fields[f]? with
      | some f => match szOf P f.type with | some (_ + 1) => some (.q1 (.faddr f.offset) x) | _ => none
      | none => none
    | _ => none
  | .field t x f =>
    match P.underlying t with
    | some (.struct fields) => match fields[f]? with
      | some f => match aggT P f.type, szOf P f.type with | some ag, some n => some (.q1 (.fld f.offset n ag) x) | _, _ => none
      | none => none
    | _ => none
  | .indexAddr t x i =>
    match P.underlying t with
    | some (.slice e) => (szOf P e).map fun n => .q2 (.iaddr n) x i
    | some (.array len e) => (szOf P e).map fun n => .q2 (.iaddra len n) x i
    | _ => none
  | .index t x i =>
    match P.underlying t with
    | some .string => some (.q2 .idxs x i)
    | some (.array len e) => match aggT P e, szOf P e with | some ag, some n => some (.q2 (.idxa len n ag) x i) | _, _ => none
    | _ => none
  | .slice t x lo hi none =>
    match P.underlying t with
    | some .string => some (.q3 (.sls lo.isSome hi.isSome) x (optF lo) (optF hi))
    | some (.slice e) => (szOf P e).map fun n => .q3 (.slv n lo.isSome hi.isSome) x (optF lo) (optF hi)
    | _ => none
  | .extract t i => some (.q1 (.ext i) t)
  | .call { callee := .builtin .len, args, argTypes } =>
    match args.toList, argTypes.toList with
    | [x], [t] => match P.underlying t with | some .string => some (.q1 .lens x) | some (.slice _) => some (.q1 .lensl x) | some (.array n _) => some (.q1 (.kint n) x) | _ => none
    | _, _ => none
  | .call { callee := .builtin .cap, args, argTypes } =>
    match args.toList, argTypes.toList with
    | [x], [t] => match P.underlying t with | some (.slice _) => some (.q1 .capsl x) | _ => none
    | _, _ => none
  | .call { callee := .builtin .min, args, argTypes := _ } => match args.toList with | [x, y] => some (.q2 .mn x y) | _ => none
  | .call { callee := .builtin .max, args, argTypes := _ } => match args.toList with | [x, y] => some (.q2 .mx x y) | _ => none
  | _ => none
end Go.HL
namespace Go.HL
open Go
/-- a string's value from its bytes -/
def str (l : List UInt8) : Value := .string ⟨l.toArray⟩
end Go.HL

/- HLB: a resolved quiet operation, whose check holds, runs as its value says. -/
namespace Go.HL
open Go

section
variable {P : Program} {ρ : Operand → Value} {w : World}

theorem szOf_some {t : TypeId} {n : Nat} (h : szOf P t = some n) : (sizeOf t).run P w = .ok n w ∧ ∃ i, P.info? t = some i ∧ i.size = n := by
  unfold szOf at h
  cases hi : P.info? t with
  | none => simp [hi] at h
  | some i => simp [hi] at h; subst h; exact ⟨by simp [sizeOf, typeInfo, hi], i, rfl, rfl⟩

theorem run_und {t : TypeId} {d : TypeDesc} (h : P.underlying t = some d) : (underlying t).run P w = .ok d w := run_underlying h w

theorem aggT_some {t : TypeId} {b : Bool} (h : aggT P t = some b) : (isAgg t).run P w = .ok b w := by
  unfold aggT at h
  cases hd : P.underlying t with
  | none => simp [hd] at h
  | some d => 
    simp only [hd, Option.map_some, Option.some.injEq] at h
    subst h
    unfold isAgg
    simp only [Sem.run_bind, run_und hd, Result.andThen_ok]
    cases d <;> rfl

theorem int_ofC (op : BinOp) (k k' : IntKind) (a b : Int) (h : intC op k k' b) (t : TypeId) : (binOp op t (.int k a) (.int k' b)).run P w = .ok (intV op k a b) w := by
  unfold binOp
  cases op <;> simp only [intC] at h
  case shl => simp [Op.shift, intV, Int.not_lt.2 h]
  case shr => simp [Op.shift, intV, Int.not_lt.2 h]
  case quo => obtain ⟨rfl, hb⟩ := h; simp [Op.intDiv, intV, hb]
  case rem => obtain ⟨rfl, hb⟩ := h; simp [Op.intDiv, intV, hb]
  all_goals (subst h; simp [Op.intArith, Op.intBits, Op.intCmp, intV])

theorem guard_int (op : BinOp) (k k' : IntKind) (a b : Int) (t : TypeId) (x y : Operand) : (eqGuard op t x y (.int k a) (.int k' b)).run P w = .ok () w := by
  unfold eqGuard; cases op <;> simp <;> rfl

theorem guard_str (op : BinOp) (a b : ByteArray) (t : TypeId) (x y : Operand) : (eqGuard op t x y (.string a) (.string b)).run P w = .ok () w := by
  unfold eqGuard; cases op <;> simp <;> rfl

theorem str_ofC (op : BinOp) (a b : ByteArray) (h : strC op a b) (t : TypeId) : (binOp op t (.string a) (.string b)).run P w = .ok (strV op a b) w := by
  unfold binOp
  cases op <;> simp only [strC] at h <;> (try exact h.elim) <;> simp only [Op.stringOp, strV, Sem.run_pure]
  rw [if_neg (by rw [show IntKind.i64.max = 9223372036854775807 from rfl]; omega)]
  rfl

theorem guard_other (op : BinOp) (t : TypeId) (x y : Operand) (a b : Value) (h1 : a ≠ .nilIface) (h2 : ∀ c, a ≠ .agg c) : (eqGuard op t x y a b).run P w = .ok () w := by
  cases a <;> first | exact absurd rfl h1 | exact absurd rfl (h2 _) | (cases op <;> rfl)

theorem run_loadCellsFrom' (a : Addr) (n : Nat) : ∀ (i : Nat) (acc : Array Value), (∀ j, i ≤ j → j < i + n → (w.cell? (a.add j)).isSome = true) →
    (loadCellsFrom a i n acc).run P w = .ok (acc ++ ((List.range' i n).map fun j => (w.cell? (a.add j)).getD undef).toArray) w := by
  induction n with
  | zero => intro i acc _; simp [loadCellsFrom]
  | succ n ih =>
    intro i acc h
    obtain ⟨v, hv⟩ := Option.isSome_iff_exists.1 (h i (Nat.le_refl _) (by omega))
    simp only [loadCellsFrom, Sem.run_bind, run_load, hv, Result.andThen_ok]
    rw [ih (i + 1) (acc.push v) (fun j h1 h2 => h j (by omega) (by omega))]
    simp [List.range'_succ, hv]

theorem run_loadN (a : Addr) (n : Nat) (h : ∀ i, i < n → (w.cell? (a.add i)).isSome = true) : (loadCells a n).run P w = .ok (loadN w a n) w := by
  unfold loadCells
  rw [run_loadCellsFrom' a n 0 #[] (fun j _ h2 => h j (by omega))]
  simp [loadN, List.range_eq_range']


theorem run_v (s : Sem Value) (v : Value) (h : s.run P w = .ok v w) : (do pure (Next.value (← s)) : Sem Next).run P w = .ok (.value v) w := by
  simp only [Sem.run_bind, h, Result.andThen_ok]; rfl

theorem s_nil {v : Value} (h : c1 w .nilchk v) (o : Oper) (x : Operand) (ho : o.op = .nilCheck x) (hx : ρ x = v) : (execOp ρ o).run P w = .ok (.value v) w := by
  unfold execOp
  simp only [ho, hx]
  cases v <;> simp only [c1] at h
  case pointer a => cases a <;> simp only [c1] at h; rfl
  case iface t v => rfl
  case func fn a b => cases fn <;> simp only [c1] at h; rfl

theorem s_unop (op : UnOp) (t : TypeId) (x : Operand) (f : F1) (hf : (match op with | .not => some F1.bnot | .neg => some .neg | .xor => some .xor | _ => none) = some f) (v : Value) (h : c1 w f v) :
    (Op.unary op v).run P w = .ok (v1 w f v) w := by
  cases op <;> simp only [Option.some.injEq, reduceCtorEq] at hf <;> subst hf <;> cases v <;> simp only [c1] at h <;> simp [Op.unary, Op.intArith, Op.intBits, v1]

theorem s_load {t : TypeId} {q : Q Operand} {a : Operand} (h : resolve P (.load t a) = some q) (hc : qchk ρ w q) : (Instr.loadAt t (ρ a)).run P w = .ok (qval ρ w q) w := by
  simp only [resolve] at h
  cases ha : aggT P t with
  | none => simp [ha] at h
  | some b =>
    cases b with
    | false =>
      have hq : q = .q1 .ld a := by cases hs : szOf P t <;> simp [ha, hs] at h <;> exact h.symm
      subst hq
      simp only [qchk] at hc
      cases hv : ρ a <;> simp only [hv, c1] at hc
      rename_i p
      cases p <;> simp only [] at hc
      rename_i p
      obtain ⟨v, hv'⟩ := Option.isSome_iff_exists.1 hc
      simp [Instr.loadAt, Instr.sureAddr, loadVar, aggT_some ha, hv', qval, hv, v1]
    | true =>
      cases hs : szOf P t with
      | none => simp [ha, hs] at h
      | some n =>
        simp only [ha, hs, Option.some.injEq] at h; subst h
        simp only [qchk] at hc
        cases hv : ρ a <;> simp only [hv, c1] at hc
        rename_i p
        cases p <;> simp only [] at hc
        rename_i p
        simp [Instr.loadAt, Instr.sureAddr, loadVar, aggT_some ha, (szOf_some (w := w) hs).1, run_loadN p n hc, qval, hv, v1]

theorem s_faddr {s : TypeId} {f : Nat} {q : Q Operand} {x : Operand} (h : resolve P (.fieldAddr s x f) = some q) (hc : qchk ρ w q) : (Instr.fieldAt s (ρ x) f).run P w = .ok (qval ρ w q) w := by
  simp only [resolve] at h
  cases hu : P.underlying s with
  | none => simp [hu] at h
  | some d =>
    cases d <;> simp [hu] at h
    rename_i fields
    cases hf : fields[f]? with
    | none => simp [hf] at h
    | some fl =>
      simp only [hf] at h
      cases hz : szOf P fl.type with
      | none => simp [hz] at h
      | some n =>
        cases n with
        | zero => simp [hz] at h
        | succ n =>
          simp only [hz, Option.some.injEq] at h; subst h
          revert hc; simp only [qchk]; intro hc; cases hv : ρ x <;> simp only [hv, c1] at hc; rename_i p; cases p <;> simp only [c1] at hc
          simp [Instr.fieldAt, run_und hu, hf, Instr.sureAddr, fieldPlace, (szOf_some (w := w) hz).1, qval, hv, v1]

theorem s_part {t : TypeId} {b : Bool} {n off : Nat} {cs : Array Value} (ha : aggT P t = some b) (hs : szOf P t = some n) (h : b = true ∨ off < cs.size) :
    (part t cs off).run P w = .ok (if b then .agg (cs.extract off (off + n)) else (cs[off]?).getD undef) w := by
  unfold part
  cases b
  · have h' : off < cs.size := by simpa using h
    simp [aggT_some ha, h']
  · simp [aggT_some ha, (szOf_some (w := w) hs).1]

theorem s_field {s : TypeId} {f : Nat} {q : Q Operand} {x : Operand} (h : resolve P (.field s x f) = some q) (hc : qchk ρ w q) : (Instr.field s (ρ x) f).run P w = .ok (qval ρ w q) w := by
  simp only [resolve] at h
  cases hu : P.underlying s with
  | none => simp [hu] at h
  | some d =>
    cases d <;> simp [hu] at h
    rename_i fields
    cases hf : fields[f]? with
    | none => simp [hf] at h
    | some fl =>
      simp only [hf] at h
      cases ha : aggT P fl.type with
      | none => simp [ha] at h
      | some b =>
      cases hz : szOf P fl.type with
      | none => simp [ha, hz] at h
      | some n =>
          simp only [ha, hz, Option.some.injEq] at h; subst h
          revert hc; simp only [qchk]; intro hc; cases hv : ρ x <;> simp only [hv, c1] at hc
          simp [Instr.field, run_und hu, hf, asAgg, qval, hv, v1, s_part ha hz hc]

theorem toInt_of {v : Value} (h : isI v = true) : ∃ k, v = .int k (toI v) := by cases v <;> simp [isI] at h; exact ⟨_, rfl⟩

theorem s_iaddr {s : TypeId} {q : Q Operand} {x i : Operand} (h : resolve P (.indexAddr s x i) = some q) (hc : qchk ρ w q) : (Instr.indexAt s (ρ x) (ρ i)).run P w = .ok (qval ρ w q) w := by
  simp only [resolve] at h
  cases hu : P.underlying s with
  | none => simp [hu] at h
  | some d =>
    cases d <;> simp [hu] at h
    case slice e =>
      obtain ⟨n, hn, rfl⟩ := h
      simp only [qchk] at hc
      cases hv : ρ x <;> cases hi : ρ i <;> simp only [hv, hi, c2] at hc
      rename_i p len cap k ix
      cases p <;> simp only [] at hc
      simp [Instr.indexAt, asIntOf, hi, hv, run_und hu, hc, (szOf_some (w := w) hn).1, qval, v2]
    case array len e =>
      obtain ⟨n, hn, rfl⟩ := h
      simp only [qchk] at hc
      cases hv : ρ x <;> cases hi : ρ i <;> simp only [hv, hi, c2] at hc
      rename_i p k ix
      cases p <;> simp only [] at hc
      simp [Instr.indexAt, asIntOf, hi, hv, run_und hu, Instr.sureAddr, hc, (szOf_some (w := w) hn).1, qval, v2]

theorem s_index {s : TypeId} {q : Q Operand} {x i : Operand} (h : resolve P (.index s x i) = some q) (hc : qchk ρ w q) : (Instr.index s (ρ x) (ρ i)).run P w = .ok (qval ρ w q) w := by
  simp only [resolve] at h
  cases hu : P.underlying s with
  | none => simp [hu] at h
  | some d =>
    cases d <;> simp [hu] at h
    case string =>
      subst h
      revert hc; simp only [qchk]; intro hc; cases hv : ρ x <;> simp only [hv, c2] at hc
      cases hi : ρ i <;> simp only [hi, c2] at hc
      rename_i b k n
      obtain ⟨h0, h1⟩ := hc
      have hlt : n.toNat < b.size := by omega
      have e : b[n.toNat]? = some b[n.toNat] := ByteArray.getElem?_lt' b n.toNat hlt
      simp [Instr.index, asIntOf, hi, hv, run_und hu, h0, qval, v2, e]
    case array len e =>
      cases ha : aggT P e with
      | none => simp [ha] at h
      | some b =>
      cases hz : szOf P e with
      | none => simp [ha, hz] at h
      | some n =>
      simp only [ha, hz, Option.some.injEq] at h; subst h
      revert hc; simp only [qchk]; intro hc; cases hv : ρ x <;> simp only [hv, c2] at hc
      cases hi : ρ i <;> simp only [hi, c2] at hc
      simp [Instr.index, asIntOf, hi, hv, run_und hu, hc, (szOf_some (w := w) hz).1, qval, v2, s_part ha hz hc.2.2]

theorem s_bnd (v : Value) (y : Nat) (code : BoundsCode) (h : isI v = true ∧ 0 ≤ toI v ∧ toI v ≤ y) : (Instr.sliceBound v y code).run P w = .ok (toI v).toNat w := by
  cases v <;> simp only [isI, Bool.false_eq_true, false_and] at h
  simp only [toI, true_and] at h
  simp [Instr.sliceBound, asIntOf, toI, h]

theorem s_bounds (isS : Bool) (len cap : Nat) (lo hi : Option Value) (hh : hi.isSome = true → isI (hi.getD undef) = true ∧ 0 ≤ toI (hi.getD undef) ∧ toI (hi.getD undef) ≤ cap)
    (hl : lo.isSome = true → isI (lo.getD undef) = true ∧ 0 ≤ toI (lo.getD undef) ∧ toI (lo.getD undef) ≤ (if hi.isSome then toI (hi.getD undef) else len)) :
    (Instr.sliceBounds isS len cap lo hi none).run P w = .ok (if lo.isSome then (toI (lo.getD undef)).toNat else 0, if hi.isSome then (toI (hi.getD undef)).toNat else len, cap) w := by
  unfold Instr.sliceBounds
  cases hi with
  | none =>
    cases lo with
    | none => simp
    | some l => have := hl rfl; simp only [Option.getD_some, Option.isSome_none, Bool.false_eq_true, if_false] at this; simp [s_bnd l len _ this]
  | some h =>
    have h1 := hh rfl; simp only [Option.getD_some] at h1
    cases lo with
    | none => simp [s_bnd h cap _ h1]
    | some l =>
      have := hl rfl; simp only [Option.getD_some, Option.isSome_some, if_true] at this
      have h2 : isI l = true ∧ 0 ≤ toI l ∧ toI l ≤ ((toI h).toNat : Nat) := ⟨this.1, this.2.1, by omega⟩
      simp [s_bnd h cap _ h1, s_bnd l (toI h).toNat _ h2]

theorem optF_map (x : Option Operand) : (x.map ρ).getD undef = (if x.isSome then ρ (optF x) else undef) := by cases x <;> simp [optF]

theorem s_slice {s : TypeId} {q : Q Operand} {x : Operand} {lo hi : Option Operand} (h : resolve P (.slice s x lo hi none) = some q) (hc : qchk ρ w q) :
    (Instr.sliceAt s (ρ x) (lo.map ρ) (hi.map ρ) none).run P w = .ok (qval ρ w q) w := by
  simp only [resolve] at h
  cases hu : P.underlying s with
  | none => simp [hu] at h
  | some d =>
    cases d <;> simp [hu] at h
    case string =>
      subst h
      revert hc; simp only [qchk]; intro hc; cases hv : ρ x <;> simp only [hv, c3] at hc
      rename_i b
      have hb := s_bounds (P := P) (w := w) false b.size b.size (lo.map ρ) (hi.map ρ)
        (by intro h1; cases hi <;> simp at h1; have := hc.1 rfl; simpa [optF] using this)
        (by intro h1; cases lo <;> simp at h1; have := hc.2 rfl; cases hi <;> simpa [optF] using this)
      cases lo <;> cases hi <;> simp only [Option.map_none, Option.map_some] at hb <;> simp [Instr.sliceAt, run_und hu, Instr.slice, hb, qval, hv, v3, optF]
    case slice e =>
      obtain ⟨n, hn, rfl⟩ := h
      revert hc; simp only [qchk]; intro hc; cases hv : ρ x <;> simp only [hv, c3] at hc
      rename_i p len cap
      have hb := s_bounds (P := P) (w := w) true len cap (lo.map ρ) (hi.map ρ)
        (by intro h1; cases hi <;> simp at h1; have := hc.1 rfl; simpa [optF] using this)
        (by intro h1; cases lo <;> simp at h1; have := hc.2 rfl; cases hi <;> simpa [optF] using this)
      cases lo <;> cases hi <;> simp only [Option.map_none, Option.map_some] at hb <;> simp [Instr.sliceAt, run_und hu, Instr.slice, hb, (szOf_some (w := w) hn).1, qval, hv, v3, optF]

theorem eqIn_bool (D : Nat) {t : TypeId} (hu : P.underlying t = some .bool) (a b : Bool) : (Op.equalIn (D + 1) t (.bool a) (.bool b)).run P w = .ok (a == b) w := by
  simp [Op.equalIn, run_und hu]
theorem eqIn_slice (D : Nat) {t e : TypeId} (hu : P.underlying t = some (.slice e)) (a b : Option Addr) (la ca lb cb : Nat) (h : a = none ∨ b = none) :
    (Op.equalIn (D + 1) t (.slice a la ca) (.slice b lb cb)).run P w = .ok (if a.isNone then b.isNone else false) w := by
  cases a <;> cases b <;> simp at h <;> simp [Op.equalIn, run_und hu]
def ptrEq : Option Addr → Option Addr → Bool
  | none, none => true
  | some p, some q => p == q
  | _, _ => false
def ptrOK : Option Addr → Option Addr → Prop
  | some p, some q => p = q
  | _, _ => True
theorem eqIn_ptr (D : Nat) {t e : TypeId} (hu : P.underlying t = some (.pointer e)) (hi : (P.info? e).isSome = true) (a b : Option Addr) (h : ptrOK a b) :
    (Op.equalIn (D + 1) t (.pointer a) (.pointer b)).run P w = .ok (ptrEq a b) w := by
  obtain ⟨i, hi⟩ := Option.isSome_iff_exists.1 hi
  cases a <;> cases b <;> simp only [ptrOK] at h <;> simp [Op.equalIn, run_und hu, ptrEq, sameAddr, h, sizeOf, typeInfo, hi]
theorem eqIn_map (D : Nat) {t k e : TypeId} (hu : P.underlying t = some (.map k e)) (a b : Option Nat) (h : a = none ∨ b = none) :
    (Op.equalIn (D + 1) t (.map a) (.map b)).run P w = .ok (if a.isNone then b.isNone else false) w := by
  cases a <;> cases b <;> simp at h <;> simp [Op.equalIn, run_und hu]

theorem eq_bool {t : TypeId} (hu : P.underlying t = some .bool) (a b : Bool) : (Op.equal t (.bool a) (.bool b)).run P w = .ok (a == b) w := eqIn_bool 9999 hu a b
theorem eq_slice {t e : TypeId} (hu : P.underlying t = some (.slice e)) (a b : Option Addr) (la ca lb cb : Nat) (h : a = none ∨ b = none) :
    (Op.equal t (.slice a la ca) (.slice b lb cb)).run P w = .ok (if a.isNone then b.isNone else false) w := eqIn_slice 9999 hu a b la ca lb cb h
theorem eq_ptr {t e : TypeId} (hu : P.underlying t = some (.pointer e)) (hi : (P.info? e).isSome = true) (a b : Option Addr) (h : ptrOK a b) :
    (Op.equal t (.pointer a) (.pointer b)).run P w = .ok (ptrEq a b) w := eqIn_ptr 9999 hu hi a b h
theorem eq_map {t k e : TypeId} (hu : P.underlying t = some (.map k e)) (a b : Option Nat) (h : a = none ∨ b = none) :
    (Op.equal t (.map a) (.map b)).run P w = .ok (if a.isNone then b.isNone else false) w := eqIn_map 9999 hu a b h

theorem s_bin {t : TypeId} {op : BinOp} {q : Q Operand} {x y : Operand} {u : TypeId} (h : resolve P (.binOp op t x y u) = some q) (hc : qchk ρ w q) :
    (do eqGuard op t x y (ρ x) (ρ y); binOp op t (ρ x) (ρ y) : Sem Value).run P w = .ok (qval ρ w q) w := by
  simp only [resolve] at h
  cases hu : P.underlying t with
  | none => simp [hu] at h
  | some d =>
    cases d <;> simp [hu] at h
    case int k =>
      subst h; simp only [qchk] at hc
      cases hx : ρ x <;> cases hy : ρ y <;> simp only [hx, hy, c2] at hc
      simp only [Sem.run_bind, guard_int, Result.andThen_ok, int_ofC op _ _ _ _ hc, qval, hx, hy, v2]
    case string =>
      subst h; simp only [qchk] at hc
      cases hx : ρ x <;> cases hy : ρ y <;> simp only [hx, hy, c2] at hc
      simp only [Sem.run_bind, guard_str, Result.andThen_ok, str_ofC op _ _ hc, qval, hx, hy, v2]
    case bool =>
      cases op <;> simp at h <;> subst h <;> simp only [qchk] at hc <;>
      cases hx : ρ x <;> cases hy : ρ y <;> simp only [hx, hy, c2] at hc <;>
      simp [guard_other, binOp, eq_bool hu, qval, hx, hy, v2]
    case slice el =>
      have hc' : ∃ a la ca b lb cb, ρ x = .slice a la ca ∧ ρ y = .slice b lb cb ∧ (a = none ∨ b = none) := by
        cases op <;> simp at h <;> subst h <;> simp only [qchk] at hc <;>
        cases hx : ρ x <;> cases hy : ρ y <;> simp only [hx, hy, c2] at hc <;> (rename_i a _ _ b _ _) <;> cases a <;> cases b <;> simp at hc <;> simp
      obtain ⟨a, la, ca, b, lb, cb, hx, hy, hn⟩ := hc'
      cases op <;> simp at h <;> subst h <;>
      simp only [Sem.run_bind, hx, hy, guard_other _ _ _ _ (.slice a la ca) (.slice b lb cb) (by simp) (by simp), Result.andThen_ok, binOp, eq_slice hu a b la ca lb cb hn, Sem.run_pure, qval] <;>
      cases a <;> cases b <;> simp at hn <;> simp [v2]
    case pointer el =>
      cases hi : (P.info? el).isSome with
      | false => cases op <;> simp [hi] at h
      | true =>
        have hc' : ∃ a b, ρ x = .pointer a ∧ ρ y = .pointer b ∧ ptrOK a b := by
          cases op <;> simp [hi] at h <;> subst h <;> simp only [qchk] at hc <;>
          cases hx : ρ x <;> cases hy : ρ y <;> simp only [hx, hy, c2] at hc <;> (rename_i a b) <;> cases a <;> cases b <;> simp only at hc <;> simp_all [ptrOK]
        obtain ⟨a, b, hx, hy, hn⟩ := hc'
        cases op <;> simp [hi] at h <;> subst h <;>
        simp only [Sem.run_bind, hx, hy, guard_other _ _ _ _ (.pointer a) (.pointer b) (by simp) (by simp), Result.andThen_ok, binOp, eq_ptr hu hi a b hn, Sem.run_pure, qval] <;>
        cases a <;> cases b <;> simp [v2, ptrEq]
    case map k el =>
      have hc' : ∃ a b, ρ x = .map a ∧ ρ y = .map b ∧ (a = none ∨ b = none) := by
        cases op <;> simp at h <;> subst h <;> simp only [qchk] at hc <;>
        cases hx : ρ x <;> cases hy : ρ y <;> simp only [hx, hy, c2] at hc <;> (rename_i a b) <;> cases a <;> cases b <;> simp at hc <;> simp
      obtain ⟨a, b, hx, hy, hn⟩ := hc'
      cases op <;> simp at h <;> subst h <;>
      simp only [Sem.run_bind, hx, hy, guard_other _ _ _ _ (.map a) (.map b) (by simp) (by simp), Result.andThen_ok, binOp, eq_map hu a b hn, Sem.run_pure, qval] <;>
      cases a <;> cases b <;> simp at hn <;> simp [v2]

theorem s_conv {s d : TypeId} {q : Q Operand} {x : Operand} (h : resolve P (.convert s d x) = some q) (hc : qchk ρ w q) : (convert s d (ρ x)).run P w = .ok (qval ρ w q) w := by
  simp only [resolve] at h
  cases hu : P.underlying s with
  | none => simp [hu] at h
  | some a =>
    cases hd : P.underlying d with
    | none => cases a <;> simp [hu, hd] at h
    | some b =>
      cases a <;> cases b <;> simp [hu, hd] at h
      case int.int k k' =>
        subst h; simp only [qchk] at hc
        cases hx : ρ x <;> simp only [hx, c1] at hc
        simp [convert, run_und hu, run_und hd, Conv.intToInt, qval, hx, v1]
      case string.string =>
        subst h; simp only [qchk] at hc
        cases hx : ρ x <;> simp only [hx, c1] at hc
        simp [convert, run_und hu, run_und hd, qval, hx, v1]

theorem s_mkif {t : TypeId} {q : Q Operand} {x : Operand} (h : resolve P (.makeInterface t x) = some q) : (Instr.makeInterface t (ρ x)).run P w = .ok (qval ρ w q) w := by
  simp only [resolve] at h
  cases hu : P.underlying t with
  | none => simp [hu] at h
  | some a =>
    cases a <;> simp [hu] at h <;> subst h <;> simp [Instr.makeInterface, run_und hu, qval, v1]

theorem s_ext {x : Operand} {i : Nat} (hc : c1 w (.ext i) (ρ x)) : (Instr.extract (ρ x) i).run P w = .ok (v1 w (.ext i) (ρ x)) w := by
  cases hx : ρ x <;> simp only [hx, c1] at hc
  simp [Instr.extract, v1, hc]

theorem s_fill (places : Nat → Option (Nat × Nat)) : ∀ (parts : List (Nat × Operand)) (l : List (Nat × Nat × Operand)) (cs : Array Value),
    parts.mapM (fun p => (places p.1).map fun (q : Nat × Nat) => (q.1, q.2, p.2)) = some l → bldC ρ (.agg cs) l →
    ∃ cs', Instr.fill places cs (parts.map fun p => (p.1, ρ p.2)) = some cs' ∧ bldV ρ (.agg cs) l = .agg cs'
  | [], l, cs, h, _ => by simp at h; subst h; exact ⟨cs, rfl, rfl⟩
  | p :: r, l, cs, h, hc => by
    simp only [List.mapM_cons, Option.bind_eq_bind, Option.bind_eq_some_iff, Option.map_eq_some_iff, Option.pure_def, Option.some.injEq] at h
    obtain ⟨e, ⟨q, hq, rfl⟩, l', hl', rfl⟩ := h
    simp only [bldC, c2] at hc
    obtain ⟨cs', h1, h2⟩ := s_fill places r l' (putCells q.1 cs (ρ p.2).cells) hl' hc.2
    refine ⟨cs', ?_, h2⟩
    simp only [List.map_cons, Instr.fill, hq]
    rw [if_neg (by simp only [Bool.or_eq_true, decide_eq_true_eq]; rintro (h | h); exact h hc.1.1; have := hc.1; omega)]
    exact h1

theorem run_zero {t : TypeId} {z : Value} (h : (P.info? t).bind (·.zero) = some z) : (zeroValue t).run P w = .ok z w := by
  obtain ⟨i, hi, hz⟩ := Option.bind_eq_some_iff.1 h
  simp [zeroValue, typeInfo, hi, hz]

theorem mapM_sizes (fields : List Field) : ∀ (places : List (Nat × Nat)), (fields.mapM fun (f : Field) => (szOf P f.type).map fun n => (f.offset, n)) = some places →
    (fields.mapM fun f => (do pure (f.offset, ← sizeOf f.type) : Sem (Nat × Nat))).run P w = .ok places w := by
  induction fields with
  | nil => intro places h; simp at h; subst h; simp
  | cons f r ih =>
    intro places h
    simp only [List.mapM_cons, Option.bind_eq_bind, Option.bind_eq_some_iff, Option.map_eq_some_iff, Option.pure_def, Option.some.injEq] at h
    obtain ⟨e, ⟨n, hn, rfl⟩, l', hl', rfl⟩ := h
    simp only [List.mapM_cons, Sem.run_bind, (szOf_some (w := w) hn).1, Result.andThen_ok, Sem.run_pure, ih l' hl']

theorem s_build {t : TypeId} {parts : Array (Nat × Operand)} {q : Q Operand} (h : resolve P (.build t parts) = some q) (hc : qchk ρ w q) :
    (Instr.build t (parts.map fun (i, x) => (i, ρ x))).run P w = .ok (qval ρ w q) w := by
  simp only [resolve] at h
  have hl : (parts.map fun (i, x) => (i, ρ x)).toList = parts.toList.map fun p => (p.1, ρ p.2) := by simp
  cases hz : (P.info? t).bind (·.zero) with
  | none => simp [hz] at h
  | some z =>
    cases hu : P.underlying t with
    | none => simp [hz, hu] at h
    | some d =>
      cases d <;> simp only [hz, hu, reduceCtorEq] at h
      case struct fields =>
        cases hp : (fields.toList.mapM fun (f : Field) => (szOf P f.type).map fun n => (f.offset, n) : Option (List (Nat × Nat))) with
        | none => simp [hp] at h
        | some places =>
          simp only [hp, Option.map_eq_some_iff] at h
          obtain ⟨l, hl', rfl⟩ := h
          obtain ⟨cs', h1, h2⟩ := s_fill (ρ := ρ) (fun i => places[i]?) parts.toList l z.cells hl' hc
          have hm : (fields.mapM fun f => (do pure (f.offset, ← sizeOf f.type) : Sem (Nat × Nat))).run P w = .ok places.toArray w := by
            rw [← Array.toArray_toList (xs := fields), List.mapM_toArray]
            simp only [Sem.run_map, Sem.run_bind, mapM_sizes (P := P) (w := w) _ _ hp, Result.andThen_ok]
          simp only [Instr.build, Sem.run_bind, run_zero hz, Result.andThen_ok, run_und hu, hm, hl, qval, h2]
          have : (fun (x : Nat) => (places.toArray)[x]?) = fun i => places[i]? := by funext i; simp
          rw [this, h1]; rfl
      case array len e =>
        cases hn : szOf P e with
        | none => simp [hn] at h
        | some n =>
          simp only [hn, Option.some.injEq] at h; subst h
          obtain ⟨cs', h1, h2⟩ := s_fill (ρ := ρ) (fun i => some (i * n, n)) parts.toList _ z.cells (by
            show _ = some (parts.toList.map fun (p : Nat × Operand) => (p.1 * n, n, p.2))
            induction parts.toList with
            | nil => rfl
            | cons a r ih => simp only [Option.map_some] at ih ⊢; simp [List.mapM_cons, ih]) hc
          simp only [Instr.build, Sem.run_bind, run_zero hz, Result.andThen_ok, run_und hu, (szOf_some (w := w) hn).1, hl, h1, qval, h2]; rfl

theorem push_eq (f : F2) (hf : ∀ fn a c v, v2 f (.func fn a c) v = match f with | .capt => .func fn a (c.push v) | .capf => .func fn (a.push v) c | _ => undef) : True := trivial
theorem push_capt (fn : Fn) (a : Array Value) : ∀ (l : List Operand) (c : Array Value), pushAll ρ .capt (.func fn a c) l = .func fn a (c ++ (l.map ρ).toArray)
  | [], c => by simp [pushAll]
  | x :: r, c => by simp only [pushAll, v2]; rw [push_capt fn a r]; simp
theorem push_capf (fn : Fn) (c : Array Value) : ∀ (l : List Operand) (a : Array Value), pushAll ρ .capf (.func fn a c) l = .func fn (a ++ (l.map ρ).toArray) c
  | [], a => by simp [pushAll]
  | x :: r, a => by simp only [pushAll, v2]; rw [push_capf fn c r]; simp

theorem s_fun (fn : Fn) (first caps : Array Operand) : (Instr.makeFunc fn (first.map ρ) (caps.map ρ)).run P w = .ok (qval ρ w (.clo fn first.toList caps.toList)) w := by
  simp only [Instr.makeFunc, qval, push_capf, push_capt, Sem.run_pure]
  congr 2 <;> simp only [List.nil_append, Array.empty_append] <;> rw [← Array.toList_map, Array.toArray_toList]

theorem run_call_builtin (b : Builtin) (args : Array Operand) (ts : Array TypeId) (ty : TypeId) (o : Oper) (ho : o.op = .call { callee := .builtin b, args := args, argTypes := ts }) (ht : o.type = ty) :
    execOp ρ o = builtin b ts ty (args.map fun | .const _ => true | _ => false) (args.map ρ) := by
  subst ht
  unfold execOp; simp only [ho]; rfl

theorem one_list {α : Type} {a : Array α} {x : α} (h : a.toList = [x]) : a = #[x] := by rw [← Array.toArray_toList (xs := a), h]
theorem two_list {α : Type} {a : Array α} {x y : α} (h : a.toList = [x, y]) : a = #[x, y] := by rw [← Array.toArray_toList (xs := a), h]

/-- A RESOLVED OPERATION, ITS CHECK HOLDING, RUNS AS ITS VALUE SAYS. -/
theorem resolve_sound {o : Oper} {q : Q Operand} (h : resolve P o.op = some q) (hc : qchk ρ w q) : (execOp ρ o).run P w = .ok (.value (qval ρ w q)) w := by
  obtain ⟨dst, op, ty, pos, after, guard⟩ := o
  simp only at h
  cases op with
  | move x => simp only [resolve, Option.some.injEq] at h; subst h; rfl
  | assign x => simp only [resolve, Option.some.injEq] at h; subst h; rfl
  | pick c a b =>
    simp only [resolve, Option.some.injEq] at h; subst h; simp only [qchk] at hc
    cases hx : ρ c <;> simp only [hx, c3] at hc
    simp only [execOp, hx, asBool, Sem.run_bind, Sem.run_pure, Result.andThen_ok, qval, v3]
  | nilCheck x => simp only [resolve, Option.some.injEq] at h; subst h; exact s_nil hc _ x rfl rfl
  | binOp op t x y u => exact run_v _ _ (s_bin h hc)
  | unOp op t x =>
    simp only [resolve] at h
    cases op <;> simp only [Option.some.injEq, reduceCtorEq] at h <;> subst h <;> exact run_v _ _ (s_unop _ t x _ rfl _ hc)
  | convert s d x => exact run_v _ _ (s_conv h hc)
  | makeInterface t x => exact run_v _ _ (s_mkif h)
  | makeFunc fn a b => simp only [resolve, Option.some.injEq] at h; subst h; exact run_v _ _ (s_fun fn a b)
  | build t parts => exact run_v _ _ (s_build h hc)
  | load t a => exact run_v _ _ (s_load h hc)
  | fieldAddr s x f => exact run_v _ _ (s_faddr h hc)
  | field s x f => exact run_v _ _ (s_field h hc)
  | indexAddr t x i => exact run_v _ _ (s_iaddr h hc)
  | index t x i => exact run_v _ _ (s_index h hc)
  | slice t x lo hi mx =>
    cases mx with
    | none => exact run_v _ _ (s_slice h hc)
    | some m => simp [resolve] at h
  | extract x i => simp only [resolve, Option.some.injEq] at h; subst h; exact run_v _ _ (s_ext hc)
  | call c =>
    obtain ⟨callee, args, ts⟩ := c
    cases callee with
    | builtin b =>
      rw [run_call_builtin b args ts ty _ rfl rfl]
      cases b <;> simp only [resolve, reduceCtorEq] at h
      case len =>
        generalize ha : args.toList = la at h; generalize ht : ts.toList = lt at h
        match la, lt with
        | [x], [t] =>
          rw [one_list ha, one_list ht]
          simp only at h
          cases hu : P.underlying t with
          | none => simp [hu] at h
          | some d =>
            cases d <;> simp [hu] at h
            case string => subst h; simp only [qchk] at hc; cases hx : ρ x <;> simp only [hx, c1] at hc; exact run_v _ _ (by simp [Builtin.len_, run_und hu, hx, qval, v1])
            case slice e => subst h; simp only [qchk] at hc; cases hx : ρ x <;> simp only [hx, c1] at hc; exact run_v _ _ (by simp [Builtin.len_, run_und hu, hx, qval, v1])
            case array n e => subst h; exact run_v _ _ (by simp [Builtin.len_, run_und hu, qval, v1])
        | [], _ => simp at h
        | _ :: _ :: _, _ => simp at h
        | [_], [] => simp at h
        | [_], _ :: _ :: _ => simp at h
      case cap =>
        generalize ha : args.toList = la at h; generalize ht : ts.toList = lt at h
        match la, lt with
        | [x], [t] =>
          rw [one_list ha, one_list ht]
          simp only at h
          cases hu : P.underlying t with
          | none => simp [hu] at h
          | some d =>
            cases d <;> simp [hu] at h
            case slice e => subst h; simp only [qchk] at hc; cases hx : ρ x <;> simp only [hx, c1] at hc; exact run_v _ _ (by simp [Builtin.cap_, run_und hu, hx, qval, v1])
        | [], _ => simp at h
        | _ :: _ :: _, _ => simp at h
        | [_], [] => simp at h
        | [_], _ :: _ :: _ => simp at h
      case min =>
        generalize ha : args.toList = la at h
        match la with
        | [x, y] =>
          rw [two_list ha]
          simp only [Option.some.injEq] at h; subst h; simp only [qchk] at hc
          cases hx : ρ x <;> cases hy : ρ y <;> simp only [hx, hy, c2] at hc
          exact run_v _ _ (by simp [Builtin.min_, Builtin.min2, hx, hy, qval, v2])
        | [] => simp at h
        | [_] => simp at h
        | _ :: _ :: _ :: _ => simp at h
      case max =>
        generalize ha : args.toList = la at h
        match la with
        | [x, y] =>
          rw [two_list ha]
          simp only [Option.some.injEq] at h; subst h; simp only [qchk] at hc
          cases hx : ρ x <;> cases hy : ρ y <;> simp only [hx, hy, c2] at hc
          exact run_v _ _ (by simp [Builtin.max_, Builtin.max2, hx, hy, qval, v2])
        | [] => simp at h
        | [_] => simp at h
        | _ :: _ :: _ :: _ => simp at h
    | value f => simp [resolve] at h
    | invoke r m => simp [resolve] at h
  | _ => simp [resolve] at h
end
end Go.HL

/- HLC: expression trees, statements, what a statement list asks (hs), and the program that turns a region's operations into statements (decomp). -/
namespace Go.HL
open Go

inductive HE where
  | slot (t : Nat)
  | lit (v : Value)
  | n1 (f : F1) (x : HE)
  | n2 (f : F2) (x y : HE)
  | n3 (f : F3) (x y z : HE)
  | gif (c : HE) (want : Bool) (x : HE)

def HE.reads : HE → Bool
  | .slot _ | .lit _ => false
  | .n1 f x => f.reads || x.reads
  | .n2 _ x y => x.reads || y.reads
  | .n3 _ x y z => x.reads || y.reads || z.reads
  | .gif c _ x => c.reads || x.reads

def HE.has (d : Nat) : HE → Bool
  | .slot t => t == d
  | .lit _ => false
  | .n1 _ x => x.has d
  | .n2 _ x y => x.has d || y.has d
  | .n3 _ x y z => x.has d || y.has d || z.has d
  | .gif c _ x => c.has d || x.has d

def val (σ : Env) (w : World) : HE → Value
  | .slot t => σ t
  | .lit v => v
  | .n1 f x => v1 w f (val σ w x)
  | .n2 f x y => v2 f (val σ w x) (val σ w y)
  | .n3 f x y z => v3 f (val σ w x) (val σ w y) (val σ w z)
  | .gif c want x => if isB want (val σ w c) = true then val σ w x else undef

/-- the check of the topmost operation -/
def chk (σ : Env) (w : World) : HE → Prop
  | .slot _ | .lit _ => True
  | .n1 f x => c1 w f (val σ w x)
  | .n2 f x y => c2 f (val σ w x) (val σ w y)
  | .n3 f x y z => c3 f (val σ w x) (val σ w y) (val σ w z)
  | .gif c want x => isB want (val σ w c) = true → chk σ w x

/-- a reader that a schedule may put behind an effect: its guard, what it reads, the operand -/
structure Stab where
  g : Option (HE × Bool)
  f : F1
  x : HE

inductive HS where
  | need (e : HE)
  | asg (d : Nat) (e : HE)
  | eff (d : Option Nat) (o : Op) (ty : TypeId) (m : List (Nat × HE)) (g : Option (HE × Bool)) (stab : List Stab)

def findM (m : List (Nat × HE)) (t : Nat) : Option HE := (m.find? fun p => p.1 == t).map (·.2)

/-- the operands' values in front of an effect -/
def rho (m : List (Nat × HE)) (σ : Env) (w : World) : Operand → Value
  | .tmp t => match findM m t with | some e => val σ w e | none => undef
  | .const v => v
  | .global g => .pointer (some ⟨g, 0, none⟩)
  | .func f => .func (.func f) #[] #[]

def updO (σ : Env) (d : Option Nat) (v : Value) : Env := match d with | some d => upd σ d v | none => σ

def effUpon (P : Program) (next : Value → World → Prop) (QP : List PanicEntry → World → Prop) : Result Next → Prop
  | .ok (.value v) w' => next v w'
  | .ok .skip w' => next undef w'
  | .ok (.enter f args) w' => Calls P f args w' fun e w'' => match e with | .returned v => next v w'' | .panicked c => QP c w'' | .outgrown => False
  | .ok (.row row args) w' => Rows P row args w' next
  | .halt (.panic v) w' => QP [{ v, recovered := false }] w'
  | _ => False

/-- what an effect asks -/
def heff (P : Program) (o : Op) (ty : TypeId) (ρ : Operand → Value) (w : World) (next : Value → World → Prop) (QP : List PanicEntry → World → Prop) : Prop :=
  effUpon P next QP ((execOp ρ { dst := none, op := o, type := ty, pos := "", after := #[], guard := none }).run P w)

def gOn (σ : Env) (w : World) : Option (HE × Bool) → Bool
  | none => true
  | some (c, want) => isB want (val σ w c)

def stabOK (σ : Env) (w w' : World) : List Stab → Prop
  | [] => True
  | s :: l => (gOn σ w s.g = true → c1 w' s.f (val σ w s.x) ∧ v1 w' s.f (val σ w s.x) = v1 w s.f (val σ w s.x)) ∧ stabOK σ w w' l

def hs (P : Program) (QP : List PanicEntry → World → Prop) (K : Env → World → Prop) : List HS → Env → World → Prop
  | [], σ, w => K σ w
  | .need e :: l, σ, w => chk σ w e ∧ hs P QP K l σ w
  | .asg d e :: l, σ, w => hs P QP K l (upd σ d (val σ w e)) w
  | .eff d o ty m g stab :: l, σ, w =>
    match g with
    | none => heff P o ty (rho m σ w) w (fun v w' => stabOK σ w w' stab ∧ hs P QP K l (updO σ d v) w') QP
    | some (c, want) =>
      (isB want (val σ w c) = true → heff P o ty (rho m σ w) w (fun v w' => stabOK σ w w' stab ∧ hs P QP K l (updO σ d v) w') QP) ∧
      (isB want (val σ w c) = false → hs P QP K l (updO σ d undef) w)

/-! ### the decompiler -/

/-- what is known of a temporary: under its guard (a temporary and what it must hold) it holds the expression's value -/
structure Ent where
  t : Nat
  g : Option (Nat × Bool)
  e : HE

/-- a reader that has been carried out: operation j, its guard, what it reads, the operand -/
structure Rd where
  j : Nat
  g : Option (Nat × Bool)
  f : F1
  xo : Operand
  x : HE

structure DS where
  M : List Ent
  R : List Rd

def findE (M : List Ent) (t : Nat) : Option Ent := M.find? fun e => e.t == t

def full (N : Nat) (M : List Ent) : Nat → Nat → Option HE
  | 0, _ => none
  | n + 1, t =>
    match findE M t with
    | some ent =>
      match ent.g with
      | none => some ent.e
      | some (gt, want) => (full N M n gt).map fun c => .gif c want ent.e
    | none => if N.testBit t then some (.slot t) else none

def okG (gs : List (Nat × Bool)) : Option (Nat × Bool) → Bool
  | none => true
  | some g => gs.contains g

/-- an operand's expression where all guards of gs hold -/
def exO (N : Nat) (M : List Ent) (gs : List (Nat × Bool)) : Operand → Option HE
  | .const v => some (.lit v)
  | .global g => some (.lit (.pointer (some ⟨g, 0, none⟩)))
  | .func f => some (.lit (.func (.func f) #[] #[]))
  | .tmp t =>
    match findE M t with
    | some ent => if okG gs ent.g then some ent.e else full N M 40 t
    | none => if N.testBit t then some (.slot t) else none

def putE (acc : HE) : List (Nat × Nat × HE) → HE
  | [] => acc
  | (off, n, x) :: r => putE (.n2 (.put off n) acc x) r
def putNeeds (acc : HE) : List (Nat × Nat × HE) → List HE
  | [] => []
  | (off, n, x) :: r => .n2 (.put off n) acc x :: putNeeds (.n2 (.put off n) acc x) r
def pushE (f : F2) (acc : HE) : List HE → HE
  | [] => acc
  | x :: r => pushE f (.n2 f acc x) r

def exList (N : Nat) (M : List Ent) (gs : List (Nat × Bool)) : List Operand → Option (List HE)
  | [] => some []
  | x :: r => match exO N M gs x, exList N M gs r with | some e, some l => some (e :: l) | _, _ => none
def exParts (N : Nat) (M : List Ent) (gs : List (Nat × Bool)) : List (Nat × Nat × Operand) → Option (List (Nat × Nat × HE))
  | [] => some []
  | (o, n, x) :: r => match exO N M gs x, exParts N M gs r with | some e, some l => some ((o, n, e) :: l) | _, _ => none

def isPick : F3 → Bool
  | .pick => true
  | _ => false

/-- a resolved operation as an expression, and the checks that it owes -/
def toHE (N : Nat) (M : List Ent) (gs : List (Nat × Bool)) : Q Operand → Option (HE × List HE)
  | .mv x => (exO N M gs x).map fun e => (e, [])
  | .q1 f x => (exO N M gs x).map fun e => (.n1 f e, [.n1 f e])
  | .q2 f x y => match exO N M gs x, exO N M gs y with | some a, some b => some (.n2 f a b, [.n2 f a b]) | _, _ => none
  | .q3 f x y z =>
    match f, x with
    | .pick, .tmp c =>
      match exO N M gs x, exO N M ((c, true) :: gs) y, exO N M ((c, false) :: gs) z with
      | some a, some b, some d => some (.n3 f a b d, [.n3 f a b d])
      | _, _, _ => none
    | _, _ =>
      match exO N M gs x, exO N M gs y, exO N M gs z with
      | some a, some b, some c => some (.n3 f a b c, [.n3 f a b c])
      | _, _, _ => none
  | .bld z parts => (exParts N M gs parts).map fun l => (putE (.lit (.agg z)) l, putNeeds (.lit (.agg z)) l)
  | .clo fn first caps =>
    match exList N M gs first, exList N M gs caps with
    | some a, some b => some (pushE .capt (pushE .capf (.lit (.func fn #[] #[])) a) b, [])
    | _, _ => none

def hasG (d : Nat) : Option (Nat × Bool) → Bool
  | none => false
  | some (t, _) => t == d

def isTmp (d : Nat) : Operand → Bool
  | .tmp t => t == d
  | _ => false

/-- slot d is written: what is no longer known -/
def DS.wrote (st : DS) (d : Option Nat) : DS :=
  match d with
  | none => st
  | some d => { M := st.M.filter fun e => !(e.t == d || hasG d e.g || e.e.has d), R := st.R.filter fun r => !(hasG d r.g || isTmp d r.xo || r.x.has d) }

/-- the world has turned -/
def DS.turned (st : DS) (F : List Nat) : DS :=
  { M := st.M.filter fun e => !e.e.reads, R := st.R.filter fun r => !r.x.reads && F.contains r.j }

def guardOf (ops : Array Oper) (o : Oper) : Option (Option (Nat × Bool)) :=
  match o.guard with
  | none => some none
  | some (j, want) => ((ops[j]?).bind (·.dst)).map fun t => some (t, want)

def gList : Option (Nat × Bool) → List (Nat × Bool)
  | none => []
  | some g => [g]

/-- the guard as an expression -/
def gExp (N : Nat) (M : List Ent) : Option (Nat × Bool) → Option (Option (HE × Bool))
  | none => some none
  | some (t, want) => (full N M 40 t).map fun c => some (c, want)

def under (g : Option (HE × Bool)) (e : HE) : HE :=
  match g with
  | none => e
  | some (c, want) => .gif c want e

def opTmps (o : Op) : List Nat := o.operands.toList.filterMap fun | .tmp t => some t | _ => none

def exTmps (N : Nat) (M : List Ent) (gs : List (Nat × Bool)) : List Nat → Option (List (Nat × HE))
  | [] => some []
  | t :: r => match exO N M gs (.tmp t), exTmps N M gs r with | some e, some l => some ((t, e) :: l) | _, _ => none

def stabsOf (N : Nat) (st : DS) : List Nat → Option (List Stab)
  | [] => some []
  | j :: r =>
    match st.R.find? fun x => x.j == j with
    | some rd => match gExp N st.M rd.g, stabsOf N st r with | some g, some l => some (⟨g, rd.f, rd.x⟩ :: l) | _, _ => none
    | none => none

def notSelect : Op → Bool
  | .select _ _ => false
  | .defer _ => false
  | _ => true

def readers (N : Nat) (st : DS) (i : Nat) (g : Option (Nat × Bool)) (f : F1) (x : Operand) : List Rd :=
  if (f.reads && !(st.R.any fun r => r.j == i)) = true then
    match exO N st.M (gList g) x with
    | some ex => [⟨i, g, f, x, ex⟩]
    | none => []
  else []

def readersQ (N : Nat) (st : DS) (i : Nat) (g : Option (Nat × Bool)) : Q Operand → List Rd
  | .q1 f x => readers N st i g f x
  | _ => []

def dstBad (n : Nat) : Option Nat → Bool
  | some d => decide (n ≤ d)
  | none => false
def dstNot (N : Nat) : Option Nat → Bool
  | some d => !N.testBit d
  | none => false

/-- one operation -/
def dstep (P : Program) (ops : Array Oper) (N n : Nat) (st : DS) (i : Nat) (F : List Nat) : Option (List HS × DS) :=
  match ops[i]? with
  | none => none
  | some o =>
    if dstBad n o.dst = true then none else
    match guardOf ops o with
    | none => none
    | some g =>
      match gExp N st.M g with
      | none => none
      | some ge =>
        match resolve P o.op with
        | some q =>
          match toHE N st.M (gList g) q with
          | none => none
          | some (e, needs) =>
            if F.isEmpty = false then none else
              let ns := needs.map fun n => HS.need (under ge n)
              let R' := readersQ N st i g q
              let st1 : DS := { st with R := R' ++ st.R }
              match o.dst with
              | none => some (ns, st1)
              | some d =>
                let st2 := st1.wrote (some d)
                if N.testBit d = true then some (ns ++ [.asg d (under ge e)], st2)
                else if (hasG d g || e.has d) = true then none else some (ns, { st2 with M := ⟨d, g, e⟩ :: st2.M })
        | none =>
          if notSelect o.op = false then none else
          if dstNot N o.dst = true then none else
          match exTmps N st.M (gList g) (opTmps o.op), stabsOf N st F with
          | some m, some stab => some ([.eff o.dst o.op o.type m ge stab], (st.turned F).wrote o.dst)
          | _, _ => none

def dlist (P : Program) (ops : Array Oper) (N n : Nat) : DS → List (Nat × List Nat) → Option (List HS)
  | _, [] => some []
  | st, (i, F) :: r =>
    match dstep P ops N n st i F with
    | none => none
    | some (l, st') => (dlist P ops N n st' r).map fun l' => l ++ l'
end Go.HL

/- HLD: what the statements of a region ask, its operations give, in the order in which they were turned. -/
namespace Go.HL
open Go

/-- reader j reads the same in the world w' as in w -/
def Keeps (P : Program) (ops : Array Oper) (j : Nat) (a : Act) (w w' : World) : Prop :=
  ∀ oj q, ops[j]? = some oj → resolve P oj.op = some q → Region.wanted oj (yielded ops a.tmps) = true → qchk a.eval w q → qchk a.eval w' q ∧ qval a.eval w' q = qval a.eval w q

def stepC (P : Program) (ops : Array Oper) (Q : Exit → Act → World → Prop) (i : Nat) (F : List Nat) (K : Act → World → Prop) (a : Act) (w : World) : Prop :=
  match ops[i]? with
  | none => False
  | some o =>
    if Region.wanted o (yielded ops a.tmps) = true then
      match resolve P o.op with
      | some q => qchk a.eval w q ∧ K (a.put o.dst (qval a.eval w q)) w
      | none => o.wp P a w (fun a' w' => (∀ j ∈ F, Keeps P ops j a w w') ∧ K a' w') Q
    else K (a.put o.dst undef) w

def wpC (P : Program) (ops : Array Oper) (Q : Exit → Act → World → Prop) (K : Act → World → Prop) : List (Nat × List Nat) → Act → World → Prop
  | [], a, w => K a w
  | (i, F) :: r, a, w => stepC P ops Q i F (wpC P ops Q K r) a w

def gOnA (a : Act) : Option (Nat × Bool) → Bool
  | none => true
  | some (t, want) => isB want (a.eval (.tmp t))

def EntOK (a : Act) (σ : Env) (w : World) (e : Ent) : Prop :=
  if gOnA a e.g = true then a.eval (.tmp e.t) = val σ w e.e else a.eval (.tmp e.t) = undef

def RdOK (P : Program) (ops : Array Oper) (a : Act) (σ : Env) (w : World) (r : Rd) : Prop :=
  ∃ oj, ops[r.j]? = some oj ∧ resolve P oj.op = some (.q1 r.f r.xo) ∧ guardOf ops oj = some r.g ∧
    (gOnA a r.g = true → a.eval r.xo = val σ w r.x ∧ c1 w r.f (val σ w r.x))

structure Rel (P : Program) (ops : Array Oper) (N n : Nat) (D : List Deferred) (st : DS) (a : Act) (σ : Env) (w : World) : Prop where
  size : a.tmps.size = n
  defers : a.defers = D
  slot : ∀ t, N.testBit t = true → a.eval (.tmp t) = σ t
  ent : ∀ e ∈ st.M, EntOK a σ w e
  rd : ∀ r ∈ st.R, RdOK P ops a σ w r

section
variable {P : Program} {ops : Array Oper} {N n : Nat} {D : List Deferred} {st : DS} {a : Act} {σ : Env} {w : World}

theorem wanted_eq {o : Oper} {g : Option (Nat × Bool)} (h : guardOf ops o = some g) : Region.wanted o (yielded ops a.tmps) = gOnA a g := by
  unfold guardOf at h
  cases hg : o.guard with
  | none => simp only [hg, Option.some.injEq] at h; subst h; simp [Region.wanted, hg, gOnA]
  | some p =>
    obtain ⟨j, want⟩ := p
    simp only [hg, Option.map_eq_some_iff] at h
    obtain ⟨t, ht, rfl⟩ := h
    simp only [Region.wanted, hg, gOnA, yielded, ht, Option.bind_some, Act.eval]
    cases hv : a.tmps[t]? with
    | none => simp [hv, isB, undef]
    | some v => simp only [Array.getD_eq_getD_getElem?, hv, Option.getD_some]; cases v <;> simp [isB]

theorem findE_spec {M : List Ent} {t : Nat} {e : Ent} (h : findE M t = some e) : e ∈ M ∧ e.t = t := by
  unfold findE at h
  exact ⟨List.mem_of_find?_eq_some h, by have := List.find?_some h; simpa using this⟩

theorem full_sound (R : Rel P ops N n D st a σ w) : ∀ (k t : Nat) (e : HE), full N st.M k t = some e → a.eval (.tmp t) = val σ w e := by
  intro k
  induction k with
  | zero => intro t e h; simp [full] at h
  | succ k ih =>
    intro t e h
    simp only [full] at h
    cases hf : findE st.M t with
    | none =>
      simp only [hf] at h
      split at h
      · rename_i hb; simp only [Option.some.injEq] at h; subst h; exact R.slot t hb
      · cases h
    | some ent =>
      simp only [hf] at h
      obtain ⟨hm, ht⟩ := findE_spec hf
      have he := R.ent ent hm
      unfold EntOK at he
      cases hg : ent.g with
      | none => simp only [hg, Option.some.injEq] at h; subst h; rw [← ht]; simpa [hg, gOnA] using he
      | some g =>
        obtain ⟨gt, want⟩ := g
        simp only [hg, Option.map_eq_some_iff] at h
        obtain ⟨c, hc, rfl⟩ := h
        have := ih gt c hc
        simp only [hg, gOnA, this] at he
        simp only [val, ← ht]
        split at he <;> simp_all

theorem okG_spec {gs : List (Nat × Bool)} {g : Option (Nat × Bool)} (h : okG gs g = true) (hgs : ∀ x ∈ gs, gOnA a (some x) = true) : gOnA a g = true := by
  cases g with
  | none => rfl
  | some x => exact hgs x (by simpa [okG] using h)

theorem exO_sound (R : Rel P ops N n D st a σ w) {gs : List (Nat × Bool)} (hgs : ∀ x ∈ gs, gOnA a (some x) = true) {x : Operand} {e : HE} (h : exO N st.M gs x = some e) : a.eval x = val σ w e := by
  cases x with
  | const v => simp only [exO, Option.some.injEq] at h; subst h; rfl
  | global g => simp only [exO, Option.some.injEq] at h; subst h; rfl
  | func f => simp only [exO, Option.some.injEq] at h; subst h; rfl
  | tmp t =>
    simp only [exO] at h
    cases hf : findE st.M t with
    | none =>
      simp only [hf] at h
      split at h
      · rename_i hb; simp only [Option.some.injEq] at h; subst h; exact R.slot t hb
      · cases h
    | some ent =>
      simp only [hf] at h
      obtain ⟨hm, ht⟩ := findE_spec hf
      split at h
      · rename_i hok
        simp only [Option.some.injEq] at h; subst h
        have he := R.ent ent hm
        unfold EntOK at he
        rw [okG_spec hok hgs] at he
        rw [← ht]; simpa using he
      · exact full_sound R _ _ _ h

theorem exParts_sound (R : Rel P ops N n D st a σ w) {gs : List (Nat × Bool)} (hgs : ∀ x ∈ gs, gOnA a (some x) = true) : ∀ (parts : List (Nat × Nat × Operand)) (l : List (Nat × Nat × HE)) (acc : HE),
    exParts N st.M gs parts = some l → (∀ x ∈ putNeeds acc l, chk σ w x) → bldC a.eval (val σ w acc) parts ∧ bldV a.eval (val σ w acc) parts = val σ w (putE acc l)
  | [], l, acc, h, _ => by simp only [exParts, Option.some.injEq] at h; subst h; exact ⟨trivial, rfl⟩
  | (o, m, x) :: r, l, acc, h, hc => by
    simp only [exParts] at h
    cases hx : exO N st.M gs x with
    | none => simp [hx] at h
    | some e =>
      cases hr : exParts N st.M gs r with
      | none => simp [hx, hr] at h
      | some l' =>
        simp only [hx, hr, Option.some.injEq] at h; subst h
        simp only [putNeeds, List.mem_cons, forall_eq_or_imp] at hc
        have he := exO_sound R hgs hx
        have ih := exParts_sound R hgs r l' (.n2 (.put o m) acc e) hr hc.2
        simp only [bldC, bldV, putE, he]
        exact ⟨⟨hc.1, ih.1⟩, ih.2⟩

theorem exList_sound (R : Rel P ops N n D st a σ w) {gs : List (Nat × Bool)} (hgs : ∀ x ∈ gs, gOnA a (some x) = true) (f : F2) : ∀ (xs : List Operand) (l : List HE) (acc : HE),
    exList N st.M gs xs = some l → pushAll a.eval f (val σ w acc) xs = val σ w (pushE f acc l)
  | [], l, acc, h => by simp only [exList, Option.some.injEq] at h; subst h; rfl
  | x :: r, l, acc, h => by
    simp only [exList] at h
    cases hx : exO N st.M gs x with
    | none => simp [hx] at h
    | some e =>
      cases hr : exList N st.M gs r with
      | none => simp [hx, hr] at h
      | some l' =>
        simp only [hx, hr, Option.some.injEq] at h; subst h
        have he := exO_sound R hgs hx
        have ih := exList_sound R hgs f r l' (.n2 f acc e) hr
        simp only [pushAll, pushE, he]
        exact ih

theorem toHE_sound (R : Rel P ops N n D st a σ w) {gs : List (Nat × Bool)} (hgs : ∀ x ∈ gs, gOnA a (some x) = true) {q : Q Operand} {e : HE} {needs : List HE} (h : toHE N st.M gs q = some (e, needs))
    (hn : ∀ x ∈ needs, chk σ w x) : qchk a.eval w q ∧ qval a.eval w q = val σ w e := by
  cases q with
  | mv x =>
    simp only [toHE, Option.map_eq_some_iff, Prod.mk.injEq] at h
    obtain ⟨e', hx, rfl, rfl⟩ := h
    exact ⟨trivial, exO_sound R hgs hx⟩
  | q1 f x =>
    simp only [toHE, Option.map_eq_some_iff, Prod.mk.injEq] at h
    obtain ⟨e', hx, rfl, rfl⟩ := h
    have h1 := exO_sound R hgs hx
    have h2 := hn _ (List.mem_singleton.2 rfl)
    simp only [qchk, qval, h1, val]
    exact ⟨h2, trivial⟩
  | q2 f x y =>
    simp only [toHE] at h
    cases hx : exO N st.M gs x <;> cases hy : exO N st.M gs y <;> simp only [hx, hy, Option.some.injEq, Prod.mk.injEq, reduceCtorEq] at h
    obtain ⟨rfl, rfl⟩ := h
    have h2 := hn _ (List.mem_singleton.2 rfl)
    simp only [qchk, qval, exO_sound R hgs hx, exO_sound R hgs hy, val]
    exact ⟨h2, trivial⟩
  | q3 f x y z =>
    have plain : ∀ {a1 b1 d1 : HE}, exO N st.M gs x = some a1 → exO N st.M gs y = some b1 → exO N st.M gs z = some d1 → chk σ w (.n3 f a1 b1 d1) →
        qchk a.eval w (.q3 f x y z) ∧ qval a.eval w (.q3 f x y z) = val σ w (.n3 f a1 b1 d1) := by
      intro a1 b1 d1 hx hy hz hc
      simp only [qchk, qval, exO_sound R hgs hx, exO_sound R hgs hy, exO_sound R hgs hz, val]
      exact ⟨hc, trivial⟩
    simp only [toHE] at h
    split at h
    · rename_i c
      cases hx : exO N st.M gs (.tmp c) with
      | none => simp [hx] at h
      | some a1 =>
        cases hy : exO N st.M ((c, true) :: gs) y with
        | none => simp [hx, hy] at h
        | some b1 =>
          cases hz : exO N st.M ((c, false) :: gs) z with
          | none => simp [hx, hy, hz] at h
          | some d1 =>
            simp only [hx, hy, hz, Option.some.injEq, Prod.mk.injEq] at h
            obtain ⟨rfl, rfl⟩ := h
            have h2 := hn _ (List.mem_singleton.2 rfl)
            have h3 := exO_sound R hgs hx
            simp only [chk] at h2
            simp only [qchk, qval, h3, val]
            cases hv : val σ w a1 <;> simp only [hv, c3] at h2
            rename_i b
            refine ⟨trivial, ?_⟩
            simp only [v3]
            cases b
            · have := exO_sound R (gs := (c, false) :: gs) (by intro g hg; rcases List.mem_cons.1 hg with rfl | hg; (simp [gOnA, h3, hv, isB]); (exact hgs g hg)) hz
              simp [this]
            · have := exO_sound R (gs := (c, true) :: gs) (by intro g hg; rcases List.mem_cons.1 hg with rfl | hg; (simp [gOnA, h3, hv, isB]); (exact hgs g hg)) hy
              simp [this]
    · cases hx : exO N st.M gs x <;> cases hy : exO N st.M gs y <;> cases hz : exO N st.M gs z <;> simp only [hx, hy, hz, Option.some.injEq, Prod.mk.injEq, reduceCtorEq] at h
      obtain ⟨rfl, rfl⟩ := h
      exact plain hx hy hz (hn _ (List.mem_singleton.2 rfl))
  | bld z parts =>
    simp only [toHE, Option.map_eq_some_iff, Prod.mk.injEq] at h
    obtain ⟨l, hl, rfl, rfl⟩ := h
    exact exParts_sound R hgs parts l (.lit (.agg z)) hl hn
  | clo fn first caps =>
    simp only [toHE] at h
    cases hx : exList N st.M gs first with
    | none => simp [hx] at h
    | some l1 =>
      cases hy : exList N st.M gs caps with
      | none => simp [hx, hy] at h
      | some l2 =>
        simp only [hx, hy, Option.some.injEq, Prod.mk.injEq] at h
        obtain ⟨rfl, rfl⟩ := h
        refine ⟨trivial, ?_⟩
        have h1 := exList_sound R hgs .capf first l1 (.lit (.func fn #[] #[])) hx
        have h2 := exList_sound R hgs .capt caps l2 (pushE .capf (.lit (.func fn #[] #[])) l1) hy
        simp only [val] at h1
        simp only [qval]
        rw [h1]; exact h2

theorem gExp_sound (R : Rel P ops N n D st a σ w) {g : Option (Nat × Bool)} {ge : Option (HE × Bool)} (h : gExp N st.M g = some ge) : gOn σ w ge = gOnA a g := by
  cases g with
  | none => simp only [gExp, Option.some.injEq] at h; subst h; rfl
  | some p =>
    obtain ⟨t, want⟩ := p
    simp only [gExp, Option.map_eq_some_iff] at h
    obtain ⟨c, hc, rfl⟩ := h
    simp only [gOn, gOnA, full_sound R _ _ _ hc]

theorem gList_ok {g : Option (Nat × Bool)} (h : gOnA a g = true) : ∀ x ∈ gList g, gOnA a (some x) = true := by
  cases g with
  | none => intro x hx; simp [gList] at hx
  | some p => intro x hx; simp [gList] at hx; subst hx; exact h

theorem chk_under {g : Option (HE × Bool)} {e : HE} (h : chk σ w (under g e)) (hg : gOn σ w g = true) : chk σ w e := by
  cases g with
  | none => exact h
  | some p => exact h hg

theorem val_under (g : Option (HE × Bool)) (e : HE) : val σ w (under g e) = if gOn σ w g = true then val σ w e else undef := by
  cases g with
  | none => simp [under, gOn]
  | some p => rfl

theorem hs_needs {QP : List PanicEntry → World → Prop} {K : Env → World → Prop} : ∀ (ns : List HE) (ge : Option (HE × Bool)) (l : List HS), hs P QP K (ns.map (fun x => HS.need (under ge x)) ++ l) σ w →
    (∀ x ∈ ns, chk σ w (under ge x)) ∧ hs P QP K l σ w
  | [], _, _, h => ⟨by simp, h⟩
  | x :: r, ge, l, h => by
    simp only [List.map_cons, List.cons_append, hs] at h
    obtain ⟨h1, h2⟩ := hs_needs r ge l h.2
    exact ⟨by intro y hy; rcases List.mem_cons.1 hy with rfl | hy; exact h.1; exact h1 y hy, h2⟩

theorem val_upd {d : Nat} {v : Value} : ∀ {e : HE}, e.has d = false → val (upd σ d v) w e = val σ w e
  | .slot t, h => by simp [HE.has] at h; simp [val, upd, h]
  | .lit _, _ => rfl
  | .n1 f x, h => by simp only [HE.has] at h; simp only [val, val_upd h]
  | .n2 f x y, h => by simp only [HE.has, Bool.or_eq_false_iff] at h; simp only [val, val_upd h.1, val_upd h.2]
  | .n3 f x y z, h => by simp only [HE.has, Bool.or_eq_false_iff] at h; simp only [val, val_upd h.1.1, val_upd h.1.2, val_upd h.2]
  | .gif c want x, h => by simp only [HE.has, Bool.or_eq_false_iff] at h; simp only [val, val_upd h.1, val_upd h.2]

theorem v1_pure {w' : World} {f : F1} (h : f.reads = false) (v : Value) : v1 w f v = v1 w' f v := by
  cases f <;> first | (simp [F1.reads] at h; done) | (cases v <;> first | rfl | (rename_i a; cases a <;> rfl))

theorem val_pure {w' : World} : ∀ {e : HE}, e.reads = false → val σ w e = val σ w' e
  | .slot t, _ => rfl
  | .lit _, _ => rfl
  | .n1 f x, h => by simp only [HE.reads, Bool.or_eq_false_iff] at h; simp only [val, val_pure (w' := w') h.2, v1_pure (w' := w') h.1]
  | .n2 f x y, h => by simp only [HE.reads, Bool.or_eq_false_iff] at h; simp only [val, val_pure (w' := w') h.1, val_pure (w' := w') h.2]
  | .n3 f x y z, h => by simp only [HE.reads, Bool.or_eq_false_iff] at h; simp only [val, val_pure (w' := w') h.1.1, val_pure (w' := w') h.1.2, val_pure (w' := w') h.2]
  | .gif c want x, h => by simp only [HE.reads, Bool.or_eq_false_iff] at h; simp only [val, val_pure (w' := w') h.1, val_pure (w' := w') h.2]

theorem put_eval_ne {d t : Nat} (v : Value) (h : t ≠ d) : (a.put (some d) v).eval (.tmp t) = a.eval (.tmp t) :=
  Act.eval_put (fun e he => by simp only [Option.some.injEq] at he; subst he; simpa using h)
theorem put_eval_eq {d : Nat} (v : Value) (h : d < a.tmps.size) : (a.put (some d) v).eval (.tmp d) = v := by
  simp [Act.put, Act.eval, h]

theorem gOnA_put {d : Nat} {v : Value} {g : Option (Nat × Bool)} (h : hasG d g = false) : gOnA (a.put (some d) v) g = gOnA a g := by
  cases g with
  | none => rfl
  | some p => obtain ⟨t, want⟩ := p; simp only [hasG, beq_eq_false_iff_ne] at h; simp only [gOnA, put_eval_ne v h]

/-- slot d is written, on both sides alike where it is a named one -/
theorem Rel.wrote (R : Rel P ops N n D st a σ w) {d : Nat} (hd : d < n) (v : Value) (σ' : Env) (hσ : σ' = if N.testBit d = true then upd σ d v else σ) :
    Rel P ops N n D (st.wrote (some d)) (a.put (some d) v) σ' w := by
  have hval : ∀ {e : HE}, e.has d = false → val σ' w e = val σ w e := by
    intro e he; rw [hσ]; split; exact val_upd he; rfl
  refine ⟨by simp [Act.put, R.size], by simp [Act.put, R.defers], ?_, ?_, ?_⟩
  · intro t ht
    by_cases h : t = d
    · subst h; rw [put_eval_eq v (by rw [R.size]; exact hd), hσ, if_pos ht]; simp [upd]
    · rw [put_eval_ne v h, R.slot t ht, hσ]; split; simp [upd, h]; rfl
  · intro e he
    simp only [DS.wrote, List.mem_filter, Bool.not_eq_true', Bool.or_eq_false_iff, beq_eq_false_iff_ne] at he
    obtain ⟨hm, ⟨h1, h2⟩, h3⟩ := he
    have := R.ent e hm
    unfold EntOK at *
    rw [gOnA_put h2, put_eval_ne v h1, hval h3]; exact this
  · intro r hr
    simp only [DS.wrote, List.mem_filter, Bool.not_eq_true', Bool.or_eq_false_iff] at hr
    obtain ⟨hm, ⟨h1, h2⟩, h3⟩ := hr
    obtain ⟨oj, e1, e2, e3, e4⟩ := R.rd r hm
    refine ⟨oj, e1, e2, e3, fun hg => ?_⟩
    rw [gOnA_put h1] at hg
    rw [hval h3]
    have hx : (a.put (some d) v).eval r.xo = a.eval r.xo := Act.eval_put (fun e he => by
      simp only [Option.some.injEq] at he; subst he; intro hc; rw [hc] at h2; simp [isTmp] at h2)
    rw [hx]; exact e4 hg
end
end Go.HL

/- HLE: one step, and the whole list. -/
namespace Go.HL
open Go

section
variable {P : Program} {ops : Array Oper} {N n : Nat} {D : List Deferred} {st : DS} {a : Act} {σ : Env} {w : World}
  {Q : Exit → Act → World → Prop} {QP : List PanicEntry → World → Prop} {K : Env → World → Prop}

theorem execOp_same (ρ : Operand → Value) (o : Oper) : execOp ρ o = execOp ρ { dst := none, op := o.op, type := o.type, pos := "", after := #[], guard := none } := rfl

theorem exTmps_sound (R : Rel P ops N n D st a σ w) {gs : List (Nat × Bool)} (hgs : ∀ x ∈ gs, gOnA a (some x) = true) : ∀ (ts : List Nat) (m : List (Nat × HE)), exTmps N st.M gs ts = some m →
    ∀ t ∈ ts, ∃ e, findM m t = some e ∧ val σ w e = a.eval (.tmp t)
  | [], _, _, t, ht => by simp at ht
  | s :: r, m, h, t, ht => by
    simp only [exTmps] at h
    cases hx : exO N st.M gs (.tmp s) with
    | none => simp [hx] at h
    | some e =>
      cases hr : exTmps N st.M gs r with
      | none => simp [hx, hr] at h
      | some l' =>
        simp only [hx, hr, Option.some.injEq] at h; subst h
        by_cases hts : s = t
        · subst hts; exact ⟨e, by simp [findM], (exO_sound R hgs hx).symm⟩
        · rcases List.mem_cons.1 ht with rfl | ht
          · exact absurd rfl hts
          · obtain ⟨e', h1, h2⟩ := exTmps_sound R hgs r l' hr t ht
            refine ⟨e', ?_, h2⟩
            have hb : (s == t) = false := beq_eq_false_iff_ne.2 hts
            simpa [findM, List.find?_cons, hb] using h1

theorem rho_eq (R : Rel P ops N n D st a σ w) {gs : List (Nat × Bool)} (hgs : ∀ x ∈ gs, gOnA a (some x) = true) {o : Op} {m : List (Nat × HE)} (h : exTmps N st.M gs (opTmps o) = some m) :
    ∀ x ∈ o.operands, a.eval x = rho m σ w x := by
  intro x hx
  cases x with
  | tmp t =>
    obtain ⟨e, h1, h2⟩ := exTmps_sound R hgs _ m h t (by
      simp only [opTmps, List.mem_filterMap]; exact ⟨.tmp t, by simpa using hx, rfl⟩)
    simp only [rho, h1, h2]
  | _ => rfl

theorem stabs_sound (R : Rel P ops N n D st a σ w) {w' : World} : ∀ (F : List Nat) (l : List Stab), stabsOf N st F = some l → stabOK σ w w' l →
    (∀ j ∈ F, Keeps P ops j a w w') ∧ ∀ r ∈ st.R, F.contains r.j = true → (∃ r', st.R.find? (fun x => x.j == r.j) = some r' ∧ (gOnA a r'.g = true → c1 w' r'.f (val σ w r'.x)))
  | [], _, _, _ => ⟨by simp, by intro r _ h; simp at h⟩
  | j :: F, l, h, hs => by
    simp only [stabsOf] at h
    cases hf : st.R.find? (fun x => x.j == j) with
    | none => simp [hf] at h
    | some rd =>
      simp only [hf] at h
      cases hg : gExp N st.M rd.g with
      | none => simp [hg] at h
      | some ge =>
        cases hr : stabsOf N st F with
        | none => simp [hg, hr] at h
        | some l' =>
          simp only [hg, hr, Option.some.injEq] at h; subst h
          simp only [stabOK] at hs
          obtain ⟨h1, h2⟩ := stabs_sound R F l' hr hs.2
          have hj : rd.j = j := by have := List.find?_some hf; simpa using this
          obtain ⟨oj, e1, e2, e3, e4⟩ := R.rd rd (List.mem_of_find?_eq_some hf)
          rw [hj] at e1
          have hgo := gExp_sound R hg
          refine ⟨?_, ?_⟩
          · intro k hk
            rcases List.mem_cons.1 hk with rfl | hk
            · intro oj' q' ho' hq' hw _
              rw [e1] at ho'; obtain rfl := Option.some.inj ho'
              rw [e2] at hq'; obtain rfl := Option.some.inj hq'
              rw [wanted_eq e3] at hw
              obtain ⟨x1, x2⟩ := e4 hw
              obtain ⟨y1, y2⟩ := hs.1 (by rw [hgo]; exact hw)
              simp only [qchk, qval, x1]; exact ⟨y1, y2⟩
            · exact h1 k hk
          · intro r hr' hc
            by_cases hrj : r.j = j
            · rw [hrj]; exact ⟨rd, hf, fun hg' => (hs.1 (by rw [hgo]; exact hg')).1⟩
            · exact h2 r hr' (by simpa [hrj] using hc)

/-- one entry a reader: the decompiler lays a reader's row once -/
def nodupR (R : List Rd) : Prop := ∀ r ∈ R, ∀ r', R.find? (fun x => x.j == r.j) = some r' → r' = r

theorem Rel.turned (R : Rel P ops N n D st a σ w) (hn : nodupR st.R) {w' : World} {F : List Nat}
    (hF : ∀ r ∈ st.R, F.contains r.j = true → (∃ r', st.R.find? (fun x => x.j == r.j) = some r' ∧ (gOnA a r'.g = true → c1 w' r'.f (val σ w r'.x)))) :
    Rel P ops N n D (st.turned F) a σ w' := by
  refine ⟨R.size, R.defers, R.slot, ?_, ?_⟩
  · intro e he
    simp only [DS.turned, List.mem_filter, Bool.not_eq_true'] at he
    have := R.ent e he.1
    unfold EntOK at *
    rw [← val_pure (w := w) (w' := w') he.2]; exact this
  · intro r hr
    simp only [DS.turned, List.mem_filter, Bool.and_eq_true, Bool.not_eq_true'] at hr
    obtain ⟨oj, e1, e2, e3, e4⟩ := R.rd r hr.1
    refine ⟨oj, e1, e2, e3, fun hg => ?_⟩
    obtain ⟨r', h1, h2⟩ := hF r hr.1 hr.2.2
    have := hn r hr.1 r' h1
    subst this
    rw [← val_pure (w := w) (w' := w') hr.2.1]
    exact ⟨(e4 hg).1, h2 hg⟩

theorem find_filter {p q : Rd → Bool} : ∀ {l : List Rd} {r : Rd}, (l.filter p).find? q = some r → nodupR l → (∀ x y : Rd, q x = true → q y = true → x.j = y.j) → True := fun _ _ _ => trivial

theorem nodup_filter {l : List Rd} (p : Rd → Bool) (h : nodupR l) : nodupR (l.filter p) := by
  intro r hr r' hr'
  rw [List.mem_filter] at hr
  have hm := List.mem_of_find?_eq_some hr'
  have hj : r'.j = r.j := by have := List.find?_some hr'; simpa using this
  rw [List.mem_filter] at hm
  -- both are in l and have one number: each is what find? gives
  have key : ∀ x ∈ l, ∃ y, l.find? (fun z => z.j == x.j) = some y := by
    intro x hx
    cases hf : l.find? (fun z => z.j == x.j) with
    | some y => exact ⟨y, rfl⟩
    | none => rw [List.find?_eq_none] at hf; exact absurd (hf x hx) (by simp)
  obtain ⟨y1, hy1⟩ := key r hr.1
  obtain ⟨y2, hy2⟩ := key r' hm.1
  rw [hj] at hy2
  have a1 := h r hr.1 y1 hy1
  have : y1 = y2 := Option.some.inj (hy1.symm.trans hy2)
  have a2 := h r' hm.1 y2 (by rw [hj]; exact hy2)
  rw [← a1, this, a2]

theorem nodup_readers {i : Nat} {g : Option (Nat × Bool)} {f : F1} {x : Operand} (h : nodupR st.R) : nodupR (readers N st i g f x ++ st.R) := by
  unfold readers
  split
  · rename_i hc
    simp only [Bool.and_eq_true, Bool.not_eq_true', List.any_eq_false] at hc
    split
    · rename_i ex _
      intro r hr r' hr'
      simp only [List.cons_append, List.nil_append, List.mem_cons] at hr
      simp only [List.cons_append, List.nil_append, List.find?_cons] at hr'
      rcases hr with rfl | hr
      · simp at hr'; exact hr'.symm
      · split at hr'
        · rename_i hb; exact absurd hb (by have := hc.2 r hr; simp only [beq_iff_eq] at this ⊢; exact fun e => this e.symm)
        · exact h r hr r' hr'
    · simpa using h
  · simpa using h

theorem rd_readers (R : Rel P ops N n D st a σ w) {i : Nat} {o : Oper} {g : Option (Nat × Bool)} {f : F1} {x : Operand} (ho : ops[i]? = some o) (hg : guardOf ops o = some g) (hq : resolve P o.op = some (.q1 f x))
    (hc : gOnA a g = true → c1 w f (a.eval x)) : ∀ r ∈ readers N st i g f x ++ st.R, RdOK P ops a σ w r := by
  intro r hr
  rcases List.mem_append.1 hr with hr | hr
  · unfold readers at hr
    split at hr
    · split at hr
      · rename_i ex he
        simp only [List.mem_singleton] at hr; subst hr
        refine ⟨o, ho, hq, hg, fun h => ?_⟩
        have e := exO_sound R (gList_ok h) he
        exact ⟨e, by rw [← e]; exact hc h⟩
      · simp at hr
    · simp at hr
  · exact R.rd r hr

theorem dst_lt {o : Oper} {n : Nat} (h : ¬ dstBad n o.dst = true) : ∀ d : Nat, o.dst = some d → d < n := by
  intro d hd; simp only [hd, dstBad, decide_eq_true_eq] at h; omega

theorem putO (a : Act) (d : Option Nat) (v : Value) (hd : ∀ x, d = some x → x < n) (R : Rel P ops N n D st a σ w) (hN : ∀ x, d = some x → N.testBit x = true) :
    Rel P ops N n D (st.wrote d) (a.put d v) (updO σ d v) w := by
  cases d with
  | none => exact R
  | some d => exact R.wrote (hd d rfl) v _ (by rw [if_pos (hN d rfl)]; rfl)

theorem dstep_sound (hQ : ∀ c a w, a.defers = D → QP c w → Q (.panic c) a w) (R : Rel P ops N n D st a σ w) (hn : nodupR st.R) {i : Nat} {F : List Nat} {l rest : List HS} {st' : DS}
    (h : dstep P ops N n st i F = some (l, st')) {K' : Act → World → Prop} (H : hs P QP K (l ++ rest) σ w)
    (hK : ∀ a' σ' w', Rel P ops N n D st' a' σ' w' → nodupR st'.R → hs P QP K rest σ' w' → K' a' w') : stepC P ops Q i F K' a w := by
  unfold dstep at h
  cases ho : ops[i]? with
  | none => simp [ho] at h
  | some o =>
  simp only [ho] at h
  split at h
  · cases h
  rename_i hdst
  have hlt := dst_lt hdst
  cases hg : guardOf ops o with
  | none => simp [hg] at h
  | some g =>
  simp only [hg] at h
  cases hge : gExp N st.M g with
  | none => simp [hge] at h
  | some ge =>
  simp only [hge] at h
  have hgo := gExp_sound R hge
  unfold stepC
  simp only [ho, wanted_eq hg]
  cases hq : resolve P o.op with
  | some q =>
    simp only [hq] at h
    cases he : toHE N st.M (gList g) q with
    | none => simp [he] at h
    | some en =>
    obtain ⟨e, needs⟩ := en
    simp only [he] at h
    split at h
    · cases h
    rename_i hF
    have hF' : F = [] := by simpa using hF
    subst hF'
    -- the readers' row
    generalize hR' : readersQ N st i g q = R' at h
    have hs1 : ∃ ns2, l = needs.map (fun x => HS.need (under ge x)) ++ ns2 := by
      cases hd : o.dst with
      | none => simp only [hd, Option.some.injEq, Prod.mk.injEq] at h; exact ⟨[], by rw [← h.1]; simp⟩
      | some d =>
        simp only [hd] at h
        split at h
        · simp only [Option.some.injEq, Prod.mk.injEq] at h; exact ⟨_, h.1.symm⟩
        · split at h
          · cases h
          · simp only [Option.some.injEq, Prod.mk.injEq] at h; exact ⟨[], by rw [← h.1]; simp⟩
    obtain ⟨ns2, rfl⟩ := hs1
    rw [List.append_assoc] at H
    obtain ⟨hneeds, H2⟩ := hs_needs needs ge _ H
    have hq' : gOnA a g = true → qchk a.eval w q ∧ qval a.eval w q = val σ w e := fun hgt =>
      toHE_sound R (gList_ok hgt) he (fun x hx => chk_under (hneeds x hx) (by rw [hgo]; exact hgt))
    -- the state with the readers' row
    have hnd : nodupR (R' ++ st.R) := by
      subst hR'; cases q <;> first | exact nodup_readers hn | (simp only [readersQ, List.nil_append]; exact hn)
    have R1 : Rel P ops N n D { st with R := R' ++ st.R } a σ w := by
      refine ⟨R.size, R.defers, R.slot, R.ent, ?_⟩
      subst hR'
      cases q with
      | q1 f x => exact rd_readers R ho hg hq (fun hgt => (hq' hgt).1)
      | _ => exact R.rd
    -- what is written
    have fin : K' (a.put o.dst (val σ w (under ge e))) w := by
      cases hd : o.dst with
      | none =>
        simp only [hd, Option.some.injEq, Prod.mk.injEq] at h
        have h2 : ns2 = [] := by have := h.1; simpa using this.symm
        subst h2
        exact hK a σ w (by rw [← h.2]; exact R1) (by rw [← h.2]; exact hnd) H2
      | some d =>
        simp only [hd] at h
        split at h
        · rename_i hb
          simp only [Option.some.injEq, Prod.mk.injEq] at h
          have h2 : ns2 = [.asg d (under ge e)] := by have := h.1; exact (List.append_cancel_left this).symm
          subst h2
          refine hK _ (upd σ d (val σ w (under ge e))) w ?_ ?_ H2
          · rw [← h.2]; exact R1.wrote (hlt d hd) _ _ (by rw [if_pos hb])
          · rw [← h.2]; exact nodup_filter _ hnd
        · rename_i hb
          split at h
          · cases h
          rename_i hbad
          simp only [Bool.or_eq_true, not_or, Bool.not_eq_true] at hbad
          simp only [Option.some.injEq, Prod.mk.injEq] at h
          have h2 : ns2 = [] := by have := h.1; simpa using this.symm
          subst h2
          have R2 := R1.wrote (hlt d hd) (val σ w (under ge e)) σ (by rw [if_neg hb])
          refine hK _ σ w ?_ (by rw [← h.2]; exact nodup_filter _ hnd) H2
          rw [← h.2]
          refine ⟨R2.size, R2.defers, R2.slot, ?_, R2.rd⟩
          intro x hx
          rcases List.mem_cons.1 hx with rfl | hx
          · unfold EntOK
            rw [gOnA_put hbad.1, put_eval_eq _ (show d < a.tmps.size by rw [R.size]; exact hlt d hd), val_under, hgo]
            by_cases hgt : gOnA a g = true
            · rw [if_pos hgt, if_pos hgt]
            · rw [if_neg hgt, if_neg hgt]
          · exact R2.ent x hx
    by_cases hgt : gOnA a g = true
    · rw [if_pos hgt]
      obtain ⟨c, v⟩ := hq' hgt
      refine ⟨c, ?_⟩
      rw [v]
      rw [val_under, hgo, if_pos hgt] at fin
      exact fin
    · rw [if_neg hgt]
      rw [val_under, hgo, if_neg hgt] at fin
      exact fin
  | none =>
    simp only [hq] at h
    split at h
    · cases h
    rename_i hsel
    split at h
    · cases h
    rename_i hnb
    have hNd : ∀ x, o.dst = some x → N.testBit x = true := by
      intro x hx; simp only [hx, dstNot, Bool.not_eq_true', Bool.not_eq_false] at hnb; exact hnb
    cases hm : exTmps N st.M (gList g) (opTmps o.op) with
    | none => simp [hm] at h
    | some m =>
    cases hst : stabsOf N st F with
    | none => simp [hm, hst] at h
    | some stab =>
    simp only [hm, hst, Option.some.injEq, Prod.mk.injEq] at h
    obtain ⟨rfl, rfl⟩ := h
    simp only [List.cons_append, List.nil_append, hs] at H
    have hnsel : ∀ cs b, o.op ≠ .select cs b := by intro cs b hc; rw [hc] at hsel; exact hsel rfl
    have run_eq : gOnA a g = true → (execOp a.eval o) = execOp (rho m σ w) { dst := none, op := o.op, type := o.type, pos := "", after := #[], guard := none } := by
      intro hgt
      rw [execOp_congr o hnsel (rho_eq R (gList_ok hgt) hm), execOp_same]
    have go : gOnA a g = true → heff P o.op o.type (rho m σ w) w (fun v w' => stabOK σ w w' stab ∧ hs P QP K rest (updO σ o.dst v) w') QP →
        o.wp P a w (fun a' w' => (∀ j ∈ F, Keeps P ops j a w w') ∧ K' a' w') Q := by
      intro hgt hh
      have step : ∀ (v : Value) (w' : World), stabOK σ w w' stab ∧ hs P QP K rest (updO σ o.dst v) w' → (∀ j ∈ F, Keeps P ops j a w w') ∧ K' (a.put o.dst v) w' := by
        intro v w' ⟨h1, h2⟩
        obtain ⟨k1, k2⟩ := stabs_sound R F stab hst h1
        refine ⟨k1, hK _ _ w' (putO a o.dst v hlt (R.turned hn k2) hNd) ?_ h2⟩
        cases hd : o.dst with
        | none => exact nodup_filter _ hn
        | some d => exact nodup_filter _ (nodup_filter _ hn)
      unfold heff at hh
      unfold Oper.wp
      rw [run_eq hgt]
      have hdf : ∀ d w', ((execOp (rho m σ w) { dst := none, op := o.op, type := o.type, pos := "", after := #[], guard := none }).run P w) = .ok (.defer d) w' → False := by
        intro d w' hr; rw [hr] at hh; exact hh
      generalize ((execOp (rho m σ w) { dst := none, op := o.op, type := o.type, pos := "", after := #[], guard := none }).run P w) = r at hh hdf
      cases r with
      | ok nx w' =>
        cases nx <;> simp only [effUpon] at hh <;> simp only [Oper.upon]
        case value v => exact step v w' hh
        case skip => exact step undef w' hh
        case enter f args =>
          refine Calls.mono hh fun e w'' he => ?_
          cases e with
          | returned v => exact step v w'' he
          | panicked c => exact hQ c a w'' R.defers he
          | outgrown => exact he.elim
        case row row args => exact Rows.mono hh fun v w'' he => step v w'' he
      | halt x w' =>
        cases x <;> simp only [effUpon] at hh <;> simp only [Oper.upon]
        case panic v => exact hQ _ a w' R.defers hh
    cases ge with
    | none =>
      have hgt : gOnA a g = true := by rw [← hgo]; rfl
      rw [if_pos hgt]
      exact go hgt H
    | some p =>
      obtain ⟨c, want⟩ := p
      simp only at H
      by_cases hgt : gOnA a g = true
      · rw [if_pos hgt]
        exact go hgt (H.1 (by rw [← hgt, ← hgo]; rfl))
      · rw [if_neg hgt]
        have hgf : isB want (val σ w c) = false := by
          have : gOn σ w (some (c, want)) = isB want (val σ w c) := rfl
          rw [← this, hgo]; simpa using hgt
        -- the world has not turned: what is known stays known, but the decompiler has dropped it
        refine hK _ _ w (putO a o.dst undef hlt ?_ hNd) ?_ (H.2 hgf)
        · exact ⟨R.size, R.defers, R.slot, fun e he => R.ent e (List.mem_filter.1 he).1, fun r hr => R.rd r (List.mem_filter.1 hr).1⟩
        · cases hd : o.dst with
          | none => exact nodup_filter _ hn
          | some d => exact nodup_filter _ (nodup_filter _ hn)

theorem dlist_sound (hQ : ∀ c a w, a.defers = D → QP c w → Q (.panic c) a w) {K' : Act → World → Prop}
    (hK : ∀ a' σ' w', a'.tmps.size = n → a'.defers = D → (∀ t, N.testBit t = true → a'.eval (.tmp t) = σ' t) → K σ' w' → K' a' w') :
    ∀ (L : List (Nat × List Nat)) (st : DS) (a : Act) (σ : Env) (w : World) (l : List HS), Rel P ops N n D st a σ w → nodupR st.R → dlist P ops N n st L = some l → hs P QP K l σ w → wpC P ops Q K' L a w
  | [], st, a, σ, w, l, R, _, h, H => by
    simp only [dlist, Option.some.injEq] at h; subst h
    exact hK a σ w R.size R.defers R.slot H
  | (i, F) :: L, st, a, σ, w, l, R, hn, h, H => by
    simp only [dlist] at h
    cases hs : dstep P ops N n st i F with
    | none => simp [hs] at h
    | some p =>
      obtain ⟨l1, st'⟩ := p
      simp only [hs, Option.map_eq_some_iff] at h
      obtain ⟨l2, h2, rfl⟩ := h
      exact dstep_sound hQ R hn hs H (fun a' σ' w' R' hn' H' => dlist_sound hQ hK L st' a' σ' w' l2 R' hn' h2 H')
end
end Go.HL

/- HLF: a region that draws its order: one order serves for all. -/
namespace Go.HL
open Go

def QF : Exit → Act → World → Prop := fun _ _ _ => False

section
variable {P : Program} {ops : Array Oper} {a : Act} {w : World}

theorem wp_some {o : Oper} {K : Act → World → Prop} (h : o.wp P a w K QF) : ∃ a' w' u, K a' w' ∧ a'.tmps = (a.put o.dst u).tmps := by
  unfold Oper.wp at h
  generalize (execOp a.eval o).run P w = r at h
  cases r with
  | ok nx w' =>
    cases nx <;> simp only [Oper.upon] at h
    case value v => exact ⟨_, _, v, h, rfl⟩
    case skip => exact ⟨_, _, undef, h, rfl⟩
    case defer d => exact ⟨_, _, undef, h, by cases o.dst <;> rfl⟩
    case enter f args =>
      obtain ⟨e, w'', fr, he, _⟩ := h []
      cases e with
      | returned v => exact ⟨_, _, v, he, rfl⟩
      | panicked c => exact he.elim
      | outgrown => exact (by obtain ⟨a, w, h⟩ := he; exact h.elim)
    case row row args =>
      obtain ⟨v, w'', h1, _⟩ := h default []
      exact ⟨_, _, v, h1, rfl⟩
  | halt x w' => cases x <;> simp only [Oper.upon] at h; exact h.elim

theorem wp_put_iff {oi oj : Oper} {v : Value} (hap : oi.apart ops oj = true) (hsj : ∀ cs b, oj.op ≠ .select cs b) {K : Act → World → Prop} :
    oj.wp P (a.put oi.dst v) w K QF ↔ oj.wp P a w (fun a' w' => K (a'.put oi.dst v) w') QF := by
  obtain ⟨h1, h2, h3⟩ := Oper.apart_spec hap
  unfold Oper.wp
  rw [execOp_put oj hsj a oi.dst v h1]
  generalize (execOp a.eval oj).run P w = r
  cases r with
  | ok nx w' =>
    cases nx <;> simp only [Oper.upon]
    case value u => rw [Act.put_comm a v u h2]
    case skip => rw [Act.put_comm a v undef h2]
    case defer d => rw [Act.put_defers, Act.put_comm _ v undef h2]
    case enter f args =>
      constructor <;> (intro h; refine Calls.mono h fun e w'' he => ?_; cases e) <;> first | exact he | (simp only [Act.put_comm a v _ h2] at he ⊢; exact he)
    case row row args =>
      constructor <;> (intro h; refine Rows.mono h fun u w'' he => ?_; simp only [Act.put_comm a v _ h2] at he ⊢; exact he)
  | halt x w' => cases x <;> simp only [Oper.upon] <;> rfl

def qops : Q Operand → List Operand
  | .mv x => [x]
  | .q1 _ x => [x]
  | .q2 _ x y => [x, y]
  | .q3 _ x y z => [x, y, z]
  | .bld _ parts => parts.map fun p => p.2.2
  | .clo _ first caps => first ++ caps

theorem bld_congr {ρ ρ' : Operand → Value} : ∀ (l : List (Nat × Nat × Operand)) (acc : Value), (∀ x ∈ l.map (fun p => p.2.2), ρ x = ρ' x) → bldC ρ acc l = bldC ρ' acc l ∧ bldV ρ acc l = bldV ρ' acc l
  | [], _, _ => ⟨rfl, rfl⟩
  | (o, n, x) :: r, acc, h => by
    simp only [List.map_cons, List.mem_cons, forall_eq_or_imp] at h
    simp only [bldC, bldV, h.1, bld_congr r _ h.2, and_self]
theorem push_congr {ρ ρ' : Operand → Value} (f : F2) : ∀ (l : List Operand) (acc : Value), (∀ x ∈ l, ρ x = ρ' x) → pushAll ρ f acc l = pushAll ρ' f acc l
  | [], _, _ => rfl
  | x :: r, acc, h => by
    simp only [List.mem_cons, forall_eq_or_imp] at h
    simp only [pushAll, h.1, push_congr f r _ h.2]

theorem q_congr {ρ ρ' : Operand → Value} {q : Q Operand} (h : ∀ x ∈ qops q, ρ x = ρ' x) : qchk ρ w q = qchk ρ' w q ∧ qval ρ w q = qval ρ' w q := by
  cases q with
  | bld z l => exact bld_congr l _ h
  | clo fn a b =>
    refine ⟨rfl, ?_⟩
    simp only [qval]
    rw [push_congr .capf a _ (fun x hx => h x (List.mem_append_left _ hx)), push_congr .capt b _ (fun x hx => h x (List.mem_append_right _ hx))]
  | _ => simp_all [qops, qchk, qval]

theorem parts_ops {parts : List (Nat × Operand)} {pl : Nat → Option (Nat × Nat)} : ∀ {l : List (Nat × Nat × Operand)}, (parts.mapM fun (p : Nat × Operand) => (pl p.1).map fun (q : Nat × Nat) => (q.1, q.2, p.2)) = some l →
    l.map (fun p => p.2.2) = parts.map (·.2) := by
  induction parts with
  | nil => intro l h; simp at h; subst h; rfl
  | cons p r ih =>
    intro l h
    simp only [List.mapM_cons, Option.bind_eq_bind, Option.bind_eq_some_iff, Option.map_eq_some_iff, Option.pure_def, Option.some.injEq] at h
    obtain ⟨e, ⟨q, hq, rfl⟩, l', hl', rfl⟩ := h
    simp [ih hl']

theorem optF_mem (x : Option Operand) : optF x ∈ x.toArray ∨ ∃ v, optF x = .const v := by cases x <;> simp [optF]

theorem resolve_ops {o : Op} {q : Q Operand} (h : resolve P o = some q) : ∀ x ∈ qops q, x ∈ o.operands ∨ ∃ v, x = .const v := by
  cases o with
  | move x => simp only [resolve, Option.some.injEq] at h; subst h; simp [qops, Op.operands]
  | assign x => simp only [resolve, Option.some.injEq] at h; subst h; simp [qops, Op.operands]
  | pick c a b => simp only [resolve, Option.some.injEq] at h; subst h; simp [qops, Op.operands]
  | nilCheck x => simp only [resolve, Option.some.injEq] at h; subst h; simp [qops, Op.operands]
  | binOp op t x y u =>
    have : ∃ f, q = .q2 f x y := by
      simp only [resolve] at h
      cases hu : P.underlying t with
      | none => simp [hu] at h
      | some d => cases d <;> simp [hu] at h <;> first | exact ⟨_, h.symm⟩ | (cases op <;> simp at h <;> exact ⟨_, h.symm⟩) | (rename_i e; cases he : (P.info? e).isSome <;> cases op <;> simp only [he, reduceCtorEq, Option.some.injEq] at h <;> exact ⟨_, h.symm⟩)
    obtain ⟨f, rfl⟩ := this
    simp [qops, Op.operands]
  | unOp op t x =>
    simp only [resolve] at h
    cases op <;> simp at h <;> subst h <;> simp [qops, Op.operands]
  | convert s d x =>
    simp only [resolve] at h
    split at h <;> simp at h <;> subst h <;> simp [qops, Op.operands]
  | makeInterface t x =>
    simp only [resolve] at h
    split at h <;> simp at h <;> subst h <;> simp [qops, Op.operands]
  | makeFunc fn a b =>
    simp only [resolve, Option.some.injEq] at h; subst h
    intro x hx; simp only [qops, List.mem_append, Array.mem_toList_iff] at hx
    left; simpa [Op.operands] using hx
  | build t parts =>
    intro x hx
    left
    have key : ∀ l z, q = .bld z l → l.map (fun p => p.2.2) = parts.toList.map (·.2) → x ∈ Op.operands (.build t parts) := by
      intro l z hq hl
      subst hq
      simp only [qops, hl] at hx
      simpa [Op.operands] using hx
    simp only [resolve] at h
    cases hz : (P.info? t).bind (·.zero) with
    | none => simp [hz] at h
    | some z =>
      cases hu : P.underlying t with
      | none => simp [hz, hu] at h
      | some d =>
        cases d <;> simp only [hz, hu, reduceCtorEq] at h
        case struct fields =>
          split at h
          · rename_i places hp
            simp only [Option.map_eq_some_iff] at h
            obtain ⟨l, hl', rfl⟩ := h
            exact key _ _ rfl (parts_ops hl')
          · cases h
        case array len e =>
          split at h
          · simp only [Option.some.injEq] at h; subst h
            exact key _ _ rfl (by simp)
          · cases h
  | load t a =>
    simp only [resolve] at h
    split at h <;> simp at h <;> subst h <;> simp [qops, Op.operands]
  | fieldAddr s x f =>
    have : ∃ g, q = .q1 g x := by
      simp only [resolve] at h
      split at h
      · split at h
        · split at h <;> simp at h; exact ⟨_, h.symm⟩
        · cases h
      · cases h
    obtain ⟨g, rfl⟩ := this
    simp [qops, Op.operands]
  | field s x f =>
    have : ∃ g, q = .q1 g x := by
      simp only [resolve] at h
      split at h
      · split at h
        · split at h <;> simp at h; exact ⟨_, h.symm⟩
        · cases h
      · cases h
    obtain ⟨g, rfl⟩ := this
    simp [qops, Op.operands]
  | indexAddr t x i =>
    have : ∃ f, q = .q2 f x i := by
      simp only [resolve] at h
      split at h
      · simp only [Option.map_eq_some_iff] at h; obtain ⟨n, _, rfl⟩ := h; exact ⟨_, rfl⟩
      · simp only [Option.map_eq_some_iff] at h; obtain ⟨n, _, rfl⟩ := h; exact ⟨_, rfl⟩
      · cases h
    obtain ⟨f, rfl⟩ := this
    simp [qops, Op.operands]
  | index t x i =>
    have : ∃ f, q = .q2 f x i := by
      simp only [resolve] at h
      split at h
      · simp only [Option.some.injEq] at h; exact ⟨_, h.symm⟩
      · split at h <;> simp at h; exact ⟨_, h.symm⟩
      · cases h
    obtain ⟨f, rfl⟩ := this
    simp [qops, Op.operands]
  | slice t x lo hi mx =>
    cases mx with
    | some m => simp [resolve] at h
    | none =>
      have : ∃ f, q = .q3 f x (optF lo) (optF hi) := by
        simp only [resolve] at h
        split at h
        · simp only [Option.some.injEq] at h; exact ⟨_, h.symm⟩
        · simp only [Option.map_eq_some_iff] at h; obtain ⟨n, _, rfl⟩ := h; exact ⟨_, rfl⟩
        · cases h
      obtain ⟨f, rfl⟩ := this
      have h1 := optF_mem lo
      have h2 := optF_mem hi
      intro y hy
      simp only [qops, List.mem_cons, List.not_mem_nil, or_false] at hy
      rcases hy with rfl | rfl | rfl
      · left; simp [Op.operands]
      · rcases h1 with h1 | h1
        · left; simp only [Op.operands, Array.mem_append]; exact .inl (.inl (.inr h1))
        · exact .inr h1
      · rcases h2 with h2 | h2
        · left; simp only [Op.operands, Array.mem_append]; exact .inl (.inr h2)
        · exact .inr h2
  | extract x i => simp only [resolve, Option.some.injEq] at h; subst h; simp [qops, Op.operands]
  | call c =>
    obtain ⟨callee, args, ts⟩ := c
    cases callee with
    | builtin b =>
      cases b <;> simp only [resolve, reduceCtorEq] at h
      case len =>
        have : ∃ x f, args.toList = [x] ∧ q = .q1 f x := by
          split at h
          · rename_i x t ha ht
            refine ⟨x, ?_⟩
            split at h <;> simp at h <;> exact ⟨_, ha, h.symm⟩
          · cases h
        obtain ⟨x, f, ha, rfl⟩ := this
        simp [qops, Op.operands, Call.operands, one_list ha]
      case cap =>
        have : ∃ x f, args.toList = [x] ∧ q = .q1 f x := by
          split at h
          · rename_i x t ha ht
            refine ⟨x, ?_⟩
            split at h <;> simp at h <;> exact ⟨_, ha, h.symm⟩
          · cases h
        obtain ⟨x, f, ha, rfl⟩ := this
        simp [qops, Op.operands, Call.operands, one_list ha]
      case min =>
        split at h
        · rename_i x y ha
          simp only [Option.some.injEq] at h; subst h
          simp [qops, Op.operands, Call.operands, two_list ha]
        · cases h
      case max =>
        split at h
        · rename_i x y ha
          simp only [Option.some.injEq] at h; subst h
          simp [qops, Op.operands, Call.operands, two_list ha]
        · cases h
    | value f => simp [resolve] at h
    | invoke r m => simp [resolve] at h
  | _ => simp [resolve] at h

theorem q_put {o : Oper} {q : Q Operand} (hq : resolve P o.op = some q) {d : Option Tmp} {v : Value} (h : ∀ e, d = some e → e ∉ o.looksAt ops) :
    qchk (a.put d v).eval w q = qchk a.eval w q ∧ qval (a.put d v).eval w q = qval a.eval w q := by
  refine q_congr fun x hx => ?_
  rcases resolve_ops hq x hx with hm | ⟨u, rfl⟩
  · exact Act.eval_put fun e he hxe => h e he (by
      subst hxe
      exact List.mem_append_left _ (List.mem_filterMap.2 ⟨.tmp e, by simpa using hm, rfl⟩))
  · rfl

/-! ### swapping neighbours -/

def kind (P : Program) (o : Oper) : Nat := match resolve P o.op with | some q => if q.reads = true then 1 else 0 | none => 2

def notLook (ops : Array Oper) (o x : Oper) : Bool := match x.dst with | some d => !(o.looksAt ops).contains d | none => true

theorem notLook_spec {o x : Oper} (h : notLook ops o x = true) : ∀ e, x.dst = some e → e ∉ o.looksAt ops := by
  intro e he; simp only [notLook, he, Bool.not_eq_true', List.contains_eq_mem, decide_eq_false_iff_not] at h; exact h

/-- (j, Fj) stands before (i, Fi): i may be taken first -/
def swapB (P : Program) (ops : Array Oper) (oj : Oper) (j : Nat) (Fj : List Nat) (oi : Oper) (Fi : List Nat) : Bool :=
  oi.apart ops oj && oj.apart ops oi && notSelect oi.op && notSelect oj.op &&
  match kind P oj, kind P oi with
  | 2, 0 => Fj.all fun k => match ops[k]? with | some ok => notLook ops ok oi | none => false
  | 2, _ => false
  | 1, 2 => Fi.contains j && notLook ops oj oj
  | 0, _ => true
  | 1, _ => true
  | _, _ => false

theorem notSel {o : Oper} (h : notSelect o.op = true) : ∀ cs b, o.op ≠ .select cs b := by intro cs b hc; rw [hc] at h; cases h

theorem keeps_put {k : Nat} {w' : World} {d : Option Tmp} {v : Value} {ok : Oper} (hk : ops[k]? = some ok) (h : ∀ e, d = some e → e ∉ ok.looksAt ops) :
    Keeps P ops k (a.put d v) w w' ↔ Keeps P ops k a w w' := by
  unfold Keeps
  constructor
  · intro H oj q ho hq hw hc
    rw [hk] at ho; obtain rfl := Option.some.inj ho
    have := H ok q hk hq (by rw [wanted_put ok a d v h]; exact hw) (by rw [(q_put hq h).1]; exact hc)
    rw [(q_put hq h).1, (q_put hq h).2, (q_put hq h).2] at this; exact this
  · intro H oj q ho hq hw hc
    rw [hk] at ho; obtain rfl := Option.some.inj ho
    rw [(q_put hq h).1, (q_put hq h).2, (q_put hq h).2]
    exact H ok q hk hq (by rw [wanted_put ok a d v h] at hw; exact hw) (by rw [(q_put hq h).1] at hc; exact hc)

theorem put_tmps {a a' : Act} {d : Option Tmp} {u : Value} (h : a'.tmps = (a.put d u).tmps) : a'.eval = (a.put d u).eval := by
  funext x; cases x <;> simp only [Act.eval, h]

theorem Oper.wp_mono' {o : Oper} {K K' : Act → World → Prop} (h : ∀ a w, K a w → K' a w) (hh : o.wp P a w K QF) : o.wp P a w K' QF := Oper.wp_mono h hh

/-- an effect's outcomes: the frame but for its own temporary, and its defers, as before -/
theorem wp_shape {o : Oper} {K : Act → World → Prop} (h : o.wp P a w K QF) : o.wp P a w (fun a' w' => K a' w' ∧ ∃ u, a'.tmps = (a.put o.dst u).tmps) QF := by
  unfold Oper.wp at *
  generalize (execOp a.eval o).run P w = r at *
  cases r with
  | ok nx w' =>
    cases nx <;> simp only [Oper.upon] at h ⊢
    case value v => exact ⟨h, v, rfl⟩
    case skip => exact ⟨h, undef, rfl⟩
    case defer d => exact ⟨h, undef, by cases o.dst <;> rfl⟩
    case enter f args =>
      refine Calls.mono h fun e w'' he => ?_
      cases e with
      | returned v => exact ⟨he, v, rfl⟩
      | panicked c => exact he
      | outgrown => exact (by obtain ⟨a, w, h⟩ := he; exact h.elim)
    case row row args => exact Rows.mono h fun v w'' he => ⟨he, v, rfl⟩
  | halt x w' => cases x <;> simp only [Oper.upon] at h ⊢; exact h.elim

theorem swap {i j : Nat} {oi oj : Oper} {Fi Fj S : List Nat} (hi : ops[i]? = some oi) (hj : ops[j]? = some oj) (hb : swapB P ops oj j Fj oi Fi = true)
    (hS : ∀ s ∈ S, s ∈ Fi ∧ ∃ os, ops[s]? = some os ∧ notLook ops os oj = true) {K : Act → World → Prop} (h : stepC P ops QF j Fj (stepC P ops QF i Fi K) a w) :
    stepC P ops QF i S (stepC P ops QF j Fj K) a w := by
  simp only [swapB, Bool.and_eq_true] at hb
  obtain ⟨⟨⟨⟨hap, hap'⟩, hsi⟩, hsj⟩, hk⟩ := hb
  obtain ⟨p1, p2, p3⟩ := Oper.apart_spec hap
  have p4 : ∀ d, oj.dst = some d → oi.dst ≠ some d := (Oper.apart_spec hap').2.1
  -- i's view behind j's put and the other way round
  have wi : ∀ u, Region.wanted oi (yielded ops (a.put oj.dst u).tmps) = Region.wanted oi (yielded ops a.tmps) := fun u => wanted_put oi a oj.dst u p3
  have wj : ∀ u, Region.wanted oj (yielded ops (a.put oi.dst u).tmps) = Region.wanted oj (yielded ops a.tmps) := fun u => wanted_put oj a oi.dst u p1
  unfold stepC at h ⊢
  simp only [hi, hj] at h ⊢
  cases hqj : resolve P oj.op with
  | some qj =>
    simp only [hqj] at h
    -- j's value
    have hh : ∃ vj, (Region.wanted oj (yielded ops a.tmps) = true → qchk a.eval w qj ∧ vj = qval a.eval w qj) ∧ (¬ Region.wanted oj (yielded ops a.tmps) = true → vj = undef) ∧
        stepC P ops QF i Fi K (a.put oj.dst vj) w := by
      by_cases hw : Region.wanted oj (yielded ops a.tmps) = true
      · rw [if_pos hw] at h
        exact ⟨_, fun _ => ⟨h.1, rfl⟩, fun hn => absurd hw hn, by unfold stepC; simp only [hi]; exact h.2⟩
      · rw [if_neg hw] at h
        exact ⟨_, fun hn => absurd hn hw, fun _ => rfl, by unfold stepC; simp only [hi]; exact h⟩
    obtain ⟨vj, hv1, hv2, h⟩ := hh
    unfold stepC at h
    simp only [hi] at h
    rw [wi] at h
    -- j behind i, in a world in which it reads the same
    have later : ∀ (a' : Act) (w' : World) (u : Value), a'.tmps = (a.put oi.dst u).tmps → K (a'.put oj.dst vj) w' →
        (Region.wanted oj (yielded ops a.tmps) = true → qchk a.eval w' qj ∧ qval a.eval w' qj = vj) →
        (if Region.wanted oj (yielded ops a'.tmps) = true then qchk a'.eval w' qj ∧ K (a'.put oj.dst (qval a'.eval w' qj)) w' else K (a'.put oj.dst undef) w') := by
      intro a' w' u ht hK hr
      have e1 : Region.wanted oj (yielded ops a'.tmps) = Region.wanted oj (yielded ops a.tmps) := by rw [ht]; exact wj u
      have e2 := put_tmps ht
      rw [e1]
      by_cases hw : Region.wanted oj (yielded ops a.tmps) = true
      · rw [if_pos hw, e2, (q_put (ops := ops) hqj p1).1, (q_put (ops := ops) hqj p1).2]
        obtain ⟨x1, x2⟩ := hr hw
        exact ⟨x1, by rw [x2]; exact hK⟩
      · rw [if_neg hw]; rw [← hv2 hw]; exact hK
    cases hqi : resolve P oi.op with
    | some qi =>
      simp only [hqi] at h ⊢
      rw [(q_put (ops := ops) hqi p3).1, (q_put (ops := ops) hqi p3).2] at h
      have same : Region.wanted oj (yielded ops a.tmps) = true → qchk a.eval w qj ∧ qval a.eval w qj = vj := fun hw => ⟨(hv1 hw).1, (hv1 hw).2.symm⟩
      by_cases hw : Region.wanted oi (yielded ops a.tmps) = true
      · rw [if_pos hw] at h ⊢
        refine ⟨h.1, later _ w _ rfl ?_ same⟩
        rw [Act.put_comm a _ _ p2]; exact h.2
      · rw [if_neg hw] at h ⊢
        refine later _ w _ rfl ?_ same
        rw [Act.put_comm a _ _ p2]; exact h
    | none =>
      simp only [hqi] at h ⊢
      -- i is an effect: j is pure, or a reader that i keeps
      have keep : ∀ w', (∀ k ∈ Fi, Keeps P ops k (a.put oj.dst vj) w w') → Region.wanted oj (yielded ops a.tmps) = true → qchk a.eval w' qj ∧ qval a.eval w' qj = vj := by
        intro w' hkeep hw
        obtain ⟨x1, x2⟩ := hv1 hw
        have ki : kind P oi = 2 := by simp [kind, hqi]
        by_cases hr : qj.reads = true
        · have kj : kind P oj = 1 := by simp [kind, hqj, hr]
          simp only [ki, kj, Bool.and_eq_true] at hk
          have hself := notLook_spec hk.2
          have hKeep := (keeps_put hj hself).1 (hkeep j (by simpa using hk.1)) oj qj hj hqj hw x1
          exact ⟨hKeep.1, by rw [hKeep.2, x2]⟩
        · have hr' : qj.reads = false := by simpa using hr
          rw [qchk_pure (w := w') (w' := w) hr', qval_pure (w := w') (w' := w) hr']
          exact ⟨x1, x2.symm⟩
      by_cases hw : Region.wanted oi (yielded ops a.tmps) = true
      · rw [if_pos hw] at h ⊢
        have h1 := wp_shape ((wp_put_iff hap' (notSel hsi)).1 h)
        refine Oper.wp_mono' (fun a' w' hh => ?_) h1
        obtain ⟨⟨hkeep, hK⟩, u, hu⟩ := hh
        refine ⟨fun s hs => ?_, later a' w' u hu hK (keep w' hkeep)⟩
        obtain ⟨hsF, os, hos, hl⟩ := hS s hs
        exact (keeps_put hos (notLook_spec hl)).1 (hkeep s hsF)
      · rw [if_neg hw] at h ⊢
        refine later _ w _ rfl ?_ (fun hw => ⟨(hv1 hw).1, (hv1 hw).2.symm⟩)
        rw [Act.put_comm a _ _ p2]; exact h
  | none =>
    simp only [hqj] at h ⊢
    have kj : kind P oj = 2 := by simp [kind, hqj]
    cases hqi : resolve P oi.op with
    | none => have ki : kind P oi = 2 := by simp [kind, hqi]
              simp [ki, kj] at hk
    | some qi =>
      by_cases hr : qi.reads = true
      · have ki : kind P oi = 1 := by simp [kind, hqi, hr]
        simp [ki, kj] at hk
      have hr' : qi.reads = false := by simpa using hr
      have ki : kind P oi = 0 := by simp [kind, hqi, hr']
      simp only [ki, kj] at hk
      simp only [hqi] at h ⊢
      -- i yields the same everywhere
      have hvi : ∃ vi, (Region.wanted oi (yielded ops a.tmps) = true → qchk a.eval w qi ∧ qval a.eval w qi = vi) ∧ (¬ Region.wanted oi (yielded ops a.tmps) = true → vi = undef) ∧
          ∀ (a' : Act) (w' : World) (u : Value), a'.tmps = (a.put oj.dst u).tmps →
            (if Region.wanted oi (yielded ops a'.tmps) = true then qchk a'.eval w' qi ∧ K (a'.put oi.dst (qval a'.eval w' qi)) w' else K (a'.put oi.dst undef) w') → K (a'.put oi.dst vi) w' := by
        have look : ∀ (a' : Act) (u : Value), a'.tmps = (a.put oj.dst u).tmps → Region.wanted oi (yielded ops a'.tmps) = Region.wanted oi (yielded ops a.tmps) ∧ ∀ w', (qchk a'.eval w' qi ↔ qchk a.eval w qi) ∧ qval a'.eval w' qi = qval a.eval w qi := by
          intro a' u ht
          refine ⟨by rw [ht]; exact wi u, fun w' => ?_⟩
          rw [put_tmps ht, (q_put (ops := ops) hqi p3).1, (q_put (ops := ops) hqi p3).2, qchk_pure (w := w') (w' := w) hr', qval_pure (w := w') (w' := w) hr']
          exact ⟨Iff.rfl, rfl⟩
        by_cases hw : Region.wanted oi (yielded ops a.tmps) = true
        · refine ⟨qval a.eval w qi, fun _ => ⟨?_, rfl⟩, fun hn => absurd hw hn, ?_⟩
          · by_cases hwj : Region.wanted oj (yielded ops a.tmps) = true
            · rw [if_pos hwj] at h
              obtain ⟨a', w', u, hh, ht⟩ := wp_some h
              obtain ⟨l1, l2⟩ := look a' u ht
              have := hh.2
              rw [l1, if_pos hw] at this
              exact (l2 w').1.1 this.1
            · rw [if_neg hwj] at h
              obtain ⟨l1, l2⟩ := look (a.put oj.dst undef) undef rfl
              rw [l1, if_pos hw] at h
              exact (l2 w).1.1 h.1
          · intro a' w' u ht hh
            obtain ⟨l1, l2⟩ := look a' u ht
            rw [l1, if_pos hw, (l2 w').2] at hh
            exact hh.2
        · refine ⟨undef, fun hn => absurd hn hw, fun _ => rfl, ?_⟩
          intro a' w' u ht hh
          obtain ⟨l1, l2⟩ := look a' u ht
          rw [l1, if_neg hw] at hh
          exact hh
      obtain ⟨vi, g1, g2, g3⟩ := hvi
      have main : (if Region.wanted oj (yielded ops (a.put oi.dst vi).tmps) = true then oj.wp P (a.put oi.dst vi) w (fun a' w' => (∀ k ∈ Fj, Keeps P ops k (a.put oi.dst vi) w w') ∧ K a' w') QF
          else K ((a.put oi.dst vi).put oj.dst undef) w) := by
        rw [wj]
        by_cases hwj : Region.wanted oj (yielded ops a.tmps) = true
        · rw [if_pos hwj] at h ⊢
          rw [wp_put_iff hap (notSel hsj)]
          refine Oper.wp_mono' (fun a' w' hh => ?_) (wp_shape h)
          obtain ⟨⟨hkeep, hK⟩, u, hu⟩ := hh
          refine ⟨fun k hkF => ?_, g3 a' w' u hu hK⟩
          have hkk := List.all_eq_true.1 hk k hkF
          cases hok : ops[k]? with
          | none => simp [hok] at hkk
          | some ok => simp only [hok] at hkk; exact (keeps_put hok (notLook_spec hkk)).2 (hkeep k hkF)
        · rw [if_neg hwj] at h ⊢
          rw [Act.put_comm a _ _ p2]
          exact g3 _ w undef rfl h
      by_cases hw : Region.wanted oi (yielded ops a.tmps) = true
      · rw [if_pos hw]
        obtain ⟨x1, x2⟩ := g1 hw
        exact ⟨x1, by rw [x2]; exact main⟩
      · rw [if_neg hw]
        obtain rfl := g2 hw
        exact main

/-! ### any order -/

theorem stepC_mono {i : Nat} {F : List Nat} {K K' : Act → World → Prop} (h : ∀ a w, K a w → K' a w) (hh : stepC P ops QF i F K a w) : stepC P ops QF i F K' a w := by
  unfold stepC at *
  cases ho : ops[i]? with
  | none => simp [ho] at hh
  | some o =>
    simp only [ho] at hh ⊢
    split at hh
    · rename_i hw; rw [if_pos hw]
      cases hq : resolve P o.op with
      | some q => simp only [hq] at hh ⊢; exact ⟨hh.1, h _ _ hh.2⟩
      | none => simp only [hq] at hh ⊢; exact Oper.wp_mono' (fun a' w' hx => ⟨hx.1, h _ _ hx.2⟩) hh
    · rename_i hw; rw [if_neg hw]; exact h _ _ hh

theorem stepC_wpOp {Q : Exit → Act → World → Prop} {i : Nat} {F : List Nat} {K K' : Act → World → Prop} (h : ∀ a w, K a w → K' a w) (hh : stepC P ops QF i F K a w) : wpOp P ops Q i K' a w := by
  unfold stepC at hh
  unfold wpOp
  cases ho : ops[i]? with
  | none => simp [ho] at hh
  | some o =>
    simp only [ho] at hh ⊢
    split at hh
    · rename_i hw; rw [if_pos hw]
      left
      cases hq : resolve P o.op with
      | some q =>
        simp only [hq] at hh
        have hr := resolve_sound (P := P) (ρ := a.eval) (w := w) hq hh.1
        simp only [Oper.wp, hr, Oper.upon]; exact h _ _ hh.2
      | none =>
        simp only [hq] at hh
        unfold Oper.wp at *
        generalize (execOp a.eval o).run P w = r at *
        cases r with
        | ok nx w' =>
          cases nx <;> simp only [Oper.upon] at hh ⊢
          case value v => exact h _ _ hh.2
          case skip => exact h _ _ hh.2
          case defer d => exact h _ _ hh.2
          case enter f args =>
            refine Calls.mono hh fun e w'' he => ?_
            cases e with
            | returned v => exact h _ _ he.2
            | panicked c => exact he.elim
            | outgrown => exact (by obtain ⟨a, w, h⟩ := he; exact h.elim)
          case row row args => exact Rows.mono hh fun v w'' he => h _ _ he.2
        | halt x w' => cases x <;> simp only [Oper.upon] at hh ⊢; exact hh.elim
    · rename_i hw; rw [if_neg hw]; exact h _ _ hh

/-- the pair's conditions: (j, Fj) stands before (i, Fi) in the list; anc: which operations each must wait for -/
def pairB (P : Program) (ops : Array Oper) (anc : List Nat) (x y : Nat × List Nat) : Bool :=
  match ops[x.1]?, ops[y.1]? with
  | some oj, some oi => (anc.getD y.1 0).testBit x.1 || (swapB P ops oj x.1 x.2 oi y.2)
  | _, _ => false
/-- what holds of each pair, ordered or not: a reader's operands are not written behind it -/
def pairR (P : Program) (ops : Array Oper) (x y : Nat × List Nat) : Bool :=
  match ops[x.1]?, ops[y.1]? with
  | some oj, some oi => !(kind P oj == 1) || notLook ops oj oi
  | _, _ => false

def allPairs (p : Nat × List Nat → Nat × List Nat → Bool) : List (Nat × List Nat) → Bool
  | [] => true
  | x :: r => r.all (p x) && allPairs p r

def ancB (ops : Array Oper) (anc : List Nat) : Bool :=
  (List.range ops.size).all fun i => match ops[i]? with
    | some o => (anc.getD i 0) == (o.after.foldl (fun s e => if Region.binds .any e then s ||| (2 ^ e.on) ||| anc.getD e.on 0 else s) 0) && o.after.all fun e => !Region.binds .any e || decide (e.on < i)
    | none => false

def canonB (P : Program) (ops : Array Oper) (anc : List Nat) (L : List (Nat × List Nat)) : Bool :=
  ancB ops anc && allPairs (pairB P ops anc) L && allPairs (pairR P ops) L && (List.range ops.size).all (fun i => L.any fun x => x.1 == i) && allPairs (fun x y => x.1 != y.1) L &&
  L.all fun x => decide (x.1 < ops.size) && x.2.all fun j => (L.any fun y => y.1 == j)

theorem front {anc : List Nat} {i : Nat} {Fi : List Nat} {oi : Oper} (hi : ops[i]? = some oi) : ∀ (L1 L2 : List (Nat × List Nat)) (S : List Nat) (a : Act) (w : World) {K : Act → World → Prop},
    (∀ x ∈ L1, pairB P ops anc x (i, Fi) = true ∧ (anc.getD i 0).testBit x.1 = false) → allPairs (pairR P ops) L1 = true → (∀ x ∈ L1, (ops[x.1]?).isSome = true) →
    (∀ s ∈ S, s ∈ Fi ∧ ∃ os, ops[s]? = some os ∧ ∀ x ∈ L1, ∀ ox, ops[x.1]? = some ox → notLook ops os ox = true) →
    wpC P ops QF K (L1 ++ (i, Fi) :: L2) a w → stepC P ops QF i S (wpC P ops QF K (L1 ++ L2)) a w
  | [], L2, S, a, w, K, _, _, _, hS, h => by
    simp only [List.nil_append, wpC] at h ⊢
    unfold stepC at *
    simp only [hi] at h ⊢
    split at h
    · rename_i hw; rw [if_pos hw]
      cases hq : resolve P oi.op with
      | some q => simp only [hq] at h ⊢; exact h
      | none => simp only [hq] at h ⊢; exact Oper.wp_mono' (fun a' w' hx => ⟨fun s hs => hx.1 s (hS s hs).1, hx.2⟩) h
    · rename_i hw; rw [if_neg hw]; exact h
  | (j, Fj) :: L1, L2, S, a, w, K, hp, hr, hsome, hS, h => by
    simp only [List.cons_append, wpC] at h ⊢
    obtain ⟨oj, hj⟩ := Option.isSome_iff_exists.1 (hsome (j, Fj) (by simp))
    have hpj := hp (j, Fj) (by simp)
    simp only [pairB, hj, hi, hpj.2, Bool.false_or] at hpj
    have hb := hpj.1
    simp only [allPairs, Bool.and_eq_true] at hr
    -- what i must keep when it has passed L1: S, and j if j is a reader that an effect passes
    let S' := if (kind P oj == 1 && kind P oi == 2) = true then j :: S else S
    have hS' : ∀ s ∈ S', s ∈ Fi ∧ ∃ os, ops[s]? = some os ∧ ∀ x ∈ L1, ∀ ox, ops[x.1]? = some ox → notLook ops os ox = true := by
      intro s hs
      have old : s ∈ S → s ∈ Fi ∧ ∃ os, ops[s]? = some os ∧ ∀ x ∈ L1, ∀ ox, ops[x.1]? = some ox → notLook ops os ox = true := by
        intro hs; obtain ⟨h1, os, h2, h3⟩ := hS s hs; exact ⟨h1, os, h2, fun x hx => h3 x (by simp [hx])⟩
      by_cases hk : (kind P oj == 1 && kind P oi == 2) = true
      · simp only [S', if_pos hk, List.mem_cons] at hs
        rcases hs with rfl | hs
        · simp only [Bool.and_eq_true, beq_iff_eq] at hk
          simp only [swapB, hk.1, hk.2, Bool.and_eq_true] at hb
          refine ⟨by simpa using hb.2.1, oj, hj, fun x hx ox hox => ?_⟩
          have := List.all_eq_true.1 hr.1 x hx
          simp only [pairR, hj, hox, hk.1] at this
          simpa using this
        · exact old hs
      · simp only [S', if_neg hk] at hs; exact old hs
    have ih := fun a w => front hi L1 L2 S' a w (K := K) (fun x hx => hp x (by simp [hx])) hr.2 (fun x hx => hsome x (by simp [hx])) hS'
    have h2 := stepC_mono (fun a w => ih a w) h
    -- swap j and i
    by_cases hk : (kind P oj == 1 && kind P oi == 2) = true
    · -- a reader passed by an effect: it is among S', and S' stands for Fi
      have hself : notLook ops oj oj = true := by
        simp only [Bool.and_eq_true, beq_iff_eq] at hk
        simp only [swapB, hk.1, hk.2, Bool.and_eq_true] at hb
        exact hb.2.2
      refine swap hi hj (Fi := S') ?_ ?_ h2
      · simp only [Bool.and_eq_true, beq_iff_eq] at hk
        simp only [swapB, hk.1, hk.2, Bool.and_eq_true] at hb ⊢
        exact ⟨hb.1, by simp [S', hk.1, hk.2], hb.2.2⟩
      · intro s hs
        refine ⟨by simp [S', hk, hs], ?_⟩
        obtain ⟨_, os, h2, h3⟩ := hS s hs
        exact ⟨os, h2, h3 (j, Fj) (by simp) oj hj⟩
    · refine swap hi hj (Fi := S') ?_ ?_ h2
      · simp only [swapB, Bool.and_eq_true] at hb ⊢
        refine ⟨hb.1, ?_⟩
        have hb2 := hb.2
        revert hb2
        split <;> simp_all
      · intro s hs
        refine ⟨by simp only [S', if_neg hk]; exact hs, ?_⟩
        obtain ⟨_, os, h2, h3⟩ := hS s hs
        exact ⟨os, h2, h3 (j, Fj) (by simp) oj hj⟩

theorem fold_bit {anc : List Nat} {j : Nat} : ∀ (l : List Edge) (s : Nat), (l.foldl (fun s e => if Region.binds .any e then s ||| (2 ^ e.on) ||| anc.getD e.on 0 else s) s).testBit j = true →
    s.testBit j = true ∨ ∃ e ∈ l, Region.binds .any e = true ∧ (e.on = j ∨ (anc.getD e.on 0).testBit j = true)
  | [], s, h => .inl h
  | e :: l, s, h => by
    simp only [List.foldl_cons] at h
    rcases fold_bit l _ h with h1 | ⟨e', h1, h2⟩
    · split at h1
      · rename_i hb
        simp only [Nat.testBit_or, Bool.or_eq_true] at h1
        rcases h1 with (h1 | h1) | h1
        · exact .inl h1
        · refine .inr ⟨e, by simp, hb, .inl ?_⟩
          rw [Nat.testBit_two_pow] at h1; simpa using h1
        · exact .inr ⟨e, by simp, hb, .inr h1⟩
      · exact .inl h1
    · exact .inr ⟨e', by simp [h1], h2⟩

theorem anc_spec {anc : List Nat} (h : ancB ops anc = true) {i j : Nat} {o : Oper} (ho : ops[i]? = some o) (hb : (anc.getD i 0).testBit j = true) :
    ∃ e ∈ o.after, Region.binds .any e = true ∧ (e.on = j ∨ (anc.getD e.on 0).testBit j = true) := by
  have h1 := List.all_eq_true.1 h i (List.mem_range.2 (Array.getElem?_eq_some_iff.1 ho).1)
  simp only [ho, Bool.and_eq_true, beq_iff_eq] at h1
  rw [h1.1, ← Array.foldl_toList] at hb
  rcases fold_bit _ _ hb with h2 | ⟨e, h2, h3⟩
  · simp at h2
  · exact ⟨e, by simpa using h2, h3⟩

theorem anc_lt {anc : List Nat} (h : ancB ops anc = true) {i : Nat} {o : Oper} (ho : ops[i]? = some o) {e : Edge} (he : e ∈ o.after) (hb : Region.binds .any e = true) : e.on < i := by
  have h1 := List.all_eq_true.1 h i (List.mem_range.2 (Array.getElem?_eq_some_iff.1 ho).1)
  simp only [ho, Bool.and_eq_true, beq_iff_eq] at h1
  have := Array.all_eq_true_iff_forall_mem.1 h1.2 e he
  simpa [hb] using this

structure LInv (ops : Array Oper) (L : List (Nat × List Nat)) (listed : Array Bool) : Prop where
  size : listed.size = ops.size
  un : ∀ i, i < ops.size → (listed.getD i true = false ↔ ∃ x ∈ L, x.1 = i)
  closed : ∀ j oj, ops[j]? = some oj → listed.getD j false = true → ∀ e ∈ oj.after, Region.binds .any e = true → listed.getD e.on false = true

theorem anc_listed {anc : List Nat} (h : ancB ops anc = true) {listed : Array Bool} (hcl : ∀ j oj, ops[j]? = some oj → listed.getD j false = true → ∀ e ∈ oj.after, Region.binds .any e = true → listed.getD e.on false = true)
    : ∀ (i j : Nat) (o : Oper), ops[i]? = some o → (anc.getD i 0).testBit j = true → (∀ e ∈ o.after, Region.binds .any e = true → listed.getD e.on false = true) → listed.getD j false = true := by
  intro i
  induction i using Nat.strongRecOn with
  | _ i ih =>
    intro j o ho hb hd
    obtain ⟨e, he, hbn, h1⟩ := anc_spec h ho hb
    have hl := hd e he hbn
    rcases h1 with rfl | h1
    · exact hl
    · have hlt := anc_lt h ho he hbn
      have hin : e.on < ops.size := Nat.lt_trans hlt (Array.getElem?_eq_some_iff.1 ho).1
      exact ih e.on hlt j ops[e.on] (by simp [hin]) h1 (hcl e.on ops[e.on] (by simp [hin]) hl)

theorem getD_bool {listed : Array Bool} {i : Nat} (h : i < listed.size) : listed.getD i true = listed.getD i false := by simp [h]

theorem allPairs_mid {p : Nat × List Nat → Nat × List Nat → Bool} {y : Nat × List Nat} : ∀ {L1 L2 : List (Nat × List Nat)}, allPairs p (L1 ++ y :: L2) = true →
    (∀ x ∈ L1, p x y = true) ∧ allPairs p (L1 ++ L2) = true ∧ allPairs p L1 = true ∧ (∀ x ∈ L2, p y x = true)
  | [], L2, h => by
    simp only [List.nil_append, allPairs, Bool.and_eq_true, List.all_eq_true] at h
    exact ⟨by simp, h.2, rfl, h.1⟩
  | z :: L1, L2, h => by
    simp only [List.cons_append, allPairs, Bool.and_eq_true, List.all_eq_true] at h
    obtain ⟨h1, h2, h3, h4⟩ := allPairs_mid h.2
    refine ⟨?_, ?_, ?_, h4⟩
    · intro x hx
      rcases List.mem_cons.1 hx with rfl | hx
      · exact h.1 y (by simp)
      · exact h1 x hx
    · simp only [List.cons_append, allPairs, Bool.and_eq_true, List.all_eq_true]
      exact ⟨fun x hx => h.1 x (by rcases List.mem_append.1 hx with hx | hx <;> simp [hx]), h2⟩
    · simp only [allPairs, Bool.and_eq_true, List.all_eq_true]
      exact ⟨fun x hx => h.1 x (by simp [hx]), h3⟩

theorem canon_any {anc : List Nat} (ha : ancB ops anc = true) {Q : Exit → Act → World → Prop} {K : Act → World → Prop} (hK : ∀ a w, K a w → Q .normal a w) :
    ∀ (m : Nat) (L : List (Nat × List Nat)) (listed : Array Bool) (a : Act) (w : World), L.length = m → LInv ops L listed → (∀ x ∈ L, x.1 < ops.size) →
    allPairs (pairB P ops anc) L = true → allPairs (pairR P ops) L = true → allPairs (fun x y => x.1 != y.1) L = true → wpC P ops QF K L a w → wpAny P .any ops Q m listed a w := by
  intro m
  induction m with
  | zero =>
    intro L listed a w hl inv hlt hp hr hn h
    have : L = [] := List.eq_nil_of_length_eq_zero hl
    subst this
    refine ⟨?_, hK _ _ h⟩
    rw [List.eq_nil_iff_forall_not_mem]
    intro i hi
    obtain ⟨h1, o, ho, _⟩ := mem_ready.1 hi
    obtain ⟨x, hx, _⟩ := (inv.un i (Array.getElem?_eq_some_iff.1 ho).1).1 h1
    cases hx
  | succ m ih =>
    intro L listed a w hl inv hlt hp hr hn h
    refine ⟨fun hnil => ?_, fun i hi => ?_⟩
    · -- the least operation that is not listed may come up
      exfalso
      have hne : ∃ i, i < ops.size ∧ listed.getD i true = false := by
        cases L with
        | nil => simp at hl
        | cons x r => exact ⟨x.1, hlt x (by simp), (inv.un x.1 (hlt x (by simp))).2 ⟨x, by simp, rfl⟩⟩
      obtain ⟨i, hil, hiu⟩ := hne
      have least : ∀ k, ∀ i, i ≤ k → i < ops.size → listed.getD i true = false → False := by
        intro k
        induction k using Nat.strongRecOn with
        | _ k ihk =>
          intro i hik hil hiu
          have : i ∈ Region.ready .any ops listed := by
            rw [mem_ready]
            refine ⟨hiu, ops[i], by simp [hil], fun e he hb => ?_⟩
            have hlt' := anc_lt ha (i := i) (o := ops[i]) (by simp [hil]) he hb
            have hs : e.on < listed.size := by rw [inv.size]; omega
            rw [← getD_bool hs]
            cases hv : listed.getD e.on true with
            | true => rfl
            | false => exact (ihk (i - 1) (by omega) e.on (by omega) (by omega) hv).elim
          rw [hnil] at this; cases this
      exact least i i (Nat.le_refl _) hil hiu
    · obtain ⟨hiu, oi, hoi, hdeps⟩ := mem_ready.1 hi
      have hil := (Array.getElem?_eq_some_iff.1 hoi).1
      obtain ⟨x, hx, hxi⟩ := (inv.un i hil).1 hiu
      obtain ⟨L1, L2, rfl⟩ := List.append_of_mem hx
      obtain ⟨i', Fi⟩ := x
      simp only at hxi; subst hxi
      obtain ⟨p1, p2, _, _⟩ := allPairs_mid hp
      obtain ⟨r1, r2, r3, _⟩ := allPairs_mid hr
      obtain ⟨n1, n2, _, n4⟩ := allPairs_mid hn
      have hfirst := front hoi L1 L2 [] a w (K := K) (anc := anc) (fun x hx => ⟨p1 x hx, by
        cases hb : (anc.getD i' 0).testBit x.1 with
        | false => rfl
        | true =>
          have := anc_listed ha inv.closed i' x.1 oi hoi hb hdeps
          have hxl := hlt x (by simp [hx])
          have hu := (inv.un x.1 hxl).2 ⟨x, by simp [hx], rfl⟩
          rw [getD_bool (by rw [inv.size]; exact hxl), this] at hu; cases hu⟩) r3 (fun x hx => by simp [hlt x (by simp [hx])]) (by simp) h
      refine stepC_wpOp (fun a' w' h' => ih (L1 ++ L2) _ a' w' ?_ ?_ ?_ p2 r2 n2 h') hfirst
      · simp at hl ⊢; omega
      · refine ⟨by simp [inv.size], fun k hk => ?_, fun j oj hj hjl e he hb => ?_⟩
        · by_cases hki : i' = k
          · subst hki
            have : (listed.setIfInBounds i' true).getD i' true = true := by simp [show i' < listed.size by rw [inv.size]; exact hil]
            rw [this]
            constructor
            · intro h; cases h
            · rintro ⟨x, hx, hxe⟩
              rcases List.mem_append.1 hx with hx | hx
              · have := n1 x hx; simp [hxe] at this
              · have := n4 x hx; simp [hxe] at this
          · rw [getD_set_ne true hki, inv.un k hk]
            constructor
            · rintro ⟨x, hx, hxe⟩
              rcases List.mem_append.1 hx with hx | hx
              · exact ⟨x, by simp [hx], hxe⟩
              · rcases List.mem_cons.1 hx with rfl | hx
                · exact absurd hxe hki
                · exact ⟨x, by simp [hx], hxe⟩
            · rintro ⟨x, hx, hxe⟩
              rcases List.mem_append.1 hx with hx | hx
              · exact ⟨x, by simp [hx], hxe⟩
              · exact ⟨x, by simp [hx], hxe⟩
        · by_cases hji : i' = j
          · subst hji
            have : oj = oi := Option.some.inj (hj.symm.trans hoi)
            subst this
            exact getD_set_true (hdeps e he hb)
          · rw [getD_set_ne false hji] at hjl
            exact getD_set_true (inv.closed j oj hj hjl e he hb)
      · intro x hx
        rcases List.mem_append.1 hx with hx | hx
        · exact hlt x (by simp [hx])
        · exact hlt x (by simp [hx])

/-- A REGION THAT DRAWS ITS ORDER: what one order gives, all give. -/
theorem wp_region_canon {id : Nat} {Q : Exit → Act → World → Prop} {K : Act → World → Prop} (hm : P.follows .mixedOrders = true) {anc : List Nat} {L : List (Nat × List Nat)} (hc : canonB P ops anc L = true)
    (hK : ∀ a w, K a w → Q .normal a w) (h : wpC P ops QF K L a { w with drawn := w.drawn + 1 }) : (Code.region id ops true).wp P Q a w := by
  simp only [canonB, Bool.and_eq_true, List.all_eq_true, List.mem_range, decide_eq_true_eq] at hc
  obtain ⟨⟨⟨⟨⟨ha, hp⟩, hr⟩, hall⟩, hn⟩, hlt⟩ := hc
  have hlen : L.length = ops.size := by
    -- every operation once
    have h1 : (L.map (·.1)).Nodup := by
      have : ∀ L : List (Nat × List Nat), allPairs (fun x y => x.1 != y.1) L = true → (L.map (·.1)).Nodup := by
        intro L
        induction L with
        | nil => intro _; simp
        | cons x r ih =>
          intro h
          simp only [allPairs, Bool.and_eq_true, List.all_eq_true] at h
          simp only [List.map_cons, List.nodup_cons, List.mem_map, not_exists, not_and]
          exact ⟨fun y hy he => by have := h.1 y hy; simp [he] at this, ih h.2⟩
      exact this L hn
    have h2 : (L.map (·.1)).Perm (List.range ops.size) := by
      refine (List.perm_ext_iff_of_nodup h1 List.nodup_range).2 fun i => ?_
      simp only [List.mem_map, List.mem_range]
      constructor
      · rintro ⟨x, hx, rfl⟩; exact (hlt x hx).1
      · intro hi
        have := hall i hi
        simp only [List.any_eq_true, beq_iff_eq] at this
        exact this
    have := h2.length_eq
    simpa using this
  refine wp_region_any hm ?_
  rw [← hlen]
  refine canon_any ha hK L.length L _ a _ rfl ⟨by simp [hlen], fun i hi => ?_, fun j oj _ hl => ?_⟩ (fun x hx => (hlt x hx).1) hp hr hn h
  · have h1 : (Array.replicate L.length false).getD i true = false := by simp [hlen, hi]
    rw [h1]
    have := hall i hi
    simp only [List.any_eq_true, beq_iff_eq] at this
    exact ⟨fun _ => this, fun _ => rfl⟩
  · have : (Array.replicate L.length false).getD j false = false := by
      rcases Nat.lt_or_ge j L.length with h | h
      · simp [h]
      · simp [h]
    rw [this] at hl; cases hl
end
end Go.HL
