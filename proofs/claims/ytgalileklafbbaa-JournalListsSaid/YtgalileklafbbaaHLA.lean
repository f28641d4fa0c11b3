/- HLA: expressions over named slots, the quiet operations resolved against the program's type table, and that a resolved operation runs as its value says. -/
import Derived.WalkKit
set_option linter.unusedSimpArgs false
set_option linter.unusedVariables false
set_option maxRecDepth 100000
namespace Go.HL

abbrev Env := Nat → Value
def upd (σ : Env) (d : Nat) (v : Value) : Env := fun t => if t = d then v else σ t

def isB (want : Bool) : Value → Bool
  | .bool b => b == want
  | _ => false

def toI : Value → Int
  | .int _ n => n
  | _ => 0

inductive F1 where
  | nilchk | lens | lensl | capsl | bnot | neg | xor | conv (k : IntKind) | same | faddr (off : Nat) | fld (off n : Nat) (agg : Bool)
  | ld | ldn (n : Nat) | ext (i : Nat) | mkif (t : TypeId) | kint (n : Nat)
  deriving DecidableEq, Repr

inductive F2 where
  | bin (op : BinOp) | sbin (op : BinOp) | beq (neg : Bool) | slnil (neg : Bool) | pnil (neg : Bool) | mpnil (neg : Bool) | idxs | idxa (len n : Nat) (agg : Bool)
  | iaddr (sz : Nat) | iaddra (len sz : Nat) | mn | mx | put (off n : Nat) | capt | capf
  deriving DecidableEq, Repr

inductive F3 where
  | pick | sls (lo hi : Bool) | slv (sz : Nat) (lo hi : Bool)
  deriving DecidableEq, Repr

/-- quiet operations that read memory -/
def F1.reads : F1 → Bool
  | .ld | .ldn _ => true
  | _ => false

def loadN (w : World) (a : Addr) (n : Nat) : Array Value := ((List.range n).map fun i => (w.cell? (a.add i)).getD undef).toArray

def v1 (w : World) : F1 → Value → Value
  | .nilchk, v => v
  | .lens, .string s => goInt s.size
  | .lensl, .slice _ n _ => goInt n
  | .capsl, .slice _ _ n => goInt n
  | .bnot, .bool b => .bool !b
  | .neg, .int k n => .int k (k.wrap (0 - n))
  | .xor, .int k n => .int k (k.wrap (BitVec.ofInt k.bits (if k.signed then -1 else k.max) ^^^ BitVec.ofInt k.bits n).toNat)
  | .conv k, .int _ n => .int k (k.wrap n)
  | .same, v => v
  | .faddr off, .pointer (some a) => .pointer (some (a.add off))
  | .fld off n agg, .agg cs => if agg then .agg (cs.extract off (off + n)) else (cs[off]?).getD undef
  | .ld, .pointer (some a) => (w.cell? a).getD undef
  | .ldn n, .pointer (some a) => .agg (loadN w a n)
  | .ext i, .tuple vs => (vs[i]?).getD undef
  | .mkif t, v => .iface t v
  | .kint n, _ => goInt n
  | _, _ => undef

def c1 (w : World) : F1 → Value → Prop
  | .nilchk, .pointer (some _) => True
  | .nilchk, .iface _ _ => True
  | .nilchk, .func (.func _) _ _ => True
  | .lens, .string _ => True
  | .lensl, .slice _ _ _ => True
  | .capsl, .slice _ _ _ => True
  | .bnot, .bool _ => True
  | .neg, .int _ _ => True
  | .xor, .int _ _ => True
  | .conv _, .int _ _ => True
  | .same, .string _ => True
  | .faddr _, .pointer (some _) => True
  | .fld off _ agg, .agg cs => agg = true ∨ off < cs.size
  | .ld, .pointer (some a) => (w.cell? a).isSome = true
  | .ldn n, .pointer (some a) => ∀ i, i < n → (w.cell? (a.add i)).isSome = true
  | .ext i, .tuple vs => i < vs.size
  | .mkif _, _ => True
  | .kint _, _ => True
  | _, _ => False

def intV (op : BinOp) (k : IntKind) (a b : Int) : Value :=
  match op with
  | .add => .int k (k.wrap (a + b))
  | .sub => .int k (k.wrap (a - b))
  | .mul => .int k (k.wrap (a * b))
  | .quo => .int k (k.wrap (a.tdiv b))
  | .rem => .int k (a.tmod b)
  | .and => .int k (k.wrap (BitVec.ofInt k.bits a &&& BitVec.ofInt k.bits b).toNat)
  | .or => .int k (k.wrap (BitVec.ofInt k.bits a ||| BitVec.ofInt k.bits b).toNat)
  | .xor => .int k (k.wrap (BitVec.ofInt k.bits a ^^^ BitVec.ofInt k.bits b).toNat)
  | .andNot => .int k (k.wrap (BitVec.ofInt k.bits a &&& ~~~BitVec.ofInt k.bits b).toNat)
  | .shl => .int k (k.wrap (a * 2 ^ (min b.toNat k.bits)))
  | .shr => .int k (a.fdiv (2 ^ (min b.toNat k.bits)))
  | .eql => .bool (a == b)
  | .neq => .bool (a != b)
  | .lss => .bool (a < b)
  | .leq => .bool (a ≤ b)
  | .gtr => .bool (a > b)
  | .geq => .bool (a ≥ b)

def intC (op : BinOp) (k k' : IntKind) (b : Int) : Prop :=
  match op with
  | .shl | .shr => 0 ≤ b
  | .quo | .rem => k = k' ∧ b ≠ 0
  | _ => k = k'

def strV (op : BinOp) (x y : ByteArray) : Value :=
  match op with
  | .add => .string (x ++ y)
  | .eql => .bool (x.toList == y.toList)
  | .neq => .bool !(x.toList == y.toList)
  | .lss => .bool (Op.bytesLess x.toList y.toList)
  | .leq => .bool (Op.bytesLess x.toList y.toList || x.toList == y.toList)
  | .gtr => .bool !(Op.bytesLess x.toList y.toList || x.toList == y.toList)
  | .geq => .bool !(Op.bytesLess x.toList y.toList)
  | _ => undef

def strC (op : BinOp) (x y : ByteArray) : Prop :=
  match op with
  | .add => ((x.size + y.size : Nat) : Int) ≤ 9223372036854775807
  | .eql | .neq | .lss | .leq | .gtr | .geq => True
  | _ => False

def putCells (off : Nat) (cs v : Array Value) : Array Value := v.zipIdx.foldl (fun cs (c, j) => cs.setIfInBounds (off + j) c) cs

def v2 : F2 → Value → Value → Value
  | .bin op, .int k a, .int _ b => intV op k a b
  | .sbin op, .string a, .string b => strV op a b
  | .beq neg, .bool a, .bool b => .bool ((a == b) != neg)
  | .slnil neg, .slice a _ _, .slice none _ _ => .bool (a.isNone != neg)
  | .slnil neg, .slice none _ _, .slice b _ _ => .bool (b.isNone != neg)
  | .pnil neg, .pointer a, .pointer none => .bool (a.isNone != neg)
  | .pnil neg, .pointer none, .pointer b => .bool (b.isNone != neg)
  | .pnil neg, .pointer (some a), .pointer (some b) => .bool ((a == b) != neg)
  | .mpnil neg, .map a, .map none => .bool (a.isNone != neg)
  | .mpnil neg, .map none, .map b => .bool (b.isNone != neg)
  | .idxs, .string s, .int _ i => .int .u8 ((s[i.toNat]?).getD 0).toNat
  | .idxa _ n agg, .agg cs, .int _ i => if agg then .agg (cs.extract (i.toNat * n) (i.toNat * n + n)) else (cs[i.toNat * n]?).getD undef
  | .iaddr sz, .slice (some a) _ _, .int _ i => .pointer (some (a.add (i.toNat * sz)))
  | .iaddra _ sz, .pointer (some a), .int _ i => .pointer (some (a.add (i.toNat * sz)))
  | .mn, .int k a, .int _ b => .int k (if b < a then b else a)
  | .mx, .int k a, .int _ b => .int k (if b > a then b else a)
  | .put off _, .agg cs, v => .agg (putCells off cs v.cells)
  | .capt, .func fn f c, v => .func fn f (c.push v)
  | .capf, .func fn f c, v => .func fn (f.push v) c
  | _, _, _ => undef

def c2 : F2 → Value → Value → Prop
  | .bin op, .int k _, .int k' b => intC op k k' b
  | .sbin op, .string a, .string b => strC op a b
  | .beq _, .bool _, .bool _ => True
  | .slnil _, .slice _ _ _, .slice none _ _ => True
  | .slnil _, .slice none _ _, .slice _ _ _ => True
  | .pnil _, .pointer _, .pointer none => True
  | .pnil _, .pointer none, .pointer _ => True
  | .pnil _, .pointer (some a), .pointer (some b) => a = b
  | .mpnil _, .map _, .map none => True
  | .mpnil _, .map none, .map _ => True
  | .idxs, .string s, .int _ i => 0 ≤ i ∧ i < s.size
  | .idxa len n agg, .agg cs, .int _ i => 0 ≤ i ∧ i < len ∧ (agg = true ∨ i.toNat * n < cs.size)
  | .iaddr _, .slice (some _) len _, .int _ i => 0 ≤ i ∧ i < len
  | .iaddra len _, .pointer (some _), .int _ i => 0 ≤ i ∧ i < len
  | .mn, .int _ _, .int _ _ => True
  | .mx, .int _ _, .int _ _ => True
  | .put off n, .agg cs, v => v.cells.size = n ∧ off + n ≤ cs.size
  | .capt, .func _ _ _, _ => True
  | .capf, .func _ _ _, _ => True
  | _, _, _ => False

def v3 : F3 → Value → Value → Value → Value
  | .pick, .bool c, a, b => if c then a else b
  | .sls lo hi, .string s, l, h => .string (s.extract (if lo then (toI l).toNat else 0) (if hi then (toI h).toNat else s.size))
  | .slv sz lo hi, .slice a len cap, l, h =>
    let l := if lo then (toI l).toNat else 0
    let h := if hi then (toI h).toNat else len
    .slice (if cap = l then a else a.map (·.add (l * sz))) (h - l) (cap - l)
  | _, _, _, _ => undef

def isI : Value → Bool
  | .int _ _ => true
  | _ => false

def c3 : F3 → Value → Value → Value → Prop
  | .pick, .bool _, _, _ => True
  | .sls lo hi, .string s, l, h =>
    (hi = true → isI h = true ∧ 0 ≤ toI h ∧ toI h ≤ s.size) ∧ (lo = true → isI l = true ∧ 0 ≤ toI l ∧ toI l ≤ (if hi then toI h else s.size))
  | .slv _ lo hi, .slice _ len cap, l, h =>
    (hi = true → isI h = true ∧ 0 ≤ toI h ∧ toI h ≤ cap) ∧ (lo = true → isI l = true ∧ 0 ≤ toI l ∧ toI l ≤ (if hi then toI h else len))
  | _, _, _, _ => False

/-- a quiet operation, resolved -/
inductive Q (α : Type) where
  | mv (x : α)
  | q1 (f : F1) (x : α)
  | q2 (f : F2) (x y : α)
  | q3 (f : F3) (x y z : α)
  | bld (z : Array Value) (parts : List (Nat × Nat × α))
  | clo (fn : Fn) (first caps : List α)

def Q.reads {α : Type} : Q α → Bool
  | .q1 f _ => f.reads
  | _ => false

def bldV (ρ : Operand → Value) (acc : Value) : List (Nat × Nat × Operand) → Value
  | [] => acc
  | (off, n, x) :: r => bldV ρ (v2 (.put off n) acc (ρ x)) r
def bldC (ρ : Operand → Value) (acc : Value) : List (Nat × Nat × Operand) → Prop
  | [] => True
  | (off, n, x) :: r => c2 (.put off n) acc (ρ x) ∧ bldC ρ (v2 (.put off n) acc (ρ x)) r
def pushAll (ρ : Operand → Value) (f : F2) (acc : Value) : List Operand → Value
  | [] => acc
  | x :: r => pushAll ρ f (v2 f acc (ρ x)) r

def qval (ρ : Operand → Value) (w : World) : Q Operand → Value
  | .mv x => ρ x
  | .q1 f x => v1 w f (ρ x)
  | .q2 f x y => v2 f (ρ x) (ρ y)
  | .q3 f x y z => v3 f (ρ x) (ρ y) (ρ z)
  | .bld z parts => bldV ρ (.agg z) parts
  | .clo fn first caps => pushAll ρ .capt (pushAll ρ .capf (.func fn #[] #[]) first) caps

def qchk (ρ : Operand → Value) (w : World) : Q Operand → Prop
  | .mv _ => True
  | .q1 f x => c1 w f (ρ x)
  | .q2 f x y => c2 f (ρ x) (ρ y)
  | .q3 f x y z => c3 f (ρ x) (ρ y) (ρ z)
  | .bld z parts => bldC ρ (.agg z) parts
  | .clo _ _ _ => True

theorem qval_pure {ρ : Operand → Value} {w w' : World} {q : Q Operand} (h : q.reads = false) : qval ρ w q = qval ρ w' q := by
  cases q with
  | q1 f x => cases f <;> first | (simp [Q.reads, F1.reads] at h; done) | (simp only [qval]; cases ρ x <;> first | rfl | (rename_i a; cases a <;> rfl))
  | _ => rfl
theorem qchk_pure {ρ : Operand → Value} {w w' : World} {q : Q Operand} (h : q.reads = false) : qchk ρ w q = qchk ρ w' q := by
  cases q with
  | q1 f x =>
    cases f <;> first | (simp [Q.reads, F1.reads] at h; done) | (simp only [qchk]; cases ρ x <;> first | rfl | (rename_i a; cases a <;> rfl) | (rename_i a b c; cases a <;> rfl))
  | _ => rfl

def optF (ρ : Option Operand) : Operand := ρ.getD (.const undef)

def szOf (P : Program) (t : TypeId) : Option Nat := (P.info? t).map (·.size)
def aggT (P : Program) (t : TypeId) : Option Bool := (P.underlying t).map fun d => match d with | .struct _ | .array _ _ => true | _ => false

def resolve (P : Program) : Op → Option (Q Operand)
  | .move x | .assign x => some (.mv x)
  | .pick c a b => some (.q3 .pick c a b)
  | .nilCheck x => some (.q1 .nilchk x)
  | .binOp op t x y _ =>
    match P.underlying t with
    | some (.int _) => some (.q2 (.bin op) x y)
    | some .string => some (.q2 (.sbin op) x y)
    | some .bool => match op with | .eql => some (.q2 (.beq false) x y) | .neq => some (.q2 (.beq true) x y) | _ => none
    | some (.slice _) => match op with | .eql => some (.q2 (.slnil false) x y) | .neq => some (.q2 (.slnil true) x y) | _ => none
    | some (.pointer e) => match op, (P.info? e).isSome with | .eql, true => some (.q2 (.pnil false) x y) | .neq, true => some (.q2 (.pnil true) x y) | _, _ => none
    | some (.map _ _) => match op with | .eql => some (.q2 (.mpnil false) x y) | .neq => some (.q2 (.mpnil true) x y) | _ => none
    | _ => none
  | .unOp op _ x => match op with | .not => some (.q1 .bnot x) | .neg => some (.q1 .neg x) | .xor => some (.q1 .xor x) | _ => none
  | .convert s d x =>
    match P.underlying s, P.underlying d with
    | some (.int _), some (.int k) => some (.q1 (.conv k) x)
    | some .string, some .string => some (.q1 .same x)
    | _, _ => none
  | .makeInterface t x => match P.underlying t with | some (.interface _) => none | some _ => some (.q1 (.mkif t) x) | none => none
  | .makeFunc fn first caps => some (.clo fn first.toList caps.toList)
  | .build t parts =>
    match (P.info? t).bind (·.zero), P.underlying t with
    | some z, some (.struct fields) =>
      match (fields.toList.mapM fun (f : Field) => (szOf P f.type).map fun n => (f.offset, n) : Option (List (Nat × Nat))) with
      | some places => (parts.toList.mapM fun (p : Nat × Operand) => (places[p.1]?).map fun (q : Nat × Nat) => (q.1, q.2, p.2) : Option (List (Nat × Nat × Operand))).map fun l => .bld z.cells l
      | none => none
    | some z, some (.array _ e) =>
      match szOf P e with
      | some n => some (.bld z.cells (parts.toList.map fun (p : Nat × Operand) => (p.1 * n, n, p.2)))
      | none => none
    | _, _ => none
  | .load t a => match aggT P t, szOf P t with | some true, some n => some (.q1 (.ldn n) a) | some false, _ => some (.q1 .ld a) | _, _ => none
  | .fieldAddr s x f =>
    match P.underlying s with
    | some (.struct fields) => match fields[f]? with
      | some f => match szOf P f.type with | some (_ + 1) => some (.q1 (.faddr f.offset) x) | _ => none
      | none => none
    | _ => none
  | .field t x f =>
    match P.underlying t with
    | some (.struct fields) => match fields[f]? with
      | some f => match aggT P f.type, szOf P f.type with | some ag, some n => some (.q1 (.fld f.offset n ag) x) | _, _ => none
      | none => none
    | _ => none
  | .indexAddr t x i =>
    match P.underlying t with
    | some (.slice e) => (szOf P e).map fun n => .q2 (.iaddr n) x i
    | some (.array len e) => (szOf P e).map fun n => .q2 (.iaddra len n) x i
    | _ => none
  | .index t x i =>
    match P.underlying t with
    | some .string => some (.q2 .idxs x i)
    | some (.array len e) => match aggT P e, szOf P e with | some ag, some n => some (.q2 (.idxa len n ag) x i) | _, _ => none
    | _ => none
  | .slice t x lo hi none =>
    match P.underlying t with
    | some .string => some (.q3 (.sls lo.isSome hi.isSome) x (optF lo) (optF hi))
    | some (.slice e) => (szOf P e).map fun n => .q3 (.slv n lo.isSome hi.isSome) x (optF lo) (optF hi)
    | _ => none
  | .extract t i => some (.q1 (.ext i) t)
  | .call { callee := .builtin .len, args, argTypes } =>
    match args.toList, argTypes.toList with
    | [x], [t] => match P.underlying t with | some .string => some (.q1 .lens x) | some (.slice _) => some (.q1 .lensl x) | some (.array n _) => some (.q1 (.kint n) x) | _ => none
    | _, _ => none
  | .call { callee := .builtin .cap, args, argTypes } =>
    match args.toList, argTypes.toList with
    | [x], [t] => match P.underlying t with | some (.slice _) => some (.q1 .capsl x) | _ => none
    | _, _ => none
  | .call { callee := .builtin .min, args, argTypes := _ } => match args.toList with | [x, y] => some (.q2 .mn x y) | _ => none
  | .call { callee := .builtin .max, args, argTypes := _ } => match args.toList with | [x, y] => some (.q2 .mx x y) | _ => none
  | _ => none
end Go.HL
namespace Go.HL
open Go
/-- a string's value from its bytes -/
def str (l : List UInt8) : Value := .string ⟨l.toArray⟩
end Go.HL
