/- DA: the disk as a plain value: what its calls do. -/
import Derived.Test.YtgalileklafbbaaHLK
set_option linter.unusedSimpArgs false
set_option linter.unusedVariables false
set_option maxRecDepth 100000
namespace Go.Proofs.Y
open Go Go.HL

abbrev Bytes := List UInt8

structure Pd where
  file : Nat
  at_ : Nat
  bytes : Bytes

structure Dk where
  lasts : List Bytes
  files : List Bytes
  queue : List Pd
  lost : Nat
  down : Bool
  armed : Nat
  keep : List Int

def Pd.cells (p : Pd) : List Value := [.int .i64 p.file, .int .i64 p.at_, str p.bytes]
theorem Pd.cells_len (p : Pd) : p.cells.length = 3 := rfl

def ints (l : List Int) : List Value := l.map fun i => .int .i64 i
theorem ints_len (l : List Int) : (ints l).length = l.length := by simp [ints]

/-- bytes laid into a string -/
def put (s : Bytes) (o : Nat) (t : Bytes) : Bytes := lay (s ++ List.replicate (max s.length (o + t.length) - s.length) 0) o t
theorem put_len (s : Bytes) (o : Nat) (t : Bytes) : (put s o t).length = max s.length (o + t.length) := by
  unfold put; rw [lay_len] <;> simp <;> omega

def isF (f : Int) : Bool := decide (0 ≤ f) && decide (f < 12)

namespace Dk
def may (d : Dk) (l : List Int) : Int := if d.down then 8 else if l.all isF then 0 else 1
/-- whether the call ends in the crash, and what is counted -/
def ends (d : Dk) : Bool := !d.down && decide (d.armed = 1)
def tick (d : Dk) : Dk := if d.down || decide (d.armed = 0) then d else { d with armed := d.armed - 1 }
end Dk

def kept (k : Option Int) (b : Bytes) : Option Bytes :=
  match k with
  | none => none
  | some k => if k = 1 then some b else if k = 2 then some (b.take 24) else none

def surv (lasts : List Bytes) (p : Pd) (k : Option Int) : List Bytes :=
  match kept k p.bytes with
  | none => lasts
  | some b => lasts.set p.file (put (lasts.getD p.file []) p.at_ b)

def survs : List Bytes → List Pd → List Int → List Bytes
  | lasts, [], _ => lasts
  | lasts, p :: q, ks => survs (surv lasts p ks[0]?) q ks.tail

theorem surv_len (lasts : List Bytes) (p : Pd) (k : Option Int) : (surv lasts p k).length = lasts.length := by
  unfold surv; split <;> simp
theorem survs_len : ∀ (q : List Pd) (lasts : List Bytes) (ks : List Int), (survs lasts q ks).length = lasts.length
  | [], _, _ => rfl
  | p :: q, lasts, ks => by simp only [survs, survs_len q, surv_len]
theorem survs_snoc : ∀ (q : List Pd) (lasts : List Bytes) (ks : List Int) (p : Pd), survs lasts (q ++ [p]) ks = surv (survs lasts q ks) p ks[q.length]?
  | [], _, _, _ => by simp [survs]
  | x :: q, lasts, ks, p => by
    simp only [List.cons_append, survs, survs_snoc q, List.length_cons]
    congr 1
    cases ks <;> simp

def piece (n a : Nat) : Nat := min n (64 - a % 64)

def pieces (f : Nat) : Nat → Nat → Bytes → List Pd
  | 0, _, _ => []
  | fuel + 1, a, s => if s = [] then [] else ⟨f, a, s.take (piece s.length a)⟩ :: pieces f fuel (a + piece s.length a) (s.drop (piece s.length a))

theorem piece_pos {n a : Nat} (h : 0 < n) : 0 < piece n a := by unfold piece; omega
theorem piece_le {n a : Nat} : piece n a ≤ n := by unfold piece; omega

namespace Dk
def file (d : Dk) (f : Nat) : Bytes := d.files.getD f []
def last (d : Dk) (f : Nat) : Bytes := d.lasts.getD f []

def crash (d : Dk) (ks : List Int) : Dk :=
  if d.down then d else
    let l := survs d.lasts d.queue ks
    { d with lasts := l, files := l, queue := [], down := true, armed := 0 }

/-- the error that prevents a write, or what it does -/
def writeE (d : Dk) (f a : Int) (s : Bytes) : Int :=
  if d.may [f] ≠ 0 then d.may [f]
  else if a < 0 then 1
  else if 16777216 < a ∨ 16777216 - a < s.length then 6
  else 0
def writeD (d : Dk) (f a : Int) (s : Bytes) : Dk :=
  if d.writeE f a s ≠ 0 ∨ s = [] then d
  else { d with files := d.files.set f.toNat (put (d.file f.toNat) a.toNat s), queue := d.queue ++ pieces f.toNat s.length a.toNat s }

def endW (e : Bool) (d : Dk) : Dk := if e then d.crash d.keep else d

def write (d : Dk) (f a : Int) (s : Bytes) : Dk := endW d.ends (d.tick.writeD f a s)
def writeR (d : Dk) (f a : Int) (s : Bytes) : Int := if d.ends then 8 else d.tick.writeE f a s

/-- the end of a call that the scheduled crash comes ahead of -/
def pre (d : Dk) : Dk := endW d.ends d.tick

def settle (d : Dk) (f : Nat) (s : Bytes) : Dk :=
  { d with lasts := d.lasts.set f s, files := d.files.set f s, queue := d.queue.filter fun p => !decide (p.file = f) }

def flush (d0 : Dk) (f : Int) : Dk :=
  let d := d0.pre
  if d.may [f] ≠ 0 then d
  else if 0 < d.lost then { d with lost := d.lost - 1 }
  else d.settle f.toNat (d.file f.toNat)
def flushR (d0 : Dk) (f : Int) : Int :=
  let d := d0.pre
  if d.may [f] ≠ 0 then d.may [f] else if 0 < d.lost then 9 else 0

def size (d : Dk) (f : Int) : Nat := if isF f then (d.file f.toNat).length else 0

def cut (d0 : Dk) (f n : Int) : Dk :=
  let d := d0.pre
  if d.may [f] ≠ 0 then d
  else if n < 0 ∨ d.size f < n then d
  else d.settle f.toNat ((d.file f.toNat).take n.toNat)
def cutR (d0 : Dk) (f n : Int) : Int :=
  let d := d0.pre
  if d.may [f] ≠ 0 then d.may [f] else if n < 0 ∨ d.size f < n then 1 else 0

def pends (d : Dk) (g : Int) : Bool := d.queue.any fun p => decide ((p.file : Int) = g)

def turn (d0 : Dk) (f g : Int) : Dk :=
  let d := d0.pre
  if d.may [f, g] ≠ 0 then d
  else if f = g then d
  else if d.pends g then d
  else (d.settle f.toNat (d.last g.toNat)).settle g.toNat []
def turnR (d0 : Dk) (f g : Int) : Int :=
  let d := d0.pre
  if d.may [f, g] ≠ 0 then d.may [f, g] else if f = g then 1 else if d.pends g then 7 else 0

def read (d : Dk) (f : Int) : Bytes := if d.may [f] ≠ 0 then [] else d.file f.toNat

def new : Dk := ⟨List.replicate 12 [], List.replicate 12 [], [], 0, false, 0, []⟩
def arm (d : Dk) (n : Int) (keep : List Int) : Dk := { d with armed := n.toNat, keep := keep }
def lose (d : Dk) (n : Int) : Dk := { d with lost := n.toNat }
def start (d : Dk) : Dk := { d with down := false }

/-- what holds of every disk -/
structure OK (d : Dk) : Prop where
  nl : d.lasts.length = 12
  nf : d.files.length = 12
  bl : ∀ s ∈ d.lasts, s.length ≤ 16777216
  bf : ∀ s ∈ d.files, s.length ≤ 16777216
  bq : ∀ p ∈ d.queue, p.file < 12 ∧ p.at_ + p.bytes.length ≤ 16777216
  lost : d.lost ≤ 9223372036854775807
  armed : d.armed ≤ 9223372036854775807

def cells (d : Dk) (qv kv : Value) : List Value := d.lasts.map str ++ (d.files.map str ++ [qv, .int .i64 d.lost, .bool d.down, .int .i64 d.armed, kv])
end Dk

section cells
variable {d : Dk} {qv kv : Value}
theorem cells_len (h1 : d.lasts.length = 12) (h2 : d.files.length = 12) : (d.cells qv kv).length = 29 := by simp [Dk.cells, h1, h2]
theorem cells_last (h1 : d.lasts.length = 12) {f : Nat} (hf : f < 12) : (d.cells qv kv)[f]? = some (str (d.last f)) := by
  unfold Dk.cells
  rw [List.getElem?_append_left (by simp; omega)]
  simp [Dk.last, h1, hf]
theorem cells_file (h1 : d.lasts.length = 12) (h2 : d.files.length = 12) {f : Nat} (hf : f < 12) : (d.cells qv kv)[12 + f]? = some (str (d.file f)) := by
  unfold Dk.cells
  rw [List.getElem?_append_right (by simp; omega), List.getElem?_append_left (by simp; omega)]
  simp [Dk.file, h1, h2, hf]
theorem cells_tail (h1 : d.lasts.length = 12) (h2 : d.files.length = 12) (i : Nat) : (d.cells qv kv)[24 + i]? = [qv, .int .i64 d.lost, .bool d.down, .int .i64 d.armed, kv][i]? := by
  unfold Dk.cells
  rw [List.getElem?_append_right (by simp; omega), List.getElem?_append_right (by simp; omega)]
  simp [h1, h2]; congr 1; omega
theorem cells_set_last (h1 : d.lasts.length = 12) {f : Nat} (hf : f < 12) (s : Bytes) : (d.cells qv kv).set f (str s) = { d with lasts := d.lasts.set f s }.cells qv kv := by
  unfold Dk.cells
  rw [List.set_append_left _ _ (by simp; omega)]
  simp [List.map_set]
theorem cells_set_file (h1 : d.lasts.length = 12) (h2 : d.files.length = 12) {f : Nat} (hf : f < 12) (s : Bytes) : (d.cells qv kv).set (12 + f) (str s) = { d with files := d.files.set f s }.cells qv kv := by
  unfold Dk.cells
  rw [List.set_append_right _ _ (by simp; omega), List.set_append_left _ _ (by simp; omega)]
  simp [List.map_set, h1]
theorem cells_set_tail (h1 : d.lasts.length = 12) (h2 : d.files.length = 12) (i : Nat) (v : Value) : (d.cells qv kv).set (24 + i) v = d.lasts.map str ++ (d.files.map str ++ [qv, .int .i64 d.lost, .bool d.down, .int .i64 d.armed, kv].set i v) := by
  unfold Dk.cells
  rw [List.set_append_right _ _ (by simp; omega), List.set_append_right _ _ (by simp; omega)]
  simp [h1, h2]; congr 1; omega
end cells
end Go.Proofs.Y
