/- HLC: expression trees, statements, what a statement list asks (hs), and the program that turns a region's operations into statements (decomp). -/
import Derived.Test.YtgalileklafbbaaHLB
set_option linter.unusedSimpArgs false
set_option linter.unusedVariables false
set_option maxRecDepth 100000
namespace Go.HL
open Go

inductive HE where
  | slot (t : Nat)
  | lit (v : Value)
  | n1 (f : F1) (x : HE)
  | n2 (f : F2) (x y : HE)
  | n3 (f : F3) (x y z : HE)
  | gif (c : HE) (want : Bool) (x : HE)

def HE.reads : HE → Bool
  | .slot _ | .lit _ => false
  | .n1 f x => f.reads || x.reads
  | .n2 _ x y => x.reads || y.reads
  | .n3 _ x y z => x.reads || y.reads || z.reads
  | .gif c _ x => c.reads || x.reads

def HE.has (d : Nat) : HE → Bool
  | .slot t => t == d
  | .lit _ => false
  | .n1 _ x => x.has d
  | .n2 _ x y => x.has d || y.has d
  | .n3 _ x y z => x.has d || y.has d || z.has d
  | .gif c _ x => c.has d || x.has d

def val (σ : Env) (w : World) : HE → Value
  | .slot t => σ t
  | .lit v => v
  | .n1 f x => v1 w f (val σ w x)
  | .n2 f x y => v2 f (val σ w x) (val σ w y)
  | .n3 f x y z => v3 f (val σ w x) (val σ w y) (val σ w z)
  | .gif c want x => if isB want (val σ w c) = true then val σ w x else undef

/-- the check of the topmost operation -/
def chk (σ : Env) (w : World) : HE → Prop
  | .slot _ | .lit _ => True
  | .n1 f x => c1 w f (val σ w x)
  | .n2 f x y => c2 f (val σ w x) (val σ w y)
  | .n3 f x y z => c3 f (val σ w x) (val σ w y) (val σ w z)
  | .gif c want x => isB want (val σ w c) = true → chk σ w x

/-- a reader that a schedule may put behind an effect: its guard, what it reads, the operand -/
structure Stab where
  g : Option (HE × Bool)
  f : F1
  x : HE

inductive HS where
  | need (e : HE)
  | asg (d : Nat) (e : HE)
  | eff (d : Option Nat) (o : Op) (ty : TypeId) (m : List (Nat × HE)) (g : Option (HE × Bool)) (stab : List Stab)

def findM (m : List (Nat × HE)) (t : Nat) : Option HE := (m.find? fun p => p.1 == t).map (·.2)

/-- the operands' values in front of an effect -/
def rho (m : List (Nat × HE)) (σ : Env) (w : World) : Operand → Value
  | .tmp t => match findM m t with | some e => val σ w e | none => undef
  | .const v => v
  | .global g => .pointer (some ⟨g, 0, none⟩)
  | .func f => .func (.func f) #[] #[]

def updO (σ : Env) (d : Option Nat) (v : Value) : Env := match d with | some d => upd σ d v | none => σ

def effUpon (P : Program) (next : Value → World → Prop) (QP : List PanicEntry → World → Prop) : Result Next → Prop
  | .ok (.value v) w' => next v w'
  | .ok .skip w' => next undef w'
  | .ok (.enter f args) w' => Calls P f args w' fun e w'' => match e with | .returned v => next v w'' | .panicked c => QP c w'' | .outgrown => False
  | .ok (.row row args) w' => Rows P row args w' next
  | .halt (.panic v) w' => QP [{ v, recovered := false }] w'
  | _ => False

/-- what an effect asks -/
def heff (P : Program) (o : Op) (ty : TypeId) (ρ : Operand → Value) (w : World) (next : Value → World → Prop) (QP : List PanicEntry → World → Prop) : Prop :=
  effUpon P next QP ((execOp ρ { dst := none, op := o, type := ty, pos := "", after := #[], guard := none }).run P w)

def gOn (σ : Env) (w : World) : Option (HE × Bool) → Bool
  | none => true
  | some (c, want) => isB want (val σ w c)

def stabOK (σ : Env) (w w' : World) : List Stab → Prop
  | [] => True
  | s :: l => (gOn σ w s.g = true → c1 w' s.f (val σ w s.x) ∧ v1 w' s.f (val σ w s.x) = v1 w s.f (val σ w s.x)) ∧ stabOK σ w w' l

def hs (P : Program) (QP : List PanicEntry → World → Prop) (K : Env → World → Prop) : List HS → Env → World → Prop
  | [], σ, w => K σ w
  | .need e :: l, σ, w => chk σ w e ∧ hs P QP K l σ w
  | .asg d e :: l, σ, w => hs P QP K l (upd σ d (val σ w e)) w
  | .eff d o ty m g stab :: l, σ, w =>
    match g with
    | none => heff P o ty (rho m σ w) w (fun v w' => stabOK σ w w' stab ∧ hs P QP K l (updO σ d v) w') QP
    | some (c, want) =>
      (isB want (val σ w c) = true → heff P o ty (rho m σ w) w (fun v w' => stabOK σ w w' stab ∧ hs P QP K l (updO σ d v) w') QP) ∧
      (isB want (val σ w c) = false → hs P QP K l (updO σ d undef) w)

/-! ### the decompiler -/

/-- what is known of a temporary: under its guard (a temporary and what it must hold) it holds the expression's value -/
structure Ent where
  t : Nat
  g : Option (Nat × Bool)
  e : HE

/-- a reader that has been carried out: operation j, its guard, what it reads, the operand -/
structure Rd where
  j : Nat
  g : Option (Nat × Bool)
  f : F1
  xo : Operand
  x : HE

structure DS where
  M : List Ent
  R : List Rd

def findE (M : List Ent) (t : Nat) : Option Ent := M.find? fun e => e.t == t

def full (N : Nat) (M : List Ent) : Nat → Nat → Option HE
  | 0, _ => none
  | n + 1, t =>
    match findE M t with
    | some ent =>
      match ent.g with
      | none => some ent.e
      | some (gt, want) => (full N M n gt).map fun c => .gif c want ent.e
    | none => if N.testBit t then some (.slot t) else none

def okG (gs : List (Nat × Bool)) : Option (Nat × Bool) → Bool
  | none => true
  | some g => gs.contains g

/-- an operand's expression where all guards of gs hold -/
def exO (N : Nat) (M : List Ent) (gs : List (Nat × Bool)) : Operand → Option HE
  | .const v => some (.lit v)
  | .global g => some (.lit (.pointer (some ⟨g, 0, none⟩)))
  | .func f => some (.lit (.func (.func f) #[] #[]))
  | .tmp t =>
    match findE M t with
    | some ent => if okG gs ent.g then some ent.e else full N M 40 t
    | none => if N.testBit t then some (.slot t) else none

def putE (acc : HE) : List (Nat × Nat × HE) → HE
  | [] => acc
  | (off, n, x) :: r => putE (.n2 (.put off n) acc x) r
def putNeeds (acc : HE) : List (Nat × Nat × HE) → List HE
  | [] => []
  | (off, n, x) :: r => .n2 (.put off n) acc x :: putNeeds (.n2 (.put off n) acc x) r
def pushE (f : F2) (acc : HE) : List HE → HE
  | [] => acc
  | x :: r => pushE f (.n2 f acc x) r

def exList (N : Nat) (M : List Ent) (gs : List (Nat × Bool)) : List Operand → Option (List HE)
  | [] => some []
  | x :: r => match exO N M gs x, exList N M gs r with | some e, some l => some (e :: l) | _, _ => none
def exParts (N : Nat) (M : List Ent) (gs : List (Nat × Bool)) : List (Nat × Nat × Operand) → Option (List (Nat × Nat × HE))
  | [] => some []
  | (o, n, x) :: r => match exO N M gs x, exParts N M gs r with | some e, some l => some ((o, n, e) :: l) | _, _ => none

def isPick : F3 → Bool
  | .pick => true
  | _ => false

/-- a resolved operation as an expression, and the checks that it owes -/
def toHE (N : Nat) (M : List Ent) (gs : List (Nat × Bool)) : Q Operand → Option (HE × List HE)
  | .mv x => (exO N M gs x).map fun e => (e, [])
  | .q1 f x => (exO N M gs x).map fun e => (.n1 f e, [.n1 f e])
  | .q2 f x y => match exO N M gs x, exO N M gs y with | some a, some b => some (.n2 f a b, [.n2 f a b]) | _, _ => none
  | .q3 f x y z =>
    match f, x with
    | .pick, .tmp c =>
      match exO N M gs x, exO N M ((c, true) :: gs) y, exO N M ((c, false) :: gs) z with
      | some a, some b, some d => some (.n3 f a b d, [.n3 f a b d])
      | _, _, _ => none
    | _, _ =>
      match exO N M gs x, exO N M gs y, exO N M gs z with
      | some a, some b, some c => some (.n3 f a b c, [.n3 f a b c])
      | _, _, _ => none
  | .bld z parts => (exParts N M gs parts).map fun l => (putE (.lit (.agg z)) l, putNeeds (.lit (.agg z)) l)
  | .clo fn first caps =>
    match exList N M gs first, exList N M gs caps with
    | some a, some b => some (pushE .capt (pushE .capf (.lit (.func fn #[] #[])) a) b, [])
    | _, _ => none

def hasG (d : Nat) : Option (Nat × Bool) → Bool
  | none => false
  | some (t, _) => t == d

def isTmp (d : Nat) : Operand → Bool
  | .tmp t => t == d
  | _ => false

/-- slot d is written: what is no longer known -/
def DS.wrote (st : DS) (d : Option Nat) : DS :=
  match d with
  | none => st
  | some d => { M := st.M.filter fun e => !(e.t == d || hasG d e.g || e.e.has d), R := st.R.filter fun r => !(hasG d r.g || isTmp d r.xo || r.x.has d) }

/-- the world has turned -/
def DS.turned (st : DS) (F : List Nat) : DS :=
  { M := st.M.filter fun e => !e.e.reads, R := st.R.filter fun r => !r.x.reads && F.contains r.j }

def guardOf (ops : Array Oper) (o : Oper) : Option (Option (Nat × Bool)) :=
  match o.guard with
  | none => some none
  | some (j, want) => ((ops[j]?).bind (·.dst)).map fun t => some (t, want)

def gList : Option (Nat × Bool) → List (Nat × Bool)
  | none => []
  | some g => [g]

/-- the guard as an expression -/
def gExp (N : Nat) (M : List Ent) : Option (Nat × Bool) → Option (Option (HE × Bool))
  | none => some none
  | some (t, want) => (full N M 40 t).map fun c => some (c, want)

def under (g : Option (HE × Bool)) (e : HE) : HE :=
  match g with
  | none => e
  | some (c, want) => .gif c want e

def opTmps (o : Op) : List Nat := o.operands.toList.filterMap fun | .tmp t => some t | _ => none

def exTmps (N : Nat) (M : List Ent) (gs : List (Nat × Bool)) : List Nat → Option (List (Nat × HE))
  | [] => some []
  | t :: r => match exO N M gs (.tmp t), exTmps N M gs r with | some e, some l => some ((t, e) :: l) | _, _ => none

def stabsOf (N : Nat) (st : DS) : List Nat → Option (List Stab)
  | [] => some []
  | j :: r =>
    match st.R.find? fun x => x.j == j with
    | some rd => match gExp N st.M rd.g, stabsOf N st r with | some g, some l => some (⟨g, rd.f, rd.x⟩ :: l) | _, _ => none
    | none => none

def notSelect : Op → Bool
  | .select _ _ => false
  | .defer _ => false
  | _ => true

def readers (N : Nat) (st : DS) (i : Nat) (g : Option (Nat × Bool)) (f : F1) (x : Operand) : List Rd :=
  if (f.reads && !(st.R.any fun r => r.j == i)) = true then
    match exO N st.M (gList g) x with
    | some ex => [⟨i, g, f, x, ex⟩]
    | none => []
  else []

def readersQ (N : Nat) (st : DS) (i : Nat) (g : Option (Nat × Bool)) : Q Operand → List Rd
  | .q1 f x => readers N st i g f x
  | _ => []

def dstBad (n : Nat) : Option Nat → Bool
  | some d => decide (n ≤ d)
  | none => false
def dstNot (N : Nat) : Option Nat → Bool
  | some d => !N.testBit d
  | none => false

/-- one operation -/
def dstep (P : Program) (ops : Array Oper) (N n : Nat) (st : DS) (i : Nat) (F : List Nat) : Option (List HS × DS) :=
  match ops[i]? with
  | none => none
  | some o =>
    if dstBad n o.dst = true then none else
    match guardOf ops o with
    | none => none
    | some g =>
      match gExp N st.M g with
      | none => none
      | some ge =>
        match resolve P o.op with
        | some q =>
          match toHE N st.M (gList g) q with
          | none => none
          | some (e, needs) =>
            if F.isEmpty = false then none else
              let ns := needs.map fun n => HS.need (under ge n)
              let R' := readersQ N st i g q
              let st1 : DS := { st with R := R' ++ st.R }
              match o.dst with
              | none => some (ns, st1)
              | some d =>
                let st2 := st1.wrote (some d)
                if N.testBit d = true then some (ns ++ [.asg d (under ge e)], st2)
                else if (hasG d g || e.has d) = true then none else some (ns, { st2 with M := ⟨d, g, e⟩ :: st2.M })
        | none =>
          if notSelect o.op = false then none else
          if dstNot N o.dst = true then none else
          match exTmps N st.M (gList g) (opTmps o.op), stabsOf N st F with
          | some m, some stab => some ([.eff o.dst o.op o.type m ge stab], (st.turned F).wrote o.dst)
          | _, _ => none

def dlist (P : Program) (ops : Array Oper) (N n : Nat) : DS → List (Nat × List Nat) → Option (List HS)
  | _, [] => some []
  | st, (i, F) :: r =>
    match dstep P ops N n st i F with
    | none => none
    | some (l, st') => (dlist P ops N n st' r).map fun l' => l ++ l'
end Go.HL
