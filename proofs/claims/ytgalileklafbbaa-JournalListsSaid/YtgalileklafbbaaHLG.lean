/- HLG: code over named slots: what it asks (hw), the program that makes it (dcode), and that a function's contract follows. -/
import Derived.Test.YtgalileklafbbaaHLT
set_option linter.unusedSimpArgs false
set_option linter.unusedVariables false
set_option maxRecDepth 100000
namespace Go.HL
open Go

/-- the statements of a region whose effects stand open: a tree -/
inductive HT where
  | fin
  | run (l : List HS) (t : HT)
  | fork (a b : HT)

inductive HC where
  | reg (l : List HS)
  | draw (l : List HS)
  | drawT (t : HT)
  | seq (a b : HC)
  | cond (c : HE) (a b : HC)
  | block (id : Nat) (c : HC)
  | loop (c : HC)
  | exit (id : Nat)
  | ret
  | skip
  | never

inductive HX where
  | normal
  | exit (id : Nat)
  | ret

def noPanic : List PanicEntry → World → Prop := fun _ _ => False

def seqX (K : Env → World → Prop) (Q : HX → Env → World → Prop) : HX → Env → World → Prop
  | .normal => K
  | e => Q e
def blockX (id : Nat) (Q : HX → Env → World → Prop) : HX → Env → World → Prop
  | .exit i => if i = id then Q .normal else Q (.exit i)
  | e => Q e

/-- what a loop asks: a relation that holds ahead, with a number that each round lowers -/
def hloop (body : (HX → Env → World → Prop) → Env → World → Prop) (Q : HX → Env → World → Prop) (σ : Env) (w : World) : Prop :=
  ∃ (J : Nat → Env → World → Prop) (i : Nat), J i σ w ∧ ∀ i σ w, J i σ w → body (seqX (fun σ' w' => ∃ j, j < i ∧ J j σ' w') Q) σ w

def hcond (v : Value) (A B : Prop) : Prop := ∃ b, v = .bool b ∧ (b = true → A) ∧ (b = false → B)

def hsT (P : Program) (QP : List PanicEntry → World → Prop) (K : Env → World → Prop) : HT → Env → World → Prop
  | .fin => K
  | .run l t => hs P QP (hsT P QP K t) l
  | .fork a b => fun σ w => hsT P QP K a σ w ∧ hsT P QP K b σ w

def hw (P : Program) (QP : List PanicEntry → World → Prop) : HC → (HX → Env → World → Prop) → Env → World → Prop
  | .reg l, Q => hs P QP (Q .normal) l
  | .draw l, Q => fun σ w => hs P noPanic (Q .normal) l σ w.drew
  | .drawT t, Q => fun σ w => hsT P noPanic (Q .normal) t σ w.drew
  | .seq a b, Q => hw P QP a (seqX (hw P QP b Q) Q)
  | .cond c a b, Q => fun σ w => hcond (val σ w c) (hw P QP a Q σ w) (hw P QP b Q σ w)
  | .block id c, Q => hw P QP c (blockX id Q)
  | .loop c, Q => hloop (hw P QP c) Q
  | .exit id, Q => Q (.exit id)
  | .ret, Q => Q .ret
  | .skip, Q => Q .normal
  | .never, _ => fun _ _ => False

/-- the decompiler's plan: for a region's number the order and its certificate -/
structure Plan where
  id : Nat
  anc : List Nat
  L : List (Nat × List Nat)
  T : Option PT

def runT (l : List HS) : HT → HT
  | .run l' t => .run (l ++ l') t
  | t => .run l t

def dtree (P : Program) (ops : Array Oper) (N n : Nat) : DS → PT → Option HT
  | _, .nil => some .fin
  | st, .op i F t =>
    match dstep P ops N n st i F with
    | none => none
    | some (l, st') => (dtree P ops N n st' t).map (runT l)
  | st, .fork a b => match dtree P ops N n st a, dtree P ops N n st b with | some x, some y => some (.fork x y) | _, _ => none

def dcode (P : Program) (N n : Nat) (plans : List Plan) : Code → Option HC
  | .skip => some .skip
  | .region id ops draw =>
    if draw = true then
      match plans.find? fun p => p.id == id with
      | some p =>
        match p.T with
        | none => if canonB P ops p.anc p.L = true then (dlist P ops N n ⟨[], []⟩ p.L).map .draw else none
        | some T => if treeB P ops p.anc T = true then (dtree P ops N n ⟨[], []⟩ T).map .drawT else none
      | none => none
    else (dlist P ops N n ⟨[], []⟩ ((List.range ops.size).map fun i => (i, []))).map .reg
  | .seq a b => match dcode P N n plans a, dcode P N n plans b with | some x, some y => some (.seq x y) | _, _ => none
  | .cond c a b =>
    match exO N [] [] c, dcode P N n plans a, dcode P N n plans b with
    | some c, some x, some y => some (.cond c x y)
    | _, _, _ => none
  | .block id c => (dcode P N n plans c).map (.block id)
  | .loop c => (dcode P N n plans c).map .loop
  | .exit id => some (.exit id)
  | .scope c => dcode P N n plans c
  | .label _ => some .skip
  | .ret => some .ret
  | .refuse _ => some .never
  | _ => none

section
variable {P : Program} {N n : Nat} {D : List Deferred} {QP : List PanicEntry → World → Prop}

structure RelN (N n : Nat) (D : List Deferred) (a : Act) (σ : Env) : Prop where
  size : a.tmps.size = n
  defers : a.defers = D
  slot : ∀ t, N.testBit t = true → a.eval (.tmp t) = σ t

def lift (N n : Nat) (D : List Deferred) (QP : List PanicEntry → World → Prop) (Q : HX → Env → World → Prop) : Exit → Act → World → Prop
  | .normal, a, w => ∃ σ, RelN N n D a σ ∧ Q .normal σ w
  | .exit id, a, w => ∃ σ, RelN N n D a σ ∧ Q (.exit id) σ w
  | .ret, a, w => ∃ σ, RelN N n D a σ ∧ Q .ret σ w
  | .panic c, a, w => a.defers = D ∧ QP c w
  | .goto _, _, _ => False
  | .outgrown, _, _ => False

theorem lift_mono {Q Q' : HX → Env → World → Prop} (h : ∀ x σ w, Q x σ w → Q' x σ w) {e : Exit} {a : Act} {w : World} (hh : lift N n D QP Q e a w) : lift N n D QP Q' e a w := by
  cases e with
  | normal => obtain ⟨σ, r, q⟩ := hh; exact ⟨σ, r, h _ _ _ q⟩
  | exit id => obtain ⟨σ, r, q⟩ := hh; exact ⟨σ, r, h _ _ _ q⟩
  | ret => obtain ⟨σ, r, q⟩ := hh; exact ⟨σ, r, h _ _ _ q⟩
  | panic c => exact hh
  | goto l => exact hh
  | outgrown => exact hh

theorem stepC_op {ops : Array Oper} {Q : Exit → Act → World → Prop} {i : Nat} {K K' : Act → World → Prop} {a : Act} {w : World} (h : ∀ a w, K a w → K' a w) (hh : stepC P ops Q i [] K a w) : wpOp P ops Q i K' a w := by
  unfold stepC at hh
  unfold wpOp
  cases ho : ops[i]? with
  | none => simp [ho] at hh
  | some o =>
    simp only [ho] at hh ⊢
    split at hh
    · rename_i hw; rw [if_pos hw]
      left
      cases hq : resolve P o.op with
      | some q =>
        simp only [hq] at hh
        have hr := resolve_sound (P := P) (ρ := a.eval) (w := w) hq hh.1
        simp only [Oper.wp, hr, Oper.upon]; exact h _ _ hh.2
      | none =>
        simp only [hq] at hh
        exact Oper.wp_mono (fun a w hx => h _ _ hx.2) hh
    · rename_i hw; rw [if_neg hw]; exact h _ _ hh

theorem wpC_ops {ops : Array Oper} {Q : Exit → Act → World → Prop} {K : Act → World → Prop} (hK : ∀ a w, K a w → Q .normal a w) : ∀ (l : List Nat) (a : Act) (w : World),
    wpC P ops Q K (l.map fun i => (i, [])) a w → wpOps P ops Q l a w
  | [], a, w, h => hK _ _ h
  | i :: r, a, w, h => by
    rw [wpOps_cons]
    exact stepC_op (fun a w hx => wpC_ops hK r a w hx) h

theorem hs_app {QP : List PanicEntry → World → Prop} {K : Env → World → Prop} : ∀ (l r : List HS) (σ : Env) (w : World), hs P QP K (l ++ r) σ w = hs P QP (hs P QP K r) l σ w
  | [], _, _, _ => rfl
  | .need e :: l, r, σ, w => by simp only [List.cons_append, hs, hs_app l r]
  | .asg d e :: l, r, σ, w => by simp only [List.cons_append, hs, hs_app l r]
  | .eff d o ty m g stab :: l, r, σ, w => by
    cases g with
    | none => simp only [List.cons_append, hs, hs_app l r]
    | some g => obtain ⟨c, want⟩ := g; simp only [List.cons_append, hs, hs_app l r]

theorem hsT_runT {K : Env → World → Prop} (l : List HS) (t : HT) (σ : Env) (w : World) : hsT P QP K (runT l t) σ w = hs P QP (hsT P QP K t) l σ w := by
  cases t with
  | run l' t => simp only [runT, hsT, hs_app]
  | fin => rfl
  | fork a b => rfl

theorem dtree_sound {ops : Array Oper} {K : Env → World → Prop} {K' : Act → World → Prop}
    (hK : ∀ a' σ' w', a'.tmps.size = n → a'.defers = D → (∀ t, N.testBit t = true → a'.eval (.tmp t) = σ' t) → K σ' w' → K' a' w') :
    ∀ (T : PT) (st : DS) (a : Act) (σ : Env) (w : World) (h : HT), Rel P ops N n D st a σ w → nodupR st.R → dtree P ops N n st T = some h → hsT P noPanic K h σ w → wpT P ops QF K' T a w
  | .nil, st, a, σ, w, h, R, _, hd, H => by
    simp only [dtree, Option.some.injEq] at hd; subst hd
    exact hK a σ w R.size R.defers R.slot H
  | .op i F t, st, a, σ, w, h, R, hn, hd, H => by
    simp only [dtree] at hd
    cases hs : dstep P ops N n st i F with
    | none => simp [hs] at hd
    | some p =>
      obtain ⟨l1, st'⟩ := p
      simp only [hs, Option.map_eq_some_iff] at hd
      obtain ⟨h2, hd2, rfl⟩ := hd
      rw [hsT_runT] at H
      exact dstep_sound (rest := []) (QP := noPanic) (fun _ _ _ _ h => h) R hn hs (by rw [List.append_nil]; exact H) (fun a' σ' w' R' hn' H' => dtree_sound hK t st' a' σ' w' h2 R' hn' hd2 H')
  | .fork x y, st, a, σ, w, h, R, hn, hd, H => by
    simp only [dtree] at hd
    cases hx : dtree P ops N n st x <;> cases hy : dtree P ops N n st y <;> simp only [hx, hy, Option.some.injEq, reduceCtorEq] at hd
    rename_i h1 h2
    subst hd
    exact ⟨dtree_sound hK x st a σ w h1 R hn hx H.1, dtree_sound hK y st a σ w h2 R hn hy H.2⟩

theorem dcode_sound {plans : List Plan} (hm : P.follows .mixedOrders = true) : ∀ (c : Code) (h : HC), dcode P N n plans c = some h → ∀ (Q : HX → Env → World → Prop) (σ : Env) (a : Act) (w : World),
    RelN N n D a σ → hw P QP h Q σ w → c.wp P (lift N n D QP Q) a w := by
  intro c
  induction c with
  | skip => intro h hd Q σ a w R H; simp only [dcode, Option.some.injEq] at hd; subst hd; exact wp_skip ⟨σ, R, H⟩
  | region id ops draw =>
    intro h hd Q σ a w R H
    have R0 : ∀ w, Rel P ops N n D ⟨[], []⟩ a σ w := fun w => ⟨R.size, R.defers, R.slot, by simp, by simp⟩
    have nd : nodupR ([] : List Rd) := by intro r hr; cases hr
    simp only [dcode] at hd
    split at hd
    · rename_i hdr
      subst hdr
      cases hp : plans.find? (fun p => p.id == id) with
      | none => simp [hp] at hd
      | some p =>
        simp only [hp] at hd
        split at hd
        · split at hd
          · rename_i hc
            simp only [Option.map_eq_some_iff] at hd
            obtain ⟨l, hl, rfl⟩ := hd
            refine wp_region_canon (K := lift N n D QP Q .normal) hm hc (fun a w hx => hx) ?_
            exact dlist_sound (QP := noPanic) (K := Q .normal) (fun _ _ _ _ h => h) (fun a' σ' w' h1 h2 h3 h4 => ⟨σ', ⟨h1, h2, h3⟩, h4⟩) p.L ⟨[], []⟩ a σ _ l (R0 _) nd hl H
          · cases hd
        · rename_i T _
          split at hd
          · rename_i hc
            simp only [Option.map_eq_some_iff] at hd
            obtain ⟨l, hl, rfl⟩ := hd
            refine wp_region_tree (K := lift N n D QP Q .normal) hm hc (fun a w hx => hx) ?_
            exact dtree_sound (K := Q .normal) (fun a' σ' w' h1 h2 h3 h4 => ⟨σ', ⟨h1, h2, h3⟩, h4⟩) T ⟨[], []⟩ a σ _ l (R0 _) nd hl H
          · cases hd
    · rename_i hdr
      have : draw = false := by simpa using hdr
      subst this
      simp only [Option.map_eq_some_iff] at hd
      obtain ⟨l, hl, rfl⟩ := hd
      refine wp_region (wpC_ops (K := lift N n D QP Q .normal) (fun a w hx => hx) _ a w ?_)
      exact dlist_sound (QP := QP) (K := Q .normal) (fun c a w h1 h2 => ⟨h1, h2⟩) (fun a' σ' w' h1 h2 h3 h4 => ⟨σ', ⟨h1, h2, h3⟩, h4⟩) _ ⟨[], []⟩ a σ _ l (R0 _) nd hl H
  | seq x y ihx ihy =>
    intro h hd Q σ a w R H
    simp only [dcode] at hd
    cases hx : dcode P N n plans x <;> cases hy : dcode P N n plans y <;> simp only [hx, hy, Option.some.injEq, reduceCtorEq] at hd
    rename_i a' b'
    subst hd
    refine wp_seq (Code.wp_mono (fun e a w hq => ?_) (ihx _ hx (seqX (hw P QP b' Q) Q) σ a w R H))
    cases e with
    | normal => obtain ⟨σ', r, q⟩ := hq; exact ihy _ hy Q σ' a w r q
    | exit id => exact hq
    | ret => exact hq
    | panic c => exact hq
    | goto l => exact hq
    | outgrown => exact hq
  | cond c x y ihx ihy =>
    intro h hd Q σ a w R H
    simp only [dcode] at hd
    cases hc : exO N [] [] c <;> cases hx : dcode P N n plans x <;> cases hy : dcode P N n plans y <;> simp only [hc, hx, hy, Option.some.injEq, reduceCtorEq] at hd
    rename_i c' a' b'
    subst hd
    obtain ⟨t, ht, h1, h2⟩ := H
    have R0 : Rel P #[] N n D ⟨[], []⟩ a σ w := ⟨R.size, R.defers, R.slot, by simp, by simp⟩
    have hv : a.eval c = .bool t := by rw [exO_sound R0 (gs := []) (by simp) hc, ht]
    cases t with
    | true => exact wp_cond_true hv (ihx _ hx Q σ a w R (h1 rfl))
    | false => exact wp_cond_false hv (ihy _ hy Q σ a w R (h2 rfl))
  | block id c ih =>
    intro h hd Q σ a w R H
    simp only [dcode, Option.map_eq_some_iff] at hd
    obtain ⟨c', hc, rfl⟩ := hd
    refine wp_block (Code.wp_mono (fun e a w hq => ?_) (ih _ hc (blockX id Q) σ a w R H))
    cases e with
    | normal => exact hq
    | exit i =>
      simp only [Exit.inBlock]
      obtain ⟨σ', r, q⟩ := hq
      simp only [blockX] at q
      split
      · rename_i he; rw [if_pos he] at q; exact ⟨σ', r, q⟩
      · rename_i he; rw [if_neg he] at q; exact ⟨σ', r, q⟩
    | ret => exact hq
    | panic c => exact hq
    | goto l => exact hq
    | outgrown => exact hq
  | loop c ih =>
    intro h hd Q σ a w R H
    simp only [dcode, Option.map_eq_some_iff] at hd
    obtain ⟨c', hc, rfl⟩ := hd
    obtain ⟨J, i, h0, hstep⟩ := H
    have key : ∀ (k : Nat) (σ : Env) (a : Act) (w : World), RelN N n D a σ → (∃ j, j < k ∧ J j σ w) → Code.rounds P c (lift N n D QP Q) k a w := by
      intro k
      induction k with
      | zero => rintro σ a w _ ⟨j, h, _⟩; omega
      | succ k ihk =>
        rintro σ a w R ⟨j, hj, hJ⟩
        rw [rounds_succ]
        refine Code.wp_mono (fun e a' w' hq => ?_) (ih _ hc _ σ a w R (hstep j σ w hJ))
        cases e with
        | normal =>
          obtain ⟨σ', r, j', q1, q2⟩ := hq
          exact ihk σ' a' w' r ⟨j', by omega, q2⟩
        | exit id => exact hq
        | ret => exact hq
        | panic c => exact hq
        | goto l => exact hq
        | outgrown => exact hq
    exact wp_loop_rounds (i + 1) (key _ σ a w R ⟨i, Nat.lt_succ_self _, h0⟩)
  | exit id => intro h hd Q σ a w R H; simp only [dcode, Option.some.injEq] at hd; subst hd; exact wp_exit ⟨σ, R, H⟩
  | scope c ih =>
    intro h hd Q σ a w R H
    simp only [dcode] at hd
    refine wp_scope_straight (Code.wp_mono (fun e a w hq => ?_) (ih h hd Q σ a w R H))
    cases e with
    | goto l => exact hq
    | normal => exact hq
    | exit id => exact hq
    | ret => exact hq
    | panic c => exact hq
    | outgrown => exact hq
  | label l => intro h hd Q σ a w R H; simp only [dcode, Option.some.injEq] at hd; subst hd; exact wp_label ⟨σ, R, H⟩
  | ret => intro h hd Q σ a w R H; simp only [dcode, Option.some.injEq] at hd; subst hd; exact wp_ret ⟨σ, R, H⟩
  | refuse s => intro h hd Q σ a w R H; simp only [dcode, Option.some.injEq] at hd; subst hd; exact H.elim
  | _ => intro h hd; simp [dcode] at hd

/-! ### a function -/

/-- where a result lies -/
inductive RV where
  | tmp (t : Nat)
  | cell (a : Nat) (f : F1)

def rvOK (P : Program) (N : Nat) : ResultVar → RV → Bool
  | .tmp t, .tmp u => t == u && N.testBit t
  | .cell a t, .cell b f => a == b && N.testBit a && (match aggT P t, szOf P t with | some true, some n => decide (f = .ldn n) | some false, _ => decide (f = .ld) | _, _ => false)
  | _, _ => false

def rvV (σ : Env) (w : World) : RV → Value
  | .tmp t => σ t
  | .cell a f => v1 w f (σ a)
def rvC (σ : Env) (w : World) : RV → Prop
  | .tmp _ => True
  | .cell a f => (∃ p, σ a = .pointer (some p)) ∧ c1 w f (σ a)

def retV (l : List Value) : Value := match l with | [v] => v | l => .tuple l.toArray

def rvCs (σ : Env) (w : World) : List RV → Prop
  | [] => True
  | .tmp _ :: l => rvCs σ w l
  | .cell a f :: l => (∃ p, σ a = .pointer (some p)) ∧ c1 w f (σ a) ∧ rvCs σ w l
theorem rvCs_all {σ : Env} {w : World} : ∀ {rs : List RV}, rvCs σ w rs → ∀ r ∈ rs, rvC σ w r := by
  intro rs
  induction rs with
  | nil => intro _ r hr; cases hr
  | cons x l ih =>
    intro h r hr
    cases x with
    | tmp t =>
      rcases List.mem_cons.1 hr with rfl | hr
      · trivial
      · exact ih h r hr
    | cell a f =>
      rcases List.mem_cons.1 hr with rfl | hr
      · exact ⟨h.1, h.2.1⟩
      · exact ih h.2.2 r hr

/-- what the function's end asks -/
def endX (rs : List RV) (R : Ending → World → Prop) : HX → Env → World → Prop
  | .normal, σ, w => rvCs σ w rs ∧ R (.returned (retV (rs.map (rvV σ w)))) w
  | .ret, σ, w => rvCs σ w rs ∧ R (.returned (retV (rs.map (rvV σ w)))) w
  | .exit _, _, _ => False

def zipOK (P : Program) (N : Nat) : List ResultVar → List RV → Bool
  | [], [] => true
  | x :: l, y :: r => rvOK P N x y && zipOK P N l r
  | _, _ => false

def rvS (tmps : Array Value) : ResultVar → Sem Value
  | .tmp t => pure (tmps.getD t undef)
  | .cell a t => do loadVar t (← asAddr (tmps.getD a undef))

theorem run_rv {a : Act} {σ : Env} {w : World} (R : RelN N n D a σ) (x : ResultVar) (y : RV) (h1 : rvOK P N x y = true) (hcy : rvC σ w y) : (rvS a.tmps x).run P w = .ok (rvV σ w y) w := by
  cases x <;> cases y <;> simp only [rvOK, Bool.and_eq_true, beq_iff_eq, Bool.false_eq_true] at h1
  · obtain ⟨rfl, hb⟩ := h1
    have := R.slot _ hb
    simp only [Act.eval] at this
    simp only [rvS, Sem.run_pure, rvV, this]
  · obtain ⟨⟨rfl, hb⟩, hf⟩ := h1
    obtain ⟨⟨p, hp⟩, hcc⟩ := hcy
    have hs := R.slot _ hb
    simp only [Act.eval] at hs
    rename_i b t f
    rw [hp] at hs
    simp only [rvS, hs, asAddr, rvV, hp]
    have hq : resolve P (.load t (.const (.pointer (some p)))) = some (.q1 f (.const (.pointer (some p)))) := by
      simp only [resolve]
      cases ha : aggT P t with
      | none => simp [ha] at hf
      | some b =>
        cases hz : szOf P t with
        | none => cases b <;> simp [ha, hz] at hf; simp [hf]
        | some m => cases b <;> simp [ha, hz] at hf <;> simp [hf]
    have := s_load (P := P) (ρ := fun x => match x with | .const v => v | _ => undef) (w := w) hq (by rw [hp] at hcc; exact hcc)
    simpa [Instr.loadAt, Instr.sureAddr, qval] using this

theorem run_rvs {a : Act} {σ : Env} {w : World} (R : RelN N n D a σ) : ∀ (l : List ResultVar) (rs : List RV), zipOK P N l rs = true → (∀ r ∈ rs, rvC σ w r) →
    (l.mapM (rvS a.tmps)).run P w = .ok (rs.map (rvV σ w)) w
  | [], [], _, _ => rfl
  | x :: l, y :: r, h, hc => by
    simp only [zipOK, Bool.and_eq_true] at h
    have ih := run_rvs R l r h.2 (fun r hr => hc r (by simp [hr]))
    have hx := run_rv (P := P) R x y h.1 (hc y (by simp))
    simp only [List.mapM_cons, Sem.run_bind, hx, Result.andThen_ok, ih, Sem.run_pure, List.map_cons]
  | [], _ :: _, h, _ => by simp [zipOK] at h
  | _ :: _, [], h, _ => by simp [zipOK] at h

theorem run_results {fn : Func} {a : Act} {σ : Env} {w : World} (R : RelN N n D a σ) {rs : List RV} (h : zipOK P N fn.results.toList rs = true) (hc : ∀ r ∈ rs, rvC σ w r) :
    (results fn a.tmps).run P w = .ok (retV (rs.map (rvV σ w))) w := by
  have h1 := run_rvs (P := P) R fn.results.toList rs h hc
  have h2 : (fn.results.mapM (rvS a.tmps)).run P w = .ok (rs.map (rvV σ w)).toArray w := by
    rw [← Array.toArray_toList (xs := fn.results), List.mapM_toArray]
    simp only [Sem.run_map, Sem.run_bind, h1, Result.andThen_ok]
  have h3 : results fn a.tmps = (do let vs ← fn.results.mapM (rvS a.tmps); pure (if h : vs.size = 1 then vs[0] else .tuple vs) : Sem Value) := by
    unfold results
    congr 1
  rw [h3]
  simp only [Sem.run_bind, h2, Result.andThen_ok, Sem.run_pure]
  congr 1
  unfold retV
  cases hl : rs.map (rvV σ w) with
  | nil => simp
  | cons v r =>
    cases r with
    | nil => simp
    | cons u r => simp

def σ0 (args : List Value) : Env := fun t => args.getD t undef

/-- A FUNCTION'S CONTRACT out of its code over named slots. -/
theorem calls_of_hw {f : FuncId} {fn : Func} {c : Code} {h : HC} {plans : List Plan} {rs : List RV} {args : List Value} {w : World} {R : Ending → World → Prop} (N : Nat)
    (hf : P.funcs[f]? = some fn) (hb : fn.body = some c) (hm : P.follows .mixedOrders = true) (hd : dcode P N fn.ntmps plans c = some h) (hr : zipOK P N fn.results.toList rs = true) (hn : args.length ≤ fn.ntmps)
    (H : hw P (fun ch w' => R (.panicked ch) w') h (endX rs R) (σ0 args) w) : Calls P f args.toArray w R := by
  refine calls_of_wp hf hb ?_
  have R0 : RelN N fn.ntmps [] { tmps := args.toArray ++ Array.replicate (fn.ntmps - args.toArray.size) undef, defers := [] } (σ0 args) := by
    refine ⟨by simp; omega, rfl, fun t _ => ?_⟩
    simp only [Act.eval, σ0]
    rcases Nat.lt_or_ge t args.length with ht | ht
    · simp [Array.getD_eq_getD_getElem?, Array.getElem?_append, ht]
    · simp only [Array.getD_eq_getD_getElem?, Array.getElem?_append, List.size_toArray, Array.getElem?_replicate]
      rw [if_neg (by omega)]
      simp [List.getD_eq_getElem?_getD, List.getElem?_eq_none ht]
      split <;> simp
  refine Code.wp_mono (fun e a w hq => ?_) (dcode_sound (D := []) hm c h hd (endX rs R) (σ0 args) _ w R0 H)
  cases e with
  | normal => obtain ⟨σ, r, hc, q⟩ := hq; exact ⟨r.defers, _, run_results r hr (rvCs_all hc), q⟩
  | ret => obtain ⟨σ, r, hc, q⟩ := hq; exact ⟨r.defers, _, run_results r hr (rvCs_all hc), q⟩
  | exit id => obtain ⟨σ, r, q⟩ := hq; exact q.elim
  | panic c => exact hq
  | goto l => exact hq
  | outgrown => exact hq.elim
end
end Go.HL

namespace Go.HL
open Go
/-- a function's code over named slots, where everything that its contract needs has been looked at -/
def fnOK (P : Program) (N : Nat) (plans : List Plan) (rs : List RV) (na : Nat) (fn : Func) : Option HC :=
  match fn.body with
  | some c => if (zipOK P N fn.results.toList rs && decide (na ≤ fn.ntmps)) = true then dcode P N fn.ntmps plans c else none
  | none => none

theorem calls_of_fn {P : Program} {f : FuncId} {fn : Func} {h : HC} {N : Nat} {plans : List Plan} {rs : List RV} {na : Nat} (hf : P.funcs[f]? = some fn) (hm : P.follows .mixedOrders = true)
    (hk : fnOK P N plans rs na fn = some h) (args : List Value) (ha : args.length = na) {w : World} {R : Ending → World → Prop}
    (H : hw P (fun ch w' => R (.panicked ch) w') h (endX rs R) (σ0 args) w) : Calls P f args.toArray w R := by
  unfold fnOK at hk
  cases hb : fn.body with
  | none => simp [hb] at hk
  | some c =>
    simp only [hb] at hk
    split at hk
    · rename_i hc
      simp only [Bool.and_eq_true, decide_eq_true_eq] at hc
      exact calls_of_hw N hf hb hm hk hc.1 (by omega) H
    · cases hk
end Go.HL
