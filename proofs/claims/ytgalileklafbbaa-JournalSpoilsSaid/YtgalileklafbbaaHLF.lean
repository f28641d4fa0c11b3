/- HLF: a region that draws its order: one order serves for all. -/
import Derived.Test.YtgalileklafbbaaHLA
set_option linter.unusedSimpArgs false
set_option linter.unusedVariables false
set_option maxRecDepth 100000
namespace Go.HL
open Go

def QF : Exit → Act → World → Prop := fun _ _ _ => False

section
variable {P : Program} {ops : Array Oper} {a : Act} {w : World}

theorem wp_some {o : Oper} {K : Act → World → Prop} (h : o.wp P a w K QF) : ∃ a' w' u, K a' w' ∧ a'.tmps = (a.put o.dst u).tmps := by
  unfold Oper.wp at h
  generalize (execOp a.eval o).run P w = r at h
  cases r with
  | ok nx w' =>
    cases nx <;> simp only [Oper.upon] at h
    case value v => exact ⟨_, _, v, h, rfl⟩
    case skip => exact ⟨_, _, undef, h, rfl⟩
    case defer d => exact ⟨_, _, undef, h, by cases o.dst <;> rfl⟩
    case enter f args =>
      obtain ⟨e, w'', fr, he, _⟩ := h []
      cases e with
      | returned v => exact ⟨_, _, v, he, rfl⟩
      | panicked c => exact he.elim
      | outgrown => exact (by obtain ⟨a, w, h⟩ := he; exact h.elim)
    case row row args =>
      obtain ⟨v, w'', h1, _⟩ := h default []
      exact ⟨_, _, v, h1, rfl⟩
  | halt x w' => cases x <;> simp only [Oper.upon] at h; exact h.elim

theorem wp_put_iff {oi oj : Oper} {v : Value} (hap : oi.apart ops oj = true) (hsj : ∀ cs b, oj.op ≠ .select cs b) {K : Act → World → Prop} :
    oj.wp P (a.put oi.dst v) w K QF ↔ oj.wp P a w (fun a' w' => K (a'.put oi.dst v) w') QF := by
  obtain ⟨h1, h2, h3⟩ := Oper.apart_spec hap
  unfold Oper.wp
  rw [execOp_put oj hsj a oi.dst v h1]
  generalize (execOp a.eval oj).run P w = r
  cases r with
  | ok nx w' =>
    cases nx <;> simp only [Oper.upon]
    case value u => rw [Act.put_comm a v u h2]
    case skip => rw [Act.put_comm a v undef h2]
    case defer d => rw [Act.put_defers, Act.put_comm _ v undef h2]
    case enter f args =>
      constructor <;> (intro h; refine Calls.mono h fun e w'' he => ?_; cases e) <;> first | exact he | (simp only [Act.put_comm a v _ h2] at he ⊢; exact he)
    case row row args =>
      constructor <;> (intro h; refine Rows.mono h fun u w'' he => ?_; simp only [Act.put_comm a v _ h2] at he ⊢; exact he)
  | halt x w' => cases x <;> simp only [Oper.upon] <;> rfl

def qops : Q Operand → List Operand
  | .mv x => [x]
  | .q1 _ x => [x]
  | .q2 _ x y => [x, y]
  | .q3 _ x y z => [x, y, z]
  | .bld _ parts => parts.map fun p => p.2.2
  | .clo _ first caps => first ++ caps

theorem bld_congr {ρ ρ' : Operand → Value} : ∀ (l : List (Nat × Nat × Operand)) (acc : Value), (∀ x ∈ l.map (fun p => p.2.2), ρ x = ρ' x) → bldC ρ acc l = bldC ρ' acc l ∧ bldV ρ acc l = bldV ρ' acc l
  | [], _, _ => ⟨rfl, rfl⟩
  | (o, n, x) :: r, acc, h => by
    simp only [List.map_cons, List.mem_cons, forall_eq_or_imp] at h
    simp only [bldC, bldV, h.1, bld_congr r _ h.2, and_self]
theorem push_congr {ρ ρ' : Operand → Value} (f : F2) : ∀ (l : List Operand) (acc : Value), (∀ x ∈ l, ρ x = ρ' x) → pushAll ρ f acc l = pushAll ρ' f acc l
  | [], _, _ => rfl
  | x :: r, acc, h => by
    simp only [List.mem_cons, forall_eq_or_imp] at h
    simp only [pushAll, h.1, push_congr f r _ h.2]

theorem q_congr {ρ ρ' : Operand → Value} {q : Q Operand} (h : ∀ x ∈ qops q, ρ x = ρ' x) : qchk ρ w q = qchk ρ' w q ∧ qval ρ w q = qval ρ' w q := by
  cases q with
  | bld z l => exact bld_congr l _ h
  | clo fn a b =>
    refine ⟨rfl, ?_⟩
    simp only [qval]
    rw [push_congr .capf a _ (fun x hx => h x (List.mem_append_left _ hx)), push_congr .capt b _ (fun x hx => h x (List.mem_append_right _ hx))]
  | _ => simp_all [qops, qchk, qval]

theorem parts_ops {parts : List (Nat × Operand)} {pl : Nat → Option (Nat × Nat)} : ∀ {l : List (Nat × Nat × Operand)}, (parts.mapM fun (p : Nat × Operand) => (pl p.1).map fun (q : Nat × Nat) => (q.1, q.2, p.2)) = some l →
    l.map (fun p => p.2.2) = parts.map (·.2) := by
  induction parts with
  | nil => intro l h; simp at h; subst h; rfl
  | cons p r ih =>
    intro l h
    simp only [List.mapM_cons, Option.bind_eq_bind, Option.bind_eq_some_iff, Option.map_eq_some_iff, Option.pure_def, Option.some.injEq] at h
    obtain ⟨e, ⟨q, hq, rfl⟩, l', hl', rfl⟩ := h
    simp [ih hl']

theorem optF_mem (x : Option Operand) : optF x ∈ x.toArray ∨ ∃ v, optF x = .const v := by cases x <;> simp [optF]

theorem resolve_ops {o : Op} {q : Q Operand} (h : resolve P o = some q) : ∀ x ∈ qops q, x ∈ o.operands ∨ ∃ v, x = .const v := by
  cases o with
  | move x => simp only [resolve, Option.some.injEq] at h; subst h; simp [qops, Op.operands]
  | assign x => simp only [resolve, Option.some.injEq] at h; subst h; simp [qops, Op.operands]
  | pick c a b => simp only [resolve, Option.some.injEq] at h; subst h; simp [qops, Op.operands]
  | nilCheck x => simp only [resolve, Option.some.injEq] at h; subst h; simp [qops, Op.operands]
  | binOp op t x y u =>
    have : ∃ f, q = .q2 f x y := by
      simp only [resolve] at h
      cases hu : P.underlying t with
      | none => simp [hu] at h
      | some d => cases d <;> simp [hu] at h <;> first | exact ⟨_, h.symm⟩ | (cases op <;> simp at h <;> exact ⟨_, h.symm⟩) | (rename_i e; cases he : (P.info? e).isSome <;> cases op <;> simp only [he, reduceCtorEq, Option.some.injEq] at h <;> exact ⟨_, h.symm⟩)
    obtain ⟨f, rfl⟩ := this
    simp [qops, Op.operands]
  | unOp op t x =>
    simp only [resolve] at h
    cases op <;> simp at h <;> subst h <;> simp [qops, Op.operands]
  | convert s d x =>
    simp only [resolve] at h
    split at h <;> simp at h <;> subst h <;> simp [qops, Op.operands]
  | makeInterface t x =>
    simp only [resolve] at h
    split at h <;> simp at h <;> subst h <;> simp [qops, Op.operands]
  | makeFunc fn a b =>
    simp only [resolve, Option.some.injEq] at h; subst h
    intro x hx; simp only [qops, List.mem_append, Array.mem_toList_iff] at hx
    left; simpa [Op.operands] using hx
  | build t parts =>
    intro x hx
    left
    have key : ∀ l z, q = .bld z l → l.map (fun p => p.2.2) = parts.toList.map (·.2) → x ∈ Op.operands (.build t parts) := by
      intro l z hq hl
      subst hq
      simp only [qops, hl] at hx
      simpa [Op.operands] using hx
    simp only [resolve] at h
    cases hz : (P.info? t).bind (·.zero) with
    | none => simp [hz] at h
    | some z =>
      cases hu : P.underlying t with
      | none => simp [hz, hu] at h
      | some d =>
        cases d <;> simp only [hz, hu, reduceCtorEq] at h
        case struct fields =>
          split at h
          · rename_i places hp
            simp only [Option.map_eq_some_iff] at h
            obtain ⟨l, hl', rfl⟩ := h
            exact key _ _ rfl (parts_ops hl')
          · cases h
        case array len e =>
          split at h
          · simp only [Option.some.injEq] at h; subst h
            exact key _ _ rfl (by simp)
          · cases h
  | load t a =>
    simp only [resolve] at h
    split at h <;> simp at h <;> subst h <;> simp [qops, Op.operands]
  | fieldAddr s x f =>
    have : ∃ g, q = .q1 g x := by
      simp only [resolve] at h
      split at h
      · split at h
        · split at h <;> simp at h; exact ⟨_, h.symm⟩
        · cases h
      · cases h
    obtain ⟨g, rfl⟩ := this
    simp [qops, Op.operands]
  | field s x f =>
    have : ∃ g, q = .q1 g x := by
      simp only [resolve] at h
      split at h
      · split at h
        · split at h <;> simp at h; exact ⟨_, h.symm⟩
        · cases h
      · cases h
    obtain ⟨g, rfl⟩ := this
    simp [qops, Op.operands]
  | indexAddr t x i =>
    have : ∃ f, q = .q2 f x i := by
      simp only [resolve] at h
      split at h
      · simp only [Option.map_eq_some_iff] at h; obtain ⟨n, _, rfl⟩ := h; exact ⟨_, rfl⟩
      · simp only [Option.map_eq_some_iff] at h; obtain ⟨n, _, rfl⟩ := h; exact ⟨_, rfl⟩
      · cases h
    obtain ⟨f, rfl⟩ := this
    simp [qops, Op.operands]
  | index t x i =>
    have : ∃ f, q = .q2 f x i := by
      simp only [resolve] at h
      split at h
      · simp only [Option.some.injEq] at h; exact ⟨_, h.symm⟩
      · split at h <;> simp at h; exact ⟨_, h.symm⟩
      · cases h
    obtain ⟨f, rfl⟩ := this
    simp [qops, Op.operands]
  | slice t x lo hi mx =>
    cases mx with
    | some m => simp [resolve] at h
    | none =>
      have : ∃ f, q = .q3 f x (optF lo) (optF hi) := by
        simp only [resolve] at h
        split at h
        · simp only [Option.some.injEq] at h; exact ⟨_, h.symm⟩
        · simp only [Option.map_eq_some_iff] at h; obtain ⟨n, _, rfl⟩ := h; exact ⟨_, rfl⟩
        · cases h
      obtain ⟨f, rfl⟩ := this
      have h1 := optF_mem lo
      have h2 := optF_mem hi
      intro y hy
      simp only [qops, List.mem_cons, List.not_mem_nil, or_false] at hy
      rcases hy with rfl | rfl | rfl
      · left; simp [Op.operands]
      · rcases h1 with h1 | h1
        · left; simp only [Op.operands, Array.mem_append]; exact .inl (.inl (.inr h1))
        · exact .inr h1
      · rcases h2 with h2 | h2
        · left; simp only [Op.operands, Array.mem_append]; exact .inl (.inr h2)
        · exact .inr h2
  | extract x i => simp only [resolve, Option.some.injEq] at h; subst h; simp [qops, Op.operands]
  | call c =>
    obtain ⟨callee, args, ts⟩ := c
    cases callee with
    | builtin b =>
      cases b <;> simp only [resolve, reduceCtorEq] at h
      case len =>
        have : ∃ x f, args.toList = [x] ∧ q = .q1 f x := by
          split at h
          · rename_i x t ha ht
            refine ⟨x, ?_⟩
            split at h <;> simp at h <;> exact ⟨_, ha, h.symm⟩
          · cases h
        obtain ⟨x, f, ha, rfl⟩ := this
        simp [qops, Op.operands, Call.operands, one_list ha]
      case cap =>
        have : ∃ x f, args.toList = [x] ∧ q = .q1 f x := by
          split at h
          · rename_i x t ha ht
            refine ⟨x, ?_⟩
            split at h <;> simp at h <;> exact ⟨_, ha, h.symm⟩
          · cases h
        obtain ⟨x, f, ha, rfl⟩ := this
        simp [qops, Op.operands, Call.operands, one_list ha]
      case min =>
        split at h
        · rename_i x y ha
          simp only [Option.some.injEq] at h; subst h
          simp [qops, Op.operands, Call.operands, two_list ha]
        · cases h
      case max =>
        split at h
        · rename_i x y ha
          simp only [Option.some.injEq] at h; subst h
          simp [qops, Op.operands, Call.operands, two_list ha]
        · cases h
    | value f => simp [resolve] at h
    | invoke r m => simp [resolve] at h
  | _ => simp [resolve] at h

theorem q_put {o : Oper} {q : Q Operand} (hq : resolve P o.op = some q) {d : Option Tmp} {v : Value} (h : ∀ e, d = some e → e ∉ o.looksAt ops) :
    qchk (a.put d v).eval w q = qchk a.eval w q ∧ qval (a.put d v).eval w q = qval a.eval w q := by
  refine q_congr fun x hx => ?_
  rcases resolve_ops hq x hx with hm | ⟨u, rfl⟩
  · exact Act.eval_put fun e he hxe => h e he (by
      subst hxe
      exact List.mem_append_left _ (List.mem_filterMap.2 ⟨.tmp e, by simpa using hm, rfl⟩))
  · rfl

/-! ### swapping neighbours -/

def kind (P : Program) (o : Oper) : Nat := match resolve P o.op with | some q => if q.reads = true then 1 else 0 | none => 2

def notLook (ops : Array Oper) (o x : Oper) : Bool := match x.dst with | some d => !(o.looksAt ops).contains d | none => true

theorem notLook_spec {o x : Oper} (h : notLook ops o x = true) : ∀ e, x.dst = some e → e ∉ o.looksAt ops := by
  intro e he; simp only [notLook, he, Bool.not_eq_true', List.contains_eq_mem, decide_eq_false_iff_not] at h; exact h

/-- (j, Fj) stands before (i, Fi): i may be taken first -/
def swapB (P : Program) (ops : Array Oper) (oj : Oper) (j : Nat) (Fj : List Nat) (oi : Oper) (Fi : List Nat) : Bool :=
  oi.apart ops oj && oj.apart ops oi && notSelect oi.op && notSelect oj.op &&
  match kind P oj, kind P oi with
  | 2, 0 => Fj.all fun k => match ops[k]? with | some ok => notLook ops ok oi | none => false
  | 2, _ => false
  | 1, 2 => Fi.contains j && notLook ops oj oj
  | 0, _ => true
  | 1, _ => true
  | _, _ => false

theorem notSel {o : Oper} (h : notSelect o.op = true) : ∀ cs b, o.op ≠ .select cs b := by intro cs b hc; rw [hc] at h; cases h

theorem keeps_put {k : Nat} {w' : World} {d : Option Tmp} {v : Value} {ok : Oper} (hk : ops[k]? = some ok) (h : ∀ e, d = some e → e ∉ ok.looksAt ops) :
    Keeps P ops k (a.put d v) w w' ↔ Keeps P ops k a w w' := by
  unfold Keeps
  constructor
  · intro H oj q ho hq hw hc
    rw [hk] at ho; obtain rfl := Option.some.inj ho
    have := H ok q hk hq (by rw [wanted_put ok a d v h]; exact hw) (by rw [(q_put hq h).1]; exact hc)
    rw [(q_put hq h).1, (q_put hq h).2, (q_put hq h).2] at this; exact this
  · intro H oj q ho hq hw hc
    rw [hk] at ho; obtain rfl := Option.some.inj ho
    rw [(q_put hq h).1, (q_put hq h).2, (q_put hq h).2]
    exact H ok q hk hq (by rw [wanted_put ok a d v h] at hw; exact hw) (by rw [(q_put hq h).1] at hc; exact hc)

theorem put_tmps {a a' : Act} {d : Option Tmp} {u : Value} (h : a'.tmps = (a.put d u).tmps) : a'.eval = (a.put d u).eval := by
  funext x; cases x <;> simp only [Act.eval, h]

theorem Oper.wp_mono' {o : Oper} {K K' : Act → World → Prop} (h : ∀ a w, K a w → K' a w) (hh : o.wp P a w K QF) : o.wp P a w K' QF := Oper.wp_mono h hh

/-- an effect's outcomes: the frame but for its own temporary, and its defers, as before -/
theorem wp_shape {o : Oper} {K : Act → World → Prop} (h : o.wp P a w K QF) : o.wp P a w (fun a' w' => K a' w' ∧ ∃ u, a'.tmps = (a.put o.dst u).tmps) QF := by
  unfold Oper.wp at *
  generalize (execOp a.eval o).run P w = r at *
  cases r with
  | ok nx w' =>
    cases nx <;> simp only [Oper.upon] at h ⊢
    case value v => exact ⟨h, v, rfl⟩
    case skip => exact ⟨h, undef, rfl⟩
    case defer d => exact ⟨h, undef, by cases o.dst <;> rfl⟩
    case enter f args =>
      refine Calls.mono h fun e w'' he => ?_
      cases e with
      | returned v => exact ⟨he, v, rfl⟩
      | panicked c => exact he
      | outgrown => exact (by obtain ⟨a, w, h⟩ := he; exact h.elim)
    case row row args => exact Rows.mono h fun v w'' he => ⟨he, v, rfl⟩
  | halt x w' => cases x <;> simp only [Oper.upon] at h ⊢; exact h.elim

theorem swap {i j : Nat} {oi oj : Oper} {Fi Fj S : List Nat} (hi : ops[i]? = some oi) (hj : ops[j]? = some oj) (hb : swapB P ops oj j Fj oi Fi = true)
    (hS : ∀ s ∈ S, s ∈ Fi ∧ ∃ os, ops[s]? = some os ∧ notLook ops os oj = true) {K : Act → World → Prop} (h : stepC P ops QF j Fj (stepC P ops QF i Fi K) a w) :
    stepC P ops QF i S (stepC P ops QF j Fj K) a w := by
  simp only [swapB, Bool.and_eq_true] at hb
  obtain ⟨⟨⟨⟨hap, hap'⟩, hsi⟩, hsj⟩, hk⟩ := hb
  obtain ⟨p1, p2, p3⟩ := Oper.apart_spec hap
  have p4 : ∀ d, oj.dst = some d → oi.dst ≠ some d := (Oper.apart_spec hap').2.1
  -- i's view behind j's put and the other way round
  have wi : ∀ u, Region.wanted oi (yielded ops (a.put oj.dst u).tmps) = Region.wanted oi (yielded ops a.tmps) := fun u => wanted_put oi a oj.dst u p3
  have wj : ∀ u, Region.wanted oj (yielded ops (a.put oi.dst u).tmps) = Region.wanted oj (yielded ops a.tmps) := fun u => wanted_put oj a oi.dst u p1
  unfold stepC at h ⊢
  simp only [hi, hj] at h ⊢
  cases hqj : resolve P oj.op with
  | some qj =>
    simp only [hqj] at h
    -- j's value
    have hh : ∃ vj, (Region.wanted oj (yielded ops a.tmps) = true → qchk a.eval w qj ∧ vj = qval a.eval w qj) ∧ (¬ Region.wanted oj (yielded ops a.tmps) = true → vj = undef) ∧
        stepC P ops QF i Fi K (a.put oj.dst vj) w := by
      by_cases hw : Region.wanted oj (yielded ops a.tmps) = true
      · rw [if_pos hw] at h
        exact ⟨_, fun _ => ⟨h.1, rfl⟩, fun hn => absurd hw hn, by unfold stepC; simp only [hi]; exact h.2⟩
      · rw [if_neg hw] at h
        exact ⟨_, fun hn => absurd hn hw, fun _ => rfl, by unfold stepC; simp only [hi]; exact h⟩
    obtain ⟨vj, hv1, hv2, h⟩ := hh
    unfold stepC at h
    simp only [hi] at h
    rw [wi] at h
    -- j behind i, in a world in which it reads the same
    have later : ∀ (a' : Act) (w' : World) (u : Value), a'.tmps = (a.put oi.dst u).tmps → K (a'.put oj.dst vj) w' →
        (Region.wanted oj (yielded ops a.tmps) = true → qchk a.eval w' qj ∧ qval a.eval w' qj = vj) →
        (if Region.wanted oj (yielded ops a'.tmps) = true then qchk a'.eval w' qj ∧ K (a'.put oj.dst (qval a'.eval w' qj)) w' else K (a'.put oj.dst undef) w') := by
      intro a' w' u ht hK hr
      have e1 : Region.wanted oj (yielded ops a'.tmps) = Region.wanted oj (yielded ops a.tmps) := by rw [ht]; exact wj u
      have e2 := put_tmps ht
      rw [e1]
      by_cases hw : Region.wanted oj (yielded ops a.tmps) = true
      · rw [if_pos hw, e2, (q_put (ops := ops) hqj p1).1, (q_put (ops := ops) hqj p1).2]
        obtain ⟨x1, x2⟩ := hr hw
        exact ⟨x1, by rw [x2]; exact hK⟩
      · rw [if_neg hw]; rw [← hv2 hw]; exact hK
    cases hqi : resolve P oi.op with
    | some qi =>
      simp only [hqi] at h ⊢
      rw [(q_put (ops := ops) hqi p3).1, (q_put (ops := ops) hqi p3).2] at h
      have same : Region.wanted oj (yielded ops a.tmps) = true → qchk a.eval w qj ∧ qval a.eval w qj = vj := fun hw => ⟨(hv1 hw).1, (hv1 hw).2.symm⟩
      by_cases hw : Region.wanted oi (yielded ops a.tmps) = true
      · rw [if_pos hw] at h ⊢
        refine ⟨h.1, later _ w _ rfl ?_ same⟩
        rw [Act.put_comm a _ _ p2]; exact h.2
      · rw [if_neg hw] at h ⊢
        refine later _ w _ rfl ?_ same
        rw [Act.put_comm a _ _ p2]; exact h
    | none =>
      simp only [hqi] at h ⊢
      -- i is an effect: j is pure, or a reader that i keeps
      have keep : ∀ w', (∀ k ∈ Fi, Keeps P ops k (a.put oj.dst vj) w w') → Region.wanted oj (yielded ops a.tmps) = true → qchk a.eval w' qj ∧ qval a.eval w' qj = vj := by
        intro w' hkeep hw
        obtain ⟨x1, x2⟩ := hv1 hw
        have ki : kind P oi = 2 := by simp [kind, hqi]
        by_cases hr : qj.reads = true
        · have kj : kind P oj = 1 := by simp [kind, hqj, hr]
          simp only [ki, kj, Bool.and_eq_true] at hk
          have hself := notLook_spec hk.2
          have hKeep := (keeps_put hj hself).1 (hkeep j (by simpa using hk.1)) oj qj hj hqj hw x1
          exact ⟨hKeep.1, by rw [hKeep.2, x2]⟩
        · have hr' : qj.reads = false := by simpa using hr
          rw [qchk_pure (w := w') (w' := w) hr', qval_pure (w := w') (w' := w) hr']
          exact ⟨x1, x2.symm⟩
      by_cases hw : Region.wanted oi (yielded ops a.tmps) = true
      · rw [if_pos hw] at h ⊢
        have h1 := wp_shape ((wp_put_iff hap' (notSel hsi)).1 h)
        refine Oper.wp_mono' (fun a' w' hh => ?_) h1
        obtain ⟨⟨hkeep, hK⟩, u, hu⟩ := hh
        refine ⟨fun s hs => ?_, later a' w' u hu hK (keep w' hkeep)⟩
        obtain ⟨hsF, os, hos, hl⟩ := hS s hs
        exact (keeps_put hos (notLook_spec hl)).1 (hkeep s hsF)
      · rw [if_neg hw] at h ⊢
        refine later _ w _ rfl ?_ (fun hw => ⟨(hv1 hw).1, (hv1 hw).2.symm⟩)
        rw [Act.put_comm a _ _ p2]; exact h
  | none =>
    simp only [hqj] at h ⊢
    have kj : kind P oj = 2 := by simp [kind, hqj]
    cases hqi : resolve P oi.op with
    | none => have ki : kind P oi = 2 := by simp [kind, hqi]
              simp [ki, kj] at hk
    | some qi =>
      by_cases hr : qi.reads = true
      · have ki : kind P oi = 1 := by simp [kind, hqi, hr]
        simp [ki, kj] at hk
      have hr' : qi.reads = false := by simpa using hr
      have ki : kind P oi = 0 := by simp [kind, hqi, hr']
      simp only [ki, kj] at hk
      simp only [hqi] at h ⊢
      -- i yields the same everywhere
      have hvi : ∃ vi, (Region.wanted oi (yielded ops a.tmps) = true → qchk a.eval w qi ∧ qval a.eval w qi = vi) ∧ (¬ Region.wanted oi (yielded ops a.tmps) = true → vi = undef) ∧
          ∀ (a' : Act) (w' : World) (u : Value), a'.tmps = (a.put oj.dst u).tmps →
            (if Region.wanted oi (yielded ops a'.tmps) = true then qchk a'.eval w' qi ∧ K (a'.put oi.dst (qval a'.eval w' qi)) w' else K (a'.put oi.dst undef) w') → K (a'.put oi.dst vi) w' := by
        have look : ∀ (a' : Act) (u : Value), a'.tmps = (a.put oj.dst u).tmps → Region.wanted oi (yielded ops a'.tmps) = Region.wanted oi (yielded ops a.tmps) ∧ ∀ w', (qchk a'.eval w' qi ↔ qchk a.eval w qi) ∧ qval a'.eval w' qi = qval a.eval w qi := by
          intro a' u ht
          refine ⟨by rw [ht]; exact wi u, fun w' => ?_⟩
          rw [put_tmps ht, (q_put (ops := ops) hqi p3).1, (q_put (ops := ops) hqi p3).2, qchk_pure (w := w') (w' := w) hr', qval_pure (w := w') (w' := w) hr']
          exact ⟨Iff.rfl, rfl⟩
        by_cases hw : Region.wanted oi (yielded ops a.tmps) = true
        · refine ⟨qval a.eval w qi, fun _ => ⟨?_, rfl⟩, fun hn => absurd hw hn, ?_⟩
          · by_cases hwj : Region.wanted oj (yielded ops a.tmps) = true
            · rw [if_pos hwj] at h
              obtain ⟨a', w', u, hh, ht⟩ := wp_some h
              obtain ⟨l1, l2⟩ := look a' u ht
              have := hh.2
              rw [l1, if_pos hw] at this
              exact (l2 w').1.1 this.1
            · rw [if_neg hwj] at h
              obtain ⟨l1, l2⟩ := look (a.put oj.dst undef) undef rfl
              rw [l1, if_pos hw] at h
              exact (l2 w).1.1 h.1
          · intro a' w' u ht hh
            obtain ⟨l1, l2⟩ := look a' u ht
            rw [l1, if_pos hw, (l2 w').2] at hh
            exact hh.2
        · refine ⟨undef, fun hn => absurd hn hw, fun _ => rfl, ?_⟩
          intro a' w' u ht hh
          obtain ⟨l1, l2⟩ := look a' u ht
          rw [l1, if_neg hw] at hh
          exact hh
      obtain ⟨vi, g1, g2, g3⟩ := hvi
      have main : (if Region.wanted oj (yielded ops (a.put oi.dst vi).tmps) = true then oj.wp P (a.put oi.dst vi) w (fun a' w' => (∀ k ∈ Fj, Keeps P ops k (a.put oi.dst vi) w w') ∧ K a' w') QF
          else K ((a.put oi.dst vi).put oj.dst undef) w) := by
        rw [wj]
        by_cases hwj : Region.wanted oj (yielded ops a.tmps) = true
        · rw [if_pos hwj] at h ⊢
          rw [wp_put_iff hap (notSel hsj)]
          refine Oper.wp_mono' (fun a' w' hh => ?_) (wp_shape h)
          obtain ⟨⟨hkeep, hK⟩, u, hu⟩ := hh
          refine ⟨fun k hkF => ?_, g3 a' w' u hu hK⟩
          have hkk := List.all_eq_true.1 hk k hkF
          cases hok : ops[k]? with
          | none => simp [hok] at hkk
          | some ok => simp only [hok] at hkk; exact (keeps_put hok (notLook_spec hkk)).2 (hkeep k hkF)
        · rw [if_neg hwj] at h ⊢
          rw [Act.put_comm a _ _ p2]
          exact g3 _ w undef rfl h
      by_cases hw : Region.wanted oi (yielded ops a.tmps) = true
      · rw [if_pos hw]
        obtain ⟨x1, x2⟩ := g1 hw
        exact ⟨x1, by rw [x2]; exact main⟩
      · rw [if_neg hw]
        obtain rfl := g2 hw
        exact main

/-! ### any order -/

theorem stepC_mono {i : Nat} {F : List Nat} {K K' : Act → World → Prop} (h : ∀ a w, K a w → K' a w) (hh : stepC P ops QF i F K a w) : stepC P ops QF i F K' a w := by
  unfold stepC at *
  cases ho : ops[i]? with
  | none => simp [ho] at hh
  | some o =>
    simp only [ho] at hh ⊢
    split at hh
    · rename_i hw; rw [if_pos hw]
      cases hq : resolve P o.op with
      | some q => simp only [hq] at hh ⊢; exact ⟨hh.1, h _ _ hh.2⟩
      | none => simp only [hq] at hh ⊢; exact Oper.wp_mono' (fun a' w' hx => ⟨hx.1, h _ _ hx.2⟩) hh
    · rename_i hw; rw [if_neg hw]; exact h _ _ hh

theorem stepC_wpOp {Q : Exit → Act → World → Prop} {i : Nat} {F : List Nat} {K K' : Act → World → Prop} (h : ∀ a w, K a w → K' a w) (hh : stepC P ops QF i F K a w) : wpOp P ops Q i K' a w := by
  unfold stepC at hh
  unfold wpOp
  cases ho : ops[i]? with
  | none => simp [ho] at hh
  | some o =>
    simp only [ho] at hh ⊢
    split at hh
    · rename_i hw; rw [if_pos hw]
      left
      cases hq : resolve P o.op with
      | some q =>
        simp only [hq] at hh
        have hr := resolve_sound (P := P) (ρ := a.eval) (w := w) hq hh.1
        simp only [Oper.wp, hr, Oper.upon]; exact h _ _ hh.2
      | none =>
        simp only [hq] at hh
        unfold Oper.wp at *
        generalize (execOp a.eval o).run P w = r at *
        cases r with
        | ok nx w' =>
          cases nx <;> simp only [Oper.upon] at hh ⊢
          case value v => exact h _ _ hh.2
          case skip => exact h _ _ hh.2
          case defer d => exact h _ _ hh.2
          case enter f args =>
            refine Calls.mono hh fun e w'' he => ?_
            cases e with
            | returned v => exact h _ _ he.2
            | panicked c => exact he.elim
            | outgrown => exact (by obtain ⟨a, w, h⟩ := he; exact h.elim)
          case row row args => exact Rows.mono hh fun v w'' he => h _ _ he.2
        | halt x w' => cases x <;> simp only [Oper.upon] at hh ⊢; exact hh.elim
    · rename_i hw; rw [if_neg hw]; exact h _ _ hh

/-- the pair's conditions: (j, Fj) stands before (i, Fi) in the list; anc: which operations each must wait for -/
def pairB (P : Program) (ops : Array Oper) (anc : List Nat) (x y : Nat × List Nat) : Bool :=
  match ops[x.1]?, ops[y.1]? with
  | some oj, some oi => (anc.getD y.1 0).testBit x.1 || (swapB P ops oj x.1 x.2 oi y.2)
  | _, _ => false
/-- what holds of each pair, ordered or not: a reader's operands are not written behind it -/
def pairR (P : Program) (ops : Array Oper) (x y : Nat × List Nat) : Bool :=
  match ops[x.1]?, ops[y.1]? with
  | some oj, some oi => !(kind P oj == 1) || notLook ops oj oi
  | _, _ => false

def allPairs (p : Nat × List Nat → Nat × List Nat → Bool) : List (Nat × List Nat) → Bool
  | [] => true
  | x :: r => r.all (p x) && allPairs p r

def ancB (ops : Array Oper) (anc : List Nat) : Bool :=
  (List.range ops.size).all fun i => match ops[i]? with
    | some o => (anc.getD i 0) == (o.after.foldl (fun s e => if Region.binds .any e then s ||| (2 ^ e.on) ||| anc.getD e.on 0 else s) 0) && o.after.all fun e => !Region.binds .any e || decide (e.on < i)
    | none => false

def canonB (P : Program) (ops : Array Oper) (anc : List Nat) (L : List (Nat × List Nat)) : Bool :=
  ancB ops anc && allPairs (pairB P ops anc) L && allPairs (pairR P ops) L && (List.range ops.size).all (fun i => L.any fun x => x.1 == i) && allPairs (fun x y => x.1 != y.1) L &&
  L.all fun x => decide (x.1 < ops.size) && x.2.all fun j => (L.any fun y => y.1 == j)

theorem front {anc : List Nat} {i : Nat} {Fi : List Nat} {oi : Oper} (hi : ops[i]? = some oi) : ∀ (L1 L2 : List (Nat × List Nat)) (S : List Nat) (a : Act) (w : World) {K : Act → World → Prop},
    (∀ x ∈ L1, pairB P ops anc x (i, Fi) = true ∧ (anc.getD i 0).testBit x.1 = false) → allPairs (pairR P ops) L1 = true → (∀ x ∈ L1, (ops[x.1]?).isSome = true) →
    (∀ s ∈ S, s ∈ Fi ∧ ∃ os, ops[s]? = some os ∧ ∀ x ∈ L1, ∀ ox, ops[x.1]? = some ox → notLook ops os ox = true) →
    wpC P ops QF K (L1 ++ (i, Fi) :: L2) a w → stepC P ops QF i S (wpC P ops QF K (L1 ++ L2)) a w
  | [], L2, S, a, w, K, _, _, _, hS, h => by
    simp only [List.nil_append, wpC] at h ⊢
    unfold stepC at *
    simp only [hi] at h ⊢
    split at h
    · rename_i hw; rw [if_pos hw]
      cases hq : resolve P oi.op with
      | some q => simp only [hq] at h ⊢; exact h
      | none => simp only [hq] at h ⊢; exact Oper.wp_mono' (fun a' w' hx => ⟨fun s hs => hx.1 s (hS s hs).1, hx.2⟩) h
    · rename_i hw; rw [if_neg hw]; exact h
  | (j, Fj) :: L1, L2, S, a, w, K, hp, hr, hsome, hS, h => by
    simp only [List.cons_append, wpC] at h ⊢
    obtain ⟨oj, hj⟩ := Option.isSome_iff_exists.1 (hsome (j, Fj) (by simp))
    have hpj := hp (j, Fj) (by simp)
    simp only [pairB, hj, hi, hpj.2, Bool.false_or] at hpj
    have hb := hpj.1
    simp only [allPairs, Bool.and_eq_true] at hr
    -- what i must keep when it has passed L1: S, and j if j is a reader that an effect passes
    let S' := if (kind P oj == 1 && kind P oi == 2) = true then j :: S else S
    have hS' : ∀ s ∈ S', s ∈ Fi ∧ ∃ os, ops[s]? = some os ∧ ∀ x ∈ L1, ∀ ox, ops[x.1]? = some ox → notLook ops os ox = true := by
      intro s hs
      have old : s ∈ S → s ∈ Fi ∧ ∃ os, ops[s]? = some os ∧ ∀ x ∈ L1, ∀ ox, ops[x.1]? = some ox → notLook ops os ox = true := by
        intro hs; obtain ⟨h1, os, h2, h3⟩ := hS s hs; exact ⟨h1, os, h2, fun x hx => h3 x (by simp [hx])⟩
      by_cases hk : (kind P oj == 1 && kind P oi == 2) = true
      · simp only [S', if_pos hk, List.mem_cons] at hs
        rcases hs with rfl | hs
        · simp only [Bool.and_eq_true, beq_iff_eq] at hk
          simp only [swapB, hk.1, hk.2, Bool.and_eq_true] at hb
          refine ⟨by simpa using hb.2.1, oj, hj, fun x hx ox hox => ?_⟩
          have := List.all_eq_true.1 hr.1 x hx
          simp only [pairR, hj, hox, hk.1] at this
          simpa using this
        · exact old hs
      · simp only [S', if_neg hk] at hs; exact old hs
    have ih := fun a w => front hi L1 L2 S' a w (K := K) (fun x hx => hp x (by simp [hx])) hr.2 (fun x hx => hsome x (by simp [hx])) hS'
    have h2 := stepC_mono (fun a w => ih a w) h
    -- swap j and i
    by_cases hk : (kind P oj == 1 && kind P oi == 2) = true
    · -- a reader passed by an effect: it is among S', and S' stands for Fi
      have hself : notLook ops oj oj = true := by
        simp only [Bool.and_eq_true, beq_iff_eq] at hk
        simp only [swapB, hk.1, hk.2, Bool.and_eq_true] at hb
        exact hb.2.2
      refine swap hi hj (Fi := S') ?_ ?_ h2
      · simp only [Bool.and_eq_true, beq_iff_eq] at hk
        simp only [swapB, hk.1, hk.2, Bool.and_eq_true] at hb ⊢
        exact ⟨hb.1, by simp [S', hk.1, hk.2], hb.2.2⟩
      · intro s hs
        refine ⟨by simp [S', hk, hs], ?_⟩
        obtain ⟨_, os, h2, h3⟩ := hS s hs
        exact ⟨os, h2, h3 (j, Fj) (by simp) oj hj⟩
    · refine swap hi hj (Fi := S') ?_ ?_ h2
      · simp only [swapB, Bool.and_eq_true] at hb ⊢
        refine ⟨hb.1, ?_⟩
        have hb2 := hb.2
        revert hb2
        split <;> simp_all
      · intro s hs
        refine ⟨by simp only [S', if_neg hk]; exact hs, ?_⟩
        obtain ⟨_, os, h2, h3⟩ := hS s hs
        exact ⟨os, h2, h3 (j, Fj) (by simp) oj hj⟩

theorem fold_bit {anc : List Nat} {j : Nat} : ∀ (l : List Edge) (s : Nat), (l.foldl (fun s e => if Region.binds .any e then s ||| (2 ^ e.on) ||| anc.getD e.on 0 else s) s).testBit j = true →
    s.testBit j = true ∨ ∃ e ∈ l, Region.binds .any e = true ∧ (e.on = j ∨ (anc.getD e.on 0).testBit j = true)
  | [], s, h => .inl h
  | e :: l, s, h => by
    simp only [List.foldl_cons] at h
    rcases fold_bit l _ h with h1 | ⟨e', h1, h2⟩
    · split at h1
      · rename_i hb
        simp only [Nat.testBit_or, Bool.or_eq_true] at h1
        rcases h1 with (h1 | h1) | h1
        · exact .inl h1
        · refine .inr ⟨e, by simp, hb, .inl ?_⟩
          rw [Nat.testBit_two_pow] at h1; simpa using h1
        · exact .inr ⟨e, by simp, hb, .inr h1⟩
      · exact .inl h1
    · exact .inr ⟨e', by simp [h1], h2⟩

theorem anc_spec {anc : List Nat} (h : ancB ops anc = true) {i j : Nat} {o : Oper} (ho : ops[i]? = some o) (hb : (anc.getD i 0).testBit j = true) :
    ∃ e ∈ o.after, Region.binds .any e = true ∧ (e.on = j ∨ (anc.getD e.on 0).testBit j = true) := by
  have h1 := List.all_eq_true.1 h i (List.mem_range.2 (Array.getElem?_eq_some_iff.1 ho).1)
  simp only [ho, Bool.and_eq_true, beq_iff_eq] at h1
  rw [h1.1, ← Array.foldl_toList] at hb
  rcases fold_bit _ _ hb with h2 | ⟨e, h2, h3⟩
  · simp at h2
  · exact ⟨e, by simpa using h2, h3⟩

theorem anc_lt {anc : List Nat} (h : ancB ops anc = true) {i : Nat} {o : Oper} (ho : ops[i]? = some o) {e : Edge} (he : e ∈ o.after) (hb : Region.binds .any e = true) : e.on < i := by
  have h1 := List.all_eq_true.1 h i (List.mem_range.2 (Array.getElem?_eq_some_iff.1 ho).1)
  simp only [ho, Bool.and_eq_true, beq_iff_eq] at h1
  have := Array.all_eq_true_iff_forall_mem.1 h1.2 e he
  simpa [hb] using this

structure LInv (ops : Array Oper) (L : List (Nat × List Nat)) (listed : Array Bool) : Prop where
  size : listed.size = ops.size
  un : ∀ i, i < ops.size → (listed.getD i true = false ↔ ∃ x ∈ L, x.1 = i)
  closed : ∀ j oj, ops[j]? = some oj → listed.getD j false = true → ∀ e ∈ oj.after, Region.binds .any e = true → listed.getD e.on false = true

theorem anc_listed {anc : List Nat} (h : ancB ops anc = true) {listed : Array Bool} (hcl : ∀ j oj, ops[j]? = some oj → listed.getD j false = true → ∀ e ∈ oj.after, Region.binds .any e = true → listed.getD e.on false = true)
    : ∀ (i j : Nat) (o : Oper), ops[i]? = some o → (anc.getD i 0).testBit j = true → (∀ e ∈ o.after, Region.binds .any e = true → listed.getD e.on false = true) → listed.getD j false = true := by
  intro i
  induction i using Nat.strongRecOn with
  | _ i ih =>
    intro j o ho hb hd
    obtain ⟨e, he, hbn, h1⟩ := anc_spec h ho hb
    have hl := hd e he hbn
    rcases h1 with rfl | h1
    · exact hl
    · have hlt := anc_lt h ho he hbn
      have hin : e.on < ops.size := Nat.lt_trans hlt (Array.getElem?_eq_some_iff.1 ho).1
      exact ih e.on hlt j ops[e.on] (by simp [hin]) h1 (hcl e.on ops[e.on] (by simp [hin]) hl)

theorem getD_bool {listed : Array Bool} {i : Nat} (h : i < listed.size) : listed.getD i true = listed.getD i false := by simp [h]

theorem allPairs_mid {p : Nat × List Nat → Nat × List Nat → Bool} {y : Nat × List Nat} : ∀ {L1 L2 : List (Nat × List Nat)}, allPairs p (L1 ++ y :: L2) = true →
    (∀ x ∈ L1, p x y = true) ∧ allPairs p (L1 ++ L2) = true ∧ allPairs p L1 = true ∧ (∀ x ∈ L2, p y x = true)
  | [], L2, h => by
    simp only [List.nil_append, allPairs, Bool.and_eq_true, List.all_eq_true] at h
    exact ⟨by simp, h.2, rfl, h.1⟩
  | z :: L1, L2, h => by
    simp only [List.cons_append, allPairs, Bool.and_eq_true, List.all_eq_true] at h
    obtain ⟨h1, h2, h3, h4⟩ := allPairs_mid h.2
    refine ⟨?_, ?_, ?_, h4⟩
    · intro x hx
      rcases List.mem_cons.1 hx with rfl | hx
      · exact h.1 y (by simp)
      · exact h1 x hx
    · simp only [List.cons_append, allPairs, Bool.and_eq_true, List.all_eq_true]
      exact ⟨fun x hx => h.1 x (by rcases List.mem_append.1 hx with hx | hx <;> simp [hx]), h2⟩
    · simp only [allPairs, Bool.and_eq_true, List.all_eq_true]
      exact ⟨fun x hx => h.1 x (by simp [hx]), h3⟩

theorem canon_any {anc : List Nat} (ha : ancB ops anc = true) {Q : Exit → Act → World → Prop} {K : Act → World → Prop} (hK : ∀ a w, K a w → Q .normal a w) :
    ∀ (m : Nat) (L : List (Nat × List Nat)) (listed : Array Bool) (a : Act) (w : World), L.length = m → LInv ops L listed → (∀ x ∈ L, x.1 < ops.size) →
    allPairs (pairB P ops anc) L = true → allPairs (pairR P ops) L = true → allPairs (fun x y => x.1 != y.1) L = true → wpC P ops QF K L a w → wpAny P .any ops Q m listed a w := by
  intro m
  induction m with
  | zero =>
    intro L listed a w hl inv hlt hp hr hn h
    have : L = [] := List.eq_nil_of_length_eq_zero hl
    subst this
    refine ⟨?_, hK _ _ h⟩
    rw [List.eq_nil_iff_forall_not_mem]
    intro i hi
    obtain ⟨h1, o, ho, _⟩ := mem_ready.1 hi
    obtain ⟨x, hx, _⟩ := (inv.un i (Array.getElem?_eq_some_iff.1 ho).1).1 h1
    cases hx
  | succ m ih =>
    intro L listed a w hl inv hlt hp hr hn h
    refine ⟨fun hnil => ?_, fun i hi => ?_⟩
    · -- the least operation that is not listed may come up
      exfalso
      have hne : ∃ i, i < ops.size ∧ listed.getD i true = false := by
        cases L with
        | nil => simp at hl
        | cons x r => exact ⟨x.1, hlt x (by simp), (inv.un x.1 (hlt x (by simp))).2 ⟨x, by simp, rfl⟩⟩
      obtain ⟨i, hil, hiu⟩ := hne
      have least : ∀ k, ∀ i, i ≤ k → i < ops.size → listed.getD i true = false → False := by
        intro k
        induction k using Nat.strongRecOn with
        | _ k ihk =>
          intro i hik hil hiu
          have : i ∈ Region.ready .any ops listed := by
            rw [mem_ready]
            refine ⟨hiu, ops[i], by simp [hil], fun e he hb => ?_⟩
            have hlt' := anc_lt ha (i := i) (o := ops[i]) (by simp [hil]) he hb
            have hs : e.on < listed.size := by rw [inv.size]; omega
            rw [← getD_bool hs]
            cases hv : listed.getD e.on true with
            | true => rfl
            | false => exact (ihk (i - 1) (by omega) e.on (by omega) (by omega) hv).elim
          rw [hnil] at this; cases this
      exact least i i (Nat.le_refl _) hil hiu
    · obtain ⟨hiu, oi, hoi, hdeps⟩ := mem_ready.1 hi
      have hil := (Array.getElem?_eq_some_iff.1 hoi).1
      obtain ⟨x, hx, hxi⟩ := (inv.un i hil).1 hiu
      obtain ⟨L1, L2, rfl⟩ := List.append_of_mem hx
      obtain ⟨i', Fi⟩ := x
      simp only at hxi; subst hxi
      obtain ⟨p1, p2, _, _⟩ := allPairs_mid hp
      obtain ⟨r1, r2, r3, _⟩ := allPairs_mid hr
      obtain ⟨n1, n2, _, n4⟩ := allPairs_mid hn
      have hfirst := front hoi L1 L2 [] a w (K := K) (anc := anc) (fun x hx => ⟨p1 x hx, by
        cases hb : (anc.getD i' 0).testBit x.1 with
        | false => rfl
        | true =>
          have := anc_listed ha inv.closed i' x.1 oi hoi hb hdeps
          have hxl := hlt x (by simp [hx])
          have hu := (inv.un x.1 hxl).2 ⟨x, by simp [hx], rfl⟩
          rw [getD_bool (by rw [inv.size]; exact hxl), this] at hu; cases hu⟩) r3 (fun x hx => by simp [hlt x (by simp [hx])]) (by simp) h
      refine stepC_wpOp (fun a' w' h' => ih (L1 ++ L2) _ a' w' ?_ ?_ ?_ p2 r2 n2 h') hfirst
      · simp at hl ⊢; omega
      · refine ⟨by simp [inv.size], fun k hk => ?_, fun j oj hj hjl e he hb => ?_⟩
        · by_cases hki : i' = k
          · subst hki
            have : (listed.setIfInBounds i' true).getD i' true = true := by simp [show i' < listed.size by rw [inv.size]; exact hil]
            rw [this]
            constructor
            · intro h; cases h
            · rintro ⟨x, hx, hxe⟩
              rcases List.mem_append.1 hx with hx | hx
              · have := n1 x hx; simp [hxe] at this
              · have := n4 x hx; simp [hxe] at this
          · rw [getD_set_ne true hki, inv.un k hk]
            constructor
            · rintro ⟨x, hx, hxe⟩
              rcases List.mem_append.1 hx with hx | hx
              · exact ⟨x, by simp [hx], hxe⟩
              · rcases List.mem_cons.1 hx with rfl | hx
                · exact absurd hxe hki
                · exact ⟨x, by simp [hx], hxe⟩
            · rintro ⟨x, hx, hxe⟩
              rcases List.mem_append.1 hx with hx | hx
              · exact ⟨x, by simp [hx], hxe⟩
              · exact ⟨x, by simp [hx], hxe⟩
        · by_cases hji : i' = j
          · subst hji
            have : oj = oi := Option.some.inj (hj.symm.trans hoi)
            subst this
            exact getD_set_true (hdeps e he hb)
          · rw [getD_set_ne false hji] at hjl
            exact getD_set_true (inv.closed j oj hj hjl e he hb)
      · intro x hx
        rcases List.mem_append.1 hx with hx | hx
        · exact hlt x (by simp [hx])
        · exact hlt x (by simp [hx])

/-- A REGION THAT DRAWS ITS ORDER: what one order gives, all give. -/
theorem wp_region_canon {id : Nat} {Q : Exit → Act → World → Prop} {K : Act → World → Prop} (hm : P.follows .mixedOrders = true) {anc : List Nat} {L : List (Nat × List Nat)} (hc : canonB P ops anc L = true)
    (hK : ∀ a w, K a w → Q .normal a w) (h : wpC P ops QF K L a { w with drawn := w.drawn + 1 }) : (Code.region id ops true).wp P Q a w := by
  simp only [canonB, Bool.and_eq_true, List.all_eq_true, List.mem_range, decide_eq_true_eq] at hc
  obtain ⟨⟨⟨⟨⟨ha, hp⟩, hr⟩, hall⟩, hn⟩, hlt⟩ := hc
  have hlen : L.length = ops.size := by
    -- every operation once
    have h1 : (L.map (·.1)).Nodup := by
      have : ∀ L : List (Nat × List Nat), allPairs (fun x y => x.1 != y.1) L = true → (L.map (·.1)).Nodup := by
        intro L
        induction L with
        | nil => intro _; simp
        | cons x r ih =>
          intro h
          simp only [allPairs, Bool.and_eq_true, List.all_eq_true] at h
          simp only [List.map_cons, List.nodup_cons, List.mem_map, not_exists, not_and]
          exact ⟨fun y hy he => by have := h.1 y hy; simp [he] at this, ih h.2⟩
      exact this L hn
    have h2 : (L.map (·.1)).Perm (List.range ops.size) := by
      refine (List.perm_ext_iff_of_nodup h1 List.nodup_range).2 fun i => ?_
      simp only [List.mem_map, List.mem_range]
      constructor
      · rintro ⟨x, hx, rfl⟩; exact (hlt x hx).1
      · intro hi
        have := hall i hi
        simp only [List.any_eq_true, beq_iff_eq] at this
        exact this
    have := h2.length_eq
    simpa using this
  refine wp_region_any hm ?_
  rw [← hlen]
  refine canon_any ha hK L.length L _ a _ rfl ⟨by simp [hlen], fun i hi => ?_, fun j oj _ hl => ?_⟩ (fun x hx => (hlt x hx).1) hp hr hn h
  · have h1 : (Array.replicate L.length false).getD i true = false := by simp [hlen, hi]
    rw [h1]
    have := hall i hi
    simp only [List.any_eq_true, beq_iff_eq] at this
    exact ⟨fun _ => this, fun _ => rfl⟩
  · have : (Array.replicate L.length false).getD j false = false := by
      rcases Nat.lt_or_ge j L.length with h | h
      · simp [h]
      · simp [h]
    rw [this] at hl; cases hl
end
end Go.HL

/- HLT: a region that draws its order and whose effects stand open to each other: a tree of orders serves for all. -/
namespace Go.HL
open Go

/-- a tree of orders -/
inductive PT where
  | nil
  | op (i : Nat) (F : List Nat) (t : PT)
  | fork (a b : PT)

def PT.rm (i : Nat) : PT → PT
  | .nil => .nil
  | .op j F t => if j = i then t else .op j F (t.rm i)
  | .fork a b => .fork (a.rm i) (b.rm i)

def PT.paths : PT → List (List (Nat × List Nat))
  | .nil => [[]]
  | .op i F t => t.paths.map ((i, F) :: ·)
  | .fork a b => a.paths ++ b.paths

/-- the tree behind effect i, where i may come first of the effects -/
def PT.take (e : Nat → Bool) (i : Nat) : PT → Option PT
  | .nil => none
  | .op j F t => if j = i then some t else if e j = true then none else (t.take e i).map (.op j F)
  | .fork a b => match a.take e i with | some x => some x | none => b.take e i

def PT.pre : List (Nat × List Nat) → PT → PT
  | [], t => t
  | (j, F) :: r, t => .op j F (PT.pre r t)

theorem PT.paths_ne : ∀ t : PT, t.paths ≠ []
  | .nil => by simp [PT.paths]
  | .op i F t => by simp [PT.paths, PT.paths_ne t]
  | .fork a b => by simp [PT.paths, PT.paths_ne a]

/-- whether every order of the effects that are left is one of the tree's -/
def covT (anc : List Nat) (e : Nat → Bool) : Nat → List Nat → PT → Bool
  | 0, rem, _ => rem.isEmpty
  | k + 1, rem, T => rem.all fun i => (rem.any fun j => (anc.getD i 0).testBit j) || (match T.take e i with | some T' => covT anc e k (rem.filter fun j => j != i) T' | none => false)

theorem take_rm {e : Nat → Bool} {i q : Nat} (hq : e q = false) (hi : e i = true) : ∀ T : PT, (T.rm q).take e i = (T.take e i).map (PT.rm q)
  | .nil => rfl
  | .op j F t => by
    have ih := take_rm hq hi t
    have hqi : q ≠ i := fun h => by rw [h, hi] at hq; cases hq
    by_cases hjq : j = q
    · subst hjq
      simp only [PT.rm, if_true, PT.take, if_neg hqi, hq, Bool.false_eq_true, if_false, Option.map_map]
      cases t.take e i <;> simp [PT.rm]
    · simp only [PT.rm, if_neg hjq, PT.take]
      by_cases hji : j = i
      · simp [hji]
      · rw [if_neg hji, if_neg hji]
        cases hej : e j with
        | true => simp
        | false =>
          simp only [Bool.false_eq_true, if_false, ih, Option.map_map]
          cases t.take e i <;> simp [PT.rm, hjq]
  | .fork a b => by
    simp only [PT.rm, PT.take, take_rm hq hi a, take_rm hq hi b]
    cases a.take e i <;> simp

theorem covT_rm {anc : List Nat} {e : Nat → Bool} {q : Nat} (hq : e q = false) : ∀ (k : Nat) (rem : List Nat) (T : PT), (∀ i ∈ rem, e i = true) → covT anc e k rem T = true → covT anc e k rem (T.rm q) = true
  | 0, rem, T, _, h => h
  | k + 1, rem, T, he, h => by
    simp only [covT, List.all_eq_true] at h ⊢
    intro i hi
    have hh := h i hi
    rw [take_rm hq (he i hi)]
    simp only [Bool.or_eq_true] at hh ⊢
    rcases hh with hh | hh
    · exact .inl hh
    · right
      cases hT : T.take e i with
      | none => simp [hT] at hh
      | some T' =>
        simp only [hT, Option.map_some] at hh ⊢
        exact covT_rm hq k _ T' (fun j hj => he j (List.mem_filter.1 hj).1) hh

section
variable {P : Program} {ops : Array Oper} {a : Act} {w : World}

def wpT (P : Program) (ops : Array Oper) (Q : Exit → Act → World → Prop) (K : Act → World → Prop) : PT → Act → World → Prop
  | .nil, a, w => K a w
  | .op i F t, a, w => stepC P ops Q i F (wpT P ops Q K t) a w
  | .fork x y, a, w => wpT P ops Q K x a w ∧ wpT P ops Q K y a w

theorem wpC_pre {K : Act → World → Prop} {t : PT} : ∀ (L : List (Nat × List Nat)) (a : Act) (w : World), wpC P ops QF (wpT P ops QF K t) L a w → wpT P ops QF K (PT.pre L t) a w
  | [], _, _, h => h
  | (i, F) :: r, a, w, h => stepC_mono (fun a w h => wpC_pre r a w h) h

theorem take_spec {e : Nat → Bool} {i : Nat} : ∀ {T T' : PT}, T.take e i = some T' → ∃ L1 F t, T' = PT.pre L1 t ∧ (∀ x ∈ L1, e x.1 = false) ∧ (∀ p ∈ t.paths, L1 ++ (i, F) :: p ∈ T.paths) ∧
    ∀ {K : Act → World → Prop} {a w}, wpT P ops QF K T a w → wpC P ops QF (wpT P ops QF K t) (L1 ++ [(i, F)]) a w
  | .nil, T', h => by simp [PT.take] at h
  | .op j F t, T', h => by
    simp only [PT.take] at h
    by_cases hji : j = i
    · subst hji
      simp only [if_true, Option.some.injEq] at h
      subst h
      exact ⟨[], F, t, rfl, by simp, fun p hp => by simp [PT.paths, hp], fun h => h⟩
    · rw [if_neg hji] at h
      cases hej : e j with
      | true => simp [hej] at h
      | false =>
        simp only [hej, Bool.false_eq_true, if_false, Option.map_eq_some_iff] at h
        obtain ⟨T1, h1, rfl⟩ := h
        obtain ⟨L1, F', t', rfl, h2, h3, h4⟩ := take_spec h1
        refine ⟨(j, F) :: L1, F', t', rfl, ?_, ?_, ?_⟩
        · intro x hx
          rcases List.mem_cons.1 hx with rfl | hx
          · exact hej
          · exact h2 x hx
        · intro p hp
          simp only [PT.paths, List.mem_map]
          exact ⟨_, h3 p hp, rfl⟩
        · intro K a w h
          exact stepC_mono (fun a w h => h4 h) h
  | .fork x y, T', h => by
    simp only [PT.take] at h
    cases hx : x.take e i with
    | some x' =>
      simp only [hx, Option.some.injEq] at h
      subst h
      obtain ⟨L1, F', t', rfl, h2, h3, h4⟩ := take_spec hx
      exact ⟨L1, F', t', rfl, h2, fun p hp => by simp [PT.paths, h3 p hp], fun h => h4 h.1⟩
    | none =>
      simp only [hx] at h
      obtain ⟨L1, F', t', rfl, h2, h3, h4⟩ := take_spec h
      exact ⟨L1, F', t', rfl, h2, fun p hp => by simp [PT.paths, h3 p hp], fun h => h4 h.2⟩

theorem paths_pre {t : PT} : ∀ (L : List (Nat × List Nat)), (PT.pre L t).paths = t.paths.map (L ++ ·)
  | [] => by simp [PT.pre]
  | (j, F) :: r => by simp [PT.pre, PT.paths, paths_pre r, Function.comp_def]

theorem rm_paths {i : Nat} : ∀ {T : PT}, (∀ p ∈ T.paths, ∃ x ∈ p, x.1 = i) → ∀ p' ∈ (T.rm i).paths, ∃ L1 F L2, (∀ x ∈ L1, x.1 ≠ i) ∧ L1 ++ (i, F) :: L2 ∈ T.paths ∧ p' = L1 ++ L2
  | .nil, h, p', _ => by obtain ⟨x, hx, _⟩ := h [] (by simp [PT.paths]); cases hx
  | .op j F t, h, p', hp' => by
    by_cases hji : j = i
    · subst hji
      simp only [PT.rm, if_true] at hp'
      exact ⟨[], F, p', by simp, by simp [PT.paths, hp'], rfl⟩
    · simp only [PT.rm, if_neg hji, PT.paths, List.mem_map] at hp'
      obtain ⟨q, hq, rfl⟩ := hp'
      obtain ⟨L1, F', L2, h1, h2, rfl⟩ := rm_paths (T := t) (fun p hp => by
        obtain ⟨x, hx, hxi⟩ := h ((j, F) :: p) (by simp [PT.paths, hp])
        rcases List.mem_cons.1 hx with rfl | hx
        · exact absurd hxi hji
        · exact ⟨x, hx, hxi⟩) q hq
      refine ⟨(j, F) :: L1, F', L2, ?_, by simp [PT.paths, h2], rfl⟩
      intro x hx
      rcases List.mem_cons.1 hx with rfl | hx
      · exact hji
      · exact h1 x hx
  | .fork x y, h, p', hp' => by
    simp only [PT.rm, PT.paths, List.mem_append] at hp'
    rcases hp' with hp' | hp'
    · obtain ⟨L1, F', L2, h1, h2, rfl⟩ := rm_paths (T := x) (fun p hp => h p (by simp [PT.paths, hp])) p' hp'
      exact ⟨L1, F', L2, h1, by simp [PT.paths, h2], rfl⟩
    · obtain ⟨L1, F', L2, h1, h2, rfl⟩ := rm_paths (T := y) (fun p hp => h p (by simp [PT.paths, hp])) p' hp'
      exact ⟨L1, F', L2, h1, by simp [PT.paths, h2], rfl⟩

/-- two effects may stand open -/
def pairB' (P : Program) (ops : Array Oper) (anc : List Nat) (x y : Nat × List Nat) : Bool :=
  pairB P ops anc x y || (match ops[x.1]?, ops[y.1]? with | some oj, some oi => kind P oj == 2 && kind P oi == 2 | _, _ => false)

theorem pairB_of {anc : List Nat} {x y : Nat × List Nat} {oj oi : Oper} (hj : ops[x.1]? = some oj) (hi : ops[y.1]? = some oi) (h : pairB' P ops anc x y = true) (hk : kind P oj ≠ 2 ∨ kind P oi ≠ 2) : pairB P ops anc x y = true := by
  simp only [pairB', hj, hi, Bool.or_eq_true, Bool.and_eq_true, beq_iff_eq] at h
  rcases h with h | ⟨h1, h2⟩
  · exact h
  · rcases hk with hk | hk
    · exact absurd h1 hk
    · exact absurd h2 hk

theorem stepC_and {i : Nat} {oi : Oper} (hi : ops[i]? = some oi) (hk : kind P oi ≠ 2) {K K' : Act → World → Prop} (h : stepC P ops QF i [] K a w) (h' : stepC P ops QF i [] K' a w) : stepC P ops QF i [] (fun a w => K a w ∧ K' a w) a w := by
  unfold stepC at *
  simp only [hi] at *
  split at h
  · rename_i hw
    rw [if_pos hw] at h' ⊢
    cases hq : resolve P oi.op with
    | some q => simp only [hq] at *; exact ⟨h.1, h.2, h'.2⟩
    | none => exact absurd (by simp [kind, hq]) hk
  · rename_i hw; rw [if_neg hw] at h' ⊢; exact ⟨h, h'⟩

theorem swapB_F {oj oi : Oper} {j : Nat} {Fj Fi : List Nat} (hk : kind P oi ≠ 2) (h : swapB P ops oj j Fj oi Fi = true) : swapB P ops oj j Fj oi [] = true := by
  revert h hk
  unfold swapB
  generalize kind P oj = x
  generalize kind P oi = y
  intro h hk
  rcases y with _ | _ | _ | y <;> rcases x with _ | _ | _ | x <;> simp_all

theorem frontQ {anc : List Nat} {i : Nat} {oi : Oper} (hi : ops[i]? = some oi) (hk : kind P oi ≠ 2) {K : Act → World → Prop} : ∀ (T : PT) (a : Act) (w : World),
    (∀ p ∈ T.paths, ∃ L1 F L2, p = L1 ++ (i, F) :: L2 ∧ (∀ x ∈ L1, x.1 ≠ i) ∧ ∀ x ∈ L1, (ops[x.1]?).isSome = true ∧ pairB P ops anc x (i, F) = true ∧ (anc.getD i 0).testBit x.1 = false) →
    wpT P ops QF K T a w → stepC P ops QF i [] (wpT P ops QF K (T.rm i)) a w
  | .nil, a, w, hp, h => by
    obtain ⟨L1, F, L2, h1, _⟩ := hp [] (by simp [PT.paths])
    simp at h1
  | .op j F t, a, w, hp, h => by
    by_cases hji : j = i
    · subst hji
      simp only [PT.rm, if_true]
      simp only [wpT] at h
      unfold stepC at *
      simp only [hi] at h ⊢
      split at h
      · rename_i hw; rw [if_pos hw]
        cases hq : resolve P oi.op with
        | some q => simp only [hq] at h ⊢; exact h
        | none => exact absurd (by simp [kind, hq]) hk
      · rename_i hw; rw [if_neg hw]; exact h
    · simp only [PT.rm, if_neg hji, wpT]
      simp only [wpT] at h
      have hp' : ∀ p ∈ t.paths, ∃ L1 F L2, p = L1 ++ (i, F) :: L2 ∧ (∀ x ∈ L1, x.1 ≠ i) ∧ ∀ x ∈ L1, (ops[x.1]?).isSome = true ∧ pairB P ops anc x (i, F) = true ∧ (anc.getD i 0).testBit x.1 = false := by
        intro p hpp
        obtain ⟨L1, F', L2, h1, h2, h3⟩ := hp ((j, F) :: p) (by simp [PT.paths, hpp])
        cases L1 with
        | nil => simp at h1; exact absurd h1.1.1 hji
        | cons x L1 =>
          simp only [List.cons_append, List.cons.injEq] at h1
          exact ⟨L1, F', L2, h1.2, fun y hy => h2 y (by simp [hy]), fun y hy => h3 y (by simp [hy])⟩
      have ih := fun a w => frontQ hi hk (K := K) t a w hp'
      have h2 := stepC_mono (fun a w => ih a w) h
      obtain ⟨p, hpp⟩ := List.exists_mem_of_ne_nil _ (PT.paths_ne t)
      obtain ⟨L1, F', L2, h1, _, h3⟩ := hp ((j, F) :: p) (by simp [PT.paths, hpp])
      cases L1 with
      | nil => simp at h1; exact absurd h1.1.1 hji
      | cons x L1 =>
        simp only [List.cons_append, List.cons.injEq] at h1
        obtain ⟨rfl, h1⟩ := h1
        obtain ⟨h4, h5, h6⟩ := h3 (j, F) (by simp)
        obtain ⟨oj, hj⟩ := Option.isSome_iff_exists.1 h4
        simp only at hj
        simp only [pairB, hj, hi, h6, Bool.false_or] at h5
        exact swap hi hj (swapB_F hk h5) (by simp) h2
  | .fork x y, a, w, hp, h => by
    simp only [PT.rm, wpT] at h ⊢
    exact stepC_and hi hk (frontQ hi hk x a w (fun p hpp => hp p (by simp [PT.paths, hpp])) h.1) (frontQ hi hk y a w (fun p hpp => hp p (by simp [PT.paths, hpp])) h.2)

/-- what holds of each way through the tree -/
structure PathOK (P : Program) (ops : Array Oper) (anc : List Nat) (m : Nat) (listed : Array Bool) (L : List (Nat × List Nat)) : Prop where
  len : L.length = m
  inv : LInv ops L listed
  lt : ∀ x ∈ L, x.1 < ops.size
  pb : allPairs (pairB' P ops anc) L = true
  pr : allPairs (pairR P ops) L = true
  ne : allPairs (fun x y => x.1 != y.1) L = true

theorem PathOK.rm {anc : List Nat} {m i : Nat} {listed : Array Bool} {L1 L2 : List (Nat × List Nat)} {F : List Nat} {oi : Oper} (hoi : ops[i]? = some oi) (hdeps : ∀ e ∈ oi.after, Region.binds .any e = true → listed.getD e.on false = true)
    (h : PathOK P ops anc (m + 1) listed (L1 ++ (i, F) :: L2)) : PathOK P ops anc m (listed.setIfInBounds i true) (L1 ++ L2) := by
  obtain ⟨hl, inv, hlt, hp, hr, hn⟩ := h
  have hil := (Array.getElem?_eq_some_iff.1 hoi).1
  obtain ⟨p1, p2, _, _⟩ := allPairs_mid hp
  obtain ⟨r1, r2, r3, _⟩ := allPairs_mid hr
  obtain ⟨n1, n2, _, n4⟩ := allPairs_mid hn
  refine ⟨by simp at hl ⊢; omega, ⟨by simp [inv.size], fun k hk => ?_, fun j oj hj hjl e he hb => ?_⟩, ?_, p2, r2, n2⟩
  · by_cases hki : i = k
    · subst hki
      have : (listed.setIfInBounds i true).getD i true = true := by simp [show i < listed.size by rw [inv.size]; exact hil]
      rw [this]
      constructor
      · intro h; cases h
      · rintro ⟨x, hx, hxe⟩
        rcases List.mem_append.1 hx with hx | hx
        · have := n1 x hx; simp [hxe] at this
        · have := n4 x hx; simp [hxe] at this
    · rw [getD_set_ne true hki, inv.un k hk]
      constructor
      · rintro ⟨x, hx, hxe⟩
        rcases List.mem_append.1 hx with hx | hx
        · exact ⟨x, by simp [hx], hxe⟩
        · rcases List.mem_cons.1 hx with rfl | hx
          · exact absurd hxe hki
          · exact ⟨x, by simp [hx], hxe⟩
      · rintro ⟨x, hx, hxe⟩
        rcases List.mem_append.1 hx with hx | hx
        · exact ⟨x, by simp [hx], hxe⟩
        · exact ⟨x, by simp [hx], hxe⟩
  · by_cases hji : i = j
    · subst hji
      have : oj = oi := Option.some.inj (hj.symm.trans hoi)
      subst this
      exact getD_set_true (hdeps e he hb)
    · rw [getD_set_ne false hji] at hjl
      exact getD_set_true (inv.closed j oj hj hjl e he hb)
  · intro x hx
    rcases List.mem_append.1 hx with hx | hx
    · exact hlt x (by simp [hx])
    · exact hlt x (by simp [hx])

def effB (P : Program) (ops : Array Oper) (i : Nat) : Bool := match ops[i]? with | some o => kind P o == 2 | none => false

theorem wpT_end {K : Act → World → Prop} : ∀ (T : PT) (a : Act) (w : World), (∀ p ∈ T.paths, p = []) → wpT P ops QF K T a w → K a w
  | .nil, _, _, _, h => h
  | .op j F t, _, _, hp, _ => by
    obtain ⟨p, hpp⟩ := List.exists_mem_of_ne_nil _ (PT.paths_ne t)
    have := hp ((j, F) :: p) (by simp [PT.paths, hpp])
    cases this
  | .fork x y, a, w, hp, h => wpT_end x a w (fun p hpp => hp p (by simp [PT.paths, hpp])) h.1

theorem tree_any {anc : List Nat} (ha : ancB ops anc = true) {Q : Exit → Act → World → Prop} {K : Act → World → Prop} (hK : ∀ a w, K a w → Q .normal a w) :
    ∀ (m : Nat) (T : PT) (k : Nat) (rem : List Nat) (listed : Array Bool) (a : Act) (w : World), (∀ p ∈ T.paths, PathOK P ops anc m listed p) →
    (∀ i, i ∈ rem ↔ (effB P ops i = true ∧ listed.getD i true = false)) → covT anc (effB P ops) k rem T = true → wpT P ops QF K T a w → wpAny P .any ops Q m listed a w := by
  intro m
  induction m with
  | zero =>
    intro T k rem listed a w hp hrem hcov h
    have hnil : ∀ p ∈ T.paths, p = [] := fun p hpp => List.eq_nil_of_length_eq_zero (hp p hpp).len
    obtain ⟨p, hpp⟩ := List.exists_mem_of_ne_nil _ (PT.paths_ne T)
    have inv := (hp p hpp).inv
    refine ⟨?_, hK _ _ (wpT_end T a w hnil h)⟩
    rw [List.eq_nil_iff_forall_not_mem]
    intro i hi
    obtain ⟨h1, o, ho, _⟩ := mem_ready.1 hi
    obtain ⟨x, hx, _⟩ := (inv.un i (Array.getElem?_eq_some_iff.1 ho).1).1 h1
    rw [hnil p hpp] at hx; cases hx
  | succ m ih =>
    intro T k rem listed a w hp hrem hcov h
    obtain ⟨p0, hp0⟩ := List.exists_mem_of_ne_nil _ (PT.paths_ne T)
    have ok0 := hp p0 hp0
    have inv0 := ok0.inv
    refine ⟨fun hnil => ?_, fun i hi => ?_⟩
    · exfalso
      have hne : ∃ i, i < ops.size ∧ listed.getD i true = false := by
        cases hL : p0 with
        | nil => have := ok0.len; rw [hL] at this; simp at this
        | cons x r => exact ⟨x.1, ok0.lt x (by simp [hL]), (inv0.un x.1 (ok0.lt x (by simp [hL]))).2 ⟨x, by simp [hL], rfl⟩⟩
      obtain ⟨i, hil, hiu⟩ := hne
      have least : ∀ k, ∀ i, i ≤ k → i < ops.size → listed.getD i true = false → False := by
        intro k
        induction k using Nat.strongRecOn with
        | _ k ihk =>
          intro i hik hil hiu
          have : i ∈ Region.ready .any ops listed := by
            rw [mem_ready]
            refine ⟨hiu, ops[i], by simp [hil], fun e he hb => ?_⟩
            have hlt' := anc_lt ha (i := i) (o := ops[i]) (by simp [hil]) he hb
            have hs : e.on < listed.size := by rw [inv0.size]; omega
            rw [← getD_bool hs]
            cases hv : listed.getD e.on true with
            | true => rfl
            | false => exact (ihk (i - 1) (by omega) e.on (by omega) (by omega) hv).elim
          rw [hnil] at this; cases this
      exact least i i (Nat.le_refl _) hil hiu
    · obtain ⟨hiu, oi, hoi, hdeps⟩ := mem_ready.1 hi
      have hil := (Array.getElem?_eq_some_iff.1 hoi).1
      have hbit : ∀ j, listed.getD j true = false → j < ops.size → (anc.getD i 0).testBit j = false := by
        intro j hj hjl
        cases hb : (anc.getD i 0).testBit j with
        | false => rfl
        | true =>
          have := anc_listed ha inv0.closed i j oi hoi hb hdeps
          rw [getD_bool (by rw [inv0.size]; exact hjl), this] at hj; cases hj
      have hin : ∀ p ∈ T.paths, ∃ x ∈ p, x.1 = i := fun p hpp => ((hp p hpp).inv.un i hil).1 hiu
      have hlisted : ∀ j, j ≠ i → (listed.setIfInBounds i true).getD j true = listed.getD j true := fun j hj => getD_set_ne true (Ne.symm hj)
      have hself : (listed.setIfInBounds i true).getD i true = true := by simp [show i < listed.size by rw [inv0.size]; exact hil]
      by_cases hk2 : kind P oi = 2
      · -- an effect
        have hei : effB P ops i = true := by simp [effB, hoi, hk2]
        have himem : i ∈ rem := (hrem i).2 ⟨hei, hiu⟩
        cases k with
        | zero => simp only [covT, List.isEmpty_iff] at hcov; rw [hcov] at himem; cases himem
        | succ k =>
          simp only [covT, List.all_eq_true] at hcov
          have hc := hcov i himem
          have hno : (rem.any fun j => (anc.getD i 0).testBit j) = false := by
            rw [List.any_eq_false]
            intro j hj
            have hju := ((hrem j).1 hj).2
            have hjl : j < ops.size := by
              have := ((hrem j).1 hj).1
              unfold effB at this
              cases ho : ops[j]? with
              | none => simp [ho] at this
              | some o => exact (Array.getElem?_eq_some_iff.1 ho).1
            rw [hbit j hju hjl]; decide
          rw [hno, Bool.false_or] at hc
          cases hT : T.take (effB P ops) i with
          | none => simp [hT] at hc
          | some T' =>
            simp only [hT] at hc
            obtain ⟨L1, F, t, rfl, hq1, hpaths, hwp⟩ := take_spec (P := P) (ops := ops) hT
            have h1 := hwp h
            obtain ⟨p1, hp1⟩ := List.exists_mem_of_ne_nil _ (PT.paths_ne t)
            have ok1 := hp _ (hpaths p1 hp1)
            obtain ⟨b1, _, _, _⟩ := allPairs_mid ok1.pb
            obtain ⟨_, _, r3, _⟩ := allPairs_mid ok1.pr
            have hsome : ∀ x ∈ L1, (ops[x.1]?).isSome = true := fun x hx => by simp [ok1.lt x (by simp [hx])]
            have hfirst := front hoi L1 [] [] a w (K := wpT P ops QF K t) (anc := anc) (Fi := F) (fun x hx => by
              obtain ⟨ox, hox⟩ := Option.isSome_iff_exists.1 (hsome x hx)
              refine ⟨pairB_of hox hoi (b1 x hx) (.inl fun hkx => ?_), ?_⟩
              · have := hq1 x hx
                simp [effB, hox, hkx] at this
              · have hxl := ok1.lt x (by simp [hx])
                exact hbit x.1 ((ok1.inv.un x.1 hxl).2 ⟨x, by simp [hx], rfl⟩) hxl) r3 hsome (by simp) h1
            refine stepC_wpOp (fun a' w' h' => ih (PT.pre L1 t) k _ _ a' w' ?_ ?_ hc (wpC_pre L1 a' w' (by simpa using h'))) hfirst
            · intro q hq
              rw [paths_pre, List.mem_map] at hq
              obtain ⟨p, hpp, rfl⟩ := hq
              exact (hp _ (hpaths p hpp)).rm hoi hdeps
            · intro j
              simp only [List.mem_filter, bne_iff_ne, ne_eq, hrem j]
              by_cases hji : j = i
              · subst hji; simp [hself]
              · rw [hlisted j hji]; simp [hji]
      · -- nothing but a value
        have hei : effB P ops i = false := by simp [effB, hoi, hk2]
        have hfirst := frontQ hoi hk2 (anc := anc) (K := K) T a w (fun p hpp => by
          obtain ⟨x, hx, hxi⟩ := hin p hpp
          obtain ⟨L1, L2, rfl⟩ := List.append_of_mem hx
          obtain ⟨i', F⟩ := x
          simp only at hxi; subst hxi
          have ok := hp _ hpp
          obtain ⟨b1, _, _, _⟩ := allPairs_mid ok.pb
          obtain ⟨n1, _, _, _⟩ := allPairs_mid ok.ne
          refine ⟨L1, F, L2, rfl, fun y hy => by have := n1 y hy; simpa using this, fun y hy => ?_⟩
          have hyl := ok.lt y (by simp [hy])
          have hso : (ops[y.1]?).isSome = true := by simp [hyl]
          obtain ⟨oy, hoy⟩ := Option.isSome_iff_exists.1 hso
          exact ⟨hso, pairB_of hoy hoi (b1 y hy) (.inr hk2), hbit y.1 ((ok.inv.un y.1 hyl).2 ⟨y, by simp [hy], rfl⟩) hyl⟩) h
        refine stepC_wpOp (fun a' w' h' => ih (T.rm i) k rem _ a' w' ?_ ?_ (covT_rm hei k rem T (fun j hj => ((hrem j).1 hj).1) hcov) h') hfirst
        · intro q hq
          obtain ⟨L1, F, L2, _, h2, rfl⟩ := rm_paths hin q hq
          exact (hp _ h2).rm hoi hdeps
        · intro j
          rw [hrem j]
          by_cases hji : j = i
          · subst hji; simp [hei]
          · rw [hlisted j hji]

def pathB (P : Program) (ops : Array Oper) (anc : List Nat) (L : List (Nat × List Nat)) : Bool :=
  allPairs (pairB' P ops anc) L && allPairs (pairR P ops) L && (List.range ops.size).all (fun i => L.any fun x => x.1 == i) && allPairs (fun x y => x.1 != y.1) L && L.all fun x => decide (x.1 < ops.size)

def treeB (P : Program) (ops : Array Oper) (anc : List Nat) (T : PT) : Bool :=
  let effs := (List.range ops.size).filter (effB P ops)
  ancB ops anc && T.paths.all (pathB P ops anc) && covT anc (effB P ops) effs.length effs T

theorem wp_region_tree {id : Nat} {Q : Exit → Act → World → Prop} {K : Act → World → Prop} (hm : P.follows .mixedOrders = true) {anc : List Nat} {T : PT} (hc : treeB P ops anc T = true)
    (hK : ∀ a w, K a w → Q .normal a w) (h : wpT P ops QF K T a { w with drawn := w.drawn + 1 }) : (Code.region id ops true).wp P Q a w := by
  simp only [treeB, Bool.and_eq_true] at hc
  obtain ⟨⟨ha, hp⟩, hcov⟩ := hc
  refine wp_region_any hm ?_
  refine tree_any ha hK ops.size T _ _ _ a _ (fun L hL => ?_) ?_ hcov h
  · have hL' := List.all_eq_true.1 hp L hL
    simp only [pathB, Bool.and_eq_true, List.all_eq_true, List.mem_range, decide_eq_true_eq] at hL'
    obtain ⟨⟨⟨⟨hpb, hr⟩, hall⟩, hn⟩, hlt⟩ := hL'
    have hlen : L.length = ops.size := by
      have h1 : (L.map (·.1)).Nodup := by
        have : ∀ L : List (Nat × List Nat), allPairs (fun x y => x.1 != y.1) L = true → (L.map (·.1)).Nodup := by
          intro L
          induction L with
          | nil => intro _; simp
          | cons x r ih =>
            intro h
            simp only [allPairs, Bool.and_eq_true, List.all_eq_true] at h
            simp only [List.map_cons, List.nodup_cons, List.mem_map, not_exists, not_and]
            exact ⟨fun y hy he => by have := h.1 y hy; simp [he] at this, ih h.2⟩
        exact this L hn
      have h2 : (L.map (·.1)).Perm (List.range ops.size) := by
        refine (List.perm_ext_iff_of_nodup h1 List.nodup_range).2 fun i => ?_
        simp only [List.mem_map, List.mem_range]
        constructor
        · rintro ⟨x, hx, rfl⟩; exact hlt x hx
        · intro hi
          have := hall i hi
          simp only [List.any_eq_true, beq_iff_eq] at this
          exact this
      simpa using h2.length_eq
    refine ⟨hlen, ⟨by simp, fun i hi => ?_, fun j oj _ hl => ?_⟩, hlt, hpb, hr, hn⟩
    · have h1 : (Array.replicate ops.size false).getD i true = false := by simp [hi]
      rw [h1]
      have := hall i hi
      simp only [List.any_eq_true, beq_iff_eq] at this
      exact ⟨fun _ => this, fun _ => rfl⟩
    · have : (Array.replicate ops.size false).getD j false = false := by
        rcases Nat.lt_or_ge j ops.size with h | h
        · simp [h]
        · simp [h]
      rw [this] at hl; cases hl
  · intro i
    simp only [List.mem_filter, List.mem_range]
    constructor
    · rintro ⟨h1, h2⟩; exact ⟨h2, by simp [h1]⟩
    · rintro ⟨h1, h2⟩
      refine ⟨?_, h1⟩
      unfold effB at h1
      cases ho : ops[i]? with
      | none => simp [ho] at h1
      | some o => exact (Array.getElem?_eq_some_iff.1 ho).1
end
end Go.HL

/- HLG: code over named slots: what it asks (hw), the program that makes it (dcode), and that a function's contract follows. -/
namespace Go.HL
open Go

/-- the statements of a region whose effects stand open: a tree -/
inductive HT where
  | fin
  | run (l : List HS) (t : HT)
  | fork (a b : HT)

inductive HC where
  | reg (l : List HS)
  | draw (l : List HS)
  | drawT (t : HT)
  | seq (a b : HC)
  | cond (c : HE) (a b : HC)
  | block (id : Nat) (c : HC)
  | loop (c : HC)
  | exit (id : Nat)
  | ret
  | skip
  | never

inductive HX where
  | normal
  | exit (id : Nat)
  | ret

def noPanic : List PanicEntry → World → Prop := fun _ _ => False

def seqX (K : Env → World → Prop) (Q : HX → Env → World → Prop) : HX → Env → World → Prop
  | .normal => K
  | e => Q e
def blockX (id : Nat) (Q : HX → Env → World → Prop) : HX → Env → World → Prop
  | .exit i => if i = id then Q .normal else Q (.exit i)
  | e => Q e

/-- what a loop asks: a relation that holds ahead, with a number that each round lowers -/
def hloop (body : (HX → Env → World → Prop) → Env → World → Prop) (Q : HX → Env → World → Prop) (σ : Env) (w : World) : Prop :=
  ∃ (J : Nat → Env → World → Prop) (i : Nat), J i σ w ∧ ∀ i σ w, J i σ w → body (seqX (fun σ' w' => ∃ j, j < i ∧ J j σ' w') Q) σ w

def hcond (v : Value) (A B : Prop) : Prop := ∃ b, v = .bool b ∧ (b = true → A) ∧ (b = false → B)

def hsT (P : Program) (QP : List PanicEntry → World → Prop) (K : Env → World → Prop) : HT → Env → World → Prop
  | .fin => K
  | .run l t => hs P QP (hsT P QP K t) l
  | .fork a b => fun σ w => hsT P QP K a σ w ∧ hsT P QP K b σ w

def hw (P : Program) (QP : List PanicEntry → World → Prop) : HC → (HX → Env → World → Prop) → Env → World → Prop
  | .reg l, Q => hs P QP (Q .normal) l
  | .draw l, Q => fun σ w => hs P noPanic (Q .normal) l σ w.drew
  | .drawT t, Q => fun σ w => hsT P noPanic (Q .normal) t σ w.drew
  | .seq a b, Q => hw P QP a (seqX (hw P QP b Q) Q)
  | .cond c a b, Q => fun σ w => hcond (val σ w c) (hw P QP a Q σ w) (hw P QP b Q σ w)
  | .block id c, Q => hw P QP c (blockX id Q)
  | .loop c, Q => hloop (hw P QP c) Q
  | .exit id, Q => Q (.exit id)
  | .ret, Q => Q .ret
  | .skip, Q => Q .normal
  | .never, _ => fun _ _ => False

/-- the decompiler's plan: for a region's number the order and its certificate -/
structure Plan where
  id : Nat
  anc : List Nat
  L : List (Nat × List Nat)
  T : Option PT

def runT (l : List HS) : HT → HT
  | .run l' t => .run (l ++ l') t
  | t => .run l t

def dtree (P : Program) (ops : Array Oper) (N n : Nat) : DS → PT → Option HT
  | _, .nil => some .fin
  | st, .op i F t =>
    match dstep P ops N n st i F with
    | none => none
    | some (l, st') => (dtree P ops N n st' t).map (runT l)
  | st, .fork a b => match dtree P ops N n st a, dtree P ops N n st b with | some x, some y => some (.fork x y) | _, _ => none

def dcode (P : Program) (N n : Nat) (plans : List Plan) : Code → Option HC
  | .skip => some .skip
  | .region id ops draw =>
    if draw = true then
      match plans.find? fun p => p.id == id with
      | some p =>
        match p.T with
        | none => if canonB P ops p.anc p.L = true then (dlist P ops N n ⟨[], []⟩ p.L).map .draw else none
        | some T => if treeB P ops p.anc T = true then (dtree P ops N n ⟨[], []⟩ T).map .drawT else none
      | none => none
    else (dlist P ops N n ⟨[], []⟩ ((List.range ops.size).map fun i => (i, []))).map .reg
  | .seq a b => match dcode P N n plans a, dcode P N n plans b with | some x, some y => some (.seq x y) | _, _ => none
  | .cond c a b =>
    match exO N [] [] c, dcode P N n plans a, dcode P N n plans b with
    | some c, some x, some y => some (.cond c x y)
    | _, _, _ => none
  | .block id c => (dcode P N n plans c).map (.block id)
  | .loop c => (dcode P N n plans c).map .loop
  | .exit id => some (.exit id)
  | .scope c => dcode P N n plans c
  | .label _ => some .skip
  | .ret => some .ret
  | .refuse _ => some .never
  | _ => none

section
variable {P : Program} {N n : Nat} {D : List Deferred} {QP : List PanicEntry → World → Prop}

structure RelN (N n : Nat) (D : List Deferred) (a : Act) (σ : Env) : Prop where
  size : a.tmps.size = n
  defers : a.defers = D
  slot : ∀ t, N.testBit t = true → a.eval (.tmp t) = σ t

def lift (N n : Nat) (D : List Deferred) (QP : List PanicEntry → World → Prop) (Q : HX → Env → World → Prop) : Exit → Act → World → Prop
  | .normal, a, w => ∃ σ, RelN N n D a σ ∧ Q .normal σ w
  | .exit id, a, w => ∃ σ, RelN N n D a σ ∧ Q (.exit id) σ w
  | .ret, a, w => ∃ σ, RelN N n D a σ ∧ Q .ret σ w
  | .panic c, a, w => a.defers = D ∧ QP c w
  | .goto _, _, _ => False
  | .outgrown, _, _ => False

theorem lift_mono {Q Q' : HX → Env → World → Prop} (h : ∀ x σ w, Q x σ w → Q' x σ w) {e : Exit} {a : Act} {w : World} (hh : lift N n D QP Q e a w) : lift N n D QP Q' e a w := by
  cases e with
  | normal => obtain ⟨σ, r, q⟩ := hh; exact ⟨σ, r, h _ _ _ q⟩
  | exit id => obtain ⟨σ, r, q⟩ := hh; exact ⟨σ, r, h _ _ _ q⟩
  | ret => obtain ⟨σ, r, q⟩ := hh; exact ⟨σ, r, h _ _ _ q⟩
  | panic c => exact hh
  | goto l => exact hh
  | outgrown => exact hh

theorem stepC_op {ops : Array Oper} {Q : Exit → Act → World → Prop} {i : Nat} {K K' : Act → World → Prop} {a : Act} {w : World} (h : ∀ a w, K a w → K' a w) (hh : stepC P ops Q i [] K a w) : wpOp P ops Q i K' a w := by
  unfold stepC at hh
  unfold wpOp
  cases ho : ops[i]? with
  | none => simp [ho] at hh
  | some o =>
    simp only [ho] at hh ⊢
    split at hh
    · rename_i hw; rw [if_pos hw]
      left
      cases hq : resolve P o.op with
      | some q =>
        simp only [hq] at hh
        have hr := resolve_sound (P := P) (ρ := a.eval) (w := w) hq hh.1
        simp only [Oper.wp, hr, Oper.upon]; exact h _ _ hh.2
      | none =>
        simp only [hq] at hh
        exact Oper.wp_mono (fun a w hx => h _ _ hx.2) hh
    · rename_i hw; rw [if_neg hw]; exact h _ _ hh

theorem wpC_ops {ops : Array Oper} {Q : Exit → Act → World → Prop} {K : Act → World → Prop} (hK : ∀ a w, K a w → Q .normal a w) : ∀ (l : List Nat) (a : Act) (w : World),
    wpC P ops Q K (l.map fun i => (i, [])) a w → wpOps P ops Q l a w
  | [], a, w, h => hK _ _ h
  | i :: r, a, w, h => by
    rw [wpOps_cons]
    exact stepC_op (fun a w hx => wpC_ops hK r a w hx) h

theorem hs_app {QP : List PanicEntry → World → Prop} {K : Env → World → Prop} : ∀ (l r : List HS) (σ : Env) (w : World), hs P QP K (l ++ r) σ w = hs P QP (hs P QP K r) l σ w
  | [], _, _, _ => rfl
  | .need e :: l, r, σ, w => by simp only [List.cons_append, hs, hs_app l r]
  | .asg d e :: l, r, σ, w => by simp only [List.cons_append, hs, hs_app l r]
  | .eff d o ty m g stab :: l, r, σ, w => by
    cases g with
    | none => simp only [List.cons_append, hs, hs_app l r]
    | some g => obtain ⟨c, want⟩ := g; simp only [List.cons_append, hs, hs_app l r]

theorem hsT_runT {K : Env → World → Prop} (l : List HS) (t : HT) (σ : Env) (w : World) : hsT P QP K (runT l t) σ w = hs P QP (hsT P QP K t) l σ w := by
  cases t with
  | run l' t => simp only [runT, hsT, hs_app]
  | fin => rfl
  | fork a b => rfl

theorem dtree_sound {ops : Array Oper} {K : Env → World → Prop} {K' : Act → World → Prop}
    (hK : ∀ a' σ' w', a'.tmps.size = n → a'.defers = D → (∀ t, N.testBit t = true → a'.eval (.tmp t) = σ' t) → K σ' w' → K' a' w') :
    ∀ (T : PT) (st : DS) (a : Act) (σ : Env) (w : World) (h : HT), Rel P ops N n D st a σ w → nodupR st.R → dtree P ops N n st T = some h → hsT P noPanic K h σ w → wpT P ops QF K' T a w
  | .nil, st, a, σ, w, h, R, _, hd, H => by
    simp only [dtree, Option.some.injEq] at hd; subst hd
    exact hK a σ w R.size R.defers R.slot H
  | .op i F t, st, a, σ, w, h, R, hn, hd, H => by
    simp only [dtree] at hd
    cases hs : dstep P ops N n st i F with
    | none => simp [hs] at hd
    | some p =>
      obtain ⟨l1, st'⟩ := p
      simp only [hs, Option.map_eq_some_iff] at hd
      obtain ⟨h2, hd2, rfl⟩ := hd
      rw [hsT_runT] at H
      exact dstep_sound (rest := []) (QP := noPanic) (fun _ _ _ _ h => h) R hn hs (by rw [List.append_nil]; exact H) (fun a' σ' w' R' hn' H' => dtree_sound hK t st' a' σ' w' h2 R' hn' hd2 H')
  | .fork x y, st, a, σ, w, h, R, hn, hd, H => by
    simp only [dtree] at hd
    cases hx : dtree P ops N n st x <;> cases hy : dtree P ops N n st y <;> simp only [hx, hy, Option.some.injEq, reduceCtorEq] at hd
    rename_i h1 h2
    subst hd
    exact ⟨dtree_sound hK x st a σ w h1 R hn hx H.1, dtree_sound hK y st a σ w h2 R hn hy H.2⟩

theorem dcode_sound {plans : List Plan} (hm : P.follows .mixedOrders = true) : ∀ (c : Code) (h : HC), dcode P N n plans c = some h → ∀ (Q : HX → Env → World → Prop) (σ : Env) (a : Act) (w : World),
    RelN N n D a σ → hw P QP h Q σ w → c.wp P (lift N n D QP Q) a w := by
  intro c
  induction c with
  | skip => intro h hd Q σ a w R H; simp only [dcode, Option.some.injEq] at hd; subst hd; exact wp_skip ⟨σ, R, H⟩
  | region id ops draw =>
    intro h hd Q σ a w R H
    have R0 : ∀ w, Rel P ops N n D ⟨[], []⟩ a σ w := fun w => ⟨R.size, R.defers, R.slot, by simp, by simp⟩
    have nd : nodupR ([] : List Rd) := by intro r hr; cases hr
    simp only [dcode] at hd
    split at hd
    · rename_i hdr
      subst hdr
      cases hp : plans.find? (fun p => p.id == id) with
      | none => simp [hp] at hd
      | some p =>
        simp only [hp] at hd
        split at hd
        · split at hd
          · rename_i hc
            simp only [Option.map_eq_some_iff] at hd
            obtain ⟨l, hl, rfl⟩ := hd
            refine wp_region_canon (K := lift N n D QP Q .normal) hm hc (fun a w hx => hx) ?_
            exact dlist_sound (QP := noPanic) (K := Q .normal) (fun _ _ _ _ h => h) (fun a' σ' w' h1 h2 h3 h4 => ⟨σ', ⟨h1, h2, h3⟩, h4⟩) p.L ⟨[], []⟩ a σ _ l (R0 _) nd hl H
          · cases hd
        · rename_i T _
          split at hd
          · rename_i hc
            simp only [Option.map_eq_some_iff] at hd
            obtain ⟨l, hl, rfl⟩ := hd
            refine wp_region_tree (K := lift N n D QP Q .normal) hm hc (fun a w hx => hx) ?_
            exact dtree_sound (K := Q .normal) (fun a' σ' w' h1 h2 h3 h4 => ⟨σ', ⟨h1, h2, h3⟩, h4⟩) T ⟨[], []⟩ a σ _ l (R0 _) nd hl H
          · cases hd
    · rename_i hdr
      have : draw = false := by simpa using hdr
      subst this
      simp only [Option.map_eq_some_iff] at hd
      obtain ⟨l, hl, rfl⟩ := hd
      refine wp_region (wpC_ops (K := lift N n D QP Q .normal) (fun a w hx => hx) _ a w ?_)
      exact dlist_sound (QP := QP) (K := Q .normal) (fun c a w h1 h2 => ⟨h1, h2⟩) (fun a' σ' w' h1 h2 h3 h4 => ⟨σ', ⟨h1, h2, h3⟩, h4⟩) _ ⟨[], []⟩ a σ _ l (R0 _) nd hl H
  | seq x y ihx ihy =>
    intro h hd Q σ a w R H
    simp only [dcode] at hd
    cases hx : dcode P N n plans x <;> cases hy : dcode P N n plans y <;> simp only [hx, hy, Option.some.injEq, reduceCtorEq] at hd
    rename_i a' b'
    subst hd
    refine wp_seq (Code.wp_mono (fun e a w hq => ?_) (ihx _ hx (seqX (hw P QP b' Q) Q) σ a w R H))
    cases e with
    | normal => obtain ⟨σ', r, q⟩ := hq; exact ihy _ hy Q σ' a w r q
    | exit id => exact hq
    | ret => exact hq
    | panic c => exact hq
    | goto l => exact hq
    | outgrown => exact hq
  | cond c x y ihx ihy =>
    intro h hd Q σ a w R H
    simp only [dcode] at hd
    cases hc : exO N [] [] c <;> cases hx : dcode P N n plans x <;> cases hy : dcode P N n plans y <;> simp only [hc, hx, hy, Option.some.injEq, reduceCtorEq] at hd
    rename_i c' a' b'
    subst hd
    obtain ⟨t, ht, h1, h2⟩ := H
    have R0 : Rel P #[] N n D ⟨[], []⟩ a σ w := ⟨R.size, R.defers, R.slot, by simp, by simp⟩
    have hv : a.eval c = .bool t := by rw [exO_sound R0 (gs := []) (by simp) hc, ht]
    cases t with
    | true => exact wp_cond_true hv (ihx _ hx Q σ a w R (h1 rfl))
    | false => exact wp_cond_false hv (ihy _ hy Q σ a w R (h2 rfl))
  | block id c ih =>
    intro h hd Q σ a w R H
    simp only [dcode, Option.map_eq_some_iff] at hd
    obtain ⟨c', hc, rfl⟩ := hd
    refine wp_block (Code.wp_mono (fun e a w hq => ?_) (ih _ hc (blockX id Q) σ a w R H))
    cases e with
    | normal => exact hq
    | exit i =>
      simp only [Exit.inBlock]
      obtain ⟨σ', r, q⟩ := hq
      simp only [blockX] at q
      split
      · rename_i he; rw [if_pos he] at q; exact ⟨σ', r, q⟩
      · rename_i he; rw [if_neg he] at q; exact ⟨σ', r, q⟩
    | ret => exact hq
    | panic c => exact hq
    | goto l => exact hq
    | outgrown => exact hq
  | loop c ih =>
    intro h hd Q σ a w R H
    simp only [dcode, Option.map_eq_some_iff] at hd
    obtain ⟨c', hc, rfl⟩ := hd
    obtain ⟨J, i, h0, hstep⟩ := H
    have key : ∀ (k : Nat) (σ : Env) (a : Act) (w : World), RelN N n D a σ → (∃ j, j < k ∧ J j σ w) → Code.rounds P c (lift N n D QP Q) k a w := by
      intro k
      induction k with
      | zero => rintro σ a w _ ⟨j, h, _⟩; omega
      | succ k ihk =>
        rintro σ a w R ⟨j, hj, hJ⟩
        rw [rounds_succ]
        refine Code.wp_mono (fun e a' w' hq => ?_) (ih _ hc _ σ a w R (hstep j σ w hJ))
        cases e with
        | normal =>
          obtain ⟨σ', r, j', q1, q2⟩ := hq
          exact ihk σ' a' w' r ⟨j', by omega, q2⟩
        | exit id => exact hq
        | ret => exact hq
        | panic c => exact hq
        | goto l => exact hq
        | outgrown => exact hq
    exact wp_loop_rounds (i + 1) (key _ σ a w R ⟨i, Nat.lt_succ_self _, h0⟩)
  | exit id => intro h hd Q σ a w R H; simp only [dcode, Option.some.injEq] at hd; subst hd; exact wp_exit ⟨σ, R, H⟩
  | scope c ih =>
    intro h hd Q σ a w R H
    simp only [dcode] at hd
    refine wp_scope_straight (Code.wp_mono (fun e a w hq => ?_) (ih h hd Q σ a w R H))
    cases e with
    | goto l => exact hq
    | normal => exact hq
    | exit id => exact hq
    | ret => exact hq
    | panic c => exact hq
    | outgrown => exact hq
  | label l => intro h hd Q σ a w R H; simp only [dcode, Option.some.injEq] at hd; subst hd; exact wp_label ⟨σ, R, H⟩
  | ret => intro h hd Q σ a w R H; simp only [dcode, Option.some.injEq] at hd; subst hd; exact wp_ret ⟨σ, R, H⟩
  | refuse s => intro h hd Q σ a w R H; simp only [dcode, Option.some.injEq] at hd; subst hd; exact H.elim
  | _ => intro h hd; simp [dcode] at hd

/-! ### a function -/

/-- where a result lies -/
inductive RV where
  | tmp (t : Nat)
  | cell (a : Nat) (f : F1)

def rvOK (P : Program) (N : Nat) : ResultVar → RV → Bool
  | .tmp t, .tmp u => t == u && N.testBit t
  | .cell a t, .cell b f => a == b && N.testBit a && (match aggT P t, szOf P t with | some true, some n => decide (f = .ldn n) | some false, _ => decide (f = .ld) | _, _ => false)
  | _, _ => false

def rvV (σ : Env) (w : World) : RV → Value
  | .tmp t => σ t
  | .cell a f => v1 w f (σ a)
def rvC (σ : Env) (w : World) : RV → Prop
  | .tmp _ => True
  | .cell a f => (∃ p, σ a = .pointer (some p)) ∧ c1 w f (σ a)

def retV (l : List Value) : Value := match l with | [v] => v | l => .tuple l.toArray

def rvCs (σ : Env) (w : World) : List RV → Prop
  | [] => True
  | .tmp _ :: l => rvCs σ w l
  | .cell a f :: l => (∃ p, σ a = .pointer (some p)) ∧ c1 w f (σ a) ∧ rvCs σ w l
theorem rvCs_all {σ : Env} {w : World} : ∀ {rs : List RV}, rvCs σ w rs → ∀ r ∈ rs, rvC σ w r := by
  intro rs
  induction rs with
  | nil => intro _ r hr; cases hr
  | cons x l ih =>
    intro h r hr
    cases x with
    | tmp t =>
      rcases List.mem_cons.1 hr with rfl | hr
      · trivial
      · exact ih h r hr
    | cell a f =>
      rcases List.mem_cons.1 hr with rfl | hr
      · exact ⟨h.1, h.2.1⟩
      · exact ih h.2.2 r hr

/-- what the function's end asks -/
def endX (rs : List RV) (R : Ending → World → Prop) : HX → Env → World → Prop
  | .normal, σ, w => rvCs σ w rs ∧ R (.returned (retV (rs.map (rvV σ w)))) w
  | .ret, σ, w => rvCs σ w rs ∧ R (.returned (retV (rs.map (rvV σ w)))) w
  | .exit _, _, _ => False

def zipOK (P : Program) (N : Nat) : List ResultVar → List RV → Bool
  | [], [] => true
  | x :: l, y :: r => rvOK P N x y && zipOK P N l r
  | _, _ => false

def rvS (tmps : Array Value) : ResultVar → Sem Value
  | .tmp t => pure (tmps.getD t undef)
  | .cell a t => do loadVar t (← asAddr (tmps.getD a undef))

theorem run_rv {a : Act} {σ : Env} {w : World} (R : RelN N n D a σ) (x : ResultVar) (y : RV) (h1 : rvOK P N x y = true) (hcy : rvC σ w y) : (rvS a.tmps x).run P w = .ok (rvV σ w y) w := by
  cases x <;> cases y <;> simp only [rvOK, Bool.and_eq_true, beq_iff_eq, Bool.false_eq_true] at h1
  · obtain ⟨rfl, hb⟩ := h1
    have := R.slot _ hb
    simp only [Act.eval] at this
    simp only [rvS, Sem.run_pure, rvV, this]
  · obtain ⟨⟨rfl, hb⟩, hf⟩ := h1
    obtain ⟨⟨p, hp⟩, hcc⟩ := hcy
    have hs := R.slot _ hb
    simp only [Act.eval] at hs
    rename_i b t f
    rw [hp] at hs
    simp only [rvS, hs, asAddr, rvV, hp]
    have hq : resolve P (.load t (.const (.pointer (some p)))) = some (.q1 f (.const (.pointer (some p)))) := by
      simp only [resolve]
      cases ha : aggT P t with
      | none => simp [ha] at hf
      | some b =>
        cases hz : szOf P t with
        | none => cases b <;> simp [ha, hz] at hf; simp [hf]
        | some m => cases b <;> simp [ha, hz] at hf <;> simp [hf]
    have := s_load (P := P) (ρ := fun x => match x with | .const v => v | _ => undef) (w := w) hq (by rw [hp] at hcc; exact hcc)
    simpa [Instr.loadAt, Instr.sureAddr, qval] using this

theorem run_rvs {a : Act} {σ : Env} {w : World} (R : RelN N n D a σ) : ∀ (l : List ResultVar) (rs : List RV), zipOK P N l rs = true → (∀ r ∈ rs, rvC σ w r) →
    (l.mapM (rvS a.tmps)).run P w = .ok (rs.map (rvV σ w)) w
  | [], [], _, _ => rfl
  | x :: l, y :: r, h, hc => by
    simp only [zipOK, Bool.and_eq_true] at h
    have ih := run_rvs R l r h.2 (fun r hr => hc r (by simp [hr]))
    have hx := run_rv (P := P) R x y h.1 (hc y (by simp))
    simp only [List.mapM_cons, Sem.run_bind, hx, Result.andThen_ok, ih, Sem.run_pure, List.map_cons]
  | [], _ :: _, h, _ => by simp [zipOK] at h
  | _ :: _, [], h, _ => by simp [zipOK] at h

theorem run_results {fn : Func} {a : Act} {σ : Env} {w : World} (R : RelN N n D a σ) {rs : List RV} (h : zipOK P N fn.results.toList rs = true) (hc : ∀ r ∈ rs, rvC σ w r) :
    (results fn a.tmps).run P w = .ok (retV (rs.map (rvV σ w))) w := by
  have h1 := run_rvs (P := P) R fn.results.toList rs h hc
  have h2 : (fn.results.mapM (rvS a.tmps)).run P w = .ok (rs.map (rvV σ w)).toArray w := by
    rw [← Array.toArray_toList (xs := fn.results), List.mapM_toArray]
    simp only [Sem.run_map, Sem.run_bind, h1, Result.andThen_ok]
  have h3 : results fn a.tmps = (do let vs ← fn.results.mapM (rvS a.tmps); pure (if h : vs.size = 1 then vs[0] else .tuple vs) : Sem Value) := by
    unfold results
    congr 1
  rw [h3]
  simp only [Sem.run_bind, h2, Result.andThen_ok, Sem.run_pure]
  congr 1
  unfold retV
  cases hl : rs.map (rvV σ w) with
  | nil => simp
  | cons v r =>
    cases r with
    | nil => simp
    | cons u r => simp

def σ0 (args : List Value) : Env := fun t => args.getD t undef

/-- A FUNCTION'S CONTRACT out of its code over named slots. -/
theorem calls_of_hw {f : FuncId} {fn : Func} {c : Code} {h : HC} {plans : List Plan} {rs : List RV} {args : List Value} {w : World} {R : Ending → World → Prop} (N : Nat)
    (hf : P.funcs[f]? = some fn) (hb : fn.body = some c) (hm : P.follows .mixedOrders = true) (hd : dcode P N fn.ntmps plans c = some h) (hr : zipOK P N fn.results.toList rs = true) (hn : args.length ≤ fn.ntmps)
    (H : hw P (fun ch w' => R (.panicked ch) w') h (endX rs R) (σ0 args) w) : Calls P f args.toArray w R := by
  refine calls_of_wp hf hb ?_
  have R0 : RelN N fn.ntmps [] { tmps := args.toArray ++ Array.replicate (fn.ntmps - args.toArray.size) undef, defers := [] } (σ0 args) := by
    refine ⟨by simp; omega, rfl, fun t _ => ?_⟩
    simp only [Act.eval, σ0]
    rcases Nat.lt_or_ge t args.length with ht | ht
    · simp [Array.getD_eq_getD_getElem?, Array.getElem?_append, ht]
    · simp only [Array.getD_eq_getD_getElem?, Array.getElem?_append, List.size_toArray, Array.getElem?_replicate]
      rw [if_neg (by omega)]
      simp [List.getD_eq_getElem?_getD, List.getElem?_eq_none ht]
      split <;> simp
  refine Code.wp_mono (fun e a w hq => ?_) (dcode_sound (D := []) hm c h hd (endX rs R) (σ0 args) _ w R0 H)
  cases e with
  | normal => obtain ⟨σ, r, hc, q⟩ := hq; exact ⟨r.defers, _, run_results r hr (rvCs_all hc), q⟩
  | ret => obtain ⟨σ, r, hc, q⟩ := hq; exact ⟨r.defers, _, run_results r hr (rvCs_all hc), q⟩
  | exit id => obtain ⟨σ, r, q⟩ := hq; exact q.elim
  | panic c => exact hq
  | goto l => exact hq
  | outgrown => exact hq.elim
end
end Go.HL

namespace Go.HL
open Go
/-- a function's code over named slots, where everything that its contract needs has been looked at -/
def fnOK (P : Program) (N : Nat) (plans : List Plan) (rs : List RV) (na : Nat) (fn : Func) : Option HC :=
  match fn.body with
  | some c => if (zipOK P N fn.results.toList rs && decide (na ≤ fn.ntmps)) = true then dcode P N fn.ntmps plans c else none
  | none => none

theorem calls_of_fn {P : Program} {f : FuncId} {fn : Func} {h : HC} {N : Nat} {plans : List Plan} {rs : List RV} {na : Nat} (hf : P.funcs[f]? = some fn) (hm : P.follows .mixedOrders = true)
    (hk : fnOK P N plans rs na fn = some h) (args : List Value) (ha : args.length = na) {w : World} {R : Ending → World → Prop}
    (H : hw P (fun ch w' => R (.panicked ch) w') h (endX rs R) (σ0 args) w) : Calls P f args.toArray w R := by
  unfold fnOK at hk
  cases hb : fn.body with
  | none => simp [hb] at hk
  | some c =>
    simp only [hb] at hk
    split at hk
    · rename_i hc
      simp only [Bool.and_eq_true, decide_eq_true_eq] at hc
      exact calls_of_hw N hf hb hm hk hc.1 (by omega) H
    · cases hk
end Go.HL
