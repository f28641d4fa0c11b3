/- HLF: a region that draws its order: one order serves for all. -/
import Derived.Test.YtgalileklafbbaaHLE
set_option linter.unusedSimpArgs false
set_option linter.unusedVariables false
set_option maxRecDepth 100000
namespace Go.HL
open Go

def QF : Exit → Act → World → Prop := fun _ _ _ => False

section
variable {P : Program} {ops : Array Oper} {a : Act} {w : World}

theorem wp_some {o : Oper} {K : Act → World → Prop} (h : o.wp P a w K QF) : ∃ a' w' u, K a' w' ∧ a'.tmps = (a.put o.dst u).tmps := by
  unfold Oper.wp at h
  generalize (execOp a.eval o).run P w = r at h
  cases r with
  | ok nx w' =>
    cases nx <;> simp only [Oper.upon] at h
    case value v => exact ⟨_, _, v, h, rfl⟩
    case skip => exact ⟨_, _, undef, h, rfl⟩
    case defer d => exact ⟨_, _, undef, h, by cases o.dst <;> rfl⟩
    case enter f args =>
      obtain ⟨e, w'', fr, he, _⟩ := h []
      cases e with
      | returned v => exact ⟨_, _, v, he, rfl⟩
      | panicked c => exact he.elim
      | outgrown => exact (by obtain ⟨a, w, h⟩ := he; exact h.elim)
    case row row args =>
      obtain ⟨v, w'', h1, _⟩ := h default []
      exact ⟨_, _, v, h1, rfl⟩
  | halt x w' => cases x <;> simp only [Oper.upon] at h; exact h.elim

theorem wp_put_iff {oi oj : Oper} {v : Value} (hap : oi.apart ops oj = true) (hsj : ∀ cs b, oj.op ≠ .select cs b) {K : Act → World → Prop} :
    oj.wp P (a.put oi.dst v) w K QF ↔ oj.wp P a w (fun a' w' => K (a'.put oi.dst v) w') QF := by
  obtain ⟨h1, h2, h3⟩ := Oper.apart_spec hap
  unfold Oper.wp
  rw [execOp_put oj hsj a oi.dst v h1]
  generalize (execOp a.eval oj).run P w = r
  cases r with
  | ok nx w' =>
    cases nx <;> simp only [Oper.upon]
    case value u => rw [Act.put_comm a v u h2]
    case skip => rw [Act.put_comm a v undef h2]
    case defer d => rw [Act.put_defers, Act.put_comm _ v undef h2]
    case enter f args =>
      constructor <;> (intro h; refine Calls.mono h fun e w'' he => ?_; cases e) <;> first | exact he | (simp only [Act.put_comm a v _ h2] at he ⊢; exact he)
    case row row args =>
      constructor <;> (intro h; refine Rows.mono h fun u w'' he => ?_; simp only [Act.put_comm a v _ h2] at he ⊢; exact he)
  | halt x w' => cases x <;> simp only [Oper.upon] <;> rfl

def qops : Q Operand → List Operand
  | .mv x => [x]
  | .q1 _ x => [x]
  | .q2 _ x y => [x, y]
  | .q3 _ x y z => [x, y, z]
  | .bld _ parts => parts.map fun p => p.2.2
  | .clo _ first caps => first ++ caps

theorem bld_congr {ρ ρ' : Operand → Value} : ∀ (l : List (Nat × Nat × Operand)) (acc : Value), (∀ x ∈ l.map (fun p => p.2.2), ρ x = ρ' x) → bldC ρ acc l = bldC ρ' acc l ∧ bldV ρ acc l = bldV ρ' acc l
  | [], _, _ => ⟨rfl, rfl⟩
  | (o, n, x) :: r, acc, h => by
    simp only [List.map_cons, List.mem_cons, forall_eq_or_imp] at h
    simp only [bldC, bldV, h.1, bld_congr r _ h.2, and_self]
theorem push_congr {ρ ρ' : Operand → Value} (f : F2) : ∀ (l : List Operand) (acc : Value), (∀ x ∈ l, ρ x = ρ' x) → pushAll ρ f acc l = pushAll ρ' f acc l
  | [], _, _ => rfl
  | x :: r, acc, h => by
    simp only [List.mem_cons, forall_eq_or_imp] at h
    simp only [pushAll, h.1, push_congr f r _ h.2]

theorem q_congr {ρ ρ' : Operand → Value} {q : Q Operand} (h : ∀ x ∈ qops q, ρ x = ρ' x) : qchk ρ w q = qchk ρ' w q ∧ qval ρ w q = qval ρ' w q := by
  cases q with
  | bld z l => exact bld_congr l _ h
  | clo fn a b =>
    refine ⟨rfl, ?_⟩
    simp only [qval]
    rw [push_congr .capf a _ (fun x hx => h x (List.mem_append_left _ hx)), push_congr .capt b _ (fun x hx => h x (List.mem_append_right _ hx))]
  | _ => simp_all [qops, qchk, qval]

theorem parts_ops {parts : List (Nat × Operand)} {pl : Nat → Option (Nat × Nat)} : ∀ {l : List (Nat × Nat × Operand)}, (parts.mapM fun (p : Nat × Operand) => (pl p.1).map fun (q : Nat × Nat) => (q.1, q.2, p.2)) = some l →
    l.map (fun p => p.2.2) = parts.map (·.2) := by
  induction parts with
  | nil => intro l h; simp at h; subst h; rfl
  | cons p r ih =>
    intro l h
    simp only [List.mapM_cons, Option.bind_eq_bind, Option.bind_eq_some_iff, Option.map_eq_some_iff, Option.pure_def, Option.some.injEq] at h
    obtain ⟨e, ⟨q, hq, rfl⟩, l', hl', rfl⟩ := h
    simp [ih hl']

theorem optF_mem (x : Option Operand) : optF x ∈ x.toArray ∨ ∃ v, optF x = .const v := by cases x <;> simp [optF]

theorem resolve_ops {o : Op} {q : Q Operand} (h : resolve P o = some q) : ∀ x ∈ qops q, x ∈ o.operands ∨ ∃ v, x = .const v := by
  cases o with
  | move x => simp only [resolve, Option.some.injEq] at h; subst h; simp [qops, Op.operands]
  | assign x => simp only [resolve, Option.some.injEq] at h; subst h; simp [qops, Op.operands]
  | pick c a b => simp only [resolve, Option.some.injEq] at h; subst h; simp [qops, Op.operands]
  | nilCheck x => simp only [resolve, Option.some.injEq] at h; subst h; simp [qops, Op.operands]
  | binOp op t x y u =>
    have : ∃ f, q = .q2 f x y := by
      simp only [resolve] at h
      cases hu : P.underlying t with
      | none => simp [hu] at h
      | some d => cases d <;> simp [hu] at h <;> first | exact ⟨_, h.symm⟩ | (cases op <;> simp at h <;> exact ⟨_, h.symm⟩) | (rename_i e; cases he : (P.info? e).isSome <;> cases op <;> simp only [he, reduceCtorEq, Option.some.injEq] at h <;> exact ⟨_, h.symm⟩)
    obtain ⟨f, rfl⟩ := this
    simp [qops, Op.operands]
  | unOp op t x =>
    simp only [resolve] at h
    cases op <;> simp at h <;> subst h <;> simp [qops, Op.operands]
  | convert s d x =>
    simp only [resolve] at h
    split at h <;> simp at h <;> subst h <;> simp [qops, Op.operands]
  | makeInterface t x =>
    simp only [resolve] at h
    split at h <;> simp at h <;> subst h <;> simp [qops, Op.operands]
  | makeFunc fn a b =>
    simp only [resolve, Option.some.injEq] at h; subst h
    intro x hx; simp only [qops, List.mem_append, Array.mem_toList_iff] at hx
    left; simpa [Op.operands] using hx
  | build t parts =>
    intro x hx
    left
    have key : ∀ l z, q = .bld z l → l.map (fun p => p.2.2) = parts.toList.map (·.2) → x ∈ Op.operands (.build t parts) := by
      intro l z hq hl
      subst hq
      simp only [qops, hl] at hx
      simpa [Op.operands] using hx
    simp only [resolve] at h
    cases hz : (P.info? t).bind (·.zero) with
    | none => simp [hz] at h
    | some z =>
      cases hu : P.underlying t with
      | none => simp [hz, hu] at h
      | some d =>
        cases d <;> simp only [hz, hu, reduceCtorEq] at h
        case struct fields =>
          split at h
          · rename_i places hp
            simp only [Option.map_eq_some_iff] at h
            obtain ⟨l, hl', rfl⟩ := h
            exact key _ _ rfl (parts_ops hl')
          · cases h
        case array len e =>
          split at h
          · simp only [Option.some.injEq] at h; subst h
            exact key _ _ rfl (by simp)
          · cases h
  | load t a =>
    simp only [resolve] at h
    split at h <;> simp at h <;> subst h <;> simp [qops, Op.operands]
  | fieldAddr s x f =>
    have : ∃ g, q = .q1 g x := by
      simp only [resolve] at h
      split at h
      · split at h
        · split at h <;> simp at h; exact ⟨_, h.symm⟩
        · cases h
      · cases h
    obtain ⟨g, rfl⟩ := this
    simp [qops, Op.operands]
  | field s x f =>
    have : ∃ g, q = .q1 g x := by
      simp only [resolve] at h
      split at h
      · split at h
        · split at h <;> simp at h; exact ⟨_, h.symm⟩
        · cases h
      · cases h
    obtain ⟨g, rfl⟩ := this
    simp [qops, Op.operands]
  | indexAddr t x i =>
    have : ∃ f, q = .q2 f x i := by
      simp only [resolve] at h
      split at h
      · simp only [Option.map_eq_some_iff] at h; obtain ⟨n, _, rfl⟩ := h; exact ⟨_, rfl⟩
      · simp only [Option.map_eq_some_iff] at h; obtain ⟨n, _, rfl⟩ := h; exact ⟨_, rfl⟩
      · cases h
    obtain ⟨f, rfl⟩ := this
    simp [qops, Op.operands]
  | index t x i =>
    have : ∃ f, q = .q2 f x i := by
      simp only [resolve] at h
      split at h
      · simp only [Option.some.injEq] at h; exact ⟨_, h.symm⟩
      · split at h <;> simp at h; exact ⟨_, h.symm⟩
      · cases h
    obtain ⟨f, rfl⟩ := this
    simp [qops, Op.operands]
  | slice t x lo hi mx =>
    cases mx with
    | some m => simp [resolve] at h
    | none =>
      have : ∃ f, q = .q3 f x (optF lo) (optF hi) := by
        simp only [resolve] at h
        split at h
        · simp only [Option.some.injEq] at h; exact ⟨_, h.symm⟩
        · simp only [Option.map_eq_some_iff] at h; obtain ⟨n, _, rfl⟩ := h; exact ⟨_, rfl⟩
        · cases h
      obtain ⟨f, rfl⟩ := this
      have h1 := optF_mem lo
      have h2 := optF_mem hi
      intro y hy
      simp only [qops, List.mem_cons, List.not_mem_nil, or_false] at hy
      rcases hy with rfl | rfl | rfl
      · left; simp [Op.operands]
      · rcases h1 with h1 | h1
        · left; simp only [Op.operands, Array.mem_append]; exact .inl (.inl (.inr h1))
        · exact .inr h1
      · rcases h2 with h2 | h2
        · left; simp only [Op.operands, Array.mem_append]; exact .inl (.inr h2)
        · exact .inr h2
  | extract x i => simp only [resolve, Option.some.injEq] at h; subst h; simp [qops, Op.operands]
  | call c =>
    obtain ⟨callee, args, ts⟩ := c
    cases callee with
    | builtin b =>
      cases b <;> simp only [resolve, reduceCtorEq] at h
      case len =>
        have : ∃ x f, args.toList = [x] ∧ q = .q1 f x := by
          split at h
          · rename_i x t ha ht
            refine ⟨x, ?_⟩
            split at h <;> simp at h <;> exact ⟨_, ha, h.symm⟩
          · cases h
        obtain ⟨x, f, ha, rfl⟩ := this
        simp [qops, Op.operands, Call.operands, one_list ha]
      case cap =>
        have : ∃ x f, args.toList = [x] ∧ q = .q1 f x := by
          split at h
          · rename_i x t ha ht
            refine ⟨x, ?_⟩
            split at h <;> simp at h <;> exact ⟨_, ha, h.symm⟩
          · cases h
        obtain ⟨x, f, ha, rfl⟩ := this
        simp [qops, Op.operands, Call.operands, one_list ha]
      case min =>
        split at h
        · rename_i x y ha
          simp only [Option.some.injEq] at h; subst h
          simp [qops, Op.operands, Call.operands, two_list ha]
        · cases h
      case max =>
        split at h
        · rename_i x y ha
          simp only [Option.some.injEq] at h; subst h
          simp [qops, Op.operands, Call.operands, two_list ha]
        · cases h
    | value f => simp [resolve] at h
    | invoke r m => simp [resolve] at h
  | _ => simp [resolve] at h

theorem q_put {o : Oper} {q : Q Operand} (hq : resolve P o.op = some q) {d : Option Tmp} {v : Value} (h : ∀ e, d = some e → e ∉ o.looksAt ops) :
    qchk (a.put d v).eval w q = qchk a.eval w q ∧ qval (a.put d v).eval w q = qval a.eval w q := by
  refine q_congr fun x hx => ?_
  rcases resolve_ops hq x hx with hm | ⟨u, rfl⟩
  · exact Act.eval_put fun e he hxe => h e he (by
      subst hxe
      exact List.mem_append_left _ (List.mem_filterMap.2 ⟨.tmp e, by simpa using hm, rfl⟩))
  · rfl

/-! ### swapping neighbours -/

def kind (P : Program) (o : Oper) : Nat := match resolve P o.op with | some q => if q.reads = true then 1 else 0 | none => 2

def notLook (ops : Array Oper) (o x : Oper) : Bool := match x.dst with | some d => !(o.looksAt ops).contains d | none => true

theorem notLook_spec {o x : Oper} (h : notLook ops o x = true) : ∀ e, x.dst = some e → e ∉ o.looksAt ops := by
  intro e he; simp only [notLook, he, Bool.not_eq_true', List.contains_eq_mem, decide_eq_false_iff_not] at h; exact h

/-- (j, Fj) stands before (i, Fi): i may be taken first -/
def swapB (P : Program) (ops : Array Oper) (oj : Oper) (j : Nat) (Fj : List Nat) (oi : Oper) (Fi : List Nat) : Bool :=
  oi.apart ops oj && oj.apart ops oi && notSelect oi.op && notSelect oj.op &&
  match kind P oj, kind P oi with
  | 2, 0 => Fj.all fun k => match ops[k]? with | some ok => notLook ops ok oi | none => false
  | 2, _ => false
  | 1, 2 => Fi.contains j && notLook ops oj oj
  | 0, _ => true
  | 1, _ => true
  | _, _ => false

theorem notSel {o : Oper} (h : notSelect o.op = true) : ∀ cs b, o.op ≠ .select cs b := by intro cs b hc; rw [hc] at h; cases h

theorem keeps_put {k : Nat} {w' : World} {d : Option Tmp} {v : Value} {ok : Oper} (hk : ops[k]? = some ok) (h : ∀ e, d = some e → e ∉ ok.looksAt ops) :
    Keeps P ops k (a.put d v) w w' ↔ Keeps P ops k a w w' := by
  unfold Keeps
  constructor
  · intro H oj q ho hq hw hc
    rw [hk] at ho; obtain rfl := Option.some.inj ho
    have := H ok q hk hq (by rw [wanted_put ok a d v h]; exact hw) (by rw [(q_put hq h).1]; exact hc)
    rw [(q_put hq h).1, (q_put hq h).2, (q_put hq h).2] at this; exact this
  · intro H oj q ho hq hw hc
    rw [hk] at ho; obtain rfl := Option.some.inj ho
    rw [(q_put hq h).1, (q_put hq h).2, (q_put hq h).2]
    exact H ok q hk hq (by rw [wanted_put ok a d v h] at hw; exact hw) (by rw [(q_put hq h).1] at hc; exact hc)

theorem put_tmps {a a' : Act} {d : Option Tmp} {u : Value} (h : a'.tmps = (a.put d u).tmps) : a'.eval = (a.put d u).eval := by
  funext x; cases x <;> simp only [Act.eval, h]

theorem Oper.wp_mono' {o : Oper} {K K' : Act → World → Prop} (h : ∀ a w, K a w → K' a w) (hh : o.wp P a w K QF) : o.wp P a w K' QF := Oper.wp_mono h hh

/-- an effect's outcomes: the frame but for its own temporary, and its defers, as before -/
theorem wp_shape {o : Oper} {K : Act → World → Prop} (h : o.wp P a w K QF) : o.wp P a w (fun a' w' => K a' w' ∧ ∃ u, a'.tmps = (a.put o.dst u).tmps) QF := by
  unfold Oper.wp at *
  generalize (execOp a.eval o).run P w = r at *
  cases r with
  | ok nx w' =>
    cases nx <;> simp only [Oper.upon] at h ⊢
    case value v => exact ⟨h, v, rfl⟩
    case skip => exact ⟨h, undef, rfl⟩
    case defer d => exact ⟨h, undef, by cases o.dst <;> rfl⟩
    case enter f args =>
      refine Calls.mono h fun e w'' he => ?_
      cases e with
      | returned v => exact ⟨he, v, rfl⟩
      | panicked c => exact he
      | outgrown => exact (by obtain ⟨a, w, h⟩ := he; exact h.elim)
    case row row args => exact Rows.mono h fun v w'' he => ⟨he, v, rfl⟩
  | halt x w' => cases x <;> simp only [Oper.upon] at h ⊢; exact h.elim

theorem swap {i j : Nat} {oi oj : Oper} {Fi Fj S : List Nat} (hi : ops[i]? = some oi) (hj : ops[j]? = some oj) (hb : swapB P ops oj j Fj oi Fi = true)
    (hS : ∀ s ∈ S, s ∈ Fi ∧ ∃ os, ops[s]? = some os ∧ notLook ops os oj = true) {K : Act → World → Prop} (h : stepC P ops QF j Fj (stepC P ops QF i Fi K) a w) :
    stepC P ops QF i S (stepC P ops QF j Fj K) a w := by
  simp only [swapB, Bool.and_eq_true] at hb
  obtain ⟨⟨⟨⟨hap, hap'⟩, hsi⟩, hsj⟩, hk⟩ := hb
  obtain ⟨p1, p2, p3⟩ := Oper.apart_spec hap
  have p4 : ∀ d, oj.dst = some d → oi.dst ≠ some d := (Oper.apart_spec hap').2.1
  -- i's view behind j's put and the other way round
  have wi : ∀ u, Region.wanted oi (yielded ops (a.put oj.dst u).tmps) = Region.wanted oi (yielded ops a.tmps) := fun u => wanted_put oi a oj.dst u p3
  have wj : ∀ u, Region.wanted oj (yielded ops (a.put oi.dst u).tmps) = Region.wanted oj (yielded ops a.tmps) := fun u => wanted_put oj a oi.dst u p1
  unfold stepC at h ⊢
  simp only [hi, hj] at h ⊢
  cases hqj : resolve P oj.op with
  | some qj =>
    simp only [hqj] at h
    -- j's value
    have hh : ∃ vj, (Region.wanted oj (yielded ops a.tmps) = true → qchk a.eval w qj ∧ vj = qval a.eval w qj) ∧ (¬ Region.wanted oj (yielded ops a.tmps) = true → vj = undef) ∧
        stepC P ops QF i Fi K (a.put oj.dst vj) w := by
      by_cases hw : Region.wanted oj (yielded ops a.tmps) = true
      · rw [if_pos hw] at h
        exact ⟨_, fun _ => ⟨h.1, rfl⟩, fun hn => absurd hw hn, by unfold stepC; simp only [hi]; exact h.2⟩
      · rw [if_neg hw] at h
        exact ⟨_, fun hn => absurd hn hw, fun _ => rfl, by unfold stepC; simp only [hi]; exact h⟩
    obtain ⟨vj, hv1, hv2, h⟩ := hh
    unfold stepC at h
    simp only [hi] at h
    rw [wi] at h
    -- j behind i, in a world in which it reads the same
    have later : ∀ (a' : Act) (w' : World) (u : Value), a'.tmps = (a.put oi.dst u).tmps → K (a'.put oj.dst vj) w' →
        (Region.wanted oj (yielded ops a.tmps) = true → qchk a.eval w' qj ∧ qval a.eval w' qj = vj) →
        (if Region.wanted oj (yielded ops a'.tmps) = true then qchk a'.eval w' qj ∧ K (a'.put oj.dst (qval a'.eval w' qj)) w' else K (a'.put oj.dst undef) w') := by
      intro a' w' u ht hK hr
      have e1 : Region.wanted oj (yielded ops a'.tmps) = Region.wanted oj (yielded ops a.tmps) := by rw [ht]; exact wj u
      have e2 := put_tmps ht
      rw [e1]
      by_cases hw : Region.wanted oj (yielded ops a.tmps) = true
      · rw [if_pos hw, e2, (q_put (ops := ops) hqj p1).1, (q_put (ops := ops) hqj p1).2]
        obtain ⟨x1, x2⟩ := hr hw
        exact ⟨x1, by rw [x2]; exact hK⟩
      · rw [if_neg hw]; rw [← hv2 hw]; exact hK
    cases hqi : resolve P oi.op with
    | some qi =>
      simp only [hqi] at h ⊢
      rw [(q_put (ops := ops) hqi p3).1, (q_put (ops := ops) hqi p3).2] at h
      have same : Region.wanted oj (yielded ops a.tmps) = true → qchk a.eval w qj ∧ qval a.eval w qj = vj := fun hw => ⟨(hv1 hw).1, (hv1 hw).2.symm⟩
      by_cases hw : Region.wanted oi (yielded ops a.tmps) = true
      · rw [if_pos hw] at h ⊢
        refine ⟨h.1, later _ w _ rfl ?_ same⟩
        rw [Act.put_comm a _ _ p2]; exact h.2
      · rw [if_neg hw] at h ⊢
        refine later _ w _ rfl ?_ same
        rw [Act.put_comm a _ _ p2]; exact h
    | none =>
      simp only [hqi] at h ⊢
      -- i is an effect: j is pure, or a reader that i keeps
      have keep : ∀ w', (∀ k ∈ Fi, Keeps P ops k (a.put oj.dst vj) w w') → Region.wanted oj (yielded ops a.tmps) = true → qchk a.eval w' qj ∧ qval a.eval w' qj = vj := by
        intro w' hkeep hw
        obtain ⟨x1, x2⟩ := hv1 hw
        have ki : kind P oi = 2 := by simp [kind, hqi]
        by_cases hr : qj.reads = true
        · have kj : kind P oj = 1 := by simp [kind, hqj, hr]
          simp only [ki, kj, Bool.and_eq_true] at hk
          have hself := notLook_spec hk.2
          have hKeep := (keeps_put hj hself).1 (hkeep j (by simpa using hk.1)) oj qj hj hqj hw x1
          exact ⟨hKeep.1, by rw [hKeep.2, x2]⟩
        · have hr' : qj.reads = false := by simpa using hr
          rw [qchk_pure (w := w') (w' := w) hr', qval_pure (w := w') (w' := w) hr']
          exact ⟨x1, x2.symm⟩
      by_cases hw : Region.wanted oi (yielded ops a.tmps) = true
      · rw [if_pos hw] at h ⊢
        have h1 := wp_shape ((wp_put_iff hap' (notSel hsi)).1 h)
        refine Oper.wp_mono' (fun a' w' hh => ?_) h1
        obtain ⟨⟨hkeep, hK⟩, u, hu⟩ := hh
        refine ⟨fun s hs => ?_, later a' w' u hu hK (keep w' hkeep)⟩
        obtain ⟨hsF, os, hos, hl⟩ := hS s hs
        exact (keeps_put hos (notLook_spec hl)).1 (hkeep s hsF)
      · rw [if_neg hw] at h ⊢
        refine later _ w _ rfl ?_ (fun hw => ⟨(hv1 hw).1, (hv1 hw).2.symm⟩)
        rw [Act.put_comm a _ _ p2]; exact h
  | none =>
    simp only [hqj] at h ⊢
    have kj : kind P oj = 2 := by simp [kind, hqj]
    cases hqi : resolve P oi.op with
    | none => have ki : kind P oi = 2 := by simp [kind, hqi]
              simp [ki, kj] at hk
    | some qi =>
      by_cases hr : qi.reads = true
      · have ki : kind P oi = 1 := by simp [kind, hqi, hr]
        simp [ki, kj] at hk
      have hr' : qi.reads = false := by simpa using hr
      have ki : kind P oi = 0 := by simp [kind, hqi, hr']
      simp only [ki, kj] at hk
      simp only [hqi] at h ⊢
      -- i yields the same everywhere
      have hvi : ∃ vi, (Region.wanted oi (yielded ops a.tmps) = true → qchk a.eval w qi ∧ qval a.eval w qi = vi) ∧ (¬ Region.wanted oi (yielded ops a.tmps) = true → vi = undef) ∧
          ∀ (a' : Act) (w' : World) (u : Value), a'.tmps = (a.put oj.dst u).tmps →
            (if Region.wanted oi (yielded ops a'.tmps) = true then qchk a'.eval w' qi ∧ K (a'.put oi.dst (qval a'.eval w' qi)) w' else K (a'.put oi.dst undef) w') → K (a'.put oi.dst vi) w' := by
        have look : ∀ (a' : Act) (u : Value), a'.tmps = (a.put oj.dst u).tmps → Region.wanted oi (yielded ops a'.tmps) = Region.wanted oi (yielded ops a.tmps) ∧ ∀ w', (qchk a'.eval w' qi ↔ qchk a.eval w qi) ∧ qval a'.eval w' qi = qval a.eval w qi := by
          intro a' u ht
          refine ⟨by rw [ht]; exact wi u, fun w' => ?_⟩
          rw [put_tmps ht, (q_put (ops := ops) hqi p3).1, (q_put (ops := ops) hqi p3).2, qchk_pure (w := w') (w' := w) hr', qval_pure (w := w') (w' := w) hr']
          exact ⟨Iff.rfl, rfl⟩
        by_cases hw : Region.wanted oi (yielded ops a.tmps) = true
        · refine ⟨qval a.eval w qi, fun _ => ⟨?_, rfl⟩, fun hn => absurd hw hn, ?_⟩
          · by_cases hwj : Region.wanted oj (yielded ops a.tmps) = true
            · rw [if_pos hwj] at h
              obtain ⟨a', w', u, hh, ht⟩ := wp_some h
              obtain ⟨l1, l2⟩ := look a' u ht
              have := hh.2
              rw [l1, if_pos hw] at this
              exact (l2 w').1.1 this.1
            · rw [if_neg hwj] at h
              obtain ⟨l1, l2⟩ := look (a.put oj.dst undef) undef rfl
              rw [l1, if_pos hw] at h
              exact (l2 w).1.1 h.1
          · intro a' w' u ht hh
            obtain ⟨l1, l2⟩ := look a' u ht
            rw [l1, if_pos hw, (l2 w').2] at hh
            exact hh.2
        · refine ⟨undef, fun hn => absurd hn hw, fun _ => rfl, ?_⟩
          intro a' w' u ht hh
          obtain ⟨l1, l2⟩ := look a' u ht
          rw [l1, if_neg hw] at hh
          exact hh
      obtain ⟨vi, g1, g2, g3⟩ := hvi
      have main : (if Region.wanted oj (yielded ops (a.put oi.dst vi).tmps) = true then oj.wp P (a.put oi.dst vi) w (fun a' w' => (∀ k ∈ Fj, Keeps P ops k (a.put oi.dst vi) w w') ∧ K a' w') QF
          else K ((a.put oi.dst vi).put oj.dst undef) w) := by
        rw [wj]
        by_cases hwj : Region.wanted oj (yielded ops a.tmps) = true
        · rw [if_pos hwj] at h ⊢
          rw [wp_put_iff hap (notSel hsj)]
          refine Oper.wp_mono' (fun a' w' hh => ?_) (wp_shape h)
          obtain ⟨⟨hkeep, hK⟩, u, hu⟩ := hh
          refine ⟨fun k hkF => ?_, g3 a' w' u hu hK⟩
          have hkk := List.all_eq_true.1 hk k hkF
          cases hok : ops[k]? with
          | none => simp [hok] at hkk
          | some ok => simp only [hok] at hkk; exact (keeps_put hok (notLook_spec hkk)).2 (hkeep k hkF)
        · rw [if_neg hwj] at h ⊢
          rw [Act.put_comm a _ _ p2]
          exact g3 _ w undef rfl h
      by_cases hw : Region.wanted oi (yielded ops a.tmps) = true
      · rw [if_pos hw]
        obtain ⟨x1, x2⟩ := g1 hw
        exact ⟨x1, by rw [x2]; exact main⟩
      · rw [if_neg hw]
        obtain rfl := g2 hw
        exact main

/-! ### any order -/

theorem stepC_mono {i : Nat} {F : List Nat} {K K' : Act → World → Prop} (h : ∀ a w, K a w → K' a w) (hh : stepC P ops QF i F K a w) : stepC P ops QF i F K' a w := by
  unfold stepC at *
  cases ho : ops[i]? with
  | none => simp [ho] at hh
  | some o =>
    simp only [ho] at hh ⊢
    split at hh
    · rename_i hw; rw [if_pos hw]
      cases hq : resolve P o.op with
      | some q => simp only [hq] at hh ⊢; exact ⟨hh.1, h _ _ hh.2⟩
      | none => simp only [hq] at hh ⊢; exact Oper.wp_mono' (fun a' w' hx => ⟨hx.1, h _ _ hx.2⟩) hh
    · rename_i hw; rw [if_neg hw]; exact h _ _ hh

theorem stepC_wpOp {Q : Exit → Act → World → Prop} {i : Nat} {F : List Nat} {K K' : Act → World → Prop} (h : ∀ a w, K a w → K' a w) (hh : stepC P ops QF i F K a w) : wpOp P ops Q i K' a w := by
  unfold stepC at hh
  unfold wpOp
  cases ho : ops[i]? with
  | none => simp [ho] at hh
  | some o =>
    simp only [ho] at hh ⊢
    split at hh
    · rename_i hw; rw [if_pos hw]
      left
      cases hq : resolve P o.op with
      | some q =>
        simp only [hq] at hh
        have hr := resolve_sound (P := P) (ρ := a.eval) (w := w) hq hh.1
        simp only [Oper.wp, hr, Oper.upon]; exact h _ _ hh.2
      | none =>
        simp only [hq] at hh
        unfold Oper.wp at *
        generalize (execOp a.eval o).run P w = r at *
        cases r with
        | ok nx w' =>
          cases nx <;> simp only [Oper.upon] at hh ⊢
          case value v => exact h _ _ hh.2
          case skip => exact h _ _ hh.2
          case defer d => exact h _ _ hh.2
          case enter f args =>
            refine Calls.mono hh fun e w'' he => ?_
            cases e with
            | returned v => exact h _ _ he.2
            | panicked c => exact he.elim
            | outgrown => exact (by obtain ⟨a, w, h⟩ := he; exact h.elim)
          case row row args => exact Rows.mono hh fun v w'' he => h _ _ he.2
        | halt x w' => cases x <;> simp only [Oper.upon] at hh ⊢; exact hh.elim
    · rename_i hw; rw [if_neg hw]; exact h _ _ hh

/-- the pair's conditions: (j, Fj) stands before (i, Fi) in the list; anc: which operations each must wait for -/
def pairB (P : Program) (ops : Array Oper) (anc : List Nat) (x y : Nat × List Nat) : Bool :=
  match ops[x.1]?, ops[y.1]? with
  | some oj, some oi => (anc.getD y.1 0).testBit x.1 || (swapB P ops oj x.1 x.2 oi y.2)
  | _, _ => false
/-- what holds of each pair, ordered or not: a reader's operands are not written behind it -/
def pairR (P : Program) (ops : Array Oper) (x y : Nat × List Nat) : Bool :=
  match ops[x.1]?, ops[y.1]? with
  | some oj, some oi => !(kind P oj == 1) || notLook ops oj oi
  | _, _ => false

def allPairs (p : Nat × List Nat → Nat × List Nat → Bool) : List (Nat × List Nat) → Bool
  | [] => true
  | x :: r => r.all (p x) && allPairs p r

def ancB (ops : Array Oper) (anc : List Nat) : Bool :=
  (List.range ops.size).all fun i => match ops[i]? with
    | some o => (anc.getD i 0) == (o.after.foldl (fun s e => if Region.binds .any e then s ||| (2 ^ e.on) ||| anc.getD e.on 0 else s) 0) && o.after.all fun e => !Region.binds .any e || decide (e.on < i)
    | none => false

def canonB (P : Program) (ops : Array Oper) (anc : List Nat) (L : List (Nat × List Nat)) : Bool :=
  ancB ops anc && allPairs (pairB P ops anc) L && allPairs (pairR P ops) L && (List.range ops.size).all (fun i => L.any fun x => x.1 == i) && allPairs (fun x y => x.1 != y.1) L &&
  L.all fun x => decide (x.1 < ops.size) && x.2.all fun j => (L.any fun y => y.1 == j)

theorem front {anc : List Nat} {i : Nat} {Fi : List Nat} {oi : Oper} (hi : ops[i]? = some oi) : ∀ (L1 L2 : List (Nat × List Nat)) (S : List Nat) (a : Act) (w : World) {K : Act → World → Prop},
    (∀ x ∈ L1, pairB P ops anc x (i, Fi) = true ∧ (anc.getD i 0).testBit x.1 = false) → allPairs (pairR P ops) L1 = true → (∀ x ∈ L1, (ops[x.1]?).isSome = true) →
    (∀ s ∈ S, s ∈ Fi ∧ ∃ os, ops[s]? = some os ∧ ∀ x ∈ L1, ∀ ox, ops[x.1]? = some ox → notLook ops os ox = true) →
    wpC P ops QF K (L1 ++ (i, Fi) :: L2) a w → stepC P ops QF i S (wpC P ops QF K (L1 ++ L2)) a w
  | [], L2, S, a, w, K, _, _, _, hS, h => by
    simp only [List.nil_append, wpC] at h ⊢
    unfold stepC at *
    simp only [hi] at h ⊢
    split at h
    · rename_i hw; rw [if_pos hw]
      cases hq : resolve P oi.op with
      | some q => simp only [hq] at h ⊢; exact h
      | none => simp only [hq] at h ⊢; exact Oper.wp_mono' (fun a' w' hx => ⟨fun s hs => hx.1 s (hS s hs).1, hx.2⟩) h
    · rename_i hw; rw [if_neg hw]; exact h
  | (j, Fj) :: L1, L2, S, a, w, K, hp, hr, hsome, hS, h => by
    simp only [List.cons_append, wpC] at h ⊢
    obtain ⟨oj, hj⟩ := Option.isSome_iff_exists.1 (hsome (j, Fj) (by simp))
    have hpj := hp (j, Fj) (by simp)
    simp only [pairB, hj, hi, hpj.2, Bool.false_or] at hpj
    have hb := hpj.1
    simp only [allPairs, Bool.and_eq_true] at hr
    -- what i must keep when it has passed L1: S, and j if j is a reader that an effect passes
    let S' := if (kind P oj == 1 && kind P oi == 2) = true then j :: S else S
    have hS' : ∀ s ∈ S', s ∈ Fi ∧ ∃ os, ops[s]? = some os ∧ ∀ x ∈ L1, ∀ ox, ops[x.1]? = some ox → notLook ops os ox = true := by
      intro s hs
      have old : s ∈ S → s ∈ Fi ∧ ∃ os, ops[s]? = some os ∧ ∀ x ∈ L1, ∀ ox, ops[x.1]? = some ox → notLook ops os ox = true := by
        intro hs; obtain ⟨h1, os, h2, h3⟩ := hS s hs; exact ⟨h1, os, h2, fun x hx => h3 x (by simp [hx])⟩
      by_cases hk : (kind P oj == 1 && kind P oi == 2) = true
      · simp only [S', if_pos hk, List.mem_cons] at hs
        rcases hs with rfl | hs
        · simp only [Bool.and_eq_true, beq_iff_eq] at hk
          simp only [swapB, hk.1, hk.2, Bool.and_eq_true] at hb
          refine ⟨by simpa using hb.2.1, oj, hj, fun x hx ox hox => ?_⟩
          have := List.all_eq_true.1 hr.1 x hx
          simp only [pairR, hj, hox, hk.1] at this
          simpa using this
        · exact old hs
      · simp only [S', if_neg hk] at hs; exact old hs
    have ih := fun a w => front hi L1 L2 S' a w (K := K) (fun x hx => hp x (by simp [hx])) hr.2 (fun x hx => hsome x (by simp [hx])) hS'
    have h2 := stepC_mono (fun a w => ih a w) h
    -- swap j and i
    by_cases hk : (kind P oj == 1 && kind P oi == 2) = true
    · -- a reader passed by an effect: it is among S', and S' stands for Fi
      have hself : notLook ops oj oj = true := by
        simp only [Bool.and_eq_true, beq_iff_eq] at hk
        simp only [swapB, hk.1, hk.2, Bool.and_eq_true] at hb
        exact hb.2.2
      refine swap hi hj (Fi := S') ?_ ?_ h2
      · simp only [Bool.and_eq_true, beq_iff_eq] at hk
        simp only [swapB, hk.1, hk.2, Bool.and_eq_true] at hb ⊢
        exact ⟨hb.1, by simp [S', hk.1, hk.2], hb.2.2⟩
      · intro s hs
        refine ⟨by simp [S', hk, hs], ?_⟩
        obtain ⟨_, os, h2, h3⟩ := hS s hs
        exact ⟨os, h2, h3 (j, Fj) (by simp) oj hj⟩
    · refine swap hi hj (Fi := S') ?_ ?_ h2
      · simp only [swapB, Bool.and_eq_true] at hb ⊢
        refine ⟨hb.1, ?_⟩
        have hb2 := hb.2
        revert hb2
        split <;> simp_all
      · intro s hs
        refine ⟨by simp only [S', if_neg hk]; exact hs, ?_⟩
        obtain ⟨_, os, h2, h3⟩ := hS s hs
        exact ⟨os, h2, h3 (j, Fj) (by simp) oj hj⟩

theorem fold_bit {anc : List Nat} {j : Nat} : ∀ (l : List Edge) (s : Nat), (l.foldl (fun s e => if Region.binds .any e then s ||| (2 ^ e.on) ||| anc.getD e.on 0 else s) s).testBit j = true →
    s.testBit j = true ∨ ∃ e ∈ l, Region.binds .any e = true ∧ (e.on = j ∨ (anc.getD e.on 0).testBit j = true)
  | [], s, h => .inl h
  | e :: l, s, h => by
    simp only [List.foldl_cons] at h
    rcases fold_bit l _ h with h1 | ⟨e', h1, h2⟩
    · split at h1
      · rename_i hb
        simp only [Nat.testBit_or, Bool.or_eq_true] at h1
        rcases h1 with (h1 | h1) | h1
        · exact .inl h1
        · refine .inr ⟨e, by simp, hb, .inl ?_⟩
          rw [Nat.testBit_two_pow] at h1; simpa using h1
        · exact .inr ⟨e, by simp, hb, .inr h1⟩
      · exact .inl h1
    · exact .inr ⟨e', by simp [h1], h2⟩

theorem anc_spec {anc : List Nat} (h : ancB ops anc = true) {i j : Nat} {o : Oper} (ho : ops[i]? = some o) (hb : (anc.getD i 0).testBit j = true) :
    ∃ e ∈ o.after, Region.binds .any e = true ∧ (e.on = j ∨ (anc.getD e.on 0).testBit j = true) := by
  have h1 := List.all_eq_true.1 h i (List.mem_range.2 (Array.getElem?_eq_some_iff.1 ho).1)
  simp only [ho, Bool.and_eq_true, beq_iff_eq] at h1
  rw [h1.1, ← Array.foldl_toList] at hb
  rcases fold_bit _ _ hb with h2 | ⟨e, h2, h3⟩
  · simp at h2
  · exact ⟨e, by simpa using h2, h3⟩

theorem anc_lt {anc : List Nat} (h : ancB ops anc = true) {i : Nat} {o : Oper} (ho : ops[i]? = some o) {e : Edge} (he : e ∈ o.after) (hb : Region.binds .any e = true) : e.on < i := by
  have h1 := List.all_eq_true.1 h i (List.mem_range.2 (Array.getElem?_eq_some_iff.1 ho).1)
  simp only [ho, Bool.and_eq_true, beq_iff_eq] at h1
  have := Array.all_eq_true_iff_forall_mem.1 h1.2 e he
  simpa [hb] using this

structure LInv (ops : Array Oper) (L : List (Nat × List Nat)) (listed : Array Bool) : Prop where
  size : listed.size = ops.size
  un : ∀ i, i < ops.size → (listed.getD i true = false ↔ ∃ x ∈ L, x.1 = i)
  closed : ∀ j oj, ops[j]? = some oj → listed.getD j false = true → ∀ e ∈ oj.after, Region.binds .any e = true → listed.getD e.on false = true

theorem anc_listed {anc : List Nat} (h : ancB ops anc = true) {listed : Array Bool} (hcl : ∀ j oj, ops[j]? = some oj → listed.getD j false = true → ∀ e ∈ oj.after, Region.binds .any e = true → listed.getD e.on false = true)
    : ∀ (i j : Nat) (o : Oper), ops[i]? = some o → (anc.getD i 0).testBit j = true → (∀ e ∈ o.after, Region.binds .any e = true → listed.getD e.on false = true) → listed.getD j false = true := by
  intro i
  induction i using Nat.strongRecOn with
  | _ i ih =>
    intro j o ho hb hd
    obtain ⟨e, he, hbn, h1⟩ := anc_spec h ho hb
    have hl := hd e he hbn
    rcases h1 with rfl | h1
    · exact hl
    · have hlt := anc_lt h ho he hbn
      have hin : e.on < ops.size := Nat.lt_trans hlt (Array.getElem?_eq_some_iff.1 ho).1
      exact ih e.on hlt j ops[e.on] (by simp [hin]) h1 (hcl e.on ops[e.on] (by simp [hin]) hl)

theorem getD_bool {listed : Array Bool} {i : Nat} (h : i < listed.size) : listed.getD i true = listed.getD i false := by simp [h]

theorem allPairs_mid {p : Nat × List Nat → Nat × List Nat → Bool} {y : Nat × List Nat} : ∀ {L1 L2 : List (Nat × List Nat)}, allPairs p (L1 ++ y :: L2) = true →
    (∀ x ∈ L1, p x y = true) ∧ allPairs p (L1 ++ L2) = true ∧ allPairs p L1 = true ∧ (∀ x ∈ L2, p y x = true)
  | [], L2, h => by
    simp only [List.nil_append, allPairs, Bool.and_eq_true, List.all_eq_true] at h
    exact ⟨by simp, h.2, rfl, h.1⟩
  | z :: L1, L2, h => by
    simp only [List.cons_append, allPairs, Bool.and_eq_true, List.all_eq_true] at h
    obtain ⟨h1, h2, h3, h4⟩ := allPairs_mid h.2
    refine ⟨?_, ?_, ?_, h4⟩
    · intro x hx
      rcases List.mem_cons.1 hx with rfl | hx
      · exact h.1 y (by simp)
      · exact h1 x hx
    · simp only [List.cons_append, allPairs, Bool.and_eq_true, List.all_eq_true]
      exact ⟨fun x hx => h.1 x (by rcases List.mem_append.1 hx with hx | hx <;> simp [hx]), h2⟩
    · simp only [allPairs, Bool.and_eq_true, List.all_eq_true]
      exact ⟨fun x hx => h.1 x (by simp [hx]), h3⟩

theorem canon_any {anc : List Nat} (ha : ancB ops anc = true) {Q : Exit → Act → World → Prop} {K : Act → World → Prop} (hK : ∀ a w, K a w → Q .normal a w) :
    ∀ (m : Nat) (L : List (Nat × List Nat)) (listed : Array Bool) (a : Act) (w : World), L.length = m → LInv ops L listed → (∀ x ∈ L, x.1 < ops.size) →
    allPairs (pairB P ops anc) L = true → allPairs (pairR P ops) L = true → allPairs (fun x y => x.1 != y.1) L = true → wpC P ops QF K L a w → wpAny P .any ops Q m listed a w := by
  intro m
  induction m with
  | zero =>
    intro L listed a w hl inv hlt hp hr hn h
    have : L = [] := List.eq_nil_of_length_eq_zero hl
    subst this
    refine ⟨?_, hK _ _ h⟩
    rw [List.eq_nil_iff_forall_not_mem]
    intro i hi
    obtain ⟨h1, o, ho, _⟩ := mem_ready.1 hi
    obtain ⟨x, hx, _⟩ := (inv.un i (Array.getElem?_eq_some_iff.1 ho).1).1 h1
    cases hx
  | succ m ih =>
    intro L listed a w hl inv hlt hp hr hn h
    refine ⟨fun hnil => ?_, fun i hi => ?_⟩
    · -- the least operation that is not listed may come up
      exfalso
      have hne : ∃ i, i < ops.size ∧ listed.getD i true = false := by
        cases L with
        | nil => simp at hl
        | cons x r => exact ⟨x.1, hlt x (by simp), (inv.un x.1 (hlt x (by simp))).2 ⟨x, by simp, rfl⟩⟩
      obtain ⟨i, hil, hiu⟩ := hne
      have least : ∀ k, ∀ i, i ≤ k → i < ops.size → listed.getD i true = false → False := by
        intro k
        induction k using Nat.strongRecOn with
        | _ k ihk =>
          intro i hik hil hiu
          have : i ∈ Region.ready .any ops listed := by
            rw [mem_ready]
            refine ⟨hiu, ops[i], by simp [hil], fun e he hb => ?_⟩
            have hlt' := anc_lt ha (i := i) (o := ops[i]) (by simp [hil]) he hb
            have hs : e.on < listed.size := by rw [inv.size]; omega
            rw [← getD_bool hs]
            cases hv : listed.getD e.on true with
            | true => rfl
            | false => exact (ihk (i - 1) (by omega) e.on (by omega) (by omega) hv).elim
          rw [hnil] at this; cases this
      exact least i i (Nat.le_refl _) hil hiu
    · obtain ⟨hiu, oi, hoi, hdeps⟩ := mem_ready.1 hi
      have hil := (Array.getElem?_eq_some_iff.1 hoi).1
      obtain ⟨x, hx, hxi⟩ := (inv.un i hil).1 hiu
      obtain ⟨L1, L2, rfl⟩ := List.append_of_mem hx
      obtain ⟨i', Fi⟩ := x
      simp only at hxi; subst hxi
      obtain ⟨p1, p2, _, _⟩ := allPairs_mid hp
      obtain ⟨r1, r2, r3, _⟩ := allPairs_mid hr
      obtain ⟨n1, n2, _, n4⟩ := allPairs_mid hn
      have hfirst := front hoi L1 L2 [] a w (K := K) (anc := anc) (fun x hx => ⟨p1 x hx, by
        cases hb : (anc.getD i' 0).testBit x.1 with
        | false => rfl
        | true =>
          have := anc_listed ha inv.closed i' x.1 oi hoi hb hdeps
          have hxl := hlt x (by simp [hx])
          have hu := (inv.un x.1 hxl).2 ⟨x, by simp [hx], rfl⟩
          rw [getD_bool (by rw [inv.size]; exact hxl), this] at hu; cases hu⟩) r3 (fun x hx => by simp [hlt x (by simp [hx])]) (by simp) h
      refine stepC_wpOp (fun a' w' h' => ih (L1 ++ L2) _ a' w' ?_ ?_ ?_ p2 r2 n2 h') hfirst
      · simp at hl ⊢; omega
      · refine ⟨by simp [inv.size], fun k hk => ?_, fun j oj hj hjl e he hb => ?_⟩
        · by_cases hki : i' = k
          · subst hki
            have : (listed.setIfInBounds i' true).getD i' true = true := by simp [show i' < listed.size by rw [inv.size]; exact hil]
            rw [this]
            constructor
            · intro h; cases h
            · rintro ⟨x, hx, hxe⟩
              rcases List.mem_append.1 hx with hx | hx
              · have := n1 x hx; simp [hxe] at this
              · have := n4 x hx; simp [hxe] at this
          · rw [getD_set_ne true hki, inv.un k hk]
            constructor
            · rintro ⟨x, hx, hxe⟩
              rcases List.mem_append.1 hx with hx | hx
              · exact ⟨x, by simp [hx], hxe⟩
              · rcases List.mem_cons.1 hx with rfl | hx
                · exact absurd hxe hki
                · exact ⟨x, by simp [hx], hxe⟩
            · rintro ⟨x, hx, hxe⟩
              rcases List.mem_append.1 hx with hx | hx
              · exact ⟨x, by simp [hx], hxe⟩
              · exact ⟨x, by simp [hx], hxe⟩
        · by_cases hji : i' = j
          · subst hji
            have : oj = oi := Option.some.inj (hj.symm.trans hoi)
            subst this
            exact getD_set_true (hdeps e he hb)
          · rw [getD_set_ne false hji] at hjl
            exact getD_set_true (inv.closed j oj hj hjl e he hb)
      · intro x hx
        rcases List.mem_append.1 hx with hx | hx
        · exact hlt x (by simp [hx])
        · exact hlt x (by simp [hx])

/-- A REGION THAT DRAWS ITS ORDER: what one order gives, all give. -/
theorem wp_region_canon {id : Nat} {Q : Exit → Act → World → Prop} {K : Act → World → Prop} (hm : P.follows .mixedOrders = true) {anc : List Nat} {L : List (Nat × List Nat)} (hc : canonB P ops anc L = true)
    (hK : ∀ a w, K a w → Q .normal a w) (h : wpC P ops QF K L a { w with drawn := w.drawn + 1 }) : (Code.region id ops true).wp P Q a w := by
  simp only [canonB, Bool.and_eq_true, List.all_eq_true, List.mem_range, decide_eq_true_eq] at hc
  obtain ⟨⟨⟨⟨⟨ha, hp⟩, hr⟩, hall⟩, hn⟩, hlt⟩ := hc
  have hlen : L.length = ops.size := by
    -- every operation once
    have h1 : (L.map (·.1)).Nodup := by
      have : ∀ L : List (Nat × List Nat), allPairs (fun x y => x.1 != y.1) L = true → (L.map (·.1)).Nodup := by
        intro L
        induction L with
        | nil => intro _; simp
        | cons x r ih =>
          intro h
          simp only [allPairs, Bool.and_eq_true, List.all_eq_true] at h
          simp only [List.map_cons, List.nodup_cons, List.mem_map, not_exists, not_and]
          exact ⟨fun y hy he => by have := h.1 y hy; simp [he] at this, ih h.2⟩
      exact this L hn
    have h2 : (L.map (·.1)).Perm (List.range ops.size) := by
      refine (List.perm_ext_iff_of_nodup h1 List.nodup_range).2 fun i => ?_
      simp only [List.mem_map, List.mem_range]
      constructor
      · rintro ⟨x, hx, rfl⟩; exact (hlt x hx).1
      · intro hi
        have := hall i hi
        simp only [List.any_eq_true, beq_iff_eq] at this
        exact this
    have := h2.length_eq
    simpa using this
  refine wp_region_any hm ?_
  rw [← hlen]
  refine canon_any ha hK L.length L _ a _ rfl ⟨by simp [hlen], fun i hi => ?_, fun j oj _ hl => ?_⟩ (fun x hx => (hlt x hx).1) hp hr hn h
  · have h1 : (Array.replicate L.length false).getD i true = false := by simp [hlen, hi]
    rw [h1]
    have := hall i hi
    simp only [List.any_eq_true, beq_iff_eq] at this
    exact ⟨fun _ => this, fun _ => rfl⟩
  · have : (Array.replicate L.length false).getD j false = false := by
      rcases Nat.lt_or_ge j L.length with h | h
      · simp [h]
      · simp [h]
    rw [this] at hl; cases hl
end
end Go.HL
