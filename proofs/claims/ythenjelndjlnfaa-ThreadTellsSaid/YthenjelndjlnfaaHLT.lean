/- HLT: a region that draws its order and whose effects stand open to each other: a tree of orders serves for all. -/
import Derived.Test.YthenjelndjlnfaaHLA
import Derived.Lib.AppendStr
import Derived.Lib.UnsafeStr
set_option linter.unusedSimpArgs false
set_option linter.unusedVariables false
set_option maxRecDepth 100000
namespace Go.HL
open Go

/-- a tree of orders -/
inductive PT where
  | nil
  | op (i : Nat) (F : List Nat) (t : PT)
  | fork (a b : PT)

def PT.rm (i : Nat) : PT → PT
  | .nil => .nil
  | .op j F t => if j = i then t else .op j F (t.rm i)
  | .fork a b => .fork (a.rm i) (b.rm i)

def PT.paths : PT → List (List (Nat × List Nat))
  | .nil => [[]]
  | .op i F t => t.paths.map ((i, F) :: ·)
  | .fork a b => a.paths ++ b.paths

/-- the tree behind effect i, where i may come first of the effects -/
def PT.take (e : Nat → Bool) (i : Nat) : PT → Option PT
  | .nil => none
  | .op j F t => if j = i then some t else if e j = true then none else (t.take e i).map (.op j F)
  | .fork a b => match a.take e i with | some x => some x | none => b.take e i

def PT.pre : List (Nat × List Nat) → PT → PT
  | [], t => t
  | (j, F) :: r, t => .op j F (PT.pre r t)

theorem PT.paths_ne : ∀ t : PT, t.paths ≠ []
  | .nil => by simp [PT.paths]
  | .op i F t => by simp [PT.paths, PT.paths_ne t]
  | .fork a b => by simp [PT.paths, PT.paths_ne a]

/-- whether every order of the effects that are left is one of the tree's -/
def covT (anc : List Nat) (e : Nat → Bool) : Nat → List Nat → PT → Bool
  | 0, rem, _ => rem.isEmpty
  | k + 1, rem, T => rem.all fun i => (rem.any fun j => (anc.getD i 0).testBit j) || (match T.take e i with | some T' => covT anc e k (rem.filter fun j => j != i) T' | none => false)

theorem take_rm {e : Nat → Bool} {i q : Nat} (hq : e q = false) (hi : e i = true) : ∀ T : PT, (T.rm q).take e i = (T.take e i).map (PT.rm q)
  | .nil => rfl
  | .op j F t => by
    have ih := take_rm hq hi t
    have hqi : q ≠ i := fun h => by rw [h, hi] at hq; cases hq
    by_cases hjq : j = q
    · subst hjq
      simp only [PT.rm, if_true, PT.take, if_neg hqi, hq, Bool.false_eq_true, if_false, Option.map_map]
      cases t.take e i <;> simp [PT.rm]
    · simp only [PT.rm, if_neg hjq, PT.take]
      by_cases hji : j = i
      · simp [hji]
      · rw [if_neg hji, if_neg hji]
        cases hej : e j with
        | true => simp
        | false =>
          simp only [Bool.false_eq_true, if_false, ih, Option.map_map]
          cases t.take e i <;> simp [PT.rm, hjq]
  | .fork a b => by
    simp only [PT.rm, PT.take, take_rm hq hi a, take_rm hq hi b]
    cases a.take e i <;> simp

theorem covT_rm {anc : List Nat} {e : Nat → Bool} {q : Nat} (hq : e q = false) : ∀ (k : Nat) (rem : List Nat) (T : PT), (∀ i ∈ rem, e i = true) → covT anc e k rem T = true → covT anc e k rem (T.rm q) = true
  | 0, rem, T, _, h => h
  | k + 1, rem, T, he, h => by
    simp only [covT, List.all_eq_true] at h ⊢
    intro i hi
    have hh := h i hi
    rw [take_rm hq (he i hi)]
    simp only [Bool.or_eq_true] at hh ⊢
    rcases hh with hh | hh
    · exact .inl hh
    · right
      cases hT : T.take e i with
      | none => simp [hT] at hh
      | some T' =>
        simp only [hT, Option.map_some] at hh ⊢
        exact covT_rm hq k _ T' (fun j hj => he j (List.mem_filter.1 hj).1) hh

section
variable {P : Program} {ops : Array Oper} {a : Act} {w : World}

def wpT (P : Program) (ops : Array Oper) (Q : Exit → Act → World → Prop) (K : Act → World → Prop) : PT → Act → World → Prop
  | .nil, a, w => K a w
  | .op i F t, a, w => stepC P ops Q i F (wpT P ops Q K t) a w
  | .fork x y, a, w => wpT P ops Q K x a w ∧ wpT P ops Q K y a w

theorem wpC_pre {K : Act → World → Prop} {t : PT} : ∀ (L : List (Nat × List Nat)) (a : Act) (w : World), wpC P ops QF (wpT P ops QF K t) L a w → wpT P ops QF K (PT.pre L t) a w
  | [], _, _, h => h
  | (i, F) :: r, a, w, h => stepC_mono (fun a w h => wpC_pre r a w h) h

theorem take_spec {e : Nat → Bool} {i : Nat} : ∀ {T T' : PT}, T.take e i = some T' → ∃ L1 F t, T' = PT.pre L1 t ∧ (∀ x ∈ L1, e x.1 = false) ∧ (∀ p ∈ t.paths, L1 ++ (i, F) :: p ∈ T.paths) ∧
    ∀ {K : Act → World → Prop} {a w}, wpT P ops QF K T a w → wpC P ops QF (wpT P ops QF K t) (L1 ++ [(i, F)]) a w
  | .nil, T', h => by simp [PT.take] at h
  | .op j F t, T', h => by
    simp only [PT.take] at h
    by_cases hji : j = i
    · subst hji
      simp only [if_true, Option.some.injEq] at h
      subst h
      exact ⟨[], F, t, rfl, by simp, fun p hp => by simp [PT.paths, hp], fun h => h⟩
    · rw [if_neg hji] at h
      cases hej : e j with
      | true => simp [hej] at h
      | false =>
        simp only [hej, Bool.false_eq_true, if_false, Option.map_eq_some_iff] at h
        obtain ⟨T1, h1, rfl⟩ := h
        obtain ⟨L1, F', t', rfl, h2, h3, h4⟩ := take_spec h1
        refine ⟨(j, F) :: L1, F', t', rfl, ?_, ?_, ?_⟩
        · intro x hx
          rcases List.mem_cons.1 hx with rfl | hx
          · exact hej
          · exact h2 x hx
        · intro p hp
          simp only [PT.paths, List.mem_map]
          exact ⟨_, h3 p hp, rfl⟩
        · intro K a w h
          exact stepC_mono (fun a w h => h4 h) h
  | .fork x y, T', h => by
    simp only [PT.take] at h
    cases hx : x.take e i with
    | some x' =>
      simp only [hx, Option.some.injEq] at h
      subst h
      obtain ⟨L1, F', t', rfl, h2, h3, h4⟩ := take_spec hx
      exact ⟨L1, F', t', rfl, h2, fun p hp => by simp [PT.paths, h3 p hp], fun h => h4 h.1⟩
    | none =>
      simp only [hx] at h
      obtain ⟨L1, F', t', rfl, h2, h3, h4⟩ := take_spec h
      exact ⟨L1, F', t', rfl, h2, fun p hp => by simp [PT.paths, h3 p hp], fun h => h4 h.2⟩

theorem paths_pre {t : PT} : ∀ (L : List (Nat × List Nat)), (PT.pre L t).paths = t.paths.map (L ++ ·)
  | [] => by simp [PT.pre]
  | (j, F) :: r => by simp [PT.pre, PT.paths, paths_pre r, Function.comp_def]

theorem rm_paths {i : Nat} : ∀ {T : PT}, (∀ p ∈ T.paths, ∃ x ∈ p, x.1 = i) → ∀ p' ∈ (T.rm i).paths, ∃ L1 F L2, (∀ x ∈ L1, x.1 ≠ i) ∧ L1 ++ (i, F) :: L2 ∈ T.paths ∧ p' = L1 ++ L2
  | .nil, h, p', _ => by obtain ⟨x, hx, _⟩ := h [] (by simp [PT.paths]); cases hx
  | .op j F t, h, p', hp' => by
    by_cases hji : j = i
    · subst hji
      simp only [PT.rm, if_true] at hp'
      exact ⟨[], F, p', by simp, by simp [PT.paths, hp'], rfl⟩
    · simp only [PT.rm, if_neg hji, PT.paths, List.mem_map] at hp'
      obtain ⟨q, hq, rfl⟩ := hp'
      obtain ⟨L1, F', L2, h1, h2, rfl⟩ := rm_paths (T := t) (fun p hp => by
        obtain ⟨x, hx, hxi⟩ := h ((j, F) :: p) (by simp [PT.paths, hp])
        rcases List.mem_cons.1 hx with rfl | hx
        · exact absurd hxi hji
        · exact ⟨x, hx, hxi⟩) q hq
      refine ⟨(j, F) :: L1, F', L2, ?_, by simp [PT.paths, h2], rfl⟩
      intro x hx
      rcases List.mem_cons.1 hx with rfl | hx
      · exact hji
      · exact h1 x hx
  | .fork x y, h, p', hp' => by
    simp only [PT.rm, PT.paths, List.mem_append] at hp'
    rcases hp' with hp' | hp'
    · obtain ⟨L1, F', L2, h1, h2, rfl⟩ := rm_paths (T := x) (fun p hp => h p (by simp [PT.paths, hp])) p' hp'
      exact ⟨L1, F', L2, h1, by simp [PT.paths, h2], rfl⟩
    · obtain ⟨L1, F', L2, h1, h2, rfl⟩ := rm_paths (T := y) (fun p hp => h p (by simp [PT.paths, hp])) p' hp'
      exact ⟨L1, F', L2, h1, by simp [PT.paths, h2], rfl⟩

/-- two effects may stand open -/
def pairB' (P : Program) (ops : Array Oper) (anc : List Nat) (x y : Nat × List Nat) : Bool :=
  pairB P ops anc x y || (match ops[x.1]?, ops[y.1]? with | some oj, some oi => kind P oj == 2 && kind P oi == 2 | _, _ => false)

theorem pairB_of {anc : List Nat} {x y : Nat × List Nat} {oj oi : Oper} (hj : ops[x.1]? = some oj) (hi : ops[y.1]? = some oi) (h : pairB' P ops anc x y = true) (hk : kind P oj ≠ 2 ∨ kind P oi ≠ 2) : pairB P ops anc x y = true := by
  simp only [pairB', hj, hi, Bool.or_eq_true, Bool.and_eq_true, beq_iff_eq] at h
  rcases h with h | ⟨h1, h2⟩
  · exact h
  · rcases hk with hk | hk
    · exact absurd h1 hk
    · exact absurd h2 hk

theorem stepC_and {i : Nat} {oi : Oper} (hi : ops[i]? = some oi) (hk : kind P oi ≠ 2) {K K' : Act → World → Prop} (h : stepC P ops QF i [] K a w) (h' : stepC P ops QF i [] K' a w) : stepC P ops QF i [] (fun a w => K a w ∧ K' a w) a w := by
  unfold stepC at *
  simp only [hi] at *
  split at h
  · rename_i hw
    rw [if_pos hw] at h' ⊢
    cases hq : resolve P oi.op with
    | some q => simp only [hq] at *; exact ⟨h.1, h.2, h'.2⟩
    | none => exact absurd (by simp [kind, hq]) hk
  · rename_i hw; rw [if_neg hw] at h' ⊢; exact ⟨h, h'⟩

theorem swapB_F {oj oi : Oper} {j : Nat} {Fj Fi : List Nat} (hk : kind P oi ≠ 2) (h : swapB P ops oj j Fj oi Fi = true) : swapB P ops oj j Fj oi [] = true := by
  revert h hk
  unfold swapB
  generalize kind P oj = x
  generalize kind P oi = y
  intro h hk
  rcases y with _ | _ | _ | y <;> rcases x with _ | _ | _ | x <;> simp_all

theorem frontQ {anc : List Nat} {i : Nat} {oi : Oper} (hi : ops[i]? = some oi) (hk : kind P oi ≠ 2) {K : Act → World → Prop} : ∀ (T : PT) (a : Act) (w : World),
    (∀ p ∈ T.paths, ∃ L1 F L2, p = L1 ++ (i, F) :: L2 ∧ (∀ x ∈ L1, x.1 ≠ i) ∧ ∀ x ∈ L1, (ops[x.1]?).isSome = true ∧ pairB P ops anc x (i, F) = true ∧ (anc.getD i 0).testBit x.1 = false) →
    wpT P ops QF K T a w → stepC P ops QF i [] (wpT P ops QF K (T.rm i)) a w
  | .nil, a, w, hp, h => by
    obtain ⟨L1, F, L2, h1, _⟩ := hp [] (by simp [PT.paths])
    simp at h1
  | .op j F t, a, w, hp, h => by
    by_cases hji : j = i
    · subst hji
      simp only [PT.rm, if_true]
      simp only [wpT] at h
      unfold stepC at *
      simp only [hi] at h ⊢
      split at h
      · rename_i hw; rw [if_pos hw]
        cases hq : resolve P oi.op with
        | some q => simp only [hq] at h ⊢; exact h
        | none => exact absurd (by simp [kind, hq]) hk
      · rename_i hw; rw [if_neg hw]; exact h
    · simp only [PT.rm, if_neg hji, wpT]
      simp only [wpT] at h
      have hp' : ∀ p ∈ t.paths, ∃ L1 F L2, p = L1 ++ (i, F) :: L2 ∧ (∀ x ∈ L1, x.1 ≠ i) ∧ ∀ x ∈ L1, (ops[x.1]?).isSome = true ∧ pairB P ops anc x (i, F) = true ∧ (anc.getD i 0).testBit x.1 = false := by
        intro p hpp
        obtain ⟨L1, F', L2, h1, h2, h3⟩ := hp ((j, F) :: p) (by simp [PT.paths, hpp])
        cases L1 with
        | nil => simp at h1; exact absurd h1.1.1 hji
        | cons x L1 =>
          simp only [List.cons_append, List.cons.injEq] at h1
          exact ⟨L1, F', L2, h1.2, fun y hy => h2 y (by simp [hy]), fun y hy => h3 y (by simp [hy])⟩
      have ih := fun a w => frontQ hi hk (K := K) t a w hp'
      have h2 := stepC_mono (fun a w => ih a w) h
      obtain ⟨p, hpp⟩ := List.exists_mem_of_ne_nil _ (PT.paths_ne t)
      obtain ⟨L1, F', L2, h1, _, h3⟩ := hp ((j, F) :: p) (by simp [PT.paths, hpp])
      cases L1 with
      | nil => simp at h1; exact absurd h1.1.1 hji
      | cons x L1 =>
        simp only [List.cons_append, List.cons.injEq] at h1
        obtain ⟨rfl, h1⟩ := h1
        obtain ⟨h4, h5, h6⟩ := h3 (j, F) (by simp)
        obtain ⟨oj, hj⟩ := Option.isSome_iff_exists.1 h4
        simp only at hj
        simp only [pairB, hj, hi, h6, Bool.false_or] at h5
        exact swap hi hj (swapB_F hk h5) (by simp) h2
  | .fork x y, a, w, hp, h => by
    simp only [PT.rm, wpT] at h ⊢
    exact stepC_and hi hk (frontQ hi hk x a w (fun p hpp => hp p (by simp [PT.paths, hpp])) h.1) (frontQ hi hk y a w (fun p hpp => hp p (by simp [PT.paths, hpp])) h.2)

/-- what holds of each way through the tree -/
structure PathOK (P : Program) (ops : Array Oper) (anc : List Nat) (m : Nat) (listed : Array Bool) (L : List (Nat × List Nat)) : Prop where
  len : L.length = m
  inv : LInv ops L listed
  lt : ∀ x ∈ L, x.1 < ops.size
  pb : allPairs (pairB' P ops anc) L = true
  pr : allPairs (pairR P ops) L = true
  ne : allPairs (fun x y => x.1 != y.1) L = true

theorem PathOK.rm {anc : List Nat} {m i : Nat} {listed : Array Bool} {L1 L2 : List (Nat × List Nat)} {F : List Nat} {oi : Oper} (hoi : ops[i]? = some oi) (hdeps : ∀ e ∈ oi.after, Region.binds .any e = true → listed.getD e.on false = true)
    (h : PathOK P ops anc (m + 1) listed (L1 ++ (i, F) :: L2)) : PathOK P ops anc m (listed.setIfInBounds i true) (L1 ++ L2) := by
  obtain ⟨hl, inv, hlt, hp, hr, hn⟩ := h
  have hil := (Array.getElem?_eq_some_iff.1 hoi).1
  obtain ⟨p1, p2, _, _⟩ := allPairs_mid hp
  obtain ⟨r1, r2, r3, _⟩ := allPairs_mid hr
  obtain ⟨n1, n2, _, n4⟩ := allPairs_mid hn
  refine ⟨by simp at hl ⊢; omega, ⟨by simp [inv.size], fun k hk => ?_, fun j oj hj hjl e he hb => ?_⟩, ?_, p2, r2, n2⟩
  · by_cases hki : i = k
    · subst hki
      have : (listed.setIfInBounds i true).getD i true = true := by simp [show i < listed.size by rw [inv.size]; exact hil]
      rw [this]
      constructor
      · intro h; cases h
      · rintro ⟨x, hx, hxe⟩
        rcases List.mem_append.1 hx with hx | hx
        · have := n1 x hx; simp [hxe] at this
        · have := n4 x hx; simp [hxe] at this
    · rw [getD_set_ne true hki, inv.un k hk]
      constructor
      · rintro ⟨x, hx, hxe⟩
        rcases List.mem_append.1 hx with hx | hx
        · exact ⟨x, by simp [hx], hxe⟩
        · rcases List.mem_cons.1 hx with rfl | hx
          · exact absurd hxe hki
          · exact ⟨x, by simp [hx], hxe⟩
      · rintro ⟨x, hx, hxe⟩
        rcases List.mem_append.1 hx with hx | hx
        · exact ⟨x, by simp [hx], hxe⟩
        · exact ⟨x, by simp [hx], hxe⟩
  · by_cases hji : i = j
    · subst hji
      have : oj = oi := Option.some.inj (hj.symm.trans hoi)
      subst this
      exact getD_set_true (hdeps e he hb)
    · rw [getD_set_ne false hji] at hjl
      exact getD_set_true (inv.closed j oj hj hjl e he hb)
  · intro x hx
    rcases List.mem_append.1 hx with hx | hx
    · exact hlt x (by simp [hx])
    · exact hlt x (by simp [hx])

def effB (P : Program) (ops : Array Oper) (i : Nat) : Bool := match ops[i]? with | some o => kind P o == 2 | none => false

theorem wpT_end {K : Act → World → Prop} : ∀ (T : PT) (a : Act) (w : World), (∀ p ∈ T.paths, p = []) → wpT P ops QF K T a w → K a w
  | .nil, _, _, _, h => h
  | .op j F t, _, _, hp, _ => by
    obtain ⟨p, hpp⟩ := List.exists_mem_of_ne_nil _ (PT.paths_ne t)
    have := hp ((j, F) :: p) (by simp [PT.paths, hpp])
    cases this
  | .fork x y, a, w, hp, h => wpT_end x a w (fun p hpp => hp p (by simp [PT.paths, hpp])) h.1

theorem tree_any {anc : List Nat} (ha : ancB ops anc = true) {Q : Exit → Act → World → Prop} {K : Act → World → Prop} (hK : ∀ a w, K a w → Q .normal a w) :
    ∀ (m : Nat) (T : PT) (k : Nat) (rem : List Nat) (listed : Array Bool) (a : Act) (w : World), (∀ p ∈ T.paths, PathOK P ops anc m listed p) →
    (∀ i, i ∈ rem ↔ (effB P ops i = true ∧ listed.getD i true = false)) → covT anc (effB P ops) k rem T = true → wpT P ops QF K T a w → wpAny P .any ops Q m listed a w := by
  intro m
  induction m with
  | zero =>
    intro T k rem listed a w hp hrem hcov h
    have hnil : ∀ p ∈ T.paths, p = [] := fun p hpp => List.eq_nil_of_length_eq_zero (hp p hpp).len
    obtain ⟨p, hpp⟩ := List.exists_mem_of_ne_nil _ (PT.paths_ne T)
    have inv := (hp p hpp).inv
    refine ⟨?_, hK _ _ (wpT_end T a w hnil h)⟩
    rw [List.eq_nil_iff_forall_not_mem]
    intro i hi
    obtain ⟨h1, o, ho, _⟩ := mem_ready.1 hi
    obtain ⟨x, hx, _⟩ := (inv.un i (Array.getElem?_eq_some_iff.1 ho).1).1 h1
    rw [hnil p hpp] at hx; cases hx
  | succ m ih =>
    intro T k rem listed a w hp hrem hcov h
    obtain ⟨p0, hp0⟩ := List.exists_mem_of_ne_nil _ (PT.paths_ne T)
    have ok0 := hp p0 hp0
    have inv0 := ok0.inv
    refine ⟨fun hnil => ?_, fun i hi => ?_⟩
    · exfalso
      have hne : ∃ i, i < ops.size ∧ listed.getD i true = false := by
        cases hL : p0 with
        | nil => have := ok0.len; rw [hL] at this; simp at this
        | cons x r => exact ⟨x.1, ok0.lt x (by simp [hL]), (inv0.un x.1 (ok0.lt x (by simp [hL]))).2 ⟨x, by simp [hL], rfl⟩⟩
      obtain ⟨i, hil, hiu⟩ := hne
      have least : ∀ k, ∀ i, i ≤ k → i < ops.size → listed.getD i true = false → False := by
        intro k
        induction k using Nat.strongRecOn with
        | _ k ihk =>
          intro i hik hil hiu
          have : i ∈ Region.ready .any ops listed := by
            rw [mem_ready]
            refine ⟨hiu, ops[i], by simp [hil], fun e he hb => ?_⟩
            have hlt' := anc_lt ha (i := i) (o := ops[i]) (by simp [hil]) he hb
            have hs : e.on < listed.size := by rw [inv0.size]; omega
            rw [← getD_bool hs]
            cases hv : listed.getD e.on true with
            | true => rfl
            | false => exact (ihk (i - 1) (by omega) e.on (by omega) (by omega) hv).elim
          rw [hnil] at this; cases this
      exact least i i (Nat.le_refl _) hil hiu
    · obtain ⟨hiu, oi, hoi, hdeps⟩ := mem_ready.1 hi
      have hil := (Array.getElem?_eq_some_iff.1 hoi).1
      have hbit : ∀ j, listed.getD j true = false → j < ops.size → (anc.getD i 0).testBit j = false := by
        intro j hj hjl
        cases hb : (anc.getD i 0).testBit j with
        | false => rfl
        | true =>
          have := anc_listed ha inv0.closed i j oi hoi hb hdeps
          rw [getD_bool (by rw [inv0.size]; exact hjl), this] at hj; cases hj
      have hin : ∀ p ∈ T.paths, ∃ x ∈ p, x.1 = i := fun p hpp => ((hp p hpp).inv.un i hil).1 hiu
      have hlisted : ∀ j, j ≠ i → (listed.setIfInBounds i true).getD j true = listed.getD j true := fun j hj => getD_set_ne true (Ne.symm hj)
      have hself : (listed.setIfInBounds i true).getD i true = true := by simp [show i < listed.size by rw [inv0.size]; exact hil]
      by_cases hk2 : kind P oi = 2
      · -- an effect
        have hei : effB P ops i = true := by simp [effB, hoi, hk2]
        have himem : i ∈ rem := (hrem i).2 ⟨hei, hiu⟩
        cases k with
        | zero => simp only [covT, List.isEmpty_iff] at hcov; rw [hcov] at himem; cases himem
        | succ k =>
          simp only [covT, List.all_eq_true] at hcov
          have hc := hcov i himem
          have hno : (rem.any fun j => (anc.getD i 0).testBit j) = false := by
            rw [List.any_eq_false]
            intro j hj
            have hju := ((hrem j).1 hj).2
            have hjl : j < ops.size := by
              have := ((hrem j).1 hj).1
              unfold effB at this
              cases ho : ops[j]? with
              | none => simp [ho] at this
              | some o => exact (Array.getElem?_eq_some_iff.1 ho).1
            rw [hbit j hju hjl]; decide
          rw [hno, Bool.false_or] at hc
          cases hT : T.take (effB P ops) i with
          | none => simp [hT] at hc
          | some T' =>
            simp only [hT] at hc
            obtain ⟨L1, F, t, rfl, hq1, hpaths, hwp⟩ := take_spec (P := P) (ops := ops) hT
            have h1 := hwp h
            obtain ⟨p1, hp1⟩ := List.exists_mem_of_ne_nil _ (PT.paths_ne t)
            have ok1 := hp _ (hpaths p1 hp1)
            obtain ⟨b1, _, _, _⟩ := allPairs_mid ok1.pb
            obtain ⟨_, _, r3, _⟩ := allPairs_mid ok1.pr
            have hsome : ∀ x ∈ L1, (ops[x.1]?).isSome = true := fun x hx => by simp [ok1.lt x (by simp [hx])]
            have hfirst := front hoi L1 [] [] a w (K := wpT P ops QF K t) (anc := anc) (Fi := F) (fun x hx => by
              obtain ⟨ox, hox⟩ := Option.isSome_iff_exists.1 (hsome x hx)
              refine ⟨pairB_of hox hoi (b1 x hx) (.inl fun hkx => ?_), ?_⟩
              · have := hq1 x hx
                simp [effB, hox, hkx] at this
              · have hxl := ok1.lt x (by simp [hx])
                exact hbit x.1 ((ok1.inv.un x.1 hxl).2 ⟨x, by simp [hx], rfl⟩) hxl) r3 hsome (by simp) h1
            refine stepC_wpOp (fun a' w' h' => ih (PT.pre L1 t) k _ _ a' w' ?_ ?_ hc (wpC_pre L1 a' w' (by simpa using h'))) hfirst
            · intro q hq
              rw [paths_pre, List.mem_map] at hq
              obtain ⟨p, hpp, rfl⟩ := hq
              exact (hp _ (hpaths p hpp)).rm hoi hdeps
            · intro j
              simp only [List.mem_filter, bne_iff_ne, ne_eq, hrem j]
              by_cases hji : j = i
              · subst hji; simp [hself]
              · rw [hlisted j hji]; simp [hji]
      · -- nothing but a value
        have hei : effB P ops i = false := by simp [effB, hoi, hk2]
        have hfirst := frontQ hoi hk2 (anc := anc) (K := K) T a w (fun p hpp => by
          obtain ⟨x, hx, hxi⟩ := hin p hpp
          obtain ⟨L1, L2, rfl⟩ := List.append_of_mem hx
          obtain ⟨i', F⟩ := x
          simp only at hxi; subst hxi
          have ok := hp _ hpp
          obtain ⟨b1, _, _, _⟩ := allPairs_mid ok.pb
          obtain ⟨n1, _, _, _⟩ := allPairs_mid ok.ne
          refine ⟨L1, F, L2, rfl, fun y hy => by have := n1 y hy; simpa using this, fun y hy => ?_⟩
          have hyl := ok.lt y (by simp [hy])
          have hso : (ops[y.1]?).isSome = true := by simp [hyl]
          obtain ⟨oy, hoy⟩ := Option.isSome_iff_exists.1 hso
          exact ⟨hso, pairB_of hoy hoi (b1 y hy) (.inr hk2), hbit y.1 ((ok.inv.un y.1 hyl).2 ⟨y, by simp [hy], rfl⟩) hyl⟩) h
        refine stepC_wpOp (fun a' w' h' => ih (T.rm i) k rem _ a' w' ?_ ?_ (covT_rm hei k rem T (fun j hj => ((hrem j).1 hj).1) hcov) h') hfirst
        · intro q hq
          obtain ⟨L1, F, L2, _, h2, rfl⟩ := rm_paths hin q hq
          exact (hp _ h2).rm hoi hdeps
        · intro j
          rw [hrem j]
          by_cases hji : j = i
          · subst hji; simp [hei]
          · rw [hlisted j hji]

def pathB (P : Program) (ops : Array Oper) (anc : List Nat) (L : List (Nat × List Nat)) : Bool :=
  allPairs (pairB' P ops anc) L && allPairs (pairR P ops) L && (List.range ops.size).all (fun i => L.any fun x => x.1 == i) && allPairs (fun x y => x.1 != y.1) L && L.all fun x => decide (x.1 < ops.size)

def treeB (P : Program) (ops : Array Oper) (anc : List Nat) (T : PT) : Bool :=
  let effs := (List.range ops.size).filter (effB P ops)
  ancB ops anc && T.paths.all (pathB P ops anc) && covT anc (effB P ops) effs.length effs T

theorem wp_region_tree {id : Nat} {Q : Exit → Act → World → Prop} {K : Act → World → Prop} (hm : P.follows .mixedOrders = true) {anc : List Nat} {T : PT} (hc : treeB P ops anc T = true)
    (hK : ∀ a w, K a w → Q .normal a w) (h : wpT P ops QF K T a { w with drawn := w.drawn + 1 }) : (Code.region id ops true).wp P Q a w := by
  simp only [treeB, Bool.and_eq_true] at hc
  obtain ⟨⟨ha, hp⟩, hcov⟩ := hc
  refine wp_region_any hm ?_
  refine tree_any ha hK ops.size T _ _ _ a _ (fun L hL => ?_) ?_ hcov h
  · have hL' := List.all_eq_true.1 hp L hL
    simp only [pathB, Bool.and_eq_true, List.all_eq_true, List.mem_range, decide_eq_true_eq] at hL'
    obtain ⟨⟨⟨⟨hpb, hr⟩, hall⟩, hn⟩, hlt⟩ := hL'
    have hlen : L.length = ops.size := by
      have h1 : (L.map (·.1)).Nodup := by
        have : ∀ L : List (Nat × List Nat), allPairs (fun x y => x.1 != y.1) L = true → (L.map (·.1)).Nodup := by
          intro L
          induction L with
          | nil => intro _; simp
          | cons x r ih =>
            intro h
            simp only [allPairs, Bool.and_eq_true, List.all_eq_true] at h
            simp only [List.map_cons, List.nodup_cons, List.mem_map, not_exists, not_and]
            exact ⟨fun y hy he => by have := h.1 y hy; simp [he] at this, ih h.2⟩
        exact this L hn
      have h2 : (L.map (·.1)).Perm (List.range ops.size) := by
        refine (List.perm_ext_iff_of_nodup h1 List.nodup_range).2 fun i => ?_
        simp only [List.mem_map, List.mem_range]
        constructor
        · rintro ⟨x, hx, rfl⟩; exact hlt x hx
        · intro hi
          have := hall i hi
          simp only [List.any_eq_true, beq_iff_eq] at this
          exact this
      simpa using h2.length_eq
    refine ⟨hlen, ⟨by simp, fun i hi => ?_, fun j oj _ hl => ?_⟩, hlt, hpb, hr, hn⟩
    · have h1 : (Array.replicate ops.size false).getD i true = false := by simp [hi]
      rw [h1]
      have := hall i hi
      simp only [List.any_eq_true, beq_iff_eq] at this
      exact ⟨fun _ => this, fun _ => rfl⟩
    · have : (Array.replicate ops.size false).getD j false = false := by
        rcases Nat.lt_or_ge j ops.size with h | h
        · simp [h]
        · simp [h]
      rw [this] at hl; cases hl
  · intro i
    simp only [List.mem_filter, List.mem_range]
    constructor
    · rintro ⟨h1, h2⟩; exact ⟨h2, by simp [h1]⟩
    · rintro ⟨h1, h2⟩
      refine ⟨?_, h1⟩
      unfold effB at h1
      cases ho : ops[i]? with
      | none => simp [ho] at h1
      | some o => exact (Array.getElem?_eq_some_iff.1 ho).1
end
end Go.HL

/- HLG: code over named slots: what it asks (hw), the program that makes it (dcode), and that a function's contract follows. -/
namespace Go.HL
open Go

/-- the statements of a region whose effects stand open: a tree -/
inductive HT where
  | fin
  | run (l : List HS) (t : HT)
  | fork (a b : HT)

inductive HC where
  | reg (l : List HS)
  | draw (l : List HS)
  | drawT (t : HT)
  | seq (a b : HC)
  | cond (c : HE) (a b : HC)
  | block (id : Nat) (c : HC)
  | loop (c : HC)
  | exit (id : Nat)
  | ret
  | skip
  | never

inductive HX where
  | normal
  | exit (id : Nat)
  | ret

def noPanic : List PanicEntry → World → Prop := fun _ _ => False

def seqX (K : Env → World → Prop) (Q : HX → Env → World → Prop) : HX → Env → World → Prop
  | .normal => K
  | e => Q e
def blockX (id : Nat) (Q : HX → Env → World → Prop) : HX → Env → World → Prop
  | .exit i => if i = id then Q .normal else Q (.exit i)
  | e => Q e

/-- what a loop asks: a relation that holds ahead, with a number that each round lowers -/
def hloop (body : (HX → Env → World → Prop) → Env → World → Prop) (Q : HX → Env → World → Prop) (σ : Env) (w : World) : Prop :=
  ∃ (J : Nat → Env → World → Prop) (i : Nat), J i σ w ∧ ∀ i σ w, J i σ w → body (seqX (fun σ' w' => ∃ j, j < i ∧ J j σ' w') Q) σ w

def hcond (v : Value) (A B : Prop) : Prop := ∃ b, v = .bool b ∧ (b = true → A) ∧ (b = false → B)

def hsT (P : Program) (QP : List PanicEntry → World → Prop) (K : Env → World → Prop) : HT → Env → World → Prop
  | .fin => K
  | .run l t => hs P QP (hsT P QP K t) l
  | .fork a b => fun σ w => hsT P QP K a σ w ∧ hsT P QP K b σ w

def hw (P : Program) (QP : List PanicEntry → World → Prop) : HC → (HX → Env → World → Prop) → Env → World → Prop
  | .reg l, Q => hs P QP (Q .normal) l
  | .draw l, Q => fun σ w => hs P noPanic (Q .normal) l σ w.drew
  | .drawT t, Q => fun σ w => hsT P noPanic (Q .normal) t σ w.drew
  | .seq a b, Q => hw P QP a (seqX (hw P QP b Q) Q)
  | .cond c a b, Q => fun σ w => hcond (val σ w c) (hw P QP a Q σ w) (hw P QP b Q σ w)
  | .block id c, Q => hw P QP c (blockX id Q)
  | .loop c, Q => hloop (hw P QP c) Q
  | .exit id, Q => Q (.exit id)
  | .ret, Q => Q .ret
  | .skip, Q => Q .normal
  | .never, _ => fun _ _ => False

/-- the decompiler's plan: for a region's number the order and its certificate -/
structure Plan where
  id : Nat
  anc : List Nat
  L : List (Nat × List Nat)
  T : Option PT

def runT (l : List HS) : HT → HT
  | .run l' t => .run (l ++ l') t
  | t => .run l t

def dtree (P : Program) (ops : Array Oper) (N n : Nat) : DS → PT → Option HT
  | _, .nil => some .fin
  | st, .op i F t =>
    match dstep P ops N n st i F with
    | none => none
    | some (l, st') => (dtree P ops N n st' t).map (runT l)
  | st, .fork a b => match dtree P ops N n st a, dtree P ops N n st b with | some x, some y => some (.fork x y) | _, _ => none

def dcode (P : Program) (N n : Nat) (plans : List Plan) : Code → Option HC
  | .skip => some .skip
  | .region id ops draw =>
    if draw = true then
      match plans.find? fun p => p.id == id with
      | some p =>
        match p.T with
        | none => if canonB P ops p.anc p.L = true then (dlist P ops N n ⟨[], []⟩ p.L).map .draw else none
        | some T => if treeB P ops p.anc T = true then (dtree P ops N n ⟨[], []⟩ T).map .drawT else none
      | none => none
    else (dlist P ops N n ⟨[], []⟩ ((List.range ops.size).map fun i => (i, []))).map .reg
  | .seq a b => match dcode P N n plans a, dcode P N n plans b with | some x, some y => some (.seq x y) | _, _ => none
  | .cond c a b =>
    match exO N [] [] c, dcode P N n plans a, dcode P N n plans b with
    | some c, some x, some y => some (.cond c x y)
    | _, _, _ => none
  | .block id c => (dcode P N n plans c).map (.block id)
  | .loop c => (dcode P N n plans c).map .loop
  | .exit id => some (.exit id)
  | .scope c => dcode P N n plans c
  | .label _ => some .skip
  | .ret => some .ret
  | .refuse _ => some .never
  | .goto _ => some .never
  | _ => none

section
variable {P : Program} {N n : Nat} {D : List Deferred} {QP : List PanicEntry → World → Prop}

structure RelN (N n : Nat) (D : List Deferred) (a : Act) (σ : Env) : Prop where
  size : a.tmps.size = n
  defers : a.defers = D
  slot : ∀ t, N.testBit t = true → a.eval (.tmp t) = σ t

def lift (N n : Nat) (D : List Deferred) (QP : List PanicEntry → World → Prop) (Q : HX → Env → World → Prop) : Exit → Act → World → Prop
  | .normal, a, w => ∃ σ, RelN N n D a σ ∧ Q .normal σ w
  | .exit id, a, w => ∃ σ, RelN N n D a σ ∧ Q (.exit id) σ w
  | .ret, a, w => ∃ σ, RelN N n D a σ ∧ Q .ret σ w
  | .panic c, a, w => a.defers = D ∧ QP c w
  | .goto _, _, _ => False
  | .outgrown, _, _ => False

theorem lift_mono {Q Q' : HX → Env → World → Prop} (h : ∀ x σ w, Q x σ w → Q' x σ w) {e : Exit} {a : Act} {w : World} (hh : lift N n D QP Q e a w) : lift N n D QP Q' e a w := by
  cases e with
  | normal => obtain ⟨σ, r, q⟩ := hh; exact ⟨σ, r, h _ _ _ q⟩
  | exit id => obtain ⟨σ, r, q⟩ := hh; exact ⟨σ, r, h _ _ _ q⟩
  | ret => obtain ⟨σ, r, q⟩ := hh; exact ⟨σ, r, h _ _ _ q⟩
  | panic c => exact hh
  | goto l => exact hh
  | outgrown => exact hh

theorem stepC_op {ops : Array Oper} {Q : Exit → Act → World → Prop} {i : Nat} {K K' : Act → World → Prop} {a : Act} {w : World} (h : ∀ a w, K a w → K' a w) (hh : stepC P ops Q i [] K a w) : wpOp P ops Q i K' a w := by
  unfold stepC at hh
  unfold wpOp
  cases ho : ops[i]? with
  | none => simp [ho] at hh
  | some o =>
    simp only [ho] at hh ⊢
    split at hh
    · rename_i hw; rw [if_pos hw]
      left
      cases hq : resolve P o.op with
      | some q =>
        simp only [hq] at hh
        have hr := resolve_sound (P := P) (ρ := a.eval) (w := w) hq hh.1
        simp only [Oper.wp, hr, Oper.upon]; exact h _ _ hh.2
      | none =>
        simp only [hq] at hh
        exact Oper.wp_mono (fun a w hx => h _ _ hx.2) hh
    · rename_i hw; rw [if_neg hw]; exact h _ _ hh

theorem wpC_ops {ops : Array Oper} {Q : Exit → Act → World → Prop} {K : Act → World → Prop} (hK : ∀ a w, K a w → Q .normal a w) : ∀ (l : List Nat) (a : Act) (w : World),
    wpC P ops Q K (l.map fun i => (i, [])) a w → wpOps P ops Q l a w
  | [], a, w, h => hK _ _ h
  | i :: r, a, w, h => by
    rw [wpOps_cons]
    exact stepC_op (fun a w hx => wpC_ops hK r a w hx) h

theorem hs_app {QP : List PanicEntry → World → Prop} {K : Env → World → Prop} : ∀ (l r : List HS) (σ : Env) (w : World), hs P QP K (l ++ r) σ w = hs P QP (hs P QP K r) l σ w
  | [], _, _, _ => rfl
  | .need e :: l, r, σ, w => by simp only [List.cons_append, hs, hs_app l r]
  | .asg d e :: l, r, σ, w => by simp only [List.cons_append, hs, hs_app l r]
  | .eff d o ty m g stab :: l, r, σ, w => by
    cases g with
    | none => simp only [List.cons_append, hs, hs_app l r]
    | some g => obtain ⟨c, want⟩ := g; simp only [List.cons_append, hs, hs_app l r]

theorem hsT_runT {K : Env → World → Prop} (l : List HS) (t : HT) (σ : Env) (w : World) : hsT P QP K (runT l t) σ w = hs P QP (hsT P QP K t) l σ w := by
  cases t with
  | run l' t => simp only [runT, hsT, hs_app]
  | fin => rfl
  | fork a b => rfl

theorem dtree_sound {ops : Array Oper} {K : Env → World → Prop} {K' : Act → World → Prop}
    (hK : ∀ a' σ' w', a'.tmps.size = n → a'.defers = D → (∀ t, N.testBit t = true → a'.eval (.tmp t) = σ' t) → K σ' w' → K' a' w') :
    ∀ (T : PT) (st : DS) (a : Act) (σ : Env) (w : World) (h : HT), Rel P ops N n D st a σ w → nodupR st.R → dtree P ops N n st T = some h → hsT P noPanic K h σ w → wpT P ops QF K' T a w
  | .nil, st, a, σ, w, h, R, _, hd, H => by
    simp only [dtree, Option.some.injEq] at hd; subst hd
    exact hK a σ w R.size R.defers R.slot H
  | .op i F t, st, a, σ, w, h, R, hn, hd, H => by
    simp only [dtree] at hd
    cases hs : dstep P ops N n st i F with
    | none => simp [hs] at hd
    | some p =>
      obtain ⟨l1, st'⟩ := p
      simp only [hs, Option.map_eq_some_iff] at hd
      obtain ⟨h2, hd2, rfl⟩ := hd
      rw [hsT_runT] at H
      exact dstep_sound (rest := []) (QP := noPanic) (fun _ _ _ _ h => h) R hn hs (by rw [List.append_nil]; exact H) (fun a' σ' w' R' hn' H' => dtree_sound hK t st' a' σ' w' h2 R' hn' hd2 H')
  | .fork x y, st, a, σ, w, h, R, hn, hd, H => by
    simp only [dtree] at hd
    cases hx : dtree P ops N n st x <;> cases hy : dtree P ops N n st y <;> simp only [hx, hy, Option.some.injEq, reduceCtorEq] at hd
    rename_i h1 h2
    subst hd
    exact ⟨dtree_sound hK x st a σ w h1 R hn hx H.1, dtree_sound hK y st a σ w h2 R hn hy H.2⟩

theorem dcode_sound {plans : List Plan} (hm : P.follows .mixedOrders = true) : ∀ (c : Code) (h : HC), dcode P N n plans c = some h → ∀ (Q : HX → Env → World → Prop) (σ : Env) (a : Act) (w : World),
    RelN N n D a σ → hw P QP h Q σ w → c.wp P (lift N n D QP Q) a w := by
  intro c
  induction c with
  | skip => intro h hd Q σ a w R H; simp only [dcode, Option.some.injEq] at hd; subst hd; exact wp_skip ⟨σ, R, H⟩
  | region id ops draw =>
    intro h hd Q σ a w R H
    have R0 : ∀ w, Rel P ops N n D ⟨[], []⟩ a σ w := fun w => ⟨R.size, R.defers, R.slot, by simp, by simp⟩
    have nd : nodupR ([] : List Rd) := by intro r hr; cases hr
    simp only [dcode] at hd
    split at hd
    · rename_i hdr
      subst hdr
      cases hp : plans.find? (fun p => p.id == id) with
      | none => simp [hp] at hd
      | some p =>
        simp only [hp] at hd
        split at hd
        · split at hd
          · rename_i hc
            simp only [Option.map_eq_some_iff] at hd
            obtain ⟨l, hl, rfl⟩ := hd
            refine wp_region_canon (K := lift N n D QP Q .normal) hm hc (fun a w hx => hx) ?_
            exact dlist_sound (QP := noPanic) (K := Q .normal) (fun _ _ _ _ h => h) (fun a' σ' w' h1 h2 h3 h4 => ⟨σ', ⟨h1, h2, h3⟩, h4⟩) p.L ⟨[], []⟩ a σ _ l (R0 _) nd hl H
          · cases hd
        · rename_i T _
          split at hd
          · rename_i hc
            simp only [Option.map_eq_some_iff] at hd
            obtain ⟨l, hl, rfl⟩ := hd
            refine wp_region_tree (K := lift N n D QP Q .normal) hm hc (fun a w hx => hx) ?_
            exact dtree_sound (K := Q .normal) (fun a' σ' w' h1 h2 h3 h4 => ⟨σ', ⟨h1, h2, h3⟩, h4⟩) T ⟨[], []⟩ a σ _ l (R0 _) nd hl H
          · cases hd
    · rename_i hdr
      have : draw = false := by simpa using hdr
      subst this
      simp only [Option.map_eq_some_iff] at hd
      obtain ⟨l, hl, rfl⟩ := hd
      refine wp_region (wpC_ops (K := lift N n D QP Q .normal) (fun a w hx => hx) _ a w ?_)
      exact dlist_sound (QP := QP) (K := Q .normal) (fun c a w h1 h2 => ⟨h1, h2⟩) (fun a' σ' w' h1 h2 h3 h4 => ⟨σ', ⟨h1, h2, h3⟩, h4⟩) _ ⟨[], []⟩ a σ _ l (R0 _) nd hl H
  | seq x y ihx ihy =>
    intro h hd Q σ a w R H
    simp only [dcode] at hd
    cases hx : dcode P N n plans x <;> cases hy : dcode P N n plans y <;> simp only [hx, hy, Option.some.injEq, reduceCtorEq] at hd
    rename_i a' b'
    subst hd
    refine wp_seq (Code.wp_mono (fun e a w hq => ?_) (ihx _ hx (seqX (hw P QP b' Q) Q) σ a w R H))
    cases e with
    | normal => obtain ⟨σ', r, q⟩ := hq; exact ihy _ hy Q σ' a w r q
    | exit id => exact hq
    | ret => exact hq
    | panic c => exact hq
    | goto l => exact hq
    | outgrown => exact hq
  | cond c x y ihx ihy =>
    intro h hd Q σ a w R H
    simp only [dcode] at hd
    cases hc : exO N [] [] c <;> cases hx : dcode P N n plans x <;> cases hy : dcode P N n plans y <;> simp only [hc, hx, hy, Option.some.injEq, reduceCtorEq] at hd
    rename_i c' a' b'
    subst hd
    obtain ⟨t, ht, h1, h2⟩ := H
    have R0 : Rel P #[] N n D ⟨[], []⟩ a σ w := ⟨R.size, R.defers, R.slot, by simp, by simp⟩
    have hv : a.eval c = .bool t := by rw [exO_sound R0 (gs := []) (by simp) hc, ht]
    cases t with
    | true => exact wp_cond_true hv (ihx _ hx Q σ a w R (h1 rfl))
    | false => exact wp_cond_false hv (ihy _ hy Q σ a w R (h2 rfl))
  | block id c ih =>
    intro h hd Q σ a w R H
    simp only [dcode, Option.map_eq_some_iff] at hd
    obtain ⟨c', hc, rfl⟩ := hd
    refine wp_block (Code.wp_mono (fun e a w hq => ?_) (ih _ hc (blockX id Q) σ a w R H))
    cases e with
    | normal => exact hq
    | exit i =>
      simp only [Exit.inBlock]
      obtain ⟨σ', r, q⟩ := hq
      simp only [blockX] at q
      split
      · rename_i he; rw [if_pos he] at q; exact ⟨σ', r, q⟩
      · rename_i he; rw [if_neg he] at q; exact ⟨σ', r, q⟩
    | ret => exact hq
    | panic c => exact hq
    | goto l => exact hq
    | outgrown => exact hq
  | loop c ih =>
    intro h hd Q σ a w R H
    simp only [dcode, Option.map_eq_some_iff] at hd
    obtain ⟨c', hc, rfl⟩ := hd
    obtain ⟨J, i, h0, hstep⟩ := H
    have key : ∀ (k : Nat) (σ : Env) (a : Act) (w : World), RelN N n D a σ → (∃ j, j < k ∧ J j σ w) → Code.rounds P c (lift N n D QP Q) k a w := by
      intro k
      induction k with
      | zero => rintro σ a w _ ⟨j, h, _⟩; omega
      | succ k ihk =>
        rintro σ a w R ⟨j, hj, hJ⟩
        rw [rounds_succ]
        refine Code.wp_mono (fun e a' w' hq => ?_) (ih _ hc _ σ a w R (hstep j σ w hJ))
        cases e with
        | normal =>
          obtain ⟨σ', r, j', q1, q2⟩ := hq
          exact ihk σ' a' w' r ⟨j', by omega, q2⟩
        | exit id => exact hq
        | ret => exact hq
        | panic c => exact hq
        | goto l => exact hq
        | outgrown => exact hq
    exact wp_loop_rounds (i + 1) (key _ σ a w R ⟨i, Nat.lt_succ_self _, h0⟩)
  | exit id => intro h hd Q σ a w R H; simp only [dcode, Option.some.injEq] at hd; subst hd; exact wp_exit ⟨σ, R, H⟩
  | scope c ih =>
    intro h hd Q σ a w R H
    simp only [dcode] at hd
    refine wp_scope_straight (Code.wp_mono (fun e a w hq => ?_) (ih h hd Q σ a w R H))
    cases e with
    | goto l => exact hq
    | normal => exact hq
    | exit id => exact hq
    | ret => exact hq
    | panic c => exact hq
    | outgrown => exact hq
  | label l => intro h hd Q σ a w R H; simp only [dcode, Option.some.injEq] at hd; subst hd; exact wp_label ⟨σ, R, H⟩
  | ret => intro h hd Q σ a w R H; simp only [dcode, Option.some.injEq] at hd; subst hd; exact wp_ret ⟨σ, R, H⟩
  | refuse s => intro h hd Q σ a w R H; simp only [dcode, Option.some.injEq] at hd; subst hd; exact H.elim
  | goto l => intro h hd Q σ a w R H; simp only [dcode, Option.some.injEq] at hd; subst hd; exact H.elim
  | _ => intro h hd; simp [dcode] at hd

/-! ### a function -/

/-- where a result lies -/
inductive RV where
  | tmp (t : Nat)
  | cell (a : Nat) (f : F1)

def rvOK (P : Program) (N : Nat) : ResultVar → RV → Bool
  | .tmp t, .tmp u => t == u && N.testBit t
  | .cell a t, .cell b f => a == b && N.testBit a && (match aggT P t, szOf P t with | some true, some n => decide (f = .ldn n) | some false, _ => decide (f = .ld) | _, _ => false)
  | _, _ => false

def rvV (σ : Env) (w : World) : RV → Value
  | .tmp t => σ t
  | .cell a f => v1 w f (σ a)
def rvC (σ : Env) (w : World) : RV → Prop
  | .tmp _ => True
  | .cell a f => (∃ p, σ a = .pointer (some p)) ∧ c1 w f (σ a)

def retV (l : List Value) : Value := match l with | [v] => v | l => .tuple l.toArray

def rvCs (σ : Env) (w : World) : List RV → Prop
  | [] => True
  | .tmp _ :: l => rvCs σ w l
  | .cell a f :: l => (∃ p, σ a = .pointer (some p)) ∧ c1 w f (σ a) ∧ rvCs σ w l
theorem rvCs_all {σ : Env} {w : World} : ∀ {rs : List RV}, rvCs σ w rs → ∀ r ∈ rs, rvC σ w r := by
  intro rs
  induction rs with
  | nil => intro _ r hr; cases hr
  | cons x l ih =>
    intro h r hr
    cases x with
    | tmp t =>
      rcases List.mem_cons.1 hr with rfl | hr
      · trivial
      · exact ih h r hr
    | cell a f =>
      rcases List.mem_cons.1 hr with rfl | hr
      · exact ⟨h.1, h.2.1⟩
      · exact ih h.2.2 r hr

/-- what the function's end asks -/
def endX (rs : List RV) (R : Ending → World → Prop) : HX → Env → World → Prop
  | .normal, σ, w => rvCs σ w rs ∧ R (.returned (retV (rs.map (rvV σ w)))) w
  | .ret, σ, w => rvCs σ w rs ∧ R (.returned (retV (rs.map (rvV σ w)))) w
  | .exit _, _, _ => False

def zipOK (P : Program) (N : Nat) : List ResultVar → List RV → Bool
  | [], [] => true
  | x :: l, y :: r => rvOK P N x y && zipOK P N l r
  | _, _ => false

def rvS (tmps : Array Value) : ResultVar → Sem Value
  | .tmp t => pure (tmps.getD t undef)
  | .cell a t => do loadVar t (← asAddr (tmps.getD a undef))

theorem run_rv {a : Act} {σ : Env} {w : World} (R : RelN N n D a σ) (x : ResultVar) (y : RV) (h1 : rvOK P N x y = true) (hcy : rvC σ w y) : (rvS a.tmps x).run P w = .ok (rvV σ w y) w := by
  cases x <;> cases y <;> simp only [rvOK, Bool.and_eq_true, beq_iff_eq, Bool.false_eq_true] at h1
  · obtain ⟨rfl, hb⟩ := h1
    have := R.slot _ hb
    simp only [Act.eval] at this
    simp only [rvS, Sem.run_pure, rvV, this]
  · obtain ⟨⟨rfl, hb⟩, hf⟩ := h1
    obtain ⟨⟨p, hp⟩, hcc⟩ := hcy
    have hs := R.slot _ hb
    simp only [Act.eval] at hs
    rename_i b t f
    rw [hp] at hs
    simp only [rvS, hs, asAddr, rvV, hp]
    have hq : resolve P (.load t (.const (.pointer (some p)))) = some (.q1 f (.const (.pointer (some p)))) := by
      simp only [resolve]
      cases ha : aggT P t with
      | none => simp [ha] at hf
      | some b =>
        cases hz : szOf P t with
        | none => cases b <;> simp [ha, hz] at hf; simp [hf]
        | some m => cases b <;> simp [ha, hz] at hf <;> simp [hf]
    have := s_load (P := P) (ρ := fun x => match x with | .const v => v | _ => undef) (w := w) hq (by rw [hp] at hcc; exact hcc)
    simpa [Instr.loadAt, Instr.sureAddr, qval] using this

theorem run_rvs {a : Act} {σ : Env} {w : World} (R : RelN N n D a σ) : ∀ (l : List ResultVar) (rs : List RV), zipOK P N l rs = true → (∀ r ∈ rs, rvC σ w r) →
    (l.mapM (rvS a.tmps)).run P w = .ok (rs.map (rvV σ w)) w
  | [], [], _, _ => rfl
  | x :: l, y :: r, h, hc => by
    simp only [zipOK, Bool.and_eq_true] at h
    have ih := run_rvs R l r h.2 (fun r hr => hc r (by simp [hr]))
    have hx := run_rv (P := P) R x y h.1 (hc y (by simp))
    simp only [List.mapM_cons, Sem.run_bind, hx, Result.andThen_ok, ih, Sem.run_pure, List.map_cons]
  | [], _ :: _, h, _ => by simp [zipOK] at h
  | _ :: _, [], h, _ => by simp [zipOK] at h

theorem run_results {fn : Func} {a : Act} {σ : Env} {w : World} (R : RelN N n D a σ) {rs : List RV} (h : zipOK P N fn.results.toList rs = true) (hc : ∀ r ∈ rs, rvC σ w r) :
    (results fn a.tmps).run P w = .ok (retV (rs.map (rvV σ w))) w := by
  have h1 := run_rvs (P := P) R fn.results.toList rs h hc
  have h2 : (fn.results.mapM (rvS a.tmps)).run P w = .ok (rs.map (rvV σ w)).toArray w := by
    rw [← Array.toArray_toList (xs := fn.results), List.mapM_toArray]
    simp only [Sem.run_map, Sem.run_bind, h1, Result.andThen_ok]
  have h3 : results fn a.tmps = (do let vs ← fn.results.mapM (rvS a.tmps); pure (if h : vs.size = 1 then vs[0] else .tuple vs) : Sem Value) := by
    unfold results
    congr 1
  rw [h3]
  simp only [Sem.run_bind, h2, Result.andThen_ok, Sem.run_pure]
  congr 1
  unfold retV
  cases hl : rs.map (rvV σ w) with
  | nil => simp
  | cons v r =>
    cases r with
    | nil => simp
    | cons u r => simp

def σ0 (args : List Value) : Env := fun t => args.getD t undef

/-- A FUNCTION'S CONTRACT out of its code over named slots. -/
theorem calls_of_hw {f : FuncId} {fn : Func} {c : Code} {h : HC} {plans : List Plan} {rs : List RV} {args : List Value} {w : World} {R : Ending → World → Prop} (N : Nat)
    (hf : P.funcs[f]? = some fn) (hb : fn.body = some c) (hm : P.follows .mixedOrders = true) (hd : dcode P N fn.ntmps plans c = some h) (hr : zipOK P N fn.results.toList rs = true) (hn : args.length ≤ fn.ntmps)
    (H : hw P (fun ch w' => R (.panicked ch) w') h (endX rs R) (σ0 args) w) : Calls P f args.toArray w R := by
  refine calls_of_wp hf hb ?_
  have R0 : RelN N fn.ntmps [] { tmps := args.toArray ++ Array.replicate (fn.ntmps - args.toArray.size) undef, defers := [] } (σ0 args) := by
    refine ⟨by simp; omega, rfl, fun t _ => ?_⟩
    simp only [Act.eval, σ0]
    rcases Nat.lt_or_ge t args.length with ht | ht
    · simp [Array.getD_eq_getD_getElem?, Array.getElem?_append, ht]
    · simp only [Array.getD_eq_getD_getElem?, Array.getElem?_append, List.size_toArray, Array.getElem?_replicate]
      rw [if_neg (by omega)]
      simp [List.getD_eq_getElem?_getD, List.getElem?_eq_none ht]
      split <;> simp
  refine Code.wp_mono (fun e a w hq => ?_) (dcode_sound (D := []) hm c h hd (endX rs R) (σ0 args) _ w R0 H)
  cases e with
  | normal => obtain ⟨σ, r, hc, q⟩ := hq; exact ⟨r.defers, _, run_results r hr (rvCs_all hc), q⟩
  | ret => obtain ⟨σ, r, hc, q⟩ := hq; exact ⟨r.defers, _, run_results r hr (rvCs_all hc), q⟩
  | exit id => obtain ⟨σ, r, q⟩ := hq; exact q.elim
  | panic c => exact hq
  | goto l => exact hq
  | outgrown => exact hq.elim
end
end Go.HL

namespace Go.HL
open Go
/-- a function's code over named slots, where everything that its contract needs has been looked at -/
def fnOK (P : Program) (N : Nat) (plans : List Plan) (rs : List RV) (na : Nat) (fn : Func) : Option HC :=
  match fn.body with
  | some c => if (zipOK P N fn.results.toList rs && decide (na ≤ fn.ntmps)) = true then dcode P N fn.ntmps plans c else none
  | none => none

theorem calls_of_fn {P : Program} {f : FuncId} {fn : Func} {h : HC} {N : Nat} {plans : List Plan} {rs : List RV} {na : Nat} (hf : P.funcs[f]? = some fn) (hm : P.follows .mixedOrders = true)
    (hk : fnOK P N plans rs na fn = some h) (args : List Value) (ha : args.length = na) {w : World} {R : Ending → World → Prop}
    (H : hw P (fun ch w' => R (.panicked ch) w') h (endX rs R) (σ0 args) w) : Calls P f args.toArray w R := by
  unfold fnOK at hk
  cases hb : fn.body with
  | none => simp [hb] at hk
  | some c =>
    simp only [hb] at hk
    split at hk
    · rename_i hc
      simp only [Bool.and_eq_true, decide_eq_true_eq] at hc
      exact calls_of_hw N hf hb hm hk hc.1 (by omega) H
    · cases hk
end Go.HL

/- HLH: the equations by which code over named slots is worked out. -/
namespace Go.HL
open Go

theorem hcond_bool (b : Bool) (A B : Prop) : hcond (.bool b) A B ↔ (b = true → A) ∧ (b = false → B) := by
  constructor
  · rintro ⟨c, hc, h1, h2⟩; obtain rfl : b = c := by simpa using hc
    exact ⟨h1, h2⟩
  · rintro ⟨h1, h2⟩; exact ⟨b, rfl, h1, h2⟩

@[congr] theorem hcond_congr {v v' : Value} {A B : Prop} (h : v = v') : hcond v A B = hcond v' A B := by rw [h]
@[congr] theorem heff_congr {P : Program} {o : Op} {ty : TypeId} {ρ : Operand → Value} {w w' : World} {next : Value → World → Prop} {QP : List PanicEntry → World → Prop} (h : w = w') :
    heff P o ty ρ w next QP = heff P o ty ρ w' next QP := by rw [h]
@[congr] theorem hloop_congr {b : (HX → Env → World → Prop) → Env → World → Prop} {Q : HX → Env → World → Prop} {σ σ' : Env} {w : World} (h : σ = σ') : hloop b Q σ w = hloop b Q σ' w := by rw [h]

theorem upd_at (σ : Env) (d : Nat) (v : Value) (t : Nat) : upd σ d v t = if t = d then v else σ t := rfl
theorem σ0_zero (v : Value) (l : List Value) : σ0 (v :: l) 0 = v := rfl
theorem σ0_succ (v : Value) (l : List Value) (n : Nat) : σ0 (v :: l) (n + 1) = σ0 l n := rfl
theorem σ0_nil (n : Nat) : σ0 [] n = undef := rfl
theorem updO_some (σ : Env) (d : Nat) (v : Value) : updO σ (some d) v = upd σ d v := rfl
theorem updO_none (σ : Env) (v : Value) : updO σ none v = σ := rfl

theorem beq_dec (l m : List UInt8) : (l == m) = decide (l = m) := by
  by_cases h : l = m
  · simp [h]
  · simp [h]

section values
variable (w : World) (k k' : IntKind) (a b : Int) (l m : List UInt8) (p q : Bool) (v u : Value) (n c off : Nat) (ad : Addr) (oa : Option Addr)
theorem e_nil : v1 w .nilchk v = v := by cases v <;> rfl
theorem e_len : v1 w .lens (str l) = .int .i64 l.length := rfl
theorem e_lensl : v1 w .lensl (.slice oa n c) = .int .i64 n := rfl
theorem e_capsl : v1 w .capsl (.slice oa n c) = .int .i64 c := rfl
theorem e_not : v1 w .bnot (.bool p) = .bool !p := rfl
theorem e_neg : v1 w .neg (.int k a) = .int k (k.wrap (0 - a)) := rfl
theorem e_conv : v1 w (.conv k) (.int k' a) = .int k (k.wrap a) := rfl
theorem e_same : v1 w .same v = v := by cases v <;> rfl
theorem e_faddr : v1 w (.faddr off) (.pointer (some ad)) = .pointer (some (ad.add off)) := rfl
theorem e_ld : v1 w .ld (.pointer (some ad)) = (w.cell? ad).getD undef := rfl
theorem e_ldn : v1 w (.ldn n) (.pointer (some ad)) = .agg (loadN w ad n) := rfl
theorem e_ext (vs : List Value) : v1 w (.ext n) (.tuple vs.toArray) = (vs[n]?).getD undef := by simp [v1]
theorem e_mkif (t : TypeId) : v1 w (.mkif t) v = .iface t v := by cases v <;> rfl
theorem e_kint : v1 w (.kint n) v = .int .i64 n := by cases v <;> rfl
theorem e_fld1 (cs : List Value) : v1 w (.fld off n false) (.agg cs.toArray) = (cs[off]?).getD undef := by simp [v1]
theorem e_fldn (cs : List Value) : v1 w (.fld off n true) (.agg cs.toArray) = .agg ((cs.drop off).take n).toArray := by simp [v1]
theorem e_bin (op : BinOp) : v2 (.bin op) (.int k a) (.int k' b) = intV op k a b := rfl
theorem i_add : intV .add k a b = .int k (k.wrap (a + b)) := rfl
theorem i_sub : intV .sub k a b = .int k (k.wrap (a - b)) := rfl
theorem i_mul : intV .mul k a b = .int k (k.wrap (a * b)) := rfl
theorem i_quo : intV .quo k a b = .int k (k.wrap (a.tdiv b)) := rfl
theorem i_rem : intV .rem k a b = .int k (a.tmod b) := rfl
theorem i_shl : intV .shl k a b = .int k (k.wrap (a * 2 ^ (min b.toNat k.bits))) := rfl
theorem i_shr : intV .shr k a b = .int k (a.fdiv (2 ^ (min b.toNat k.bits))) := rfl
theorem i_eql : intV .eql k a b = .bool (decide (a = b)) := by simp only [intV]; congr 1
theorem i_neq : intV .neq k a b = .bool (!decide (a = b)) := by simp only [intV]; congr 1
theorem i_lss : intV .lss k a b = .bool (decide (a < b)) := rfl
theorem i_leq : intV .leq k a b = .bool (decide (a ≤ b)) := rfl
theorem i_gtr : intV .gtr k a b = .bool (decide (b < a)) := rfl
theorem i_geq : intV .geq k a b = .bool (decide (b ≤ a)) := rfl
theorem e_sadd : v2 (.sbin .add) (str l) (str m) = str (l ++ m) := by
  simp only [v2, strV, str]; congr 1
theorem e_seq : v2 (.sbin .eql) (str l) (str m) = .bool (decide (l = m)) := by
  simp only [v2, strV, str, ByteArray.toList_mk, beq_dec]
theorem e_sne : v2 (.sbin .neq) (str l) (str m) = .bool (!decide (l = m)) := by
  simp only [v2, strV, str, ByteArray.toList_mk, beq_dec]
theorem e_slt : v2 (.sbin .lss) (str l) (str m) = .bool (Op.bytesLess l m) := by simp only [v2, strV, str, ByteArray.toList_mk]
theorem e_sle : v2 (.sbin .leq) (str l) (str m) = .bool (Op.bytesLess l m || decide (l = m)) := by
  simp only [v2, strV, str, ByteArray.toList_mk, beq_dec]
theorem e_sgt : v2 (.sbin .gtr) (str l) (str m) = .bool (!(Op.bytesLess l m || decide (l = m))) := by
  simp only [v2, strV, str, ByteArray.toList_mk, beq_dec]
theorem e_sge : v2 (.sbin .geq) (str l) (str m) = .bool (!Op.bytesLess l m) := by simp only [v2, strV, str, ByteArray.toList_mk]
theorem e_beq (neg : Bool) : v2 (.beq neg) (.bool p) (.bool q) = .bool ((p == q) != neg) := rfl
theorem e_sln (neg : Bool) (n' c' : Nat) : v2 (.slnil neg) (.slice oa n c) (.slice none n' c') = .bool (oa.isNone != neg) := by cases oa <;> rfl
theorem e_pn (neg : Bool) : v2 (.pnil neg) (.pointer oa) (.pointer none) = .bool (oa.isNone != neg) := by cases oa <;> rfl
theorem e_peq (neg : Bool) : v2 (.pnil neg) (.pointer (some ad)) (.pointer (some ad)) = .bool (true != neg) := by simp [v2]
theorem e_mpn (neg : Bool) (r : Option Nat) : v2 (.mpnil neg) (.map r) (.map none) = .bool (r.isNone != neg) := by cases r <;> rfl
theorem e_idxs : v2 .idxs (str l) (.int k a) = .int .u8 ((l[a.toNat]?).getD 0).toNat := by
  have : (ByteArray.mk l.toArray)[a.toNat]? = l[a.toNat]? := by
    rcases Nat.lt_or_ge a.toNat l.length with h | h
    · rw [ByteArray.getElem?_lt' _ _ (by simpa [ByteArray.size] using h)]
      simp [h]; rfl
    · rw [ByteArray.getElem?_ge' _ _ (by simp [ByteArray.size]; omega)]
      simp [h]
  simp only [v2, str, this]
theorem e_idxa1 (cs : List Value) (len : Nat) : v2 (.idxa len 1 false) (.agg cs.toArray) (.int k a) = (cs[a.toNat]?).getD undef := by simp [v2]
theorem e_iaddr : v2 (.iaddr n) (.slice (some ad) off c) (.int k a) = .pointer (some (ad.add (a.toNat * n))) := rfl
theorem e_iaddra (len : Nat) : v2 (.iaddra len n) (.pointer (some ad)) (.int k a) = .pointer (some (ad.add (a.toNat * n))) := rfl
theorem e_mn : v2 .mn (.int k a) (.int k' b) = .int k (if b < a then b else a) := rfl
theorem e_mx : v2 .mx (.int k a) (.int k' b) = .int k (if a < b then b else a) := rfl
theorem e_put1 (cs : List Value) (h : v.cells = #[v]) : v2 (.put off 1) (.agg cs.toArray) v = .agg (cs.set off v).toArray := by
  simp [v2, putCells, h, Array.zipIdx]
theorem e_put_int (cs : List Value) : v2 (.put off 1) (.agg cs.toArray) (.int k a) = .agg (cs.set off (.int k a)).toArray := e_put1 _ _ _ rfl
theorem e_put_bool (cs : List Value) : v2 (.put off 1) (.agg cs.toArray) (.bool p) = .agg (cs.set off (.bool p)).toArray := e_put1 _ _ _ rfl
theorem e_put_str (cs : List Value) : v2 (.put off 1) (.agg cs.toArray) (str l) = .agg (cs.set off (str l)).toArray := e_put1 _ _ _ rfl
theorem e_put_slice (cs : List Value) : v2 (.put off 1) (.agg cs.toArray) (.slice oa n c) = .agg (cs.set off (.slice oa n c)).toArray := e_put1 _ _ _ rfl
theorem e_put_ptr (cs : List Value) : v2 (.put off 1) (.agg cs.toArray) (.pointer oa) = .agg (cs.set off (.pointer oa)).toArray := e_put1 _ _ _ rfl
theorem e_put_map (cs : List Value) (r : Option Nat) : v2 (.put off 1) (.agg cs.toArray) (.map r) = .agg (cs.set off (.map r)).toArray := e_put1 _ _ _ rfl
theorem e_capt (fn : Fn) (f cs : List Value) : v2 .capt (.func fn f.toArray cs.toArray) v = .func fn f.toArray (cs ++ [v]).toArray := by simp [v2]
theorem e_capf (fn : Fn) (f cs : List Value) : v2 .capf (.func fn f.toArray cs.toArray) v = .func fn (f ++ [v]).toArray cs.toArray := by simp [v2]
theorem e_pick : v3 .pick (.bool p) v u = if p = true then v else u := rfl
theorem e_slS00 : v3 (.sls false false) (str l) v u = str l := by
  simp [v3, str, ByteArray.extract_mk, ByteArray.size]
theorem e_slS10 : v3 (.sls true false) (str l) (.int k a) v = str (l.drop a.toNat) := by
  simp [v3, str, ByteArray.extract_mk, ByteArray.size, toI, List.take_of_length_le]
theorem e_slS01 : v3 (.sls false true) (str l) v (.int k a) = str (l.take a.toNat) := by
  simp [v3, str, ByteArray.extract_mk, ByteArray.size, toI]
theorem e_slS11 : v3 (.sls true true) (str l) (.int k a) (.int k' b) = str ((l.drop a.toNat).take (b.toNat - a.toNat)) := by
  simp [v3, str, ByteArray.extract_mk, ByteArray.size, toI]
theorem e_slV00 (sz : Nat) : v3 (.slv sz false false) (.slice oa n c) v u = .slice oa n c := by
  simp only [v3, Bool.false_eq_true, if_false, Nat.sub_zero, Nat.zero_mul]
  split
  · rfl
  · cases oa <;> simp [Addr.add]
theorem e_slV10 (sz : Nat) : v3 (.slv sz true false) (.slice oa n c) (.int k a) v = .slice (if c = a.toNat then oa else oa.map (·.add (a.toNat * sz))) (n - a.toNat) (c - a.toNat) := by simp [v3, toI]
theorem e_slV01 (sz : Nat) : v3 (.slv sz false true) (.slice oa n c) v (.int k a) = .slice oa a.toNat c := by
  simp only [v3, Bool.false_eq_true, if_false, if_true, Nat.sub_zero, Nat.zero_mul, toI]
  split
  · rfl
  · cases oa <;> simp [Addr.add]
theorem e_slV11 (sz : Nat) : v3 (.slv sz true true) (.slice oa n c) (.int k a) (.int k' b) = .slice (if c = a.toNat then oa else oa.map (·.add (a.toNat * sz))) (b.toNat - a.toNat) (c - a.toNat) := by simp [v3, toI]
theorem e_add (blk o : Nat) : (⟨blk, o, none⟩ : Addr).add n = ⟨blk, o + n, none⟩ := by
  unfold Addr.add; split
  · rename_i h; subst h; rfl
  · rfl
theorem e_isT : isB true (.bool p) = p := by cases p <;> rfl
theorem e_isF : isB false (.bool p) = !p := by cases p <;> rfl
theorem e_boolite (x y : Bool) : (if p = true then Value.bool x else .bool y) = .bool (if p = true then x else y) := by split <;> rfl
end values

section checks
variable (w : World) (k k' : IntKind) (a b : Int) (l m : List UInt8) (p q : Bool) (v u : Value) (n c off : Nat) (ad : Addr) (oa : Option Addr)
theorem c_nilp : c1 w .nilchk (.pointer (some ad)) = True := rfl
theorem c_nilf (f : FuncId) (x y : Array Value) : c1 w .nilchk (.func (.func f) x y) = True := rfl
theorem c_nili (t : TypeId) : c1 w .nilchk (.iface t v) = True := rfl
theorem c_len : c1 w .lens (str l) = True := rfl
theorem c_lensl : c1 w .lensl (.slice oa n c) = True := rfl
theorem c_capsl : c1 w .capsl (.slice oa n c) = True := rfl
theorem c_not : c1 w .bnot (.bool p) = True := rfl
theorem c_neg : c1 w .neg (.int k a) = True := rfl
theorem c_conv : c1 w (.conv k) (.int k' a) = True := rfl
theorem c_same : c1 w .same (str l) = True := rfl
theorem c_faddr : c1 w (.faddr off) (.pointer (some ad)) = True := rfl
theorem c_ld : c1 w .ld (.pointer (some ad)) = ((w.cell? ad).isSome = true) := rfl
theorem c_ldn : c1 w (.ldn n) (.pointer (some ad)) = (∀ i, i < n → (w.cell? (ad.add i)).isSome = true) := rfl
theorem c_ext (vs : List Value) : c1 w (.ext n) (.tuple vs.toArray) = (n < vs.length) := by simp [c1]
theorem c_mkif (t : TypeId) : c1 w (.mkif t) v = True := by cases v <;> rfl
theorem c_kint : c1 w (.kint n) v = True := by cases v <;> rfl
theorem c_fld1 (cs : List Value) : c1 w (.fld off n false) (.agg cs.toArray) = (off < cs.length) := by simp [c1]
theorem c_fldn (cs : List Value) : c1 w (.fld off n true) (.agg cs.toArray) = True := by simp [c1]
theorem c_bin (op : BinOp) : c2 (.bin op) (.int k a) (.int k' b) = intC op k k' b := rfl
theorem c_iadd : intC .add k k' b = (k = k') := rfl
theorem c_isub : intC .sub k k' b = (k = k') := rfl
theorem c_imul : intC .mul k k' b = (k = k') := rfl
theorem c_iand : intC .and k k' b = (k = k') := rfl
theorem c_ior : intC .or k k' b = (k = k') := rfl
theorem c_ixor : intC .xor k k' b = (k = k') := rfl
theorem c_ianot : intC .andNot k k' b = (k = k') := rfl
theorem c_iquo : intC .quo k k' b = (k = k' ∧ b ≠ 0) := rfl
theorem c_irem : intC .rem k k' b = (k = k' ∧ b ≠ 0) := rfl
theorem c_ishl : intC .shl k k' b = (0 ≤ b) := rfl
theorem c_ishr : intC .shr k k' b = (0 ≤ b) := rfl
theorem c_ieql : intC .eql k k' b = (k = k') := rfl
theorem c_ineq : intC .neq k k' b = (k = k') := rfl
theorem c_ilss : intC .lss k k' b = (k = k') := rfl
theorem c_ileq : intC .leq k k' b = (k = k') := rfl
theorem c_igtr : intC .gtr k k' b = (k = k') := rfl
theorem c_igeq : intC .geq k k' b = (k = k') := rfl
theorem c_sadd : c2 (.sbin .add) (str l) (str m) = (((l.length + m.length : Nat) : Int) ≤ 9223372036854775807) := by simp [c2, strC, str, ByteArray.size]
theorem c_seq : c2 (.sbin .eql) (str l) (str m) = True := rfl
theorem c_sne : c2 (.sbin .neq) (str l) (str m) = True := rfl
theorem c_slt : c2 (.sbin .lss) (str l) (str m) = True := rfl
theorem c_sle : c2 (.sbin .leq) (str l) (str m) = True := rfl
theorem c_sgt : c2 (.sbin .gtr) (str l) (str m) = True := rfl
theorem c_sge : c2 (.sbin .geq) (str l) (str m) = True := rfl
theorem c_beq (neg : Bool) : c2 (.beq neg) (.bool p) (.bool q) = True := rfl
theorem c_sln (neg : Bool) (n' c' : Nat) : c2 (.slnil neg) (.slice oa n c) (.slice none n' c') = True := by cases oa <;> rfl
theorem c_pn (neg : Bool) : c2 (.pnil neg) (.pointer oa) (.pointer none) = True := by cases oa <;> rfl
theorem c_peq (neg : Bool) : c2 (.pnil neg) (.pointer (some ad)) (.pointer (some ad)) = True := by simp [c2]
theorem c_mpn (neg : Bool) (r : Option Nat) : c2 (.mpnil neg) (.map r) (.map none) = True := by cases r <;> rfl
theorem c_idxs : c2 .idxs (str l) (.int k a) = (0 ≤ a ∧ a < l.length) := by simp [c2, str, ByteArray.size]
theorem c_idxa1 (cs : List Value) (len : Nat) : c2 (.idxa len 1 false) (.agg cs.toArray) (.int k a) = (0 ≤ a ∧ a < len ∧ a.toNat < cs.length) := by simp [c2]
theorem c_iaddr : c2 (.iaddr n) (.slice (some ad) off c) (.int k a) = (0 ≤ a ∧ a < off) := rfl
theorem c_iaddra (len : Nat) : c2 (.iaddra len n) (.pointer (some ad)) (.int k a) = (0 ≤ a ∧ a < len) := rfl
theorem c_mn : c2 .mn (.int k a) (.int k' b) = True := rfl
theorem c_mx : c2 .mx (.int k a) (.int k' b) = True := rfl
theorem c_put1 (cs : List Value) (h : v.cells = #[v]) : c2 (.put off 1) (.agg cs.toArray) v = (off + 1 ≤ cs.length) := by simp [c2, h]
theorem c_put_int (cs : List Value) : c2 (.put off 1) (.agg cs.toArray) (.int k a) = (off + 1 ≤ cs.length) := c_put1 _ _ _ rfl
theorem c_put_bool (cs : List Value) : c2 (.put off 1) (.agg cs.toArray) (.bool p) = (off + 1 ≤ cs.length) := c_put1 _ _ _ rfl
theorem c_put_str (cs : List Value) : c2 (.put off 1) (.agg cs.toArray) (str l) = (off + 1 ≤ cs.length) := c_put1 _ _ _ rfl
theorem c_put_slice (cs : List Value) : c2 (.put off 1) (.agg cs.toArray) (.slice oa n c) = (off + 1 ≤ cs.length) := c_put1 _ _ _ rfl
theorem c_put_ptr (cs : List Value) : c2 (.put off 1) (.agg cs.toArray) (.pointer oa) = (off + 1 ≤ cs.length) := c_put1 _ _ _ rfl
theorem c_put_map (cs : List Value) (r : Option Nat) : c2 (.put off 1) (.agg cs.toArray) (.map r) = (off + 1 ≤ cs.length) := c_put1 _ _ _ rfl
theorem c_pick : c3 .pick (.bool p) v u = True := rfl
theorem c_slS00 : c3 (.sls false false) (str l) v u = True := by simp [c3, str]
theorem c_slS10 : c3 (.sls true false) (str l) (.int k a) v = (0 ≤ a ∧ a ≤ l.length) := by simp [c3, str, isI, toI, ByteArray.size]
theorem c_slS01 : c3 (.sls false true) (str l) v (.int k a) = (0 ≤ a ∧ a ≤ l.length) := by simp [c3, str, isI, toI, ByteArray.size]
theorem c_slS11 : c3 (.sls true true) (str l) (.int k a) (.int k' b) = ((0 ≤ b ∧ b ≤ l.length) ∧ 0 ≤ a ∧ a ≤ b) := by simp [c3, str, isI, toI, ByteArray.size]
theorem c_slV00 (sz : Nat) : c3 (.slv sz false false) (.slice oa n c) v u = True := by simp [c3]
theorem c_slV10 (sz : Nat) : c3 (.slv sz true false) (.slice oa n c) (.int k a) v = (0 ≤ a ∧ a ≤ n) := by simp [c3, isI, toI]
theorem c_slV01 (sz : Nat) : c3 (.slv sz false true) (.slice oa n c) v (.int k a) = (0 ≤ a ∧ a ≤ c) := by simp [c3, isI, toI]
theorem c_slV11 (sz : Nat) : c3 (.slv sz true true) (.slice oa n c) (.int k a) (.int k' b) = ((0 ≤ b ∧ b ≤ c) ∧ 0 ≤ a ∧ a ≤ b) := by simp [c3, isI, toI]
end checks

theorem w64 {x : Int} (h1 : -9223372036854775808 ≤ x) (h2 : x ≤ 9223372036854775807) : IntKind.i64.wrap x = x := by rw [IntKind.wrap_i64]; omega
attribute [go_sem] e_peq c_peq e_nil e_len e_lensl e_capsl e_not e_neg e_conv e_same e_faddr e_ld e_ldn e_ext e_mkif e_kint e_fld1 e_fldn e_bin i_add i_sub i_mul i_quo i_rem i_shl i_shr i_eql i_neq i_lss i_leq i_gtr i_geq e_sadd e_seq e_sne e_slt e_sle e_sgt e_sge e_beq e_sln e_pn e_mpn e_idxs e_idxa1 e_iaddr e_iaddra e_mn e_mx e_put_int e_put_bool e_put_str e_put_slice e_put_ptr e_put_map e_capt e_capf e_pick e_slS00 e_slS10 e_slS01 e_slS11 e_slV00 e_slV10 e_slV01 e_slV11 e_add e_isT e_isF e_boolite c_nilp c_nilf c_nili c_len c_lensl c_capsl c_not c_neg c_conv c_same c_faddr c_ld c_ldn c_ext c_mkif c_kint c_fld1 c_fldn c_bin c_iadd c_isub c_imul c_iand c_ior c_ixor c_ianot c_iquo c_irem c_ishl c_ishr c_ieql c_ineq c_ilss c_ileq c_igtr c_igeq c_sadd c_seq c_sne c_slt c_sle c_sgt c_sge c_beq c_sln c_pn c_mpn c_idxs c_idxa1 c_iaddr c_iaddra c_mn c_mx c_put_int c_put_bool c_put_str c_put_slice c_put_ptr c_put_map c_pick c_slS00 c_slS10 c_slS01 c_slS11 c_slV00 c_slV10 c_slV01 c_slV11
attribute [go_sem] hcond_bool upd_at σ0_zero σ0_succ σ0_nil updO_some updO_none hw hs hsT seqX blockX val chk endX stabOK rvCs rvV retV List.map_cons List.map_nil true_and and_true
end Go.HL

/- HLI: memory: blocks known whole, what a step may have written, and the rules for the effects. -/
namespace Go.HL
open Go

/-- the marks of a row that is written like any other: none, or one behind its end -/
def fzOK (n : Nat) (fz : Nat × Nat) : Prop := fz = (0, 0) ∨ fz = (n, n + 1)
theorem fzOK.thaw {w : World} {g n o : Nat} {cur : Array Value} {t : TypeId} {fz : Nat × Nat} (h : fzOK n fz) (hg : w.heap[g]? = some (.cells cur t fz)) (ho : o < n) : w.frozen? ⟨g, o, none⟩ = false := by
  rcases h with rfl | rfl
  · simp [World.frozen?, hg]
  · simp only [World.frozen?, hg, Bool.and_eq_false_iff, decide_eq_false_iff_not]; left; omega

/-- block b holds just these cells -/
def Blk (w : World) (b : Nat) (t : TypeId) (cs : List Value) : Prop := ∃ fz, w.heap[b]? = some (.cells cs.toArray t fz) ∧ fzOK cs.length fz

/-- of what was there only blocks in S may have turned -/
structure Mod (S : Nat → Prop) (w w' : World) : Prop where
  os : w'.os = w.os
  tape : w'.tape = w.tape
  output : w'.output = w.output
  size : w.heap.size ≤ w'.heap.size
  block : ∀ k, k < w.heap.size → ¬ S k → w'.heap[k]? = w.heap[k]?

def none' : Nat → Prop := fun _ => False

theorem Mod.refl (S : Nat → Prop) (w : World) : Mod S w w := ⟨rfl, rfl, rfl, Nat.le_refl _, fun _ _ _ => rfl⟩
theorem Mod.drew (S : Nat → Prop) (w : World) : Mod S w w.drew := ⟨rfl, rfl, rfl, Nat.le_refl _, fun _ _ _ => rfl⟩
theorem Mod.mono {S T : Nat → Prop} {w w' : World} (h : Mod S w w') (hs : ∀ k, k < w.heap.size → S k → T k) : Mod T w w' :=
  ⟨h.os, h.tape, h.output, h.size, fun k hk hn => h.block k hk fun hS => hn (hs k hk hS)⟩
theorem Mod.trans {S T : Nat → Prop} {a b c : World} (h : Mod S a b) (k : Mod T b c) (hT : ∀ i, i < a.heap.size → T i → S i) : Mod S a c :=
  ⟨k.os.trans h.os, k.tape.trans h.tape, k.output.trans h.output, Nat.le_trans h.size k.size,
    fun i hi hn => (k.block i (Nat.lt_of_lt_of_le hi h.size) fun hS => hn (hT i hi hS)).trans (h.block i hi hn)⟩
theorem Mod.trans' {S : Nat → Prop} {a b c : World} (h : Mod S a b) (k : Mod S b c) : Mod S a c := h.trans k fun _ _ h => h
theorem Mod.below {S : Nat → Prop} {w w' : World} {B : Nat} (h : Mod S w w') (hB : B ≤ w.heap.size) (hs : ∀ k, k < B → ¬ S k) : RowKit.Below B w w' :=
  ⟨h.os, h.tape, h.output, h.size, fun k hk => h.block k (by omega) (hs k hk)⟩
theorem Mod.of_below {B : Nat} {w w' : World} (h : RowKit.Below B w w') : Mod (fun k => B ≤ k) w w' :=
  ⟨h.os, h.tape, h.output, h.size, fun k _ hn => h.block k (by omega)⟩

theorem Blk.lt {w : World} {b : Nat} {t : TypeId} {cs : List Value} (h : Blk w b t cs) : b < w.heap.size := by
  obtain ⟨fz, h, -⟩ := h
  rcases Nat.lt_or_ge b w.heap.size with h' | h'
  · exact h'
  · rw [Array.getElem?_eq_none h'] at h; cases h
theorem Blk.mod {S : Nat → Prop} {w w' : World} {b : Nat} {t : TypeId} {cs : List Value} (h : Blk w b t cs) (m : Mod S w w') (hb : ¬ S b) : Blk w' b t cs := by obtain ⟨fz, h1, h2⟩ := h; exact ⟨fz, (m.block b (Blk.lt ⟨fz, h1, h2⟩) hb).trans h1, h2⟩
theorem Blk.drew {w : World} {b : Nat} {t : TypeId} {cs : List Value} (h : Blk w b t cs) : Blk w.drew b t cs := h
theorem Blk.cell {w : World} {b : Nat} {t : TypeId} {cs : List Value} (h : Blk w b t cs) (o : Nat) : w.cell? ⟨b, o, none⟩ = cs[o]? := by
  obtain ⟨fz, h, -⟩ := h; simp [World.cell?, h]
theorem Blk.thaw {w : World} {b : Nat} {t : TypeId} {cs : List Value} (h : Blk w b t cs) (o : Nat) (ho : o < cs.length) : w.frozen? ⟨b, o, none⟩ = false := by
  obtain ⟨fz, h, h2⟩ := h; exact h2.thaw h ho

theorem Mod.cell {S : Nat → Prop} {w w' : World} (m : Mod S w w') {a : Addr} {v : Value} (h : w.cell? a = some v) (hb : ¬ S a.block) : w'.cell? a = some v := by
  have := m.block a.block (World.block_lt_of_cell? w a h) hb
  rw [World.cell?_of_block this]; exact h

/-- one cell written -/
theorem setCell_blk {w : World} {b : Nat} {t : TypeId} {cs : List Value} (h : Blk w b t cs) (o : Nat) (v : Value) : Blk (w.setCell ⟨b, o, none⟩ v) b t (cs.set o v) := by
  obtain ⟨fz, h, h2⟩ := h
  refine ⟨fz, ?_, by simpa using h2⟩
  simp only [World.setCell, Array.getElem?_modify, if_true, h, Option.map_some]
  simp
theorem setCell_mod (w : World) (b o : Nat) (v : Value) : Mod (fun k => k = b) w (w.setCell ⟨b, o, none⟩ v) :=
  ⟨rfl, rfl, rfl, by simp, fun k _ hn => by simp only [World.setCell, Array.getElem?_modify]; rw [if_neg (fun e => hn e.symm)]⟩

/-- a new block -/
theorem alloc_blk (w : World) (t : TypeId) (cs : List Value) : Blk (w.alloc (.cells cs.toArray t)) w.heap.size t cs := by
  exact ⟨(0, 0), by unfold World.alloc; simp, .inl rfl⟩
theorem alloc_mod (w : World) (o : Obj) : Mod none' w (w.alloc o) :=
  ⟨rfl, rfl, rfl, by simp, fun k hk _ => by simp only [World.alloc, Array.getElem?_push]; rw [if_neg (by omega)]⟩

/-! ### effects by their kinds -/
section
variable {P : Program} {w : World} {next : Value → World → Prop} {QP : List PanicEntry → World → Prop}

def runV (s : Sem Value) : Sem Next := do pure (.value (← s))
def runU (s : Sem Unit) : Sem Next := do s; pure .skip

/-- a call of a function that has a body -/
def callK (P : Program) (f : FuncId) (args : List Value) (w : World) (next : Value → World → Prop) (QP : List PanicEntry → World → Prop) : Prop :=
  Calls P f args.toArray w fun e w' => match e with | .returned v => next v w' | .panicked c => QP c w' | .outgrown => False
/-- a call of a function value -/
def callvK (P : Program) (f : Value) (args : List Value) (w : World) (next : Value → World → Prop) (QP : List PanicEntry → World → Prop) : Prop :=
  effUpon P next QP ((do let d ← Deferred.ofValue f args.toArray; invoke d.target d.args : Sem Next).run P w)
def storeK (P : Program) (t : TypeId) (a v : Value) (w : World) (next : Value → World → Prop) (QP : List PanicEntry → World → Prop) : Prop := effUpon P next QP ((runU (Instr.storeAt t a v)).run P w)
def allocK (P : Program) (t : TypeId) (w : World) (next : Value → World → Prop) (QP : List PanicEntry → World → Prop) : Prop := effUpon P next QP ((runV (Instr.alloc t true (.tuple #[]))).run P w)
def boxK (P : Program) (t : TypeId) (v : Value) (w : World) (next : Value → World → Prop) (QP : List PanicEntry → World → Prop) : Prop := effUpon P next QP ((runV (Instr.box t v)).run P w)
def bslK (P : Program) (t : TypeId) (n : Nat) (parts : List (Nat × Value)) (w : World) (next : Value → World → Prop) (QP : List PanicEntry → World → Prop) : Prop := effUpon P next QP ((runV (Instr.buildSlice t n parts.toArray)).run P w)
def mslK (P : Program) (t : TypeId) (l c : Value) (w : World) (next : Value → World → Prop) (QP : List PanicEntry → World → Prop) : Prop := effUpon P next QP ((runV (Instr.makeSlice t l c)).run P w)
def appK (P : Program) (ts : Array TypeId) (ty : TypeId) (s x : Value) (w : World) (next : Value → World → Prop) (QP : List PanicEntry → World → Prop) : Prop := effUpon P next QP ((runV (Builtin.append_ ts ty #[s, x])).run P w)
def copyK (P : Program) (ts : Array TypeId) (ty : TypeId) (s x : Value) (w : World) (next : Value → World → Prop) (QP : List PanicEntry → World → Prop) : Prop := effUpon P next QP ((runV (Builtin.copy_ ts ty #[s, x])).run P w)
def clearK (P : Program) (ts : Array TypeId) (ty : TypeId) (s : Value) (w : World) (next : Value → World → Prop) (QP : List PanicEntry → World → Prop) : Prop := effUpon P next QP ((runV (Builtin.clear_ ts ty #[s])).run P w)
def convK (P : Program) (s d : TypeId) (v : Value) (w : World) (next : Value → World → Prop) (QP : List PanicEntry → World → Prop) : Prop := effUpon P next QP ((runV (convert s d v)).run P w)

@[congr] theorem callK_congr {f : FuncId} {args args' : List Value} {w' : World} (h : args = args') (hw : w = w') : callK P f args w next QP = callK P f args' w' next QP := by rw [h, hw]
@[congr] theorem callvK_congr {f f' : Value} {args args' : List Value} {w' : World} (hf : f = f') (h : args = args') (hw : w = w') : callvK P f args w next QP = callvK P f' args' w' next QP := by rw [h, hf, hw]
@[congr] theorem storeK_congr {t : TypeId} {a a' v v' : Value} {w' : World} (h : a = a') (h' : v = v') (hw : w = w') : storeK P t a v w next QP = storeK P t a' v' w' next QP := by rw [h, h', hw]
@[congr] theorem allocK_congr {t : TypeId} {w' : World} (hw : w = w') : allocK P t w next QP = allocK P t w' next QP := by rw [hw]
@[congr] theorem boxK_congr {t : TypeId} {v v' : Value} {w' : World} (h : v = v') (hw : w = w') : boxK P t v w next QP = boxK P t v' w' next QP := by rw [h, hw]
@[congr] theorem bslK_congr {t : TypeId} {n : Nat} {v v' : List (Nat × Value)} {w' : World} (h : v = v') (hw : w = w') : bslK P t n v w next QP = bslK P t n v' w' next QP := by rw [h, hw]
@[congr] theorem mslK_congr {t : TypeId} {a a' v v' : Value} {w' : World} (h : a = a') (h' : v = v') (hw : w = w') : mslK P t a v w next QP = mslK P t a' v' w' next QP := by rw [h, h', hw]
@[congr] theorem appK_congr {ts : Array TypeId} {ty : TypeId} {a a' v v' : Value} {w' : World} (h : a = a') (h' : v = v') (hw : w = w') : appK P ts ty a v w next QP = appK P ts ty a' v' w' next QP := by rw [h, h', hw]
@[congr] theorem copyK_congr {ts : Array TypeId} {ty : TypeId} {a a' v v' : Value} {w' : World} (h : a = a') (h' : v = v') (hw : w = w') : copyK P ts ty a v w next QP = copyK P ts ty a' v' w' next QP := by rw [h, h', hw]
@[congr] theorem clearK_congr {ts : Array TypeId} {ty : TypeId} {v v' : Value} {w' : World} (h' : v = v') (hw : w = w') : clearK P ts ty v w next QP = clearK P ts ty v' w' next QP := by rw [h', hw]
@[congr] theorem convK_congr {s d : TypeId} {v v' : Value} {w' : World} (h : v = v') (hw : w = w') : convK P s d v w next QP = convK P s d v' w' next QP := by rw [h, hw]

/-- the function has a body and is not one of the runtime's own -/
def callable (P : Program) (f : FuncId) : Bool := match P.funcs[f]? with | some fn => fn.body.isSome && !(fn.name == "runtime.NumGoroutine") | none => false

variable {ty : TypeId} {ρ : Operand → Value}

theorem run_callFunc {f : FuncId} (h : callable P f = true) (args : Array Value) : (callFunc f args).run P w = .ok (.enter f args) w := by
  unfold callable at h
  cases hf : P.funcs[f]? with
  | none => simp [hf] at h
  | some fn =>
    simp only [hf, Bool.and_eq_true, Bool.not_eq_true', Option.isSome_iff_exists] at h
    obtain ⟨⟨b, hb⟩, hn⟩ := h
    have hn' : ¬ fn.name = "runtime.NumGoroutine" := fun e => by rw [e] at hn; simp at hn
    simp [callFunc, hf, hb, hn']


theorem f_call {x : Operand} {args : List Operand} {ts : Array TypeId} : heff P (.call { callee := .value x, args := args.toArray, argTypes := ts }) ty ρ w next QP = callvK P (ρ x) (args.map ρ) w next QP := by
  unfold heff callvK
  have : execOp ρ { dst := none, op := .call { callee := .value x, args := args.toArray, argTypes := ts }, type := ty, pos := "", after := #[], guard := none } = (do let d ← Deferred.ofValue (ρ x) (args.map ρ).toArray; invoke d.target d.args : Sem Next) := by
    simp [execOp, Go.resolve]
  rw [this]
theorem f_app {s x : Operand} {ts : Array TypeId} : heff P (.call { callee := .builtin .append, args := #[s, x], argTypes := ts }) ty ρ w next QP = appK P ts ty (ρ s) (ρ x) w next QP := by
  unfold heff appK; rw [run_call_builtin .append #[s, x] ts ty _ rfl rfl]; simp only [builtin, runV, List.map_toArray, List.map_cons, List.map_nil]
theorem f_copy {s x : Operand} {ts : Array TypeId} : heff P (.call { callee := .builtin .copy, args := #[s, x], argTypes := ts }) ty ρ w next QP = copyK P ts ty (ρ s) (ρ x) w next QP := by
  unfold heff copyK; rw [run_call_builtin .copy #[s, x] ts ty _ rfl rfl]; simp only [builtin, runV, List.map_toArray, List.map_cons, List.map_nil]
theorem f_clear {s : Operand} {ts : Array TypeId} : heff P (.call { callee := .builtin .clear, args := #[s], argTypes := ts }) ty ρ w next QP = clearK P ts ty (ρ s) w next QP := by
  unfold heff clearK; rw [run_call_builtin .clear #[s] ts ty _ rfl rfl]; simp only [builtin, runV, List.map_toArray, List.map_cons, List.map_nil]
theorem f_store {t : TypeId} {a v : Operand} : heff P (.store t a v) ty ρ w next QP = storeK P t (ρ a) (ρ v) w next QP := rfl
theorem f_alloc {t : TypeId} : heff P (.alloc t) ty ρ w next QP = allocK P t w next QP := rfl
theorem f_box {t : TypeId} {v : Operand} : heff P (.box t v) ty ρ w next QP = boxK P t (ρ v) w next QP := rfl
theorem f_msl {t : TypeId} {l c : Operand} : heff P (.makeSlice t l c) ty ρ w next QP = mslK P t (ρ l) (ρ c) w next QP := rfl
theorem f_conv {s d : TypeId} {v : Operand} : heff P (.convert s d v) ty ρ w next QP = convK P s d (ρ v) w next QP := rfl
theorem f_bsl {t : TypeId} {n : Nat} {parts : List (Nat × Operand)} : heff P (.buildSlice t n parts.toArray) ty ρ w next QP = bslK P t n (parts.map fun p => (p.1, ρ p.2)) w next QP := by
  unfold heff bslK execOp runV; simp

theorem rho_const (m : List (Nat × HE)) (σ : Env) (v : Value) : rho m σ w (.const v) = v := rfl
theorem rho_glob (m : List (Nat × HE)) (σ : Env) (g : Nat) : rho m σ w (.global g) = .pointer (some ⟨g, 0, none⟩) := rfl
theorem rho_func (m : List (Nat × HE)) (σ : Env) (f : Nat) : rho m σ w (.func f) = .func (.func f) #[] #[] := rfl
theorem rho_tmp (t u : Nat) (e : HE) (m : List (Nat × HE)) (σ : Env) : rho ((t, e) :: m) σ w (.tmp u) = if t = u then val σ w e else rho m σ w (.tmp u) := by
  simp only [rho, findM, List.find?_cons]
  by_cases h : t = u
  · simp [h]
  · rw [if_neg h, beq_eq_false_iff_ne.2 h]

/-! ### the rules -/
theorem eff_value {s : Sem Value} {v : Value} {w' : World} (h : s.run P w = .ok v w') (k : next v w') : effUpon P next QP ((runV s).run P w) := by
  simp only [runV, Sem.run_bind, h, Result.andThen_ok, Sem.run_pure]; exact k
theorem eff_unit {s : Sem Unit} {w' : World} (h : s.run P w = .ok () w') (k : next undef w') : effUpon P next QP ((runU s).run P w) := by
  simp only [runU, Sem.run_bind, h, Result.andThen_ok, Sem.run_pure]; exact k

/-- a call of a function value, whose function has a body -/
theorem callv {f : FuncId} {first caps args : List Value} (h : callable P f = true) (H : callK P f (first ++ args ++ caps) w next QP) : callvK P (.func (.func f) first.toArray caps.toArray) args w next QP := by
  unfold callvK
  have : (do let d ← Deferred.ofValue (.func (.func f) first.toArray caps.toArray) args.toArray; invoke d.target d.args : Sem Next).run P w = .ok (.enter f (first ++ args ++ caps).toArray) w := by
    simp only [Deferred.ofValue, Sem.run_bind, Sem.run_pure, Result.andThen_ok, invoke, run_callFunc h]
    simp
  rw [this]
  exact H
theorem callf {f : FuncId} {args : List Value} (h : callable P f = true) (H : callK P f args w next QP) : callvK P (.func (.func f) #[] #[]) args w next QP :=
  callv (first := []) (caps := []) h (by simpa using H)
/-- a call by a contract -/
theorem call_of {f : FuncId} {args : List Value} {R : Ending → World → Prop} (hc : Calls P f args.toArray w R) (H : ∀ e w', R e w' → ∃ v, e = .returned v ∧ next v w') : callK P f args w next QP :=
  Calls.mono hc fun e w' he => by obtain ⟨v, rfl, hv⟩ := H e w' he; exact hv

theorem one_of {v : Value} (h : v.oneCell' = true) : v.cells = #[v] := by cases v <;> first | rfl | (simp [Value.oneCell'] at h)

/-- a store of one cell into a block known whole -/
theorem store1 {t : TypeId} {b o : Nat} {tb : TypeId} {cs : List Value} {v : Value} (hs : szOf P t = some 1) (hb : Blk w b tb cs) (ho : o < cs.length) (h1 : v.oneCell' = true)
    (k : ∀ w', Blk w' b tb (cs.set o v) → Mod (fun k => k = b) w w' → w'.heap.size = w.heap.size → next undef w') : storeK P t (.pointer (some ⟨b, o, none⟩)) v w next QP := by
  refine eff_unit (w' := w.setCell ⟨b, o, none⟩ v) ?_ (k _ (setCell_blk hb o v) (setCell_mod w b o v) (by simp))
  have hc : w.cell? ⟨b, o, none⟩ = some cs[o] := by rw [hb.cell]; simp [ho]
  have hst : (store (⟨b, o, none⟩ : Addr) v).run P w = .ok () (w.setCell ⟨b, o, none⟩ v) := by
    rw [run_store P w _ v _ h1, hc]; simp [hb.thaw o ho]
  simp only [Instr.storeAt, Instr.sureAddr, Sem.run_bind, Sem.run_pure, Result.andThen_ok, storeVar, (szOf_some (w := w) hs).1, one_of h1]
  simp only [List.size_toArray, List.length_singleton, ne_eq, not_true, if_false]
  simp only [storeCells, e_add, Nat.add_zero, Sem.run_bind, hst, Result.andThen_ok, Sem.run_pure]

/-- cells written one by one -/
theorem storeCells_h (P : Program) (g o : Nat) (t : TypeId) (fz : Nat × Nat) : ∀ (vs : List Value) (i : Nat) (cur : Array Value) (w : World), w.heap[g]? = some (.cells cur t fz) → fzOK cur.size fz → o + i + vs.length ≤ cur.size → (∀ v ∈ vs, v.oneCell' = true) →
    (storeCells ⟨g, o, none⟩ vs i).run P w = .ok () (w.setRow g (cur.toList.take (o + i) ++ vs ++ cur.toList.drop (o + i + vs.length)).toArray)
  | [], i, cur, w, hg, _, _, _ => by
    have : (cur.toList.take (o + i) ++ [] ++ cur.toList.drop (o + i + ([] : List Value).length)).toArray = cur := by simp
    rw [this, setRow_self w g cur t fz hg]; rfl
  | v :: rest, i, cur, w, hg, hfz, hl, h1 => by
    have hlt : o + i < cur.size := by simp at hl; omega
    have hc : w.cell? ⟨g, o + i, none⟩ = some cur[o + i] := by simp [World.cell?, hg, hlt]
    have hst : (store ((⟨g, o, none⟩ : Addr).add i) v).run P w = .ok () (w.setRow g (cur.setIfInBounds (o + i) v)) := by
      rw [e_add, run_store P w _ v _ (h1 v (by simp)), hc]
      simp [hfz.thaw hg hlt, setCell_eq_setRow w g (o + i) cur t fz v hg]
    have ih := storeCells_h P g o t fz rest (i + 1) (cur.setIfInBounds (o + i) v) (w.setRow g (cur.setIfInBounds (o + i) v)) (setRow_heap w g cur _ t _ hg) (by simpa using hfz) (by simp at hl ⊢; omega) (fun x hx => h1 x (by simp [hx]))
    simp only [storeCells, Sem.run_bind, hst, Result.andThen_ok, ih, setRow_setRow]
    have e := list_seg_step cur.toList (o + i) v rest (by simp at hl ⊢; omega)
    have e' : (cur.setIfInBounds (o + i) v).toList.take (o + (i + 1)) ++ rest ++ (cur.setIfInBounds (o + i) v).toList.drop (o + (i + 1) + rest.length) = cur.toList.take (o + i) ++ (v :: rest) ++ cur.toList.drop (o + i + (v :: rest).length) := by
      simpa [Array.toList_setIfInBounds, Nat.add_assoc] using e
    rw [e']

theorem setRow_blk {w : World} {g : Nat} {t : TypeId} {cs cs' : List Value} (h : Blk w g t cs) (hl : cs'.length = cs.length) : Blk (w.setRow g cs'.toArray) g t cs' := by
  obtain ⟨fz, h1, h2⟩ := h
  exact ⟨fz, setRow_heap w g _ _ t _ h1, by rw [hl]; exact h2⟩

/-- a store of an aggregate into a block known whole -/
theorem storeN {t : TypeId} {b o n : Nat} {tb : TypeId} {cs vs : List Value} (hs : szOf P t = some n) (hn : vs.length = n) (hb : Blk w b tb cs) (ho : o + n ≤ cs.length) (h1 : ∀ v ∈ vs, v.oneCell' = true)
    (k : ∀ w', Blk w' b tb (cs.take o ++ vs ++ cs.drop (o + n)) → Mod (fun k => k = b) w w' → w'.heap.size = w.heap.size → next undef w') : storeK P t (.pointer (some ⟨b, o, none⟩)) (.agg vs.toArray) w next QP := by
  subst hn
  obtain ⟨fz, hb1, hb2⟩ := id hb
  have hst := storeCells_h P b o tb fz vs 0 cs.toArray w hb1 (by simpa using hb2) (by simpa using ho) h1
  simp only [Nat.add_zero] at hst
  refine eff_unit (w' := w.setRow b (cs.take o ++ vs ++ cs.drop (o + vs.length)).toArray) ?_ (k _ (setRow_blk hb (by simp; omega)) ⟨rfl, rfl, rfl, by simp, fun i _ hi => setRow_other w b i _ hi⟩ (by simp))
  simp only [Instr.storeAt, Instr.sureAddr, Sem.run_bind, Sem.run_pure, Result.andThen_ok, storeVar, (szOf_some (w := w) hs).1, Value.cells, List.size_toArray, ne_eq, not_true, if_false]
  simpa using hst

/-- a new variable of its zero value -/
theorem alloc_ {t : TypeId} {z : Value} {cs : List Value} (hz : (P.info? t).bind (·.zero) = some z) (hcs : z.cells = cs.toArray)
    (k : ∀ b w', w.heap.size = b → Blk w' b t cs → Mod none' w w' → w'.heap.size = b + 1 → next (.pointer (some ⟨b, 0, none⟩)) w') : allocK P t w next QP := by
  refine eff_value (v := .pointer (some ⟨w.heap.size, 0, none⟩)) (w' := w.alloc (.cells cs.toArray t)) ?_ (k _ _ rfl (alloc_blk w t cs) (alloc_mod w _) (by simp))
  simp [Instr.alloc, run_zero hz, newVar, newRow, hcs]
/-- a new variable -/
theorem box_ {t : TypeId} {v : Value} {cs : List Value} (hcs : v.cells = cs.toArray)
    (k : ∀ b w', w.heap.size = b → Blk w' b t cs → Mod none' w w' → w'.heap.size = b + 1 → next (.pointer (some ⟨b, 0, none⟩)) w') : boxK P t v w next QP := by
  refine eff_value (v := .pointer (some ⟨w.heap.size, 0, none⟩)) (w' := w.alloc (.cells cs.toArray t)) ?_ (k _ _ rfl (alloc_blk w t cs) (alloc_mod w _) (by simp))
  simp [Instr.box, newVar, newRow, hcs]

/-- what is asked of a slice type: its element's number, cells, bytes, zero value -/
structure SlTy (P : Program) (t e sz by_ : Nat) (z : Value) : Prop where
  und : P.underlying t = some (.slice e)
  info : (P.info? e).map (fun i => (i.zero, i.size, i.bytes)) = some (some z, sz, by_)
  zs : z.cells.size = sz
  pos : 0 < sz

theorem SlTy.parts {t e sz by_ : Nat} {z : Value} (h : SlTy P t e sz by_ z) : ∃ i, P.info? e = some i ∧ i.zero = some z ∧ i.size = sz ∧ i.bytes = by_ := by
  obtain ⟨i, hi, hzz⟩ := Option.map_eq_some_iff.1 h.info
  simp only [Prod.mk.injEq] at hzz
  exact ⟨i, hi, hzz.1, hzz.2.1, hzz.2.2⟩

/-- the slice value v owns its whole row, whose first n elements have the cells xs -/
def Own (w : World) (v : Value) (e sz n : Nat) (xs : List Value) : Prop :=
  xs.length = n * sz ∧ ((v = .slice none 0 0 ∧ n = 0) ∨
    ∃ g cap cur fz, v = .slice (some ⟨g, 0, none⟩) n cap ∧ fzOK cur.size fz ∧ w.heap[g]? = some (.cells cur e fz) ∧ n ≤ cap ∧ cap ≤ maxLen ∧ cur.size = cap * sz ∧ cur.toList.take (n * sz) = xs)

def ownS (v : Value) : Nat → Prop := fun k => v.ownBlock = some k

theorem Own.mod {S : Nat → Prop} {w w' : World} {v : Value} {e sz n : Nat} {xs : List Value} (h : Own w v e sz n xs) (m : Mod S w w') (hd : ∀ k, v.ownBlock = some k → ¬ S k) : Own w' v e sz n xs := by
  obtain ⟨h1, h2⟩ := h
  refine ⟨h1, ?_⟩
  rcases h2 with h2 | ⟨g, cap, cur, fz, hv, hg, hh, r⟩
  · exact .inl h2
  · exact .inr ⟨g, cap, cur, fz, hv, hg, by
      rw [m.block g (by rcases Nat.lt_or_ge g w.heap.size with h | h; exact h; rw [Array.getElem?_eq_none h] at hh; cases hh) (hd g (by rw [hv]; rfl))]; exact hh, r⟩
theorem Own.lt {w : World} {v : Value} {e sz n : Nat} {xs : List Value} (h : Own w v e sz n xs) : ∀ k, v.ownBlock = some k → k < w.heap.size := by
  intro k hk
  rcases h.2 with ⟨rfl, _⟩ | ⟨g, cap, cur, fz, rfl, _, hh, _⟩
  · cases hk
  · simp only [Value.ownBlock, Option.some.injEq] at hk
    subst hk
    exact (Array.getElem?_eq_some_iff.1 hh).1
theorem Own.nil (w : World) (e sz : Nat) : Own w (.slice none 0 0) e sz 0 [] := ⟨by simp, .inl ⟨rfl, rfl⟩⟩
theorem Own.len {w : World} {v : Value} {e sz n : Nat} {xs : List Value} (h : Own w v e sz n xs) : xs.length = n * sz := h.1
theorem Own.form {w : World} {v : Value} {e sz n : Nat} {xs : List Value} (h : Own w v e sz n xs) : ∃ a c, v = .slice a n c ∧ n ≤ c ∧ (a = none → n = 0) := by
  rcases h.2 with ⟨hv, hn⟩ | ⟨g, cap, cur, fz, hv, _, _, hc, _⟩
  · subst hn; exact ⟨none, 0, hv, Nat.le_refl _, fun _ => rfl⟩
  · exact ⟨_, cap, hv, hc, fun h => by cases h⟩

/-- the cells of a slice's elements can be read: v has n elements of sz cells -/
structure Sl (w : World) (v : Value) (sz n : Nat) (xs : List Value) : Prop where
  len : xs.length = n * sz
  form : ∃ a c, v = .slice a n c ∧ n ≤ c ∧ (0 < n → ∃ b o, a = some ⟨b, o, none⟩ ∧ ∀ j, j < n * sz → w.cell? ⟨b, o + j, none⟩ = xs[j]?)

theorem Own.sl {w : World} {v : Value} {e sz n : Nat} {xs : List Value} (h : Own w v e sz n xs) : Sl w v sz n xs := by
  refine ⟨h.1, ?_⟩
  rcases h.2 with ⟨hv, hn⟩ | ⟨g, cap, cur, fz, hv, _, hh, hc, _, hcs, ht⟩
  · subst hn; exact ⟨none, 0, hv, Nat.le_refl _, fun h => by omega⟩
  · refine ⟨_, cap, hv, hc, fun _ => ⟨g, 0, rfl, fun j hj => ?_⟩⟩
    simp only [Nat.zero_add, World.cell?, hh, Option.isSome_none, Bool.false_eq_true, if_false]
    rw [← ht, List.getElem?_take_of_lt hj]; simp

theorem Sl.mod {S : Nat → Prop} {w w' : World} {v : Value} {sz n : Nat} {xs : List Value} (h : Sl w v sz n xs) (m : Mod S w w') (hd : ∀ k, v.ownBlock = some k → ¬ S k) : Sl w' v sz n xs := by
  obtain ⟨h1, a, c, hv, hc, h2⟩ := h
  refine ⟨h1, a, c, hv, hc, fun hn => ?_⟩
  obtain ⟨b, o, ha, h3⟩ := h2 hn
  refine ⟨b, o, ha, fun j hj => ?_⟩
  have h4 := h3 j hj
  rw [List.getElem?_eq_getElem (by omega)] at h4 ⊢
  exact m.cell h4 (hd b (by rw [hv, ha]; rfl))

theorem Own.ownBlock_nil : (Value.slice none 0 0).ownBlock = none := rfl

/-- append where there is room -/
theorem append_room_h {t e : TypeId} (ty : TypeId) {i : TypeInfo} (ht : P.underlying t = some (.slice e)) (hi : P.info? e = some i) {g sLen sCap : Nat} {cur : Array Value} {fz : Nat × Nat} (hg : w.heap[g]? = some (.cells cur e fz)) (hfz : fzOK cur.size fz)
    (a : Addr) {m : Nat} (c : Nat) {news : List Value} (hl : news.length = m * i.size) (hnews : ∀ j u, news[j]? = some u → w.cell? (a.add j) = some u) (h1 : ∀ u ∈ news, u.oneCell' = true)
    (hroom : sLen + m ≤ sCap) (hfit : sLen * i.size + news.length ≤ cur.size) :
    (Builtin.append_ #[t, t] ty #[.slice (some ⟨g, 0, none⟩) sLen sCap, .slice (some a) m c]).run P w =
      .ok (.slice (some ⟨g, 0, none⟩) (sLen + m) sCap) (w.setRow g (cur.toList.take (sLen * i.size) ++ news ++ cur.toList.drop (sLen * i.size + news.length)).toArray) := by
  have hf := run_firstCells_some (P := P) w i.size m a m c news hl hnews
  have hst := storeCells_h P g (sLen * i.size) e fz news 0 cur w hg hfz (by simpa using hfit) h1
  simp only [Nat.add_zero] at hst
  simp [Builtin.append_, run_und ht, sizeOf, typeInfo, hi, Builtin.lenOf, hroom, hf, Addr.add_lit, hst]

theorem holds_of {w : World} {g e sz n : Nat} {cur : Array Value} {fz : Nat × Nat} {xs : List Value} (hg : w.heap[g]? = some (.cells cur e fz)) (hx : xs.length = n * sz) (ht : cur.toList.take (n * sz) = xs) : ∀ j u, xs[j]? = some u → w.cell? ((⟨g, 0, none⟩ : Addr).add j) = some u := by
  intro j u hu
  have hj := (List.getElem?_eq_some_iff.1 hu).1
  rw [e_add, Nat.zero_add]
  simp only [World.cell?, hg, Option.isSome_none, Bool.false_eq_true, if_false]
  rw [← ht, List.getElem?_take_of_lt (by omega)] at hu
  simpa using hu

/-- append to a row of one's own -/
theorem append_ {t e sz by_ : Nat} {z : Value} (ht : SlTy P t e sz by_ z) {v x : Value} {n m : Nat} {xs ys : List Value} (ho : Own w v e sz n xs) (hx : Sl w x sz m ys) (h1 : ∀ u ∈ ys, u.oneCell' = true)
    (hb : (n + m) * by_ ≤ 140737488355328) (hm : n + m ≤ maxLen)
    (k : ∀ v' w', Own w' v' e sz (n + m) (xs ++ ys) → Mod (ownS v) w w' → (∀ k, v'.ownBlock = some k → v.ownBlock = some k ∨ w.heap.size ≤ k) → (v' = .slice none 0 0 ↔ v = .slice none 0 0 ∧ m = 0) → next v' w') :
    appK P #[t, t] ty v x w next QP := by
  obtain ⟨i, hi, hz, hs, hby⟩ := ht.parts
  -- nothing is appended
  by_cases hm0 : m = 0
  · subst hm0
    have hys : ys = [] := List.eq_nil_of_length_eq_zero (by have := hx.len; simpa using this)
    subst hys
    obtain ⟨a, c, rfl, _⟩ := hx.form
    refine eff_value (v := v) (w' := w) ?_ (k v w (by simpa using ho) (Mod.refl _ _) (fun k hk => .inl hk) (by simp))
    obtain ⟨av, cv, rfl, hc, hnil⟩ := ho.form
    have hf : (Builtin.firstCells sz 0 (.slice a 0 c)).run P w = .ok #[] w := by cases a <;> simp [Builtin.firstCells, loadCells, loadCellsFrom]
    cases av with
    | none =>
      obtain rfl := hnil rfl
      simp [Builtin.append_, run_underlying ht.und, sizeOf, typeInfo, hi, hs, Builtin.lenOf, hf]
    | some av => simp [Builtin.append_, run_underlying ht.und, sizeOf, typeInfo, hi, hs, Builtin.lenOf, hf, hc, storeCells]
  · obtain ⟨hlen, a, c, rfl, hmc, hcell0⟩ := hx
    obtain ⟨b, o, rfl, hcell⟩ := hcell0 (by omega)
    have hnews : ∀ j u, ys[j]? = some u → w.cell? ((⟨b, o, none⟩ : Addr).add j) = some u := by
      intro j u hu
      have hj := (List.getElem?_eq_some_iff.1 hu).1
      rw [e_add, hcell j (by omega), hu]
    obtain ⟨hxl, hform⟩ := ho
    have hsm : n + m ≤ 9223372036854775807 := by simpa [maxLen] using hm
    -- a new row
    have fresh : ∀ (old : Nat), old < n + m → (v.ownBlock = none ∨ ∃ g, v.ownBlock = some g) →
        ∀ s, (Builtin.append_ #[t, t] ty #[v, .slice (some ⟨b, o, none⟩) m c]).run P w = .ok (.slice (some ⟨w.heap.size, 0, none⟩) (n + m) (grownCap w (n + m) old e))
          (w.drew.alloc (.cells (xs.toArray ++ ys.toArray ++ Builtin.zeroCells z.cells (grownCap w (n + m) old e - (n + m))) e)) → s = () → appK P #[t, t] ty v (.slice (some ⟨b, o, none⟩) m c) w next QP := by
      intro old ho _ s hrun _
      have hge := grownCap_ge w (n + m) old e
      have hcm := grownCap_le_maxLen w (n + m) old e hm
      have hl2 : (xs ++ ys).length = (n + m) * sz := by rw [List.length_append, hxl, hlen, Nat.add_mul]
      refine eff_value hrun (k _ _ ⟨hl2, .inr ⟨w.heap.size, _, _, _, rfl, .inl rfl, heap_alloc_new w.drew _, hge, hcm, ?_, ?_⟩⟩ ?_ (fun k hk => .inr (by simp [Value.ownBlock] at hk; omega)) (by simp [hm0]))
      · simp only [Array.size_append, List.size_toArray, size_zeroCells, ht.zs, hxl, hlen, ← Nat.add_mul]
        congr 1
        omega
      · simp only [Array.toList_append, List.append_assoc]
        rw [← List.append_assoc, ← hl2]
        exact List.take_left
      · exact ⟨rfl, rfl, rfl, by simp, fun k hk _ => RowKit.Below.heap_alloc w.drew _ k hk⟩
    rcases hform with ⟨rfl, rfl⟩ | ⟨g, cap, cur, fz, rfl, hfz, hg, hnc, hcm, hcs, htake⟩
    · have hx0 : xs = [] := List.eq_nil_of_length_eq_zero (by simpa using hxl)
      subst hx0
      have hr := run_append_nil (P := P) w t ty e i z ht.und hi hz ⟨b, o, none⟩ m c ys (by rw [hs]; exact hlen) hnews (by omega) (by omega) (by rw [hby]; simp only [Nat.zero_add] at hb; omega)
      refine fresh 0 (by omega) (.inl rfl) () ?_ rfl
      simpa using hr
    · by_cases hroom : n + m ≤ cap
      · have hfit : n * i.size + ys.length ≤ cur.size := by rw [hlen, hcs, hs, ← Nat.add_mul]; exact Nat.mul_le_mul_right _ hroom
        have hr := append_room_h (P := P) ty ht.und hi hg hfz ⟨b, o, none⟩ c (by rw [hs]; exact hlen) hnews h1 hroom hfit
        refine eff_value hr (k _ _ ⟨by rw [List.length_append, hxl, hlen, Nat.add_mul], .inr ⟨g, cap, _, fz, rfl, ?_, setRow_heap w g cur _ e _ hg, hroom, hcm, ?_, ?_⟩⟩ ?_ (fun k hk => .inl hk) (by simp))
        · have : ((cur.toList.take (n * i.size) ++ ys ++ cur.toList.drop (n * i.size + ys.length)).toArray).size = cur.size := by
            simp only [List.size_toArray, List.length_append, List.length_take, List.length_drop, Array.length_toList]; omega
          rw [this]; exact hfz
        · simp only [List.size_toArray, List.length_append, List.length_take, List.length_drop, Array.length_toList]
          rw [hs] at hfit ⊢; omega
        · rw [hs, htake, show (n + m) * sz = (xs ++ ys).length by rw [List.length_append, hxl, hlen, Nat.add_mul]]
          exact List.take_left
        · exact ⟨rfl, rfl, rfl, by simp, fun k _ hk => setRow_other w g k _ (fun e => hk (by simp [ownS, Value.ownBlock, e]))⟩
      · have holds : ∀ j u, xs[j]? = some u → w.cell? ((⟨g, 0, none⟩ : Addr).add j) = some u :=
          holds_of hg hxl htake
        have hr := run_append_grow (P := P) w t ty e i z ht.und hi hz ⟨g, 0, none⟩ n cap xs (by rw [hs]; exact hxl) holds ⟨b, o, none⟩ m c ys (by rw [hs]; exact hlen) hnews (by omega) (by omega) (growslice_fits (by omega) (by rw [hby]; exact hb))
        exact fresh cap (by omega) (.inr ⟨g, rfl⟩) () hr rfl

/-- bytes as cells -/
def bys (l : List UInt8) : List Value := l.map fun b => .int .u8 b.toNat
theorem bys_len (l : List UInt8) : (bys l).length = l.length := by simp [bys]
theorem bys_one (l : List UInt8) : ∀ v ∈ bys l, v.oneCell' = true := by
  intro v hv; obtain ⟨b, _, rfl⟩ := List.mem_map.1 hv; rfl

theorem own_new (w : World) (e sz n : Nat) (cs : List Value) (hl : cs.length = n * sz) (hm : n ≤ maxLen) : Own (w.alloc (.cells cs.toArray e)) (.slice (some ⟨w.heap.size, 0, none⟩) n n) e sz n cs :=
  ⟨hl, .inr ⟨w.heap.size, n, _, _, rfl, .inl rfl, heap_alloc_new w _, Nat.le_refl _, hm, by simp [hl], by simp [← hl]⟩⟩

/-- a slice literal -/
theorem bsl_ {t e sz by_ n : Nat} {z : Value} (ht : SlTy P t e sz by_ z) {parts : List (Nat × Value)} {cs : List Value} (hl : cs.length = n * sz) (hn : n * sz ≤ 16777216)
    (hf : Instr.fill (fun i => some (i * sz, sz)) ((Array.range (n * sz)).map (z.cells[· % z.cells.size]!)) parts = some cs.toArray)
    (k : ∀ b w', w.heap.size = b → Own w' (.slice (some ⟨b, 0, none⟩) n n) e sz n cs → Blk w' b e cs → Mod none' w w' → w'.heap.size = b + 1 → next (.slice (some ⟨b, 0, none⟩) n n) w') : bslK P t n parts w next QP := by
  obtain ⟨i, hi, hz, hs, hby⟩ := ht.parts
  have hm : n ≤ maxLen := by have := Nat.le_mul_of_pos_right n ht.pos; unfold maxLen; omega
  refine eff_value (v := .slice (some ⟨w.heap.size, 0, none⟩) n n) (w' := w.alloc (.cells cs.toArray e)) ?_ (k _ _ rfl (own_new w e sz n cs hl hm) (alloc_blk w e cs) (alloc_mod w _) (by simp))
  have h1 : ¬ (16777216 < n * sz) := by omega
  by_cases h0 : n * sz = 0
  · have hr : (Array.range (n * sz)).map (z.cells[· % z.cells.size]!) = #[] := by simp [h0]
    rw [hr] at hf
    have hr0 : ∀ f : Nat → Value, (Array.range 0).map f = #[] := by intro f; simp
    simp [Instr.buildSlice, run_und ht.und, sizeOf, typeInfo, hi, hs, h0, hr0, hf, newRow]
  · simp [Instr.buildSlice, run_und ht.und, sizeOf, typeInfo, zeroValue, hi, hz, hs, h0, h1, hf, newRow]

theorem bsl1 {t e sz by_ : Nat} {z v : Value} (ht : SlTy P t e sz by_ z) {cs : List Value} (hv : v.cells = cs.toArray) (hl : cs.length = sz) (hn : sz ≤ 16777216)
    (k : ∀ b w', w.heap.size = b → Own w' (.slice (some ⟨b, 0, none⟩) 1 1) e sz 1 cs → Blk w' b e cs → Mod none' w w' → w'.heap.size = b + 1 → next (.slice (some ⟨b, 0, none⟩) 1 1) w') : bslK P t 1 [(0, v)] w next QP := by
  refine bsl_ ht (by omega) (by omega) ?_ k
  simp only [Instr.fill, hv, Nat.zero_mul, List.size_toArray, hl, Array.size_map, Array.size_range, Nat.one_mul, Nat.zero_add]
  rw [if_neg (by simp)]
  have : ∀ (cs : List Value) (Z : Array Value), cs.length = Z.size → Array.foldl (fun cs (x : Value × Nat) => cs.setIfInBounds x.2 x.1) Z cs.toArray.zipIdx = cs.toArray := by
    intro cs Z hZ
    rw [← Array.foldl_toList]
    simp only [Array.toList_zipIdx, List.toList_toArray]
    have key : ∀ (l : List Value) (k : Nat) (Z : Array Value), k + l.length = Z.size → (l.zipIdx k).foldl (fun cs (x : Value × Nat) => cs.setIfInBounds x.2 x.1) Z = (Z.toList.take k ++ l).toArray := by
      intro l
      induction l with
      | nil => intro k Z hk; simp at hk; rw [List.zipIdx_nil, List.foldl_nil, List.append_nil, List.take_of_length_le (by simp [hk])]
      | cons x r ih =>
        intro k Z hk
        simp only [List.zipIdx_cons, List.foldl_cons]
        rw [ih (k + 1) (Z.setIfInBounds k x) (by simp at hk ⊢; omega)]
        congr 1
        simp only [Array.toList_setIfInBounds]
        rw [List.take_succ_eq_append_getElem (by simp at hk ⊢; omega)]
        simp [List.take_set_of_le]
    simpa using key cs 0 Z (by simpa using hZ)
  have h := this cs ((Array.range sz).map (z.cells[· % z.cells.size]!)) (by simp [hl])
  exact congrArg some h

/-- make([]T, n), an element of one cell -/
theorem msl1 {t e by_ : Nat} {z : Value} (ht : SlTy P t e 1 by_ z) (hz1 : z.oneCell' = true) {kl kc : IntKind} {a : Int} (n : Nat) (ha : a = n) (hb : by_ * n ≤ 281474976710656) (hn : n ≤ maxLen)
    (k : ∀ b w', w.heap.size = b → Own w' (.slice (some ⟨b, 0, none⟩) n n) e 1 n (List.replicate n z) → Blk w' b e (List.replicate n z) → Mod none' w w' → w'.heap.size = b + 1 → next (.slice (some ⟨b, 0, none⟩) n n) w') :
    mslK P t (.int kl a) (.int kc a) w next QP := by
  obtain ⟨i, hi, hz, hs, hby⟩ := ht.parts
  subst ha
  have hm' : n ≤ 9223372036854775807 := by simpa [maxLen] using hn
  have hb' : (by_ : Int) * (n : Int) ≤ 281474976710656 := by
    have h1 : ((by_ * n : Nat) : Int) ≤ 281474976710656 := by omega
    rw [Int.natCast_mul] at h1; exact h1
  have hr := run_make (P := P) w t e i z ht.und hi hz kl kc n n (by omega) (by omega) (by rw [hby]; exact hb') (by omega)
  have hcs : madeCells z.cells (n * 1) = (List.replicate n z).toArray := by
    rw [one_of hz1]
    apply Array.ext
    · simp [madeCells]
    · intro j h1 h2
      simp [madeCells, Nat.mod_one]
  simp only [Int.toNat_natCast, hs, hcs] at hr
  exact eff_value hr (k _ _ rfl (own_new w e 1 n _ (by simp) hn) (alloc_blk w e _) (alloc_mod w _) (by simp))

/-- what copy leaves -/
def lay {α : Type} (cs : List α) (o : Nat) (xs : List α) : List α := cs.take o ++ xs ++ cs.drop (o + xs.length)
theorem lay_len {α : Type} {cs xs : List α} {o : Nat} (h : o + xs.length ≤ cs.length) : (lay cs o xs).length = cs.length := by simp [lay]; omega
theorem lay_nil {α : Type} (cs : List α) (o : Nat) : lay cs o [] = cs := by simp [lay]

theorem lay_map {α β : Type} (f : α → β) (cs xs : List α) (o : Nat) : (lay cs o xs).map f = lay (cs.map f) o (xs.map f) := by simp [lay]

/-- copy(dst, s), s a string -/
theorem copyS {t u e by_ : Nat} {z : Value} (ht : SlTy P t e 1 by_ z) {oa : Option Addr} {dLen dCap : Nat} {l : List UInt8} {g o tb : Nat} {cs : List Value} (hb : Blk w g tb cs)
    (ha : 0 < min l.length dLen → oa = some ⟨g, o, none⟩) (hf : o + min l.length dLen ≤ cs.length)
    (k : ∀ w', Blk w' g tb (lay cs o (bys (l.take dLen))) → Mod (fun k => k = g) w w' → w'.heap.size = w.heap.size → next (.int .i64 (min l.length dLen : Nat)) w') :
    copyK P #[t, u] ty (.slice oa dLen dCap) (str l) w next QP := by
  obtain ⟨i, hi, hz, hs, hby⟩ := ht.parts
  have hsz : (ByteArray.mk l.toArray).size = l.length := by simp [ByteArray.size]
  have hmin : Nat.min l.length dLen = (l.take dLen).length := by simp [Nat.min_comm]
  have hcells : (((ByteArray.mk l.toArray).extract 0 (l.take dLen).length).data.map fun b => Value.int .u8 (b.toNat : Int)) = (bys (l.take dLen)).toArray := by
    rw [ByteArray.extract_mk]
    simp only [List.drop_zero, Nat.sub_zero, bys]
    have : l.take (l.take dLen).length = l.take dLen := by
      rw [List.length_take]
      rcases Nat.le_total dLen l.length with h | h
      · rw [Nat.min_eq_left h]
      · rw [Nat.min_eq_right h, List.take_of_length_le h, List.take_of_length_le (Nat.le_refl _)]
    rw [this]; simp
  by_cases h0 : min l.length dLen = 0
  · have hnil : l.take dLen = [] := List.eq_nil_of_length_eq_zero (by rw [← hmin]; exact h0)
    have k' := k w (by rw [hnil]; simpa [bys, lay_nil] using hb) (Mod.refl _ _) rfl
    refine eff_value (v := .int .i64 ((min l.length dLen : Nat) : Int)) (w' := w) ?_ k'
    have h0' : Nat.min l.length dLen = 0 := h0
    cases oa <;> simp [Builtin.copy_, run_und ht.und, str, Builtin.lenOf, hsz, h0', Builtin.firstCells, sizeOf, typeInfo, hi, hs, storeCells, ByteArray.extract_mk, goInt, h0]
  · obtain rfl := ha (by omega)
    obtain ⟨fz, hb1, hb2⟩ := id hb
    have hst := storeCells_h P g o tb fz (bys (l.take dLen)) 0 cs.toArray w hb1 (by simpa using hb2) (by rw [bys_len, ← hmin]; simpa using hf) (bys_one _)
    simp only [Nat.add_zero] at hst
    refine eff_value (v := .int .i64 ((min l.length dLen : Nat) : Int)) (w' := w.setRow g (lay cs o (bys (l.take dLen))).toArray) ?_
      (k _ (setRow_blk hb (lay_len (by rw [bys_len, ← hmin]; exact hf))) ⟨rfl, rfl, rfl, by simp, fun i _ hi => setRow_other w g i _ hi⟩ (by simp))
    have e1 : (Builtin.firstCells 1 (l.take dLen).length (.string ⟨l.toArray⟩)).run P w = .ok (bys (l.take dLen)).toArray w := by
      simp only [Builtin.firstCells, hcells, Sem.run_pure]
    have e2 : min l.length dLen = (l.take dLen).length := hmin
    rw [e2]
    generalize (l.take dLen).length = m at hmin e1 ⊢
    simp [Builtin.copy_, run_und ht.und, str, Builtin.lenOf, hsz, hmin, e1, sizeOf, typeInfo, hi, hs, hst, goInt, lay]

theorem foldl_push (l : List UInt8) : ∀ (r : ByteArray), l.foldl (fun r b => r.push b) r = ⟨r.data ++ l.toArray⟩ := by
  induction l with
  | nil => intro r; simp
  | cons b l ih => intro r; simp only [List.foldl_cons, ih]; congr 1; simp [ByteArray.push]

/-- string(b) -/
theorem b2s {s d e : TypeId} (hs : P.underlying s = some (.slice e)) (hd : P.underlying d = some .string) (he : P.underlying e = some (.int .u8)) {v : Value} {n : Nat} {l : List UInt8} (hv : Sl w v 1 n (bys l))
    (k : next (str l) w) : convK P s d v w next QP := by
  obtain ⟨hlen, a, c, rfl, hnc, hcell⟩ := hv
  have hn : l.length = n := by rw [bys_len] at hlen; omega
  refine eff_value (v := str l) (w' := w) ?_ k
  cases a with
  | none =>
    have : n = 0 := by
      rcases Nat.eq_zero_or_pos n with h | h
      · exact h
      · obtain ⟨b, o, h1, _⟩ := hcell h; cases h1
    subst this
    obtain rfl : l = [] := List.eq_nil_of_length_eq_zero hn
    simp [convert, run_und hs, run_und hd, run_und he, Conv.bytesToString, str]; rfl
  | some a =>
    have hload : (loadCells a n).run P w = .ok (bys l).toArray w := by
      rcases Nat.eq_zero_or_pos n with h | h
      · subst h; obtain rfl : l = [] := List.eq_nil_of_length_eq_zero hn
        rfl
      · obtain ⟨b, o, h1, h2⟩ := hcell h
        simp only [Option.some.injEq] at h1; subst h1
        have := run_loadCells_list (P := P) w ⟨b, o, none⟩ (bys l) (by
          intro j u hu
          have hj := (List.getElem?_eq_some_iff.1 hu).1
          rw [bys_len] at hj
          rw [e_add, h2 j (by omega), hu])
        rw [bys_len, hn] at this; exact this
    have hr := run_bytesToString (P := P) w a n c (l.map fun b => (b.toNat : Int)) (by rw [hload]; simp [bys, Function.comp_def])
    simp only [convert, Sem.run_bind, run_und hs, run_und hd, run_und he, Result.andThen_ok, hr, str]
    congr 2
    rw [List.foldl_map]
    have := foldl_push l ByteArray.empty
    simp only [Int.toNat_natCast, UInt8.ofNat_toNat]
    rw [this]; simp [ByteArray.empty, ByteArray.emptyWithCapacity]; rfl
end
attribute [go_sem] f_call f_app f_copy f_clear f_store f_alloc f_box f_msl f_conv f_bsl rho_const rho_glob rho_func rho_tmp
end Go.HL

/- HLJ: a function's rule, closures, rows of records, clear. -/
namespace Go.HL
open Go

/-- what a function's end asks, when its value goes on to next -/
def endV (rs : List RV) (next : Value → World → Prop) : HX → Env → World → Prop
  | .normal, σ, w => rvCs σ w rs ∧ next (retV (rs.map (rvV σ w))) w
  | .ret, σ, w => rvCs σ w rs ∧ next (retV (rs.map (rvV σ w))) w
  | .exit _, _, _ => False
attribute [go_sem] endV implies_true Option.isSome_some Option.getD_some Nat.reduceEqDiff Nat.zero_add Nat.add_zero Int.toNat_natCast

section
variable {P : Program} {w : World} {next : Value → World → Prop} {QP : List PanicEntry → World → Prop}

/-- a function whose code is known, called where it does not panic -/
theorem fn_rule {f : FuncId} {fn : Func} {h : HC} {N : Nat} {plans : List Plan} {rs : List RV} {na : Nat} (hf : P.funcs[f]? = some fn) (hm : P.follows .mixedOrders = true)
    (hk : fnOK P N plans rs na fn = some h) {args : List Value} (ha : args.length = na) (H : hw P noPanic h (endV rs next) (σ0 args) w) : callK P f args w next QP := by
  refine Calls.mono (calls_of_fn (R := fun e w' => match e with | .returned v => next v w' | .panicked _ => False | .outgrown => False) hf hm hk args ha ?_) ?_
  · have : endX rs (fun e w' => match e with | .returned v => next v w' | .panicked _ => False | .outgrown => False) = endV rs next := by
      funext x σ w'; cases x <;> rfl
    rw [this]; exact H
  · intro e w' he
    cases e with
    | returned v => exact he
    | panicked c => exact he.elim
    | outgrown => exact he

/-- the same with the panics -/
theorem fn_ruleQ {f : FuncId} {fn : Func} {h : HC} {N : Nat} {plans : List Plan} {rs : List RV} {na : Nat} (hf : P.funcs[f]? = some fn) (hm : P.follows .mixedOrders = true)
    (hk : fnOK P N plans rs na fn = some h) {args : List Value} (ha : args.length = na) (H : hw P QP h (endV rs next) (σ0 args) w) : callK P f args w next QP := by
  refine calls_of_fn (R := fun e w' => match e with | .returned v => next v w' | .panicked c => QP c w' | .outgrown => False) hf hm hk args ha ?_
  have : endX rs (fun e w' => match e with | .returned v => next v w' | .panicked c => QP c w' | .outgrown => False) = endV rs next := by
    funext x σ w'; cases x <;> rfl
  rw [this]; exact H

/-- a loop whose rounds lower a measure -/
theorem loop_ {body : (HX → Env → World → Prop) → Env → World → Prop} {Q : HX → Env → World → Prop} {σ : Env} (I : Env → World → Prop) (μ : Env → World → Nat) (h0 : I σ w)
    (h : ∀ σ w, I σ w → body (seqX (fun σ' w' => I σ' w' ∧ μ σ' w' < μ σ w) Q) σ w) : hloop body Q σ w := by
  refine ⟨fun i σ w => I σ w ∧ μ σ w = i, _, ⟨h0, rfl⟩, ?_⟩
  rintro i σ w ⟨hI, rfl⟩
  have hK : (fun σ' w' => ∃ j, j < μ σ w ∧ I σ' w' ∧ μ σ' w' = j) = (fun σ' w' => I σ' w' ∧ μ σ' w' < μ σ w) := by
    funext σ' w'; apply propext
    constructor
    · rintro ⟨j, h1, h2, rfl⟩; exact ⟨h2, h1⟩
    · rintro ⟨h1, h2⟩; exact ⟨_, h2, h1, rfl⟩
  rw [hK]; exact h σ w hI

/-- a loop that counts up to n -/
theorem loopN {body : (HX → Env → World → Prop) → Env → World → Prop} {Q : HX → Env → World → Prop} {σ : Env} (n : Nat) (J : Nat → Env → World → Prop) (h0 : ∃ i, i ≤ n ∧ J i σ w)
    (h : ∀ i σ w, i ≤ n → J i σ w → body (seqX (fun σ' w' => ∃ i', i < i' ∧ i' ≤ n ∧ J i' σ' w') Q) σ w) : hloop body Q σ w := by
  obtain ⟨i0, h1, h2⟩ := h0
  refine ⟨fun m σ w => ∃ i, i ≤ n ∧ J i σ w ∧ m = n - i, _, ⟨i0, h1, h2, rfl⟩, ?_⟩
  rintro m σ w ⟨i, hi, hJ, rfl⟩
  have hK : (fun σ' w' => ∃ j, j < n - i ∧ ∃ i', i' ≤ n ∧ J i' σ' w' ∧ j = n - i') = (fun σ' w' => ∃ i', i < i' ∧ i' ≤ n ∧ J i' σ' w') := by
    funext σ' w'; apply propext
    constructor
    · rintro ⟨j, h1, i', h2, h3, rfl⟩; exact ⟨i', by omega, h2, h3⟩
    · rintro ⟨i', h1, h2, h3⟩; exact ⟨_, by omega, i', h2, h3, rfl⟩
  rw [hK]; exact h i σ w hi hJ

theorem Own.blk {v : Value} {e sz n : Nat} {xs : List Value} (h : Own w v e sz n xs) : (v = .slice none 0 0 ∧ n = 0 ∧ xs = []) ∨
    ∃ g cap rest, v = .slice (some ⟨g, 0, none⟩) n cap ∧ Blk w g e (xs ++ rest) ∧ rest.length = (cap - n) * sz ∧ n ≤ cap ∧ cap ≤ maxLen := by
  rcases h.2 with ⟨hv, hn⟩ | ⟨g, cap, cur, fz, hv, hfz, hh, hc, hm, hcs, ht⟩
  · subst hn; exact .inl ⟨hv, rfl, List.eq_nil_of_length_eq_zero (by simpa using h.1)⟩
  · refine .inr ⟨g, cap, cur.toList.drop (n * sz), hv, ?_, ?_, hc, hm⟩
    · have : xs ++ cur.toList.drop (n * sz) = cur.toList := by rw [← ht]; exact List.take_append_drop _ _
      rw [this]; exact ⟨fz, by simpa using hh, by simpa using hfz⟩
    · simp [hcs, Nat.sub_mul]
theorem Own.of_blk {g e sz n cap : Nat} {xs rest : List Value} (hx : xs.length = n * sz) (hb : Blk w g e (xs ++ rest)) (hr : rest.length = (cap - n) * sz) (hc : n ≤ cap) (hm : cap ≤ maxLen) :
    Own w (.slice (some ⟨g, 0, none⟩) n cap) e sz n xs := by
  obtain ⟨fz, hb1, hb2⟩ := hb
  exact ⟨hx, .inr ⟨g, cap, _, fz, rfl, by simpa using hb2, hb1, hc, hm, by
    simp only [List.size_toArray, List.length_append, hx, hr, ← Nat.add_mul]; congr 1; omega, by simp [← hx]⟩⟩

/-- clear(s) -/
theorem clear_s {t e sz by_ : Nat} {z : Value} {ty : TypeId} (ht : SlTy P t e sz by_ z) (hz1 : ∀ u ∈ z.cells, u.oneCell' = true) {oa : Option Addr} {n c g o tb : Nat} {cs : List Value} (hb : Blk w g tb cs)
    (ha : 0 < n → oa = some ⟨g, o, none⟩) (hf : o + n * sz ≤ cs.length)
    (k : ∀ w' zs, zs.length = n * sz → Blk w' g tb (lay cs o zs) → Mod (fun k => k = g) w w' → w'.heap.size = w.heap.size → next (.tuple #[]) w') : clearK P #[t] ty (.slice oa n c) w next QP := by
  obtain ⟨i, hi, hz, hs, hby⟩ := ht.parts
  rcases Nat.eq_zero_or_pos n with h0 | h0
  · subst h0
    refine eff_value (v := .tuple #[]) (w' := w) ?_ (k w [] (by simp) (by rw [lay_nil]; exact hb) (Mod.refl _ _) rfl)
    cases oa <;> simp [Builtin.clear_, run_und ht.und]
  · obtain rfl := ha h0
    have hl : (Builtin.zeroCells z.cells n).toList.length = n * sz := by simp [Builtin.zeroCells, ht.zs]
    have h1 : ∀ u ∈ (Builtin.zeroCells z.cells n).toList, u.oneCell' = true := by
      intro u hu
      simp only [Builtin.zeroCells, Array.toList_map, List.mem_map] at hu
      obtain ⟨j, hj, rfl⟩ := hu
      have hp : 0 < z.cells.size := by rw [ht.zs]; exact ht.pos
      have hlt := Nat.mod_lt j hp
      refine hz1 _ ?_
      rw [getElem!_pos z.cells (j % z.cells.size) hlt]; exact Array.getElem_mem hlt
    obtain ⟨fz, hb1, hb2⟩ := id hb
    have hst := storeCells_h P g o tb fz (Builtin.zeroCells z.cells n).toList 0 cs.toArray w hb1 (by simpa using hb2) (by rw [hl]; simpa using hf) h1
    simp only [Nat.add_zero] at hst
    refine eff_value (v := .tuple #[]) (w' := w.setRow g (lay cs o (Builtin.zeroCells z.cells n).toList).toArray) ?_
      (k _ _ hl (setRow_blk hb (lay_len (by rw [hl]; exact hf))) ⟨rfl, rfl, rfl, by simp, fun i _ hi => setRow_other w g i _ hi⟩ (by simp))
    obtain ⟨m, rfl⟩ : ∃ m, n = m + 1 := ⟨n - 1, by omega⟩
    simp [Builtin.clear_, run_und ht.und, zeroValue, typeInfo, hi, hz, hst, lay]

/-- T{} -/
theorem bsl0 {t e sz by_ : Nat} {z : Value} (ht : SlTy P t e sz by_ z)
    (k : ∀ b w', w.heap.size = b → Own w' (.slice (some ⟨b, 0, none⟩) 0 0) e sz 0 [] → Mod none' w w' → w'.heap.size = b + 1 → next (.slice (some ⟨b, 0, none⟩) 0 0) w') : bslK P t 0 [] w next QP :=
  bsl_ ht (n := 0) (cs := []) (by simp) (by simp) (by simp [Instr.fill]) fun b w' h1 h2 _ h3 h4 => k b w' h1 h2 h3 h4

/-! ### rows of records -/
/-- the cells of records -/
def rows {α : Type} (f : α → List Value) (l : List α) : List Value := l.flatMap f
theorem rows_nil {α : Type} (f : α → List Value) : rows f [] = [] := rfl
theorem rows_cons {α : Type} (f : α → List Value) (x : α) (l : List α) : rows f (x :: l) = f x ++ rows f l := rfl
theorem rows_app {α : Type} (f : α → List Value) (l m : List α) : rows f (l ++ m) = rows f l ++ rows f m := by simp [rows]
theorem rows_len {α : Type} {f : α → List Value} {sz : Nat} (h : ∀ x, (f x).length = sz) : ∀ l : List α, (rows f l).length = l.length * sz
  | [] => by simp [rows]
  | x :: l => by rw [rows_cons, List.length_append, h, rows_len h l, List.length_cons, Nat.add_mul]; omega
theorem rows_get {α : Type} {f : α → List Value} {sz : Nat} (h : ∀ x, (f x).length = sz) : ∀ (l : List α) (i : Nat) (j : Nat), (hi : i < l.length) → j < sz → (rows f l)[i * sz + j]? = (f l[i])[j]?
  | x :: l, 0, j, _, hj => by
    rw [rows_cons, List.getElem?_append_left (by rw [h]; omega)]; simp
  | x :: l, i + 1, j, hi, hj => by
    rw [rows_cons, List.getElem?_append_right (by rw [h, Nat.add_mul]; omega), h]
    have : (i + 1) * sz + j - sz = i * sz + j := by rw [Nat.add_mul]; omega
    rw [this]
    exact rows_get h l i j (by simpa using hi) hj
theorem rows_one {α : Type} {f : α → Value} : ∀ (l : List α), rows (fun x => [f x]) l = l.map f
  | [] => rfl
  | x :: l => by rw [rows_cons, rows_one l]; rfl
theorem rows_set {α : Type} {f : α → List Value} {sz : Nat} (h : ∀ x, (f x).length = sz) : ∀ (l : List α) (i : Nat) (y : α), i < l.length → lay (rows f l) (i * sz) (f y) = rows f (l.set i y)
  | x :: l, 0, y, _ => by
    have e : (f y).length = (f x).length := by rw [h, h]
    simp only [lay, rows_cons, Nat.zero_mul, List.take_zero, List.nil_append, Nat.zero_add, e, List.drop_left, List.set_cons_zero]
  | x :: l, i + 1, y, hi => by
    have ih := rows_set h l i y (by simpa using hi)
    simp only [List.set_cons_succ, rows_cons, ← ih]
    unfold lay
    have e1 : (i + 1) * sz = (f x).length + i * sz := by rw [h, Nat.add_mul]; omega
    rw [e1, List.take_length_add_append, Nat.add_assoc, List.drop_length_add_append]
    simp

/-- a slice of records that can be read -/
theorem Sl.get {α : Type} {f : α → List Value} {sz n : Nat} {v : Value} {l : List α} (h : Sl w v sz n (rows f l)) (hf : ∀ x, (f x).length = sz) (hl : l.length = n) (h0 : 0 < n) :
    ∃ b o c, v = .slice (some ⟨b, o, none⟩) n c ∧ n ≤ c ∧ ∀ i j, (hi : i < l.length) → j < sz → w.cell? ⟨b, o + i * sz + j, none⟩ = (f l[i])[j]? := by
  obtain ⟨h1, a, c, hv, hc, h2⟩ := h
  obtain ⟨b, o, ha, h3⟩ := h2 h0
  subst ha
  refine ⟨b, o, c, hv, hc, fun i j hi hj => ?_⟩
  rw [Nat.add_assoc, h3 (i * sz + j) (by rw [← hl]; calc i * sz + j < i * sz + sz := by omega
    _ = (i + 1) * sz := by rw [Nat.add_mul]; omega
    _ ≤ l.length * sz := Nat.mul_le_mul_right _ hi), rows_get hf l i j hi hj]

/-- n cells read at once -/
theorem loadN_of {a : Addr} {cs : List Value} {n : Nat} (hn : cs.length = n) (h : ∀ j, j < n → w.cell? (a.add j) = cs[j]?) : loadN w a n = cs.toArray := by
  subst hn
  unfold loadN
  congr 1
  apply List.ext_getElem
  · simp
  · intro i h1 h2
    simp at h1
    simp [h i h1, h1]
theorem loadN_some {a : Addr} {cs : List Value} {n : Nat} (hn : cs.length = n) (h : ∀ j, j < n → w.cell? (a.add j) = cs[j]?) : ∀ i, i < n → (w.cell? (a.add i)).isSome = true := by
  intro i hi; rw [h i hi]; simp [hn, hi]

/-- a block's cells read at once -/
theorem Blk.loadN {b o n tb : Nat} {cs : List Value} (h : Blk w b tb cs) (hn : o + n ≤ cs.length) : loadN w ⟨b, o, none⟩ n = ((cs.drop o).take n).toArray := by
  refine loadN_of (by simp; omega) fun j hj => ?_
  rw [e_add, h.cell, List.getElem?_take_of_lt hj, List.getElem?_drop]
theorem Blk.some {b o n tb : Nat} {cs : List Value} (h : Blk w b tb cs) (hn : o + n ≤ cs.length) : ∀ i, i < n → (w.cell? ((⟨b, o, none⟩ : Addr).add i)).isSome = true := by
  intro i hi; rw [e_add, h.cell]; simp; omega
end
end Go.HL

/- HLK: the guards. -/
namespace Go.HL
open Go
theorem gOn_none (σ : Env) (w : World) : gOn σ w none = true := rfl
theorem gOn_some (σ : Env) (w : World) (g : HE) (b : Bool) : gOn σ w (some (g, b)) = isB b (val σ w g) := rfl
theorem cell_drew (w : World) (a : Addr) : w.drew.cell? a = w.cell? a := rfl
theorem loadN_drew (w : World) (a : Addr) (n : Nat) : loadN w.drew a n = loadN w a n := rfl
attribute [go_sem] cell_drew loadN_drew gOn_none gOn_some true_implies
/-- a slice that is read, where its block (if it has elements) was left alone -/
theorem Sl.mod' {S : Nat → Prop} {w w' : World} {v : Value} {sz n : Nat} {xs : List Value} (h : Sl w v sz n xs) (m : Mod S w w') (hd : 0 < n → ∀ k, v.ownBlock = some k → ¬ S k) : Sl w' v sz n xs := by
  rcases Nat.eq_zero_or_pos n with h0 | h0
  · obtain ⟨h1, a, c, hv, hc, _⟩ := h
    exact ⟨h1, a, c, hv, hc, fun hn => by omega⟩
  · exact h.mod m (hd h0)
/-- its block was there -/
theorem Sl.lt {w : World} {v : Value} {sz n : Nat} {xs : List Value} (h : Sl w v sz n xs) (hs : 0 < sz) (hn : 0 < n) : ∀ k, v.ownBlock = some k → k < w.heap.size := by
  obtain ⟨h1, a, c, rfl, hc, h2⟩ := h
  obtain ⟨b, o, rfl, h3⟩ := h2 hn
  intro k hk
  simp only [Value.ownBlock, Option.some.injEq] at hk
  subst hk
  have hp : 0 < n * sz := Nat.mul_pos hn hs
  have := h3 0 hp
  rw [List.getElem?_eq_getElem (by omega)] at this
  exact World.block_lt_of_cell? w _ this

section
variable {P : Program} {w : World} {next : Value → World → Prop} {QP : List PanicEntry → World → Prop}
theorem fill_one {place : Nat → Option (Nat × Nat)} {cells : Array Value} {i o : Nat} {v : Value} {rest : List (Nat × Value)} (hp : place i = some (o, 1)) (hv : v.oneCell' = true) (ho : o < cells.size) :
    Instr.fill place cells ((i, v) :: rest) = Instr.fill place (cells.setIfInBounds o v) rest := by
  rw [Instr.fill, hp]
  simp only [one_of hv]
  rw [if_neg (by simp; omega)]
  rfl
theorem bsl2 {t e by_ : Nat} {z v u : Value} (ht : SlTy P t e 1 by_ z) (hv : v.oneCell' = true) (hu : u.oneCell' = true)
    (k : ∀ b w', w.heap.size = b → Own w' (.slice (some ⟨b, 0, none⟩) 2 2) e 1 2 [v, u] → Blk w' b e [v, u] → Mod none' w w' → w'.heap.size = b + 1 → next (.slice (some ⟨b, 0, none⟩) 2 2) w') : bslK P t 2 [(0, v), (1, u)] w next QP := by
  refine bsl_ ht rfl (by omega) ?_ k
  rw [fill_one rfl hv (by simp), fill_one rfl hu (by simp), Instr.fill]
  congr 1
  apply Array.toList_inj.1
  simp [List.range_succ]
theorem bsl3 {t e by_ : Nat} {z v u x : Value} (ht : SlTy P t e 1 by_ z) (hv : v.oneCell' = true) (hu : u.oneCell' = true) (hx : x.oneCell' = true)
    (k : ∀ b w', w.heap.size = b → Own w' (.slice (some ⟨b, 0, none⟩) 3 3) e 1 3 [v, u, x] → Blk w' b e [v, u, x] → Mod none' w w' → w'.heap.size = b + 1 → next (.slice (some ⟨b, 0, none⟩) 3 3) w') : bslK P t 3 [(0, v), (1, u), (2, x)] w next QP := by
  refine bsl_ ht rfl (by omega) ?_ k
  rw [fill_one rfl hv (by simp), fill_one rfl hu (by simp), fill_one rfl hx (by simp), Instr.fill]
  congr 1
  apply Array.toList_inj.1
  simp [List.range_succ]
end
/-! what the walks' simp calls need throughout -/
attribute [go_sem ↓] reduceIte
attribute [go_sem] Nat.reduceAdd Nat.reduceLT List.length_cons List.length_nil List.getElem?_cons_zero List.getElem?_cons_succ Nat.mul_one Bool.true_eq_false Bool.false_eq_true false_implies Bool.not_true Bool.not_false decide_true decide_false Int.reduceToNat Int.cast_ofNat_Int Int.reduceLT Int.reduceLE Int.reduceEq Int.reduceNeg eq_self Option.isNone_some Option.isNone_none Bool.bne_false Bool.bne_true
end Go.HL

/- HLM: more effects: a function outside the program that gives back what it got; append of a string; guards. -/
namespace Go.HL
open Go

section
variable {P : Program} {w : World} {next : Value → World → Prop} {QP : List PanicEntry → World → Prop}

theorem Mod.of_grown {w w' : World} {v : Value} (h : w.grownBy w' v.ownBlock) : Mod (ownS v) w w' :=
  ⟨h.os, h.tape, h.output, h.size, fun k hk hn => h.block k hk fun e => hn e.symm⟩

theorem strCells_bys (l : List UInt8) : Lib.strCells ⟨l.toArray⟩ = bys l := by
  simp [Lib.strCells, bys]

/-- append of a string to bytes of one's own -/
theorem appS_ {t u e : TypeId} {ty : TypeId} (ht : SlTy P t e 1 1 (.int .u8 0)) (hu : P.underlying u = some .string) {v : Value} {n : Nat} {xs : List Value} {l : List UInt8} (ho : Own w v e 1 n xs) (hm : n + l.length ≤ 140737488355328)
    (k : ∀ v' w', Own w' v' e 1 (n + l.length) (xs ++ bys l) → Mod (ownS v) w w' → (∀ k, v'.ownBlock = some k → v.ownBlock = some k ∨ w.heap.size ≤ k) → next v' w') :
    appK P #[t, u] ty v (str l) w next QP := by
  obtain ⟨i, hi, hz, hs, hby⟩ := ht.parts
  have hsz : (ByteArray.mk l.toArray).size = l.length := by simp [ByteArray.size]
  obtain ⟨hxl, hform⟩ := ho
  have hl2 : (xs ++ bys l).length = (n + l.length) * 1 := by rw [List.length_append, hxl, bys_len]; omega
  rcases hform with ⟨rfl, hn⟩ | ⟨g, cap, cur, fz, rfl, hfz, hg, hnc, hcm, hcs, htake⟩
  · subst hn
    obtain ⟨v', w', h1, h2, h3, h4⟩ := Lib.run_append_own_string (P := P) w w.heap.size t u ty e i ht.und hu hi hz hs hby (.slice none 0 0) 0 xs ⟨hxl, .inl ⟨rfl, rfl⟩⟩ ⟨l.toArray⟩ (by rw [hsz]; unfold maxLen; omega) (by rw [hsz]; exact hm) (Nat.le_refl _)
    rw [hsz, strCells_bys] at h2
    obtain ⟨h5, h6⟩ := h2
    refine eff_value h1 (k v' w' ⟨h5, ?_⟩ (.of_grown h3) fun b hb => .inr ?_)
    · rcases h6 with h6 | ⟨g, cap, cur, h7, -, h8, h9⟩
      · exact .inl h6
      · exact .inr ⟨g, cap, cur, _, h7, .inl rfl, h8, h9⟩
    · rcases h6 with ⟨rfl, -⟩ | ⟨g, cap, cur, rfl, h7, -⟩
      · cases hb
      · simp only [Value.ownBlock, Option.some.injEq] at hb; omega
  · have hcs' : cur.size = cap := by omega
    by_cases hroom : n + l.length ≤ cap
    · have hf := Lib.run_firstCells_string (P := P) w 1 ⟨l.toArray⟩
      have hst := storeCells_h P g n e fz (bys l) 0 cur w hg hfz (by rw [bys_len]; omega) (bys_one l)
      simp only [Nat.add_zero] at hst
      rw [strCells_bys, hsz] at hf
      have hr : (Builtin.append_ #[t, u] ty #[.slice (some ⟨g, 0, none⟩) n cap, str l]).run P w = .ok (.slice (some ⟨g, 0, none⟩) (n + l.length) cap) (w.setRow g (cur.toList.take n ++ bys l ++ cur.toList.drop (n + (bys l).length)).toArray) := by
        simp [Builtin.append_, run_und ht.und, run_und hu, sizeOf, typeInfo, hi, hs, str, Builtin.lenOf, hsz, hroom, hf, Addr.add_lit, hst]
      have hsize : ((cur.toList.take n ++ bys l ++ cur.toList.drop (n + (bys l).length)).toArray).size = cur.size := by
        simp only [List.size_toArray, List.length_append, List.length_take, List.length_drop, Array.length_toList, bys_len]; omega
      refine eff_value hr (k _ _ ⟨hl2, .inr ⟨g, cap, _, fz, rfl, by rw [hsize]; exact hfz, setRow_heap w g cur _ e _ hg, hroom, hcm, by rw [hsize]; omega, ?_⟩⟩ ?_ (fun k hk => .inl hk))
      · have e1 : cur.toList.take n = xs := by simpa using htake
        simp only [e1, Nat.mul_one]
        rw [show n + l.length = (xs ++ bys l).length by rw [hl2]; omega]
        exact List.take_left
      · exact ⟨rfl, rfl, rfl, by simp, fun k _ hk => setRow_other w g k _ (fun e => hk (by simp [ownS, Value.ownBlock, e]))⟩
    · have hr := Lib.run_append_grow_string (P := P) w t u ty e i (.int .u8 0) ht.und hu hi hz ⟨g, 0, none⟩ n cap xs (by rw [hs]; exact hxl) (holds_of hg hxl htake) ⟨l.toArray⟩ (by rw [hsz]; omega) (by rw [hsz]; omega) (growslice_fits (by rw [hsz]; omega) (by rw [hsz, hby]; omega))
      rw [hsz, strCells_bys] at hr
      have hge := grownCap_ge w (n + l.length) cap e
      have hcm2 := grownCap_le_maxLen w (n + l.length) cap e (by unfold maxLen; omega)
      have hz1 : (Value.int IntKind.u8 0).cells.size = 1 := rfl
      refine eff_value hr (k _ _ ⟨hl2, .inr ⟨w.heap.size, _, _, _, rfl, .inl rfl, heap_alloc_new w.drew _, hge, hcm2, ?_, ?_⟩⟩ ?_ (fun k hk => .inr (by simp [Value.ownBlock] at hk; omega)))
      · simp only [Array.size_append, List.size_toArray, size_zeroCells, hz1, hxl, bys_len]; omega
      · simp only [Array.toList_append, List.append_assoc]
        rw [← List.append_assoc, ← hl2]
        exact List.take_left
      · exact ⟨rfl, rfl, rfl, by simp, fun k hk _ => RowKit.Below.heap_alloc w.drew _ k hk⟩

theorem heap_alloc_newF (w : World) (o : Obj) : (w.alloc o).heap[w.heap.size]? = some o := by unfold World.alloc; simp

/-- []byte(s) -/
theorem s2b {s d e : TypeId} (hs : P.underlying s = some .string) (hd : P.underlying d = some (.slice e)) (he : P.underlying e = some (.int .u8)) {l : List UInt8} (hm : l.length ≤ maxLen)
    (k : ∀ b c w', w.heap.size = b → Own w' (.slice (some ⟨b, 0, none⟩) l.length c) e 1 l.length (bys l) → Mod none' w w' → w'.heap.size = b + 1 → next (.slice (some ⟨b, 0, none⟩) l.length c) w') :
    convK P s d (str l) w next QP := by
  have hsz : (ByteArray.mk l.toArray).size = l.length := by simp [ByteArray.size]
  have hr := run_bytes_of_string (P := P) w s d e ⟨l.toArray⟩ hs hd he
  rw [hsz] at hr
  have hge := grownCap_ge w l.length 0 e
  have hcm := grownCap_le_maxLen w l.length 0 e hm
  have hrow : (bytesRow ⟨l.toArray⟩ (grownCap w l.length 0 e)).toList = bys l ++ List.replicate (grownCap w l.length 0 e - l.length) (.int .u8 0) := by
    simp [bytesRow, bys, hsz]
  have hrl : (bytesRow ⟨l.toArray⟩ (grownCap w l.length 0 e)).size = grownCap w l.length 0 e := by
    rw [← Array.length_toList, hrow]; simp [bys_len]; omega
  refine eff_value hr (k _ _ _ rfl ⟨by rw [bys_len]; omega, .inr ⟨w.heap.size, _, _, _, rfl, .inr rfl, heap_alloc_newF w.drew _, hge, hcm, by rw [hrl]; omega, ?_⟩⟩ ⟨rfl, rfl, rfl, by simp, fun k hk _ => RowKit.Below.heap_alloc w.drew _ k hk⟩ (by simp))
  rw [hrow, Nat.mul_one, show l.length = (bys l).length by rw [bys_len]]
  exact List.take_left

theorem Blk.shape {w : World} {b t : Nat} {cs : List Value} (h : Blk w b t cs) : w.shape? b = Option.some (t, cs.length) := by
  obtain ⟨fz, h, -⟩ := h
  simp [World.shape?, h]

/-- unsafe.Pointer(p) -/
theorem conv_up {s d t : TypeId} (hs : P.underlying s = some (.pointer t)) (hd : P.underlying d = some .unsafePointer) (hsz : (P.info? t).map (fun i => decide (i.size = 0)) = some false)
    {b o e : Nat} {cs : List Value} (hb : Blk w b e cs) (ho : o < cs.length) (k : next (.pointer (some ⟨b, o, none⟩)) w) : convK P s d (.pointer (some ⟨b, o, none⟩)) w next QP := by
  obtain ⟨i, hi, hz0⟩ := Option.map_eq_some_iff.1 hsz
  have hz : i.size ≠ 0 := by simpa using hz0
  have hge : ¬ (cs.length ≤ o) := by omega
  refine eff_value (v := .pointer (some ⟨b, o, none⟩)) (w' := w) ?_ k
  simp [convert, Conv.unsafePointer, Conv.seenAt, viewAt, cellsIn, sizeOf, typeInfo, run_und hs, run_und hd, hi, hz, hb.shape, hge]
/-- ( *T)(p), p a block's beginning -/
theorem conv_dn {s d u : TypeId} (hs : P.underlying s = some .unsafePointer) (hd : P.underlying d = some (.pointer u)) (hsz : (P.info? u).map (fun i => decide (i.size = 0)) = some false)
    {b e : Nat} {cs : List Value} (hb : Blk w b e cs) (hl : liesAt P P.depth e (cs.length / P.cellsOf e) 0 u 1 = true) (k : next (.pointer (some ⟨b, 0, none⟩)) w) : convK P s d (.pointer (some ⟨b, 0, none⟩)) w next QP := by
  obtain ⟨i, hi, hz0⟩ := Option.map_eq_some_iff.1 hsz
  have hz : i.size ≠ 0 := by simpa using hz0
  refine eff_value (v := .pointer (some ⟨b, 0, none⟩)) (w' := w) ?_ k
  simp [convert, Conv.unsafePointer, Conv.seenAt, viewAt, variablesAt, sizeOf, typeInfo, run_und hs, run_und hd, hi, hz, hb.shape, hl]

theorem same_one (x : Value) : Extern.AbiNoEscape.same #[x] = pure x := rfl
/-- a call of a function that gives back its argument -/
theorem same_ {f : FuncId} {fn : Func} (hf : P.funcs[f]? = some fn) (hb : fn.body.isNone = true) (hn : (fn.name == "runtime.NumGoroutine") = false) (h1 : Extern.findNext fn = none) (h2 : Extern.find fn = some Extern.AbiNoEscape.same)
    {x : Value} (k : next x w) : callvK P (.func (.func f) #[] #[]) [x] w next QP := by
  unfold callvK
  have hn' : fn.name ≠ "runtime.NumGoroutine" := by simpa using hn
  have hb' : fn.body = none := by simpa using hb
  simp [Deferred.ofValue, invoke, callFunc, hf, hb', hn', h1, h2, same_one]
  exact k
theorem effUpon_mono {next' : Value → World → Prop} {r : Result Next} (h : effUpon P next QP r) (k : ∀ v w', next v w' → next' v w') : effUpon P next' QP r := by
  cases r with
  | ok n w' =>
    cases n <;> simp only [effUpon] at h ⊢
    case value v => exact k _ _ h
    case skip => exact k _ _ h
    case enter f args =>
      refine Calls.mono h fun e w'' he => ?_
      cases e <;> first | exact k _ _ he | exact he
    case row row args => exact Rows.mono h fun v w'' he => k _ _ he
  | halt x w' => cases x <;> simp only [effUpon] at h ⊢ <;> exact h
theorem callvK_mono {next' : Value → World → Prop} {f : Value} {args : List Value} (h : callvK P f args w next QP) (k : ∀ v w', next v w' → next' v w') : callvK P f args w next' QP := effUpon_mono h k

theorem bsl4 {t e by_ : Nat} {z v u x y : Value} (ht : SlTy P t e 1 by_ z) (hv : v.oneCell' = true) (hu : u.oneCell' = true) (hx : x.oneCell' = true) (hy : y.oneCell' = true)
    (k : ∀ b w', w.heap.size = b → Own w' (.slice (some ⟨b, 0, none⟩) 4 4) e 1 4 [v, u, x, y] → Blk w' b e [v, u, x, y] → Mod none' w w' → w'.heap.size = b + 1 → next (.slice (some ⟨b, 0, none⟩) 4 4) w') : bslK P t 4 [(0, v), (1, u), (2, x), (3, y)] w next QP := by
  refine bsl_ ht rfl (by omega) ?_ k
  rw [fill_one rfl hv (by simp), fill_one rfl hu (by simp), fill_one rfl hx (by simp), fill_one rfl hy (by simp), Instr.fill]
  congr 1
  apply Array.toList_inj.1
  simp [List.range_succ]

/-! ### unsafe.SliceData and unsafe.String -/
def usdK (P : Program) (ts : Array TypeId) (ty : TypeId) (s : Value) (w : World) (next : Value → World → Prop) (QP : List PanicEntry → World → Prop) : Prop := effUpon P next QP ((runV (Builtin.unsafeSliceData_ ts ty #[s])).run P w)
def usK (P : Program) (ts : Array TypeId) (ty : TypeId) (p n : Value) (w : World) (next : Value → World → Prop) (QP : List PanicEntry → World → Prop) : Prop := effUpon P next QP ((runV (Builtin.unsafeString_ ts ty #[p, n])).run P w)
@[congr] theorem usdK_congr {ts : Array TypeId} {ty : TypeId} {v v' : Value} {w' : World} (h : v = v') (hw : w = w') : usdK P ts ty v w next QP = usdK P ts ty v' w' next QP := by rw [h, hw]
@[congr] theorem usK_congr {ts : Array TypeId} {ty : TypeId} {a a' v v' : Value} {w' : World} (h : a = a') (h' : v = v') (hw : w = w') : usK P ts ty a v w next QP = usK P ts ty a' v' w' next QP := by rw [h, h', hw]
theorem f_usd {ty : TypeId} {ρ : Operand → Value} {s : Operand} {ts : Array TypeId} : heff P (.call { callee := .builtin .unsafeSliceData, args := #[s], argTypes := ts }) ty ρ w next QP = usdK P ts ty (ρ s) w next QP := by
  unfold heff usdK; rw [run_call_builtin .unsafeSliceData #[s] ts ty _ rfl rfl]; simp only [builtin, runV, List.map_toArray, List.map_cons, List.map_nil]
theorem f_us {ty : TypeId} {ρ : Operand → Value} {s x : Operand} {ts : Array TypeId} : heff P (.call { callee := .builtin .unsafeString, args := #[s, x], argTypes := ts }) ty ρ w next QP = usK P ts ty (ρ s) (ρ x) w next QP := by
  unfold heff usK; rw [run_call_builtin .unsafeString #[s, x] ts ty _ rfl rfl]; simp only [builtin, runV, List.map_toArray, List.map_cons, List.map_nil]

theorem usd_ {ts : Array TypeId} {ty e : TypeId} (hp : P.underlying ty = some (.pointer e)) {v : Value} {n : Nat} {xs : List Value} (ho : Own w v e 1 n xs)
    (k : ∀ p w', Mod none' w w' → (0 < n → ∃ g c, v = .slice (some ⟨g, 0, none⟩) n c ∧ p = some ⟨g, 0, none⟩) → next (.pointer p) w') : usdK P ts ty v w next QP := by
  rcases ho.2 with ⟨rfl, hn⟩ | ⟨g, cap, cur, fz, rfl, hfz, hg, hnc, hcm, hcs, htake⟩
  · exact eff_value (Lib.run_unsafeSliceData_nil w ts ty 0 0) (k none w (Mod.refl _ _) fun h => by omega)
  · by_cases hc : cap = 0
    · subst hc
      have hsh : w.shape? g = some (e, cur.size) := by simp [World.shape?, hg]
      exact eff_value (Lib.run_unsafeSliceData_zero (P := P) w ts ty e hp ⟨g, 0, none⟩ n _ hsh) (k _ _ (alloc_mod w _) fun h => by omega)
    · exact eff_value (Lib.run_unsafeSliceData_row (P := P) w ts ty ⟨g, 0, none⟩ n cap hc) (k _ w (Mod.refl _ _) fun _ => ⟨g, cap, rfl, rfl⟩)
theorem us_ {pt it ty e : TypeId} (hp : P.underlying pt = some (.pointer e)) (hc : P.cellsOf e = 1) {v : Value} {l : List UInt8} {p : Option Addr} (ho : Own w v e 1 l.length (bys l)) (hv : 0 < l.length → ∃ g c, v = .slice (some ⟨g, 0, none⟩) l.length c ∧ p = some ⟨g, 0, none⟩)
    (hm : l.length ≤ 9223372036854775807) (k : ∀ w', Mod (ownS v) w w' → next (str l) w') : usK P #[pt, it] ty (.pointer p) (.int .i64 l.length) w next QP := by
  rcases Nat.eq_zero_or_pos l.length with h0 | h0
  · obtain rfl : l = [] := List.eq_nil_of_length_eq_zero h0
    exact eff_value (Lib.run_unsafeString_none (P := P) w pt it ty p) (k w (Mod.refl _ _))
  · obtain ⟨g, c, rfl, rfl⟩ := hv h0
    rcases ho.2 with ⟨he, hn⟩ | ⟨g', cap, cur, fz, he, hfz, hg, hnc, hcm, hcs, htake⟩
    · cases he
    · simp only [Value.slice.injEq, Option.some.injEq, Addr.mk.injEq] at he
      obtain ⟨⟨rfl, -⟩, -, rfl⟩ := he
      have hsh : w.shape? g = some (e, cur.size) := by simp [World.shape?, hg]
      refine eff_value (Lib.run_unsafeString_row (P := P) w pt it ty _ hp hc g _ hsh l (by rintro rfl; simp at h0) (by omega) hm ?_) (k _ ⟨?_, ?_, ?_, ?_, ?_⟩)
      · intro j x hx
        refine holds_of hg ho.1 htake j _ ?_
        simp [bys, hx]
      · unfold World.freeze; split <;> rfl
      · unfold World.freeze; split <;> rfl
      · unfold World.freeze; split <;> rfl
      · unfold World.freeze; split <;> simp
      · intro k hk hn
        have hne : g ≠ k := fun e => hn (by simp [ownS, Value.ownBlock, e])
        unfold World.freeze; split
        · rfl
        · simp only [Array.getElem?_modify]; rw [if_neg hne]
end
attribute [go_sem] f_usd f_us
end Go.HL
