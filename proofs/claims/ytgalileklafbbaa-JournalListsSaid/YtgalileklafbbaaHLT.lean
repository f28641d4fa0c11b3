/- HLT: a region that draws its order and whose effects stand open to each other: a tree of orders serves for all. -/
import Derived.Test.YtgalileklafbbaaHLF
set_option linter.unusedSimpArgs false
set_option linter.unusedVariables false
set_option maxRecDepth 100000
namespace Go.HL
open Go

/-- a tree of orders -/
inductive PT where
  | nil
  | op (i : Nat) (F : List Nat) (t : PT)
  | fork (a b : PT)

def PT.rm (i : Nat) : PT → PT
  | .nil => .nil
  | .op j F t => if j = i then t else .op j F (t.rm i)
  | .fork a b => .fork (a.rm i) (b.rm i)

def PT.paths : PT → List (List (Nat × List Nat))
  | .nil => [[]]
  | .op i F t => t.paths.map ((i, F) :: ·)
  | .fork a b => a.paths ++ b.paths

/-- the tree behind effect i, where i may come first of the effects -/
def PT.take (e : Nat → Bool) (i : Nat) : PT → Option PT
  | .nil => none
  | .op j F t => if j = i then some t else if e j = true then none else (t.take e i).map (.op j F)
  | .fork a b => match a.take e i with | some x => some x | none => b.take e i

def PT.pre : List (Nat × List Nat) → PT → PT
  | [], t => t
  | (j, F) :: r, t => .op j F (PT.pre r t)

theorem PT.paths_ne : ∀ t : PT, t.paths ≠ []
  | .nil => by simp [PT.paths]
  | .op i F t => by simp [PT.paths, PT.paths_ne t]
  | .fork a b => by simp [PT.paths, PT.paths_ne a]

/-- whether every order of the effects that are left is one of the tree's -/
def covT (anc : List Nat) (e : Nat → Bool) : Nat → List Nat → PT → Bool
  | 0, rem, _ => rem.isEmpty
  | k + 1, rem, T => rem.all fun i => (rem.any fun j => (anc.getD i 0).testBit j) || (match T.take e i with | some T' => covT anc e k (rem.filter fun j => j != i) T' | none => false)

theorem take_rm {e : Nat → Bool} {i q : Nat} (hq : e q = false) (hi : e i = true) : ∀ T : PT, (T.rm q).take e i = (T.take e i).map (PT.rm q)
  | .nil => rfl
  | .op j F t => by
    have ih := take_rm hq hi t
    have hqi : q ≠ i := fun h => by rw [h, hi] at hq; cases hq
    by_cases hjq : j = q
    · subst hjq
      simp only [PT.rm, if_true, PT.take, if_neg hqi, hq, Bool.false_eq_true, if_false, Option.map_map]
      cases t.take e i <;> simp [PT.rm]
    · simp only [PT.rm, if_neg hjq, PT.take]
      by_cases hji : j = i
      · simp [hji]
      · rw [if_neg hji, if_neg hji]
        cases hej : e j with
        | true => simp
        | false =>
          simp only [Bool.false_eq_true, if_false, ih, Option.map_map]
          cases t.take e i <;> simp [PT.rm, hjq]
  | .fork a b => by
    simp only [PT.rm, PT.take, take_rm hq hi a, take_rm hq hi b]
    cases a.take e i <;> simp

theorem covT_rm {anc : List Nat} {e : Nat → Bool} {q : Nat} (hq : e q = false) : ∀ (k : Nat) (rem : List Nat) (T : PT), (∀ i ∈ rem, e i = true) → covT anc e k rem T = true → covT anc e k rem (T.rm q) = true
  | 0, rem, T, _, h => h
  | k + 1, rem, T, he, h => by
    simp only [covT, List.all_eq_true] at h ⊢
    intro i hi
    have hh := h i hi
    rw [take_rm hq (he i hi)]
    simp only [Bool.or_eq_true] at hh ⊢
    rcases hh with hh | hh
    · exact .inl hh
    · right
      cases hT : T.take e i with
      | none => simp [hT] at hh
      | some T' =>
        simp only [hT, Option.map_some] at hh ⊢
        exact covT_rm hq k _ T' (fun j hj => he j (List.mem_filter.1 hj).1) hh

section
variable {P : Program} {ops : Array Oper} {a : Act} {w : World}

def wpT (P : Program) (ops : Array Oper) (Q : Exit → Act → World → Prop) (K : Act → World → Prop) : PT → Act → World → Prop
  | .nil, a, w => K a w
  | .op i F t, a, w => stepC P ops Q i F (wpT P ops Q K t) a w
  | .fork x y, a, w => wpT P ops Q K x a w ∧ wpT P ops Q K y a w

theorem wpC_pre {K : Act → World → Prop} {t : PT} : ∀ (L : List (Nat × List Nat)) (a : Act) (w : World), wpC P ops QF (wpT P ops QF K t) L a w → wpT P ops QF K (PT.pre L t) a w
  | [], _, _, h => h
  | (i, F) :: r, a, w, h => stepC_mono (fun a w h => wpC_pre r a w h) h

theorem take_spec {e : Nat → Bool} {i : Nat} : ∀ {T T' : PT}, T.take e i = some T' → ∃ L1 F t, T' = PT.pre L1 t ∧ (∀ x ∈ L1, e x.1 = false) ∧ (∀ p ∈ t.paths, L1 ++ (i, F) :: p ∈ T.paths) ∧
    ∀ {K : Act → World → Prop} {a w}, wpT P ops QF K T a w → wpC P ops QF (wpT P ops QF K t) (L1 ++ [(i, F)]) a w
  | .nil, T', h => by simp [PT.take] at h
  | .op j F t, T', h => by
    simp only [PT.take] at h
    by_cases hji : j = i
    · subst hji
      simp only [if_true, Option.some.injEq] at h
      subst h
      exact ⟨[], F, t, rfl, by simp, fun p hp => by simp [PT.paths, hp], fun h => h⟩
    · rw [if_neg hji] at h
      cases hej : e j with
      | true => simp [hej] at h
      | false =>
        simp only [hej, Bool.false_eq_true, if_false, Option.map_eq_some_iff] at h
        obtain ⟨T1, h1, rfl⟩ := h
        obtain ⟨L1, F', t', rfl, h2, h3, h4⟩ := take_spec h1
        refine ⟨(j, F) :: L1, F', t', rfl, ?_, ?_, ?_⟩
        · intro x hx
          rcases List.mem_cons.1 hx with rfl | hx
          · exact hej
          · exact h2 x hx
        · intro p hp
          simp only [PT.paths, List.mem_map]
          exact ⟨_, h3 p hp, rfl⟩
        · intro K a w h
          exact stepC_mono (fun a w h => h4 h) h
  | .fork x y, T', h => by
    simp only [PT.take] at h
    cases hx : x.take e i with
    | some x' =>
      simp only [hx, Option.some.injEq] at h
      subst h
      obtain ⟨L1, F', t', rfl, h2, h3, h4⟩ := take_spec hx
      exact ⟨L1, F', t', rfl, h2, fun p hp => by simp [PT.paths, h3 p hp], fun h => h4 h.1⟩
    | none =>
      simp only [hx] at h
      obtain ⟨L1, F', t', rfl, h2, h3, h4⟩ := take_spec h
      exact ⟨L1, F', t', rfl, h2, fun p hp => by simp [PT.paths, h3 p hp], fun h => h4 h.2⟩

theorem paths_pre {t : PT} : ∀ (L : List (Nat × List Nat)), (PT.pre L t).paths = t.paths.map (L ++ ·)
  | [] => by simp [PT.pre]
  | (j, F) :: r => by simp [PT.pre, PT.paths, paths_pre r, Function.comp_def]

theorem rm_paths {i : Nat} : ∀ {T : PT}, (∀ p ∈ T.paths, ∃ x ∈ p, x.1 = i) → ∀ p' ∈ (T.rm i).paths, ∃ L1 F L2, (∀ x ∈ L1, x.1 ≠ i) ∧ L1 ++ (i, F) :: L2 ∈ T.paths ∧ p' = L1 ++ L2
  | .nil, h, p', _ => by obtain ⟨x, hx, _⟩ := h [] (by simp [PT.paths]); cases hx
  | .op j F t, h, p', hp' => by
    by_cases hji : j = i
    · subst hji
      simp only [PT.rm, if_true] at hp'
      exact ⟨[], F, p', by simp, by simp [PT.paths, hp'], rfl⟩
    · simp only [PT.rm, if_neg hji, PT.paths, List.mem_map] at hp'
      obtain ⟨q, hq, rfl⟩ := hp'
      obtain ⟨L1, F', L2, h1, h2, rfl⟩ := rm_paths (T := t) (fun p hp => by
        obtain ⟨x, hx, hxi⟩ := h ((j, F) :: p) (by simp [PT.paths, hp])
        rcases List.mem_cons.1 hx with rfl | hx
        · exact absurd hxi hji
        · exact ⟨x, hx, hxi⟩) q hq
      refine ⟨(j, F) :: L1, F', L2, ?_, by simp [PT.paths, h2], rfl⟩
      intro x hx
      rcases List.mem_cons.1 hx with rfl | hx
      · exact hji
      · exact h1 x hx
  | .fork x y, h, p', hp' => by
    simp only [PT.rm, PT.paths, List.mem_append] at hp'
    rcases hp' with hp' | hp'
    · obtain ⟨L1, F', L2, h1, h2, rfl⟩ := rm_paths (T := x) (fun p hp => h p (by simp [PT.paths, hp])) p' hp'
      exact ⟨L1, F', L2, h1, by simp [PT.paths, h2], rfl⟩
    · obtain ⟨L1, F', L2, h1, h2, rfl⟩ := rm_paths (T := y) (fun p hp => h p (by simp [PT.paths, hp])) p' hp'
      exact ⟨L1, F', L2, h1, by simp [PT.paths, h2], rfl⟩

/-- two effects may stand open -/
def pairB' (P : Program) (ops : Array Oper) (anc : List Nat) (x y : Nat × List Nat) : Bool :=
  pairB P ops anc x y || (match ops[x.1]?, ops[y.1]? with | some oj, some oi => kind P oj == 2 && kind P oi == 2 | _, _ => false)

theorem pairB_of {anc : List Nat} {x y : Nat × List Nat} {oj oi : Oper} (hj : ops[x.1]? = some oj) (hi : ops[y.1]? = some oi) (h : pairB' P ops anc x y = true) (hk : kind P oj ≠ 2 ∨ kind P oi ≠ 2) : pairB P ops anc x y = true := by
  simp only [pairB', hj, hi, Bool.or_eq_true, Bool.and_eq_true, beq_iff_eq] at h
  rcases h with h | ⟨h1, h2⟩
  · exact h
  · rcases hk with hk | hk
    · exact absurd h1 hk
    · exact absurd h2 hk

theorem stepC_and {i : Nat} {oi : Oper} (hi : ops[i]? = some oi) (hk : kind P oi ≠ 2) {K K' : Act → World → Prop} (h : stepC P ops QF i [] K a w) (h' : stepC P ops QF i [] K' a w) : stepC P ops QF i [] (fun a w => K a w ∧ K' a w) a w := by
  unfold stepC at *
  simp only [hi] at *
  split at h
  · rename_i hw
    rw [if_pos hw] at h' ⊢
    cases hq : resolve P oi.op with
    | some q => simp only [hq] at *; exact ⟨h.1, h.2, h'.2⟩
    | none => exact absurd (by simp [kind, hq]) hk
  · rename_i hw; rw [if_neg hw] at h' ⊢; exact ⟨h, h'⟩

theorem swapB_F {oj oi : Oper} {j : Nat} {Fj Fi : List Nat} (hk : kind P oi ≠ 2) (h : swapB P ops oj j Fj oi Fi = true) : swapB P ops oj j Fj oi [] = true := by
  revert h hk
  unfold swapB
  generalize kind P oj = x
  generalize kind P oi = y
  intro h hk
  rcases y with _ | _ | _ | y <;> rcases x with _ | _ | _ | x <;> simp_all

theorem frontQ {anc : List Nat} {i : Nat} {oi : Oper} (hi : ops[i]? = some oi) (hk : kind P oi ≠ 2) {K : Act → World → Prop} : ∀ (T : PT) (a : Act) (w : World),
    (∀ p ∈ T.paths, ∃ L1 F L2, p = L1 ++ (i, F) :: L2 ∧ (∀ x ∈ L1, x.1 ≠ i) ∧ ∀ x ∈ L1, (ops[x.1]?).isSome = true ∧ pairB P ops anc x (i, F) = true ∧ (anc.getD i 0).testBit x.1 = false) →
    wpT P ops QF K T a w → stepC P ops QF i [] (wpT P ops QF K (T.rm i)) a w
  | .nil, a, w, hp, h => by
    obtain ⟨L1, F, L2, h1, _⟩ := hp [] (by simp [PT.paths])
    simp at h1
  | .op j F t, a, w, hp, h => by
    by_cases hji : j = i
    · subst hji
      simp only [PT.rm, if_true]
      simp only [wpT] at h
      unfold stepC at *
      simp only [hi] at h ⊢
      split at h
      · rename_i hw; rw [if_pos hw]
        cases hq : resolve P oi.op with
        | some q => simp only [hq] at h ⊢; exact h
        | none => exact absurd (by simp [kind, hq]) hk
      · rename_i hw; rw [if_neg hw]; exact h
    · simp only [PT.rm, if_neg hji, wpT]
      simp only [wpT] at h
      have hp' : ∀ p ∈ t.paths, ∃ L1 F L2, p = L1 ++ (i, F) :: L2 ∧ (∀ x ∈ L1, x.1 ≠ i) ∧ ∀ x ∈ L1, (ops[x.1]?).isSome = true ∧ pairB P ops anc x (i, F) = true ∧ (anc.getD i 0).testBit x.1 = false := by
        intro p hpp
        obtain ⟨L1, F', L2, h1, h2, h3⟩ := hp ((j, F) :: p) (by simp [PT.paths, hpp])
        cases L1 with
        | nil => simp at h1; exact absurd h1.1.1 hji
        | cons x L1 =>
          simp only [List.cons_append, List.cons.injEq] at h1
          exact ⟨L1, F', L2, h1.2, fun y hy => h2 y (by simp [hy]), fun y hy => h3 y (by simp [hy])⟩
      have ih := fun a w => frontQ hi hk (K := K) t a w hp'
      have h2 := stepC_mono (fun a w => ih a w) h
      obtain ⟨p, hpp⟩ := List.exists_mem_of_ne_nil _ (PT.paths_ne t)
      obtain ⟨L1, F', L2, h1, _, h3⟩ := hp ((j, F) :: p) (by simp [PT.paths, hpp])
      cases L1 with
      | nil => simp at h1; exact absurd h1.1.1 hji
      | cons x L1 =>
        simp only [List.cons_append, List.cons.injEq] at h1
        obtain ⟨rfl, h1⟩ := h1
        obtain ⟨h4, h5, h6⟩ := h3 (j, F) (by simp)
        obtain ⟨oj, hj⟩ := Option.isSome_iff_exists.1 h4
        simp only at hj
        simp only [pairB, hj, hi, h6, Bool.false_or] at h5
        exact swap hi hj (swapB_F hk h5) (by simp) h2
  | .fork x y, a, w, hp, h => by
    simp only [PT.rm, wpT] at h ⊢
    exact stepC_and hi hk (frontQ hi hk x a w (fun p hpp => hp p (by simp [PT.paths, hpp])) h.1) (frontQ hi hk y a w (fun p hpp => hp p (by simp [PT.paths, hpp])) h.2)

/-- what holds of each way through the tree -/
structure PathOK (P : Program) (ops : Array Oper) (anc : List Nat) (m : Nat) (listed : Array Bool) (L : List (Nat × List Nat)) : Prop where
  len : L.length = m
  inv : LInv ops L listed
  lt : ∀ x ∈ L, x.1 < ops.size
  pb : allPairs (pairB' P ops anc) L = true
  pr : allPairs (pairR P ops) L = true
  ne : allPairs (fun x y => x.1 != y.1) L = true

theorem PathOK.rm {anc : List Nat} {m i : Nat} {listed : Array Bool} {L1 L2 : List (Nat × List Nat)} {F : List Nat} {oi : Oper} (hoi : ops[i]? = some oi) (hdeps : ∀ e ∈ oi.after, Region.binds .any e = true → listed.getD e.on false = true)
    (h : PathOK P ops anc (m + 1) listed (L1 ++ (i, F) :: L2)) : PathOK P ops anc m (listed.setIfInBounds i true) (L1 ++ L2) := by
  obtain ⟨hl, inv, hlt, hp, hr, hn⟩ := h
  have hil := (Array.getElem?_eq_some_iff.1 hoi).1
  obtain ⟨p1, p2, _, _⟩ := allPairs_mid hp
  obtain ⟨r1, r2, r3, _⟩ := allPairs_mid hr
  obtain ⟨n1, n2, _, n4⟩ := allPairs_mid hn
  refine ⟨by simp at hl ⊢; omega, ⟨by simp [inv.size], fun k hk => ?_, fun j oj hj hjl e he hb => ?_⟩, ?_, p2, r2, n2⟩
  · by_cases hki : i = k
    · subst hki
      have : (listed.setIfInBounds i true).getD i true = true := by simp [show i < listed.size by rw [inv.size]; exact hil]
      rw [this]
      constructor
      · intro h; cases h
      · rintro ⟨x, hx, hxe⟩
        rcases List.mem_append.1 hx with hx | hx
        · have := n1 x hx; simp [hxe] at this
        · have := n4 x hx; simp [hxe] at this
    · rw [getD_set_ne true hki, inv.un k hk]
      constructor
      · rintro ⟨x, hx, hxe⟩
        rcases List.mem_append.1 hx with hx | hx
        · exact ⟨x, by simp [hx], hxe⟩
        · rcases List.mem_cons.1 hx with rfl | hx
          · exact absurd hxe hki
          · exact ⟨x, by simp [hx], hxe⟩
      · rintro ⟨x, hx, hxe⟩
        rcases List.mem_append.1 hx with hx | hx
        · exact ⟨x, by simp [hx], hxe⟩
        · exact ⟨x, by simp [hx], hxe⟩
  · by_cases hji : i = j
    · subst hji
      have : oj = oi := Option.some.inj (hj.symm.trans hoi)
      subst this
      exact getD_set_true (hdeps e he hb)
    · rw [getD_set_ne false hji] at hjl
      exact getD_set_true (inv.closed j oj hj hjl e he hb)
  · intro x hx
    rcases List.mem_append.1 hx with hx | hx
    · exact hlt x (by simp [hx])
    · exact hlt x (by simp [hx])

def effB (P : Program) (ops : Array Oper) (i : Nat) : Bool := match ops[i]? with | some o => kind P o == 2 | none => false

theorem wpT_end {K : Act → World → Prop} : ∀ (T : PT) (a : Act) (w : World), (∀ p ∈ T.paths, p = []) → wpT P ops QF K T a w → K a w
  | .nil, _, _, _, h => h
  | .op j F t, _, _, hp, _ => by
    obtain ⟨p, hpp⟩ := List.exists_mem_of_ne_nil _ (PT.paths_ne t)
    have := hp ((j, F) :: p) (by simp [PT.paths, hpp])
    cases this
  | .fork x y, a, w, hp, h => wpT_end x a w (fun p hpp => hp p (by simp [PT.paths, hpp])) h.1

theorem tree_any {anc : List Nat} (ha : ancB ops anc = true) {Q : Exit → Act → World → Prop} {K : Act → World → Prop} (hK : ∀ a w, K a w → Q .normal a w) :
    ∀ (m : Nat) (T : PT) (k : Nat) (rem : List Nat) (listed : Array Bool) (a : Act) (w : World), (∀ p ∈ T.paths, PathOK P ops anc m listed p) →
    (∀ i, i ∈ rem ↔ (effB P ops i = true ∧ listed.getD i true = false)) → covT anc (effB P ops) k rem T = true → wpT P ops QF K T a w → wpAny P .any ops Q m listed a w := by
  intro m
  induction m with
  | zero =>
    intro T k rem listed a w hp hrem hcov h
    have hnil : ∀ p ∈ T.paths, p = [] := fun p hpp => List.eq_nil_of_length_eq_zero (hp p hpp).len
    obtain ⟨p, hpp⟩ := List.exists_mem_of_ne_nil _ (PT.paths_ne T)
    have inv := (hp p hpp).inv
    refine ⟨?_, hK _ _ (wpT_end T a w hnil h)⟩
    rw [List.eq_nil_iff_forall_not_mem]
    intro i hi
    obtain ⟨h1, o, ho, _⟩ := mem_ready.1 hi
    obtain ⟨x, hx, _⟩ := (inv.un i (Array.getElem?_eq_some_iff.1 ho).1).1 h1
    rw [hnil p hpp] at hx; cases hx
  | succ m ih =>
    intro T k rem listed a w hp hrem hcov h
    obtain ⟨p0, hp0⟩ := List.exists_mem_of_ne_nil _ (PT.paths_ne T)
    have ok0 := hp p0 hp0
    have inv0 := ok0.inv
    refine ⟨fun hnil => ?_, fun i hi => ?_⟩
    · exfalso
      have hne : ∃ i, i < ops.size ∧ listed.getD i true = false := by
        cases hL : p0 with
        | nil => have := ok0.len; rw [hL] at this; simp at this
        | cons x r => exact ⟨x.1, ok0.lt x (by simp [hL]), (inv0.un x.1 (ok0.lt x (by simp [hL]))).2 ⟨x, by simp [hL], rfl⟩⟩
      obtain ⟨i, hil, hiu⟩ := hne
      have least : ∀ k, ∀ i, i ≤ k → i < ops.size → listed.getD i true = false → False := by
        intro k
        induction k using Nat.strongRecOn with
        | _ k ihk =>
          intro i hik hil hiu
          have : i ∈ Region.ready .any ops listed := by
            rw [mem_ready]
            refine ⟨hiu, ops[i], by simp [hil], fun e he hb => ?_⟩
            have hlt' := anc_lt ha (i := i) (o := ops[i]) (by simp [hil]) he hb
            have hs : e.on < listed.size := by rw [inv0.size]; omega
            rw [← getD_bool hs]
            cases hv : listed.getD e.on true with
            | true => rfl
            | false => exact (ihk (i - 1) (by omega) e.on (by omega) (by omega) hv).elim
          rw [hnil] at this; cases this
      exact least i i (Nat.le_refl _) hil hiu
    · obtain ⟨hiu, oi, hoi, hdeps⟩ := mem_ready.1 hi
      have hil := (Array.getElem?_eq_some_iff.1 hoi).1
      have hbit : ∀ j, listed.getD j true = false → j < ops.size → (anc.getD i 0).testBit j = false := by
        intro j hj hjl
        cases hb : (anc.getD i 0).testBit j with
        | false => rfl
        | true =>
          have := anc_listed ha inv0.closed i j oi hoi hb hdeps
          rw [getD_bool (by rw [inv0.size]; exact hjl), this] at hj; cases hj
      have hin : ∀ p ∈ T.paths, ∃ x ∈ p, x.1 = i := fun p hpp => ((hp p hpp).inv.un i hil).1 hiu
      have hlisted : ∀ j, j ≠ i → (listed.setIfInBounds i true).getD j true = listed.getD j true := fun j hj => getD_set_ne true (Ne.symm hj)
      have hself : (listed.setIfInBounds i true).getD i true = true := by simp [show i < listed.size by rw [inv0.size]; exact hil]
      by_cases hk2 : kind P oi = 2
      · -- an effect
        have hei : effB P ops i = true := by simp [effB, hoi, hk2]
        have himem : i ∈ rem := (hrem i).2 ⟨hei, hiu⟩
        cases k with
        | zero => simp only [covT, List.isEmpty_iff] at hcov; rw [hcov] at himem; cases himem
        | succ k =>
          simp only [covT, List.all_eq_true] at hcov
          have hc := hcov i himem
          have hno : (rem.any fun j => (anc.getD i 0).testBit j) = false := by
            rw [List.any_eq_false]
            intro j hj
            have hju := ((hrem j).1 hj).2
            have hjl : j < ops.size := by
              have := ((hrem j).1 hj).1
              unfold effB at this
              cases ho : ops[j]? with
              | none => simp [ho] at this
              | some o => exact (Array.getElem?_eq_some_iff.1 ho).1
            rw [hbit j hju hjl]; decide
          rw [hno, Bool.false_or] at hc
          cases hT : T.take (effB P ops) i with
          | none => simp [hT] at hc
          | some T' =>
            simp only [hT] at hc
            obtain ⟨L1, F, t, rfl, hq1, hpaths, hwp⟩ := take_spec (P := P) (ops := ops) hT
            have h1 := hwp h
            obtain ⟨p1, hp1⟩ := List.exists_mem_of_ne_nil _ (PT.paths_ne t)
            have ok1 := hp _ (hpaths p1 hp1)
            obtain ⟨b1, _, _, _⟩ := allPairs_mid ok1.pb
            obtain ⟨_, _, r3, _⟩ := allPairs_mid ok1.pr
            have hsome : ∀ x ∈ L1, (ops[x.1]?).isSome = true := fun x hx => by simp [ok1.lt x (by simp [hx])]
            have hfirst := front hoi L1 [] [] a w (K := wpT P ops QF K t) (anc := anc) (Fi := F) (fun x hx => by
              obtain ⟨ox, hox⟩ := Option.isSome_iff_exists.1 (hsome x hx)
              refine ⟨pairB_of hox hoi (b1 x hx) (.inl fun hkx => ?_), ?_⟩
              · have := hq1 x hx
                simp [effB, hox, hkx] at this
              · have hxl := ok1.lt x (by simp [hx])
                exact hbit x.1 ((ok1.inv.un x.1 hxl).2 ⟨x, by simp [hx], rfl⟩) hxl) r3 hsome (by simp) h1
            refine stepC_wpOp (fun a' w' h' => ih (PT.pre L1 t) k _ _ a' w' ?_ ?_ hc (wpC_pre L1 a' w' (by simpa using h'))) hfirst
            · intro q hq
              rw [paths_pre, List.mem_map] at hq
              obtain ⟨p, hpp, rfl⟩ := hq
              exact (hp _ (hpaths p hpp)).rm hoi hdeps
            · intro j
              simp only [List.mem_filter, bne_iff_ne, ne_eq, hrem j]
              by_cases hji : j = i
              · subst hji; simp [hself]
              · rw [hlisted j hji]; simp [hji]
      · -- nothing but a value
        have hei : effB P ops i = false := by simp [effB, hoi, hk2]
        have hfirst := frontQ hoi hk2 (anc := anc) (K := K) T a w (fun p hpp => by
          obtain ⟨x, hx, hxi⟩ := hin p hpp
          obtain ⟨L1, L2, rfl⟩ := List.append_of_mem hx
          obtain ⟨i', F⟩ := x
          simp only at hxi; subst hxi
          have ok := hp _ hpp
          obtain ⟨b1, _, _, _⟩ := allPairs_mid ok.pb
          obtain ⟨n1, _, _, _⟩ := allPairs_mid ok.ne
          refine ⟨L1, F, L2, rfl, fun y hy => by have := n1 y hy; simpa using this, fun y hy => ?_⟩
          have hyl := ok.lt y (by simp [hy])
          have hso : (ops[y.1]?).isSome = true := by simp [hyl]
          obtain ⟨oy, hoy⟩ := Option.isSome_iff_exists.1 hso
          exact ⟨hso, pairB_of hoy hoi (b1 y hy) (.inr hk2), hbit y.1 ((ok.inv.un y.1 hyl).2 ⟨y, by simp [hy], rfl⟩) hyl⟩) h
        refine stepC_wpOp (fun a' w' h' => ih (T.rm i) k rem _ a' w' ?_ ?_ (covT_rm hei k rem T (fun j hj => ((hrem j).1 hj).1) hcov) h') hfirst
        · intro q hq
          obtain ⟨L1, F, L2, _, h2, rfl⟩ := rm_paths hin q hq
          exact (hp _ h2).rm hoi hdeps
        · intro j
          rw [hrem j]
          by_cases hji : j = i
          · subst hji; simp [hei]
          · rw [hlisted j hji]

def pathB (P : Program) (ops : Array Oper) (anc : List Nat) (L : List (Nat × List Nat)) : Bool :=
  allPairs (pairB' P ops anc) L && allPairs (pairR P ops) L && (List.range ops.size).all (fun i => L.any fun x => x.1 == i) && allPairs (fun x y => x.1 != y.1) L && L.all fun x => decide (x.1 < ops.size)

def treeB (P : Program) (ops : Array Oper) (anc : List Nat) (T : PT) : Bool :=
  let effs := (List.range ops.size).filter (effB P ops)
  ancB ops anc && T.paths.all (pathB P ops anc) && covT anc (effB P ops) effs.length effs T

theorem wp_region_tree {id : Nat} {Q : Exit → Act → World → Prop} {K : Act → World → Prop} (hm : P.follows .mixedOrders = true) {anc : List Nat} {T : PT} (hc : treeB P ops anc T = true)
    (hK : ∀ a w, K a w → Q .normal a w) (h : wpT P ops QF K T a { w with drawn := w.drawn + 1 }) : (Code.region id ops true).wp P Q a w := by
  simp only [treeB, Bool.and_eq_true] at hc
  obtain ⟨⟨ha, hp⟩, hcov⟩ := hc
  refine wp_region_any hm ?_
  refine tree_any ha hK ops.size T _ _ _ a _ (fun L hL => ?_) ?_ hcov h
  · have hL' := List.all_eq_true.1 hp L hL
    simp only [pathB, Bool.and_eq_true, List.all_eq_true, List.mem_range, decide_eq_true_eq] at hL'
    obtain ⟨⟨⟨⟨hpb, hr⟩, hall⟩, hn⟩, hlt⟩ := hL'
    have hlen : L.length = ops.size := by
      have h1 : (L.map (·.1)).Nodup := by
        have : ∀ L : List (Nat × List Nat), allPairs (fun x y => x.1 != y.1) L = true → (L.map (·.1)).Nodup := by
          intro L
          induction L with
          | nil => intro _; simp
          | cons x r ih =>
            intro h
            simp only [allPairs, Bool.and_eq_true, List.all_eq_true] at h
            simp only [List.map_cons, List.nodup_cons, List.mem_map, not_exists, not_and]
            exact ⟨fun y hy he => by have := h.1 y hy; simp [he] at this, ih h.2⟩
        exact this L hn
      have h2 : (L.map (·.1)).Perm (List.range ops.size) := by
        refine (List.perm_ext_iff_of_nodup h1 List.nodup_range).2 fun i => ?_
        simp only [List.mem_map, List.mem_range]
        constructor
        · rintro ⟨x, hx, rfl⟩; exact hlt x hx
        · intro hi
          have := hall i hi
          simp only [List.any_eq_true, beq_iff_eq] at this
          exact this
      simpa using h2.length_eq
    refine ⟨hlen, ⟨by simp, fun i hi => ?_, fun j oj _ hl => ?_⟩, hlt, hpb, hr, hn⟩
    · have h1 : (Array.replicate ops.size false).getD i true = false := by simp [hi]
      rw [h1]
      have := hall i hi
      simp only [List.any_eq_true, beq_iff_eq] at this
      exact ⟨fun _ => this, fun _ => rfl⟩
    · have : (Array.replicate ops.size false).getD j false = false := by
        rcases Nat.lt_or_ge j ops.size with h | h
        · simp [h]
        · simp [h]
      rw [this] at hl; cases hl
  · intro i
    simp only [List.mem_filter, List.mem_range]
    constructor
    · rintro ⟨h1, h2⟩; exact ⟨h2, by simp [h1]⟩
    · rintro ⟨h1, h2⟩
      refine ⟨?_, h1⟩
      unfold effB at h1
      cases ho : ops[i]? with
      | none => simp [ho] at h1
      | some o => exact (Array.getElem?_eq_some_iff.1 ho).1
end
end Go.HL
