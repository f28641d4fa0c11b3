/- HLD: what the statements of a region ask, its operations give, in the order in which they were turned. -/
import Derived.Test.YtgalileklafbbaaHLC
set_option linter.unusedSimpArgs false
set_option linter.unusedVariables false
set_option maxRecDepth 100000
namespace Go.HL
open Go

/-- reader j reads the same in the world w' as in w -/
def Keeps (P : Program) (ops : Array Oper) (j : Nat) (a : Act) (w w' : World) : Prop :=
  ∀ oj q, ops[j]? = some oj → resolve P oj.op = some q → Region.wanted oj (yielded ops a.tmps) = true → qchk a.eval w q → qchk a.eval w' q ∧ qval a.eval w' q = qval a.eval w q

def stepC (P : Program) (ops : Array Oper) (Q : Exit → Act → World → Prop) (i : Nat) (F : List Nat) (K : Act → World → Prop) (a : Act) (w : World) : Prop :=
  match ops[i]? with
  | none => False
  | some o =>
    if Region.wanted o (yielded ops a.tmps) = true then
      match resolve P o.op with
      | some q => qchk a.eval w q ∧ K (a.put o.dst (qval a.eval w q)) w
      | none => o.wp P a w (fun a' w' => (∀ j ∈ F, Keeps P ops j a w w') ∧ K a' w') Q
    else K (a.put o.dst undef) w

def wpC (P : Program) (ops : Array Oper) (Q : Exit → Act → World → Prop) (K : Act → World → Prop) : List (Nat × List Nat) → Act → World → Prop
  | [], a, w => K a w
  | (i, F) :: r, a, w => stepC P ops Q i F (wpC P ops Q K r) a w

def gOnA (a : Act) : Option (Nat × Bool) → Bool
  | none => true
  | some (t, want) => isB want (a.eval (.tmp t))

def EntOK (a : Act) (σ : Env) (w : World) (e : Ent) : Prop :=
  if gOnA a e.g = true then a.eval (.tmp e.t) = val σ w e.e else a.eval (.tmp e.t) = undef

def RdOK (P : Program) (ops : Array Oper) (a : Act) (σ : Env) (w : World) (r : Rd) : Prop :=
  ∃ oj, ops[r.j]? = some oj ∧ resolve P oj.op = some (.q1 r.f r.xo) ∧ guardOf ops oj = some r.g ∧
    (gOnA a r.g = true → a.eval r.xo = val σ w r.x ∧ c1 w r.f (val σ w r.x))

structure Rel (P : Program) (ops : Array Oper) (N n : Nat) (D : List Deferred) (st : DS) (a : Act) (σ : Env) (w : World) : Prop where
  size : a.tmps.size = n
  defers : a.defers = D
  slot : ∀ t, N.testBit t = true → a.eval (.tmp t) = σ t
  ent : ∀ e ∈ st.M, EntOK a σ w e
  rd : ∀ r ∈ st.R, RdOK P ops a σ w r

section
variable {P : Program} {ops : Array Oper} {N n : Nat} {D : List Deferred} {st : DS} {a : Act} {σ : Env} {w : World}

theorem wanted_eq {o : Oper} {g : Option (Nat × Bool)} (h : guardOf ops o = some g) : Region.wanted o (yielded ops a.tmps) = gOnA a g := by
  unfold guardOf at h
  cases hg : o.guard with
  | none => simp only [hg, Option.some.injEq] at h; subst h; simp [Region.wanted, hg, gOnA]
  | some p =>
    obtain ⟨j, want⟩ := p
    simp only [hg, Option.map_eq_some_iff] at h
    obtain ⟨t, ht, rfl⟩ := h
    simp only [Region.wanted, hg, gOnA, yielded, ht, Option.bind_some, Act.eval]
    cases hv : a.tmps[t]? with
    | none => simp [hv, isB, undef]
    | some v => simp only [Array.getD_eq_getD_getElem?, hv, Option.getD_some]; cases v <;> simp [isB]

theorem findE_spec {M : List Ent} {t : Nat} {e : Ent} (h : findE M t = some e) : e ∈ M ∧ e.t = t := by
  unfold findE at h
  exact ⟨List.mem_of_find?_eq_some h, by have := List.find?_some h; simpa using this⟩

theorem full_sound (R : Rel P ops N n D st a σ w) : ∀ (k t : Nat) (e : HE), full N st.M k t = some e → a.eval (.tmp t) = val σ w e := by
  intro k
  induction k with
  | zero => intro t e h; simp [full] at h
  | succ k ih =>
    intro t e h
    simp only [full] at h
    cases hf : findE st.M t with
    | none =>
      simp only [hf] at h
      split at h
      · rename_i hb; simp only [Option.some.injEq] at h; subst h; exact R.slot t hb
      · cases h
    | some ent =>
      simp only [hf] at h
      obtain ⟨hm, ht⟩ := findE_spec hf
      have he := R.ent ent hm
      unfold EntOK at he
      cases hg : ent.g with
      | none => simp only [hg, Option.some.injEq] at h; subst h; rw [← ht]; simpa [hg, gOnA] using he
      | some g =>
        obtain ⟨gt, want⟩ := g
        simp only [hg, Option.map_eq_some_iff] at h
        obtain ⟨c, hc, rfl⟩ := h
        have := ih gt c hc
        simp only [hg, gOnA, this] at he
        simp only [val, ← ht]
        split at he <;> simp_all

theorem okG_spec {gs : List (Nat × Bool)} {g : Option (Nat × Bool)} (h : okG gs g = true) (hgs : ∀ x ∈ gs, gOnA a (some x) = true) : gOnA a g = true := by
  cases g with
  | none => rfl
  | some x => exact hgs x (by simpa [okG] using h)

theorem exO_sound (R : Rel P ops N n D st a σ w) {gs : List (Nat × Bool)} (hgs : ∀ x ∈ gs, gOnA a (some x) = true) {x : Operand} {e : HE} (h : exO N st.M gs x = some e) : a.eval x = val σ w e := by
  cases x with
  | const v => simp only [exO, Option.some.injEq] at h; subst h; rfl
  | global g => simp only [exO, Option.some.injEq] at h; subst h; rfl
  | func f => simp only [exO, Option.some.injEq] at h; subst h; rfl
  | tmp t =>
    simp only [exO] at h
    cases hf : findE st.M t with
    | none =>
      simp only [hf] at h
      split at h
      · rename_i hb; simp only [Option.some.injEq] at h; subst h; exact R.slot t hb
      · cases h
    | some ent =>
      simp only [hf] at h
      obtain ⟨hm, ht⟩ := findE_spec hf
      split at h
      · rename_i hok
        simp only [Option.some.injEq] at h; subst h
        have he := R.ent ent hm
        unfold EntOK at he
        rw [okG_spec hok hgs] at he
        rw [← ht]; simpa using he
      · exact full_sound R _ _ _ h

theorem exParts_sound (R : Rel P ops N n D st a σ w) {gs : List (Nat × Bool)} (hgs : ∀ x ∈ gs, gOnA a (some x) = true) : ∀ (parts : List (Nat × Nat × Operand)) (l : List (Nat × Nat × HE)) (acc : HE),
    exParts N st.M gs parts = some l → (∀ x ∈ putNeeds acc l, chk σ w x) → bldC a.eval (val σ w acc) parts ∧ bldV a.eval (val σ w acc) parts = val σ w (putE acc l)
  | [], l, acc, h, _ => by simp only [exParts, Option.some.injEq] at h; subst h; exact ⟨trivial, rfl⟩
  | (o, m, x) :: r, l, acc, h, hc => by
    simp only [exParts] at h
    cases hx : exO N st.M gs x with
    | none => simp [hx] at h
    | some e =>
      cases hr : exParts N st.M gs r with
      | none => simp [hx, hr] at h
      | some l' =>
        simp only [hx, hr, Option.some.injEq] at h; subst h
        simp only [putNeeds, List.mem_cons, forall_eq_or_imp] at hc
        have he := exO_sound R hgs hx
        have ih := exParts_sound R hgs r l' (.n2 (.put o m) acc e) hr hc.2
        simp only [bldC, bldV, putE, he]
        exact ⟨⟨hc.1, ih.1⟩, ih.2⟩

theorem exList_sound (R : Rel P ops N n D st a σ w) {gs : List (Nat × Bool)} (hgs : ∀ x ∈ gs, gOnA a (some x) = true) (f : F2) : ∀ (xs : List Operand) (l : List HE) (acc : HE),
    exList N st.M gs xs = some l → pushAll a.eval f (val σ w acc) xs = val σ w (pushE f acc l)
  | [], l, acc, h => by simp only [exList, Option.some.injEq] at h; subst h; rfl
  | x :: r, l, acc, h => by
    simp only [exList] at h
    cases hx : exO N st.M gs x with
    | none => simp [hx] at h
    | some e =>
      cases hr : exList N st.M gs r with
      | none => simp [hx, hr] at h
      | some l' =>
        simp only [hx, hr, Option.some.injEq] at h; subst h
        have he := exO_sound R hgs hx
        have ih := exList_sound R hgs f r l' (.n2 f acc e) hr
        simp only [pushAll, pushE, he]
        exact ih

theorem toHE_sound (R : Rel P ops N n D st a σ w) {gs : List (Nat × Bool)} (hgs : ∀ x ∈ gs, gOnA a (some x) = true) {q : Q Operand} {e : HE} {needs : List HE} (h : toHE N st.M gs q = some (e, needs))
    (hn : ∀ x ∈ needs, chk σ w x) : qchk a.eval w q ∧ qval a.eval w q = val σ w e := by
  cases q with
  | mv x =>
    simp only [toHE, Option.map_eq_some_iff, Prod.mk.injEq] at h
    obtain ⟨e', hx, rfl, rfl⟩ := h
    exact ⟨trivial, exO_sound R hgs hx⟩
  | q1 f x =>
    simp only [toHE, Option.map_eq_some_iff, Prod.mk.injEq] at h
    obtain ⟨e', hx, rfl, rfl⟩ := h
    have h1 := exO_sound R hgs hx
    have h2 := hn _ (List.mem_singleton.2 rfl)
    simp only [qchk, qval, h1, val]
    exact ⟨h2, trivial⟩
  | q2 f x y =>
    simp only [toHE] at h
    cases hx : exO N st.M gs x <;> cases hy : exO N st.M gs y <;> simp only [hx, hy, Option.some.injEq, Prod.mk.injEq, reduceCtorEq] at h
    obtain ⟨rfl, rfl⟩ := h
    have h2 := hn _ (List.mem_singleton.2 rfl)
    simp only [qchk, qval, exO_sound R hgs hx, exO_sound R hgs hy, val]
    exact ⟨h2, trivial⟩
  | q3 f x y z =>
    have plain : ∀ {a1 b1 d1 : HE}, exO N st.M gs x = some a1 → exO N st.M gs y = some b1 → exO N st.M gs z = some d1 → chk σ w (.n3 f a1 b1 d1) →
        qchk a.eval w (.q3 f x y z) ∧ qval a.eval w (.q3 f x y z) = val σ w (.n3 f a1 b1 d1) := by
      intro a1 b1 d1 hx hy hz hc
      simp only [qchk, qval, exO_sound R hgs hx, exO_sound R hgs hy, exO_sound R hgs hz, val]
      exact ⟨hc, trivial⟩
    simp only [toHE] at h
    split at h
    · rename_i c
      cases hx : exO N st.M gs (.tmp c) with
      | none => simp [hx] at h
      | some a1 =>
        cases hy : exO N st.M ((c, true) :: gs) y with
        | none => simp [hx, hy] at h
        | some b1 =>
          cases hz : exO N st.M ((c, false) :: gs) z with
          | none => simp [hx, hy, hz] at h
          | some d1 =>
            simp only [hx, hy, hz, Option.some.injEq, Prod.mk.injEq] at h
            obtain ⟨rfl, rfl⟩ := h
            have h2 := hn _ (List.mem_singleton.2 rfl)
            have h3 := exO_sound R hgs hx
            simp only [chk] at h2
            simp only [qchk, qval, h3, val]
            cases hv : val σ w a1 <;> simp only [hv, c3] at h2
            rename_i b
            refine ⟨trivial, ?_⟩
            simp only [v3]
            cases b
            · have := exO_sound R (gs := (c, false) :: gs) (by intro g hg; rcases List.mem_cons.1 hg with rfl | hg; (simp [gOnA, h3, hv, isB]); (exact hgs g hg)) hz
              simp [this]
            · have := exO_sound R (gs := (c, true) :: gs) (by intro g hg; rcases List.mem_cons.1 hg with rfl | hg; (simp [gOnA, h3, hv, isB]); (exact hgs g hg)) hy
              simp [this]
    · cases hx : exO N st.M gs x <;> cases hy : exO N st.M gs y <;> cases hz : exO N st.M gs z <;> simp only [hx, hy, hz, Option.some.injEq, Prod.mk.injEq, reduceCtorEq] at h
      obtain ⟨rfl, rfl⟩ := h
      exact plain hx hy hz (hn _ (List.mem_singleton.2 rfl))
  | bld z parts =>
    simp only [toHE, Option.map_eq_some_iff, Prod.mk.injEq] at h
    obtain ⟨l, hl, rfl, rfl⟩ := h
    exact exParts_sound R hgs parts l (.lit (.agg z)) hl hn
  | clo fn first caps =>
    simp only [toHE] at h
    cases hx : exList N st.M gs first with
    | none => simp [hx] at h
    | some l1 =>
      cases hy : exList N st.M gs caps with
      | none => simp [hx, hy] at h
      | some l2 =>
        simp only [hx, hy, Option.some.injEq, Prod.mk.injEq] at h
        obtain ⟨rfl, rfl⟩ := h
        refine ⟨trivial, ?_⟩
        have h1 := exList_sound R hgs .capf first l1 (.lit (.func fn #[] #[])) hx
        have h2 := exList_sound R hgs .capt caps l2 (pushE .capf (.lit (.func fn #[] #[])) l1) hy
        simp only [val] at h1
        simp only [qval]
        rw [h1]; exact h2

theorem gExp_sound (R : Rel P ops N n D st a σ w) {g : Option (Nat × Bool)} {ge : Option (HE × Bool)} (h : gExp N st.M g = some ge) : gOn σ w ge = gOnA a g := by
  cases g with
  | none => simp only [gExp, Option.some.injEq] at h; subst h; rfl
  | some p =>
    obtain ⟨t, want⟩ := p
    simp only [gExp, Option.map_eq_some_iff] at h
    obtain ⟨c, hc, rfl⟩ := h
    simp only [gOn, gOnA, full_sound R _ _ _ hc]

theorem gList_ok {g : Option (Nat × Bool)} (h : gOnA a g = true) : ∀ x ∈ gList g, gOnA a (some x) = true := by
  cases g with
  | none => intro x hx; simp [gList] at hx
  | some p => intro x hx; simp [gList] at hx; subst hx; exact h

theorem chk_under {g : Option (HE × Bool)} {e : HE} (h : chk σ w (under g e)) (hg : gOn σ w g = true) : chk σ w e := by
  cases g with
  | none => exact h
  | some p => exact h hg

theorem val_under (g : Option (HE × Bool)) (e : HE) : val σ w (under g e) = if gOn σ w g = true then val σ w e else undef := by
  cases g with
  | none => simp [under, gOn]
  | some p => rfl

theorem hs_needs {QP : List PanicEntry → World → Prop} {K : Env → World → Prop} : ∀ (ns : List HE) (ge : Option (HE × Bool)) (l : List HS), hs P QP K (ns.map (fun x => HS.need (under ge x)) ++ l) σ w →
    (∀ x ∈ ns, chk σ w (under ge x)) ∧ hs P QP K l σ w
  | [], _, _, h => ⟨by simp, h⟩
  | x :: r, ge, l, h => by
    simp only [List.map_cons, List.cons_append, hs] at h
    obtain ⟨h1, h2⟩ := hs_needs r ge l h.2
    exact ⟨by intro y hy; rcases List.mem_cons.1 hy with rfl | hy; exact h.1; exact h1 y hy, h2⟩

theorem val_upd {d : Nat} {v : Value} : ∀ {e : HE}, e.has d = false → val (upd σ d v) w e = val σ w e
  | .slot t, h => by simp [HE.has] at h; simp [val, upd, h]
  | .lit _, _ => rfl
  | .n1 f x, h => by simp only [HE.has] at h; simp only [val, val_upd h]
  | .n2 f x y, h => by simp only [HE.has, Bool.or_eq_false_iff] at h; simp only [val, val_upd h.1, val_upd h.2]
  | .n3 f x y z, h => by simp only [HE.has, Bool.or_eq_false_iff] at h; simp only [val, val_upd h.1.1, val_upd h.1.2, val_upd h.2]
  | .gif c want x, h => by simp only [HE.has, Bool.or_eq_false_iff] at h; simp only [val, val_upd h.1, val_upd h.2]

theorem v1_pure {w' : World} {f : F1} (h : f.reads = false) (v : Value) : v1 w f v = v1 w' f v := by
  cases f <;> first | (simp [F1.reads] at h; done) | (cases v <;> first | rfl | (rename_i a; cases a <;> rfl))

theorem val_pure {w' : World} : ∀ {e : HE}, e.reads = false → val σ w e = val σ w' e
  | .slot t, _ => rfl
  | .lit _, _ => rfl
  | .n1 f x, h => by simp only [HE.reads, Bool.or_eq_false_iff] at h; simp only [val, val_pure (w' := w') h.2, v1_pure (w' := w') h.1]
  | .n2 f x y, h => by simp only [HE.reads, Bool.or_eq_false_iff] at h; simp only [val, val_pure (w' := w') h.1, val_pure (w' := w') h.2]
  | .n3 f x y z, h => by simp only [HE.reads, Bool.or_eq_false_iff] at h; simp only [val, val_pure (w' := w') h.1.1, val_pure (w' := w') h.1.2, val_pure (w' := w') h.2]
  | .gif c want x, h => by simp only [HE.reads, Bool.or_eq_false_iff] at h; simp only [val, val_pure (w' := w') h.1, val_pure (w' := w') h.2]

theorem put_eval_ne {d t : Nat} (v : Value) (h : t ≠ d) : (a.put (some d) v).eval (.tmp t) = a.eval (.tmp t) :=
  Act.eval_put (fun e he => by simp only [Option.some.injEq] at he; subst he; simpa using h)
theorem put_eval_eq {d : Nat} (v : Value) (h : d < a.tmps.size) : (a.put (some d) v).eval (.tmp d) = v := by
  simp [Act.put, Act.eval, h]

theorem gOnA_put {d : Nat} {v : Value} {g : Option (Nat × Bool)} (h : hasG d g = false) : gOnA (a.put (some d) v) g = gOnA a g := by
  cases g with
  | none => rfl
  | some p => obtain ⟨t, want⟩ := p; simp only [hasG, beq_eq_false_iff_ne] at h; simp only [gOnA, put_eval_ne v h]

/-- slot d is written, on both sides alike where it is a named one -/
theorem Rel.wrote (R : Rel P ops N n D st a σ w) {d : Nat} (hd : d < n) (v : Value) (σ' : Env) (hσ : σ' = if N.testBit d = true then upd σ d v else σ) :
    Rel P ops N n D (st.wrote (some d)) (a.put (some d) v) σ' w := by
  have hval : ∀ {e : HE}, e.has d = false → val σ' w e = val σ w e := by
    intro e he; rw [hσ]; split; exact val_upd he; rfl
  refine ⟨by simp [Act.put, R.size], by simp [Act.put, R.defers], ?_, ?_, ?_⟩
  · intro t ht
    by_cases h : t = d
    · subst h; rw [put_eval_eq v (by rw [R.size]; exact hd), hσ, if_pos ht]; simp [upd]
    · rw [put_eval_ne v h, R.slot t ht, hσ]; split; simp [upd, h]; rfl
  · intro e he
    simp only [DS.wrote, List.mem_filter, Bool.not_eq_true', Bool.or_eq_false_iff, beq_eq_false_iff_ne] at he
    obtain ⟨hm, ⟨h1, h2⟩, h3⟩ := he
    have := R.ent e hm
    unfold EntOK at *
    rw [gOnA_put h2, put_eval_ne v h1, hval h3]; exact this
  · intro r hr
    simp only [DS.wrote, List.mem_filter, Bool.not_eq_true', Bool.or_eq_false_iff] at hr
    obtain ⟨hm, ⟨h1, h2⟩, h3⟩ := hr
    obtain ⟨oj, e1, e2, e3, e4⟩ := R.rd r hm
    refine ⟨oj, e1, e2, e3, fun hg => ?_⟩
    rw [gOnA_put h1] at hg
    rw [hval h3]
    have hx : (a.put (some d) v).eval r.xo = a.eval r.xo := Act.eval_put (fun e he => by
      simp only [Option.some.injEq] at he; subst he; intro hc; rw [hc] at h2; simp [isTmp] at h2)
    rw [hx]; exact e4 hg
end
end Go.HL
