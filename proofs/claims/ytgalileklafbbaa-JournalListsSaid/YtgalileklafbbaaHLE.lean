/- HLE: one step, and the whole list. -/
import Derived.Test.YtgalileklafbbaaHLD
set_option linter.unusedSimpArgs false
set_option linter.unusedVariables false
set_option maxRecDepth 100000
namespace Go.HL
open Go

section
variable {P : Program} {ops : Array Oper} {N n : Nat} {D : List Deferred} {st : DS} {a : Act} {σ : Env} {w : World}
  {Q : Exit → Act → World → Prop} {QP : List PanicEntry → World → Prop} {K : Env → World → Prop}

theorem execOp_same (ρ : Operand → Value) (o : Oper) : execOp ρ o = execOp ρ { dst := none, op := o.op, type := o.type, pos := "", after := #[], guard := none } := rfl

theorem exTmps_sound (R : Rel P ops N n D st a σ w) {gs : List (Nat × Bool)} (hgs : ∀ x ∈ gs, gOnA a (some x) = true) : ∀ (ts : List Nat) (m : List (Nat × HE)), exTmps N st.M gs ts = some m →
    ∀ t ∈ ts, ∃ e, findM m t = some e ∧ val σ w e = a.eval (.tmp t)
  | [], _, _, t, ht => by simp at ht
  | s :: r, m, h, t, ht => by
    simp only [exTmps] at h
    cases hx : exO N st.M gs (.tmp s) with
    | none => simp [hx] at h
    | some e =>
      cases hr : exTmps N st.M gs r with
      | none => simp [hx, hr] at h
      | some l' =>
        simp only [hx, hr, Option.some.injEq] at h; subst h
        by_cases hts : s = t
        · subst hts; exact ⟨e, by simp [findM], (exO_sound R hgs hx).symm⟩
        · rcases List.mem_cons.1 ht with rfl | ht
          · exact absurd rfl hts
          · obtain ⟨e', h1, h2⟩ := exTmps_sound R hgs r l' hr t ht
            refine ⟨e', ?_, h2⟩
            have hb : (s == t) = false := beq_eq_false_iff_ne.2 hts
            simpa [findM, List.find?_cons, hb] using h1

theorem rho_eq (R : Rel P ops N n D st a σ w) {gs : List (Nat × Bool)} (hgs : ∀ x ∈ gs, gOnA a (some x) = true) {o : Op} {m : List (Nat × HE)} (h : exTmps N st.M gs (opTmps o) = some m) :
    ∀ x ∈ o.operands, a.eval x = rho m σ w x := by
  intro x hx
  cases x with
  | tmp t =>
    obtain ⟨e, h1, h2⟩ := exTmps_sound R hgs _ m h t (by
      simp only [opTmps, List.mem_filterMap]; exact ⟨.tmp t, by simpa using hx, rfl⟩)
    simp only [rho, h1, h2]
  | _ => rfl

theorem stabs_sound (R : Rel P ops N n D st a σ w) {w' : World} : ∀ (F : List Nat) (l : List Stab), stabsOf N st F = some l → stabOK σ w w' l →
    (∀ j ∈ F, Keeps P ops j a w w') ∧ ∀ r ∈ st.R, F.contains r.j = true → (∃ r', st.R.find? (fun x => x.j == r.j) = some r' ∧ (gOnA a r'.g = true → c1 w' r'.f (val σ w r'.x)))
  | [], _, _, _ => ⟨by simp, by intro r _ h; simp at h⟩
  | j :: F, l, h, hs => by
    simp only [stabsOf] at h
    cases hf : st.R.find? (fun x => x.j == j) with
    | none => simp [hf] at h
    | some rd =>
      simp only [hf] at h
      cases hg : gExp N st.M rd.g with
      | none => simp [hg] at h
      | some ge =>
        cases hr : stabsOf N st F with
        | none => simp [hg, hr] at h
        | some l' =>
          simp only [hg, hr, Option.some.injEq] at h; subst h
          simp only [stabOK] at hs
          obtain ⟨h1, h2⟩ := stabs_sound R F l' hr hs.2
          have hj : rd.j = j := by have := List.find?_some hf; simpa using this
          obtain ⟨oj, e1, e2, e3, e4⟩ := R.rd rd (List.mem_of_find?_eq_some hf)
          rw [hj] at e1
          have hgo := gExp_sound R hg
          refine ⟨?_, ?_⟩
          · intro k hk
            rcases List.mem_cons.1 hk with rfl | hk
            · intro oj' q' ho' hq' hw _
              rw [e1] at ho'; obtain rfl := Option.some.inj ho'
              rw [e2] at hq'; obtain rfl := Option.some.inj hq'
              rw [wanted_eq e3] at hw
              obtain ⟨x1, x2⟩ := e4 hw
              obtain ⟨y1, y2⟩ := hs.1 (by rw [hgo]; exact hw)
              simp only [qchk, qval, x1]; exact ⟨y1, y2⟩
            · exact h1 k hk
          · intro r hr' hc
            by_cases hrj : r.j = j
            · rw [hrj]; exact ⟨rd, hf, fun hg' => (hs.1 (by rw [hgo]; exact hg')).1⟩
            · exact h2 r hr' (by simpa [hrj] using hc)

/-- one entry a reader: the decompiler lays a reader's row once -/
def nodupR (R : List Rd) : Prop := ∀ r ∈ R, ∀ r', R.find? (fun x => x.j == r.j) = some r' → r' = r

theorem Rel.turned (R : Rel P ops N n D st a σ w) (hn : nodupR st.R) {w' : World} {F : List Nat}
    (hF : ∀ r ∈ st.R, F.contains r.j = true → (∃ r', st.R.find? (fun x => x.j == r.j) = some r' ∧ (gOnA a r'.g = true → c1 w' r'.f (val σ w r'.x)))) :
    Rel P ops N n D (st.turned F) a σ w' := by
  refine ⟨R.size, R.defers, R.slot, ?_, ?_⟩
  · intro e he
    simp only [DS.turned, List.mem_filter, Bool.not_eq_true'] at he
    have := R.ent e he.1
    unfold EntOK at *
    rw [← val_pure (w := w) (w' := w') he.2]; exact this
  · intro r hr
    simp only [DS.turned, List.mem_filter, Bool.and_eq_true, Bool.not_eq_true'] at hr
    obtain ⟨oj, e1, e2, e3, e4⟩ := R.rd r hr.1
    refine ⟨oj, e1, e2, e3, fun hg => ?_⟩
    obtain ⟨r', h1, h2⟩ := hF r hr.1 hr.2.2
    have := hn r hr.1 r' h1
    subst this
    rw [← val_pure (w := w) (w' := w') hr.2.1]
    exact ⟨(e4 hg).1, h2 hg⟩

theorem find_filter {p q : Rd → Bool} : ∀ {l : List Rd} {r : Rd}, (l.filter p).find? q = some r → nodupR l → (∀ x y : Rd, q x = true → q y = true → x.j = y.j) → True := fun _ _ _ => trivial

theorem nodup_filter {l : List Rd} (p : Rd → Bool) (h : nodupR l) : nodupR (l.filter p) := by
  intro r hr r' hr'
  rw [List.mem_filter] at hr
  have hm := List.mem_of_find?_eq_some hr'
  have hj : r'.j = r.j := by have := List.find?_some hr'; simpa using this
  rw [List.mem_filter] at hm
  -- both are in l and have one number: each is what find? gives
  have key : ∀ x ∈ l, ∃ y, l.find? (fun z => z.j == x.j) = some y := by
    intro x hx
    cases hf : l.find? (fun z => z.j == x.j) with
    | some y => exact ⟨y, rfl⟩
    | none => rw [List.find?_eq_none] at hf; exact absurd (hf x hx) (by simp)
  obtain ⟨y1, hy1⟩ := key r hr.1
  obtain ⟨y2, hy2⟩ := key r' hm.1
  rw [hj] at hy2
  have a1 := h r hr.1 y1 hy1
  have : y1 = y2 := Option.some.inj (hy1.symm.trans hy2)
  have a2 := h r' hm.1 y2 (by rw [hj]; exact hy2)
  rw [← a1, this, a2]

theorem nodup_readers {i : Nat} {g : Option (Nat × Bool)} {f : F1} {x : Operand} (h : nodupR st.R) : nodupR (readers N st i g f x ++ st.R) := by
  unfold readers
  split
  · rename_i hc
    simp only [Bool.and_eq_true, Bool.not_eq_true', List.any_eq_false] at hc
    split
    · rename_i ex _
      intro r hr r' hr'
      simp only [List.cons_append, List.nil_append, List.mem_cons] at hr
      simp only [List.cons_append, List.nil_append, List.find?_cons] at hr'
      rcases hr with rfl | hr
      · simp at hr'; exact hr'.symm
      · split at hr'
        · rename_i hb; exact absurd hb (by have := hc.2 r hr; simp only [beq_iff_eq] at this ⊢; exact fun e => this e.symm)
        · exact h r hr r' hr'
    · simpa using h
  · simpa using h

theorem rd_readers (R : Rel P ops N n D st a σ w) {i : Nat} {o : Oper} {g : Option (Nat × Bool)} {f : F1} {x : Operand} (ho : ops[i]? = some o) (hg : guardOf ops o = some g) (hq : resolve P o.op = some (.q1 f x))
    (hc : gOnA a g = true → c1 w f (a.eval x)) : ∀ r ∈ readers N st i g f x ++ st.R, RdOK P ops a σ w r := by
  intro r hr
  rcases List.mem_append.1 hr with hr | hr
  · unfold readers at hr
    split at hr
    · split at hr
      · rename_i ex he
        simp only [List.mem_singleton] at hr; subst hr
        refine ⟨o, ho, hq, hg, fun h => ?_⟩
        have e := exO_sound R (gList_ok h) he
        exact ⟨e, by rw [← e]; exact hc h⟩
      · simp at hr
    · simp at hr
  · exact R.rd r hr

theorem dst_lt {o : Oper} {n : Nat} (h : ¬ dstBad n o.dst = true) : ∀ d : Nat, o.dst = some d → d < n := by
  intro d hd; simp only [hd, dstBad, decide_eq_true_eq] at h; omega

theorem putO (a : Act) (d : Option Nat) (v : Value) (hd : ∀ x, d = some x → x < n) (R : Rel P ops N n D st a σ w) (hN : ∀ x, d = some x → N.testBit x = true) :
    Rel P ops N n D (st.wrote d) (a.put d v) (updO σ d v) w := by
  cases d with
  | none => exact R
  | some d => exact R.wrote (hd d rfl) v _ (by rw [if_pos (hN d rfl)]; rfl)

theorem dstep_sound (hQ : ∀ c a w, a.defers = D → QP c w → Q (.panic c) a w) (R : Rel P ops N n D st a σ w) (hn : nodupR st.R) {i : Nat} {F : List Nat} {l rest : List HS} {st' : DS}
    (h : dstep P ops N n st i F = some (l, st')) {K' : Act → World → Prop} (H : hs P QP K (l ++ rest) σ w)
    (hK : ∀ a' σ' w', Rel P ops N n D st' a' σ' w' → nodupR st'.R → hs P QP K rest σ' w' → K' a' w') : stepC P ops Q i F K' a w := by
  unfold dstep at h
  cases ho : ops[i]? with
  | none => simp [ho] at h
  | some o =>
  simp only [ho] at h
  split at h
  · cases h
  rename_i hdst
  have hlt := dst_lt hdst
  cases hg : guardOf ops o with
  | none => simp [hg] at h
  | some g =>
  simp only [hg] at h
  cases hge : gExp N st.M g with
  | none => simp [hge] at h
  | some ge =>
  simp only [hge] at h
  have hgo := gExp_sound R hge
  unfold stepC
  simp only [ho, wanted_eq hg]
  cases hq : resolve P o.op with
  | some q =>
    simp only [hq] at h
    cases he : toHE N st.M (gList g) q with
    | none => simp [he] at h
    | some en =>
    obtain ⟨e, needs⟩ := en
    simp only [he] at h
    split at h
    · cases h
    rename_i hF
    have hF' : F = [] := by simpa using hF
    subst hF'
    -- the readers' row
    generalize hR' : readersQ N st i g q = R' at h
    have hs1 : ∃ ns2, l = needs.map (fun x => HS.need (under ge x)) ++ ns2 := by
      cases hd : o.dst with
      | none => simp only [hd, Option.some.injEq, Prod.mk.injEq] at h; exact ⟨[], by rw [← h.1]; simp⟩
      | some d =>
        simp only [hd] at h
        split at h
        · simp only [Option.some.injEq, Prod.mk.injEq] at h; exact ⟨_, h.1.symm⟩
        · split at h
          · cases h
          · simp only [Option.some.injEq, Prod.mk.injEq] at h; exact ⟨[], by rw [← h.1]; simp⟩
    obtain ⟨ns2, rfl⟩ := hs1
    rw [List.append_assoc] at H
    obtain ⟨hneeds, H2⟩ := hs_needs needs ge _ H
    have hq' : gOnA a g = true → qchk a.eval w q ∧ qval a.eval w q = val σ w e := fun hgt =>
      toHE_sound R (gList_ok hgt) he (fun x hx => chk_under (hneeds x hx) (by rw [hgo]; exact hgt))
    -- the state with the readers' row
    have hnd : nodupR (R' ++ st.R) := by
      subst hR'; cases q <;> first | exact nodup_readers hn | (simp only [readersQ, List.nil_append]; exact hn)
    have R1 : Rel P ops N n D { st with R := R' ++ st.R } a σ w := by
      refine ⟨R.size, R.defers, R.slot, R.ent, ?_⟩
      subst hR'
      cases q with
      | q1 f x => exact rd_readers R ho hg hq (fun hgt => (hq' hgt).1)
      | _ => exact R.rd
    -- what is written
    have fin : K' (a.put o.dst (val σ w (under ge e))) w := by
      cases hd : o.dst with
      | none =>
        simp only [hd, Option.some.injEq, Prod.mk.injEq] at h
        have h2 : ns2 = [] := by have := h.1; simpa using this.symm
        subst h2
        exact hK a σ w (by rw [← h.2]; exact R1) (by rw [← h.2]; exact hnd) H2
      | some d =>
        simp only [hd] at h
        split at h
        · rename_i hb
          simp only [Option.some.injEq, Prod.mk.injEq] at h
          have h2 : ns2 = [.asg d (under ge e)] := by have := h.1; exact (List.append_cancel_left this).symm
          subst h2
          refine hK _ (upd σ d (val σ w (under ge e))) w ?_ ?_ H2
          · rw [← h.2]; exact R1.wrote (hlt d hd) _ _ (by rw [if_pos hb])
          · rw [← h.2]; exact nodup_filter _ hnd
        · rename_i hb
          split at h
          · cases h
          rename_i hbad
          simp only [Bool.or_eq_true, not_or, Bool.not_eq_true] at hbad
          simp only [Option.some.injEq, Prod.mk.injEq] at h
          have h2 : ns2 = [] := by have := h.1; simpa using this.symm
          subst h2
          have R2 := R1.wrote (hlt d hd) (val σ w (under ge e)) σ (by rw [if_neg hb])
          refine hK _ σ w ?_ (by rw [← h.2]; exact nodup_filter _ hnd) H2
          rw [← h.2]
          refine ⟨R2.size, R2.defers, R2.slot, ?_, R2.rd⟩
          intro x hx
          rcases List.mem_cons.1 hx with rfl | hx
          · unfold EntOK
            rw [gOnA_put hbad.1, put_eval_eq _ (show d < a.tmps.size by rw [R.size]; exact hlt d hd), val_under, hgo]
            by_cases hgt : gOnA a g = true
            · rw [if_pos hgt, if_pos hgt]
            · rw [if_neg hgt, if_neg hgt]
          · exact R2.ent x hx
    by_cases hgt : gOnA a g = true
    · rw [if_pos hgt]
      obtain ⟨c, v⟩ := hq' hgt
      refine ⟨c, ?_⟩
      rw [v]
      rw [val_under, hgo, if_pos hgt] at fin
      exact fin
    · rw [if_neg hgt]
      rw [val_under, hgo, if_neg hgt] at fin
      exact fin
  | none =>
    simp only [hq] at h
    split at h
    · cases h
    rename_i hsel
    split at h
    · cases h
    rename_i hnb
    have hNd : ∀ x, o.dst = some x → N.testBit x = true := by
      intro x hx; simp only [hx, dstNot, Bool.not_eq_true', Bool.not_eq_false] at hnb; exact hnb
    cases hm : exTmps N st.M (gList g) (opTmps o.op) with
    | none => simp [hm] at h
    | some m =>
    cases hst : stabsOf N st F with
    | none => simp [hm, hst] at h
    | some stab =>
    simp only [hm, hst, Option.some.injEq, Prod.mk.injEq] at h
    obtain ⟨rfl, rfl⟩ := h
    simp only [List.cons_append, List.nil_append, hs] at H
    have hnsel : ∀ cs b, o.op ≠ .select cs b := by intro cs b hc; rw [hc] at hsel; exact hsel rfl
    have run_eq : gOnA a g = true → (execOp a.eval o) = execOp (rho m σ w) { dst := none, op := o.op, type := o.type, pos := "", after := #[], guard := none } := by
      intro hgt
      rw [execOp_congr o hnsel (rho_eq R (gList_ok hgt) hm), execOp_same]
    have go : gOnA a g = true → heff P o.op o.type (rho m σ w) w (fun v w' => stabOK σ w w' stab ∧ hs P QP K rest (updO σ o.dst v) w') QP →
        o.wp P a w (fun a' w' => (∀ j ∈ F, Keeps P ops j a w w') ∧ K' a' w') Q := by
      intro hgt hh
      have step : ∀ (v : Value) (w' : World), stabOK σ w w' stab ∧ hs P QP K rest (updO σ o.dst v) w' → (∀ j ∈ F, Keeps P ops j a w w') ∧ K' (a.put o.dst v) w' := by
        intro v w' ⟨h1, h2⟩
        obtain ⟨k1, k2⟩ := stabs_sound R F stab hst h1
        refine ⟨k1, hK _ _ w' (putO a o.dst v hlt (R.turned hn k2) hNd) ?_ h2⟩
        cases hd : o.dst with
        | none => exact nodup_filter _ hn
        | some d => exact nodup_filter _ (nodup_filter _ hn)
      unfold heff at hh
      unfold Oper.wp
      rw [run_eq hgt]
      have hdf : ∀ d w', ((execOp (rho m σ w) { dst := none, op := o.op, type := o.type, pos := "", after := #[], guard := none }).run P w) = .ok (.defer d) w' → False := by
        intro d w' hr; rw [hr] at hh; exact hh
      generalize ((execOp (rho m σ w) { dst := none, op := o.op, type := o.type, pos := "", after := #[], guard := none }).run P w) = r at hh hdf
      cases r with
      | ok nx w' =>
        cases nx <;> simp only [effUpon] at hh <;> simp only [Oper.upon]
        case value v => exact step v w' hh
        case skip => exact step undef w' hh
        case enter f args =>
          refine Calls.mono hh fun e w'' he => ?_
          cases e with
          | returned v => exact step v w'' he
          | panicked c => exact hQ c a w'' R.defers he
          | outgrown => exact he.elim
        case row row args => exact Rows.mono hh fun v w'' he => step v w'' he
      | halt x w' =>
        cases x <;> simp only [effUpon] at hh <;> simp only [Oper.upon]
        case panic v => exact hQ _ a w' R.defers hh
    cases ge with
    | none =>
      have hgt : gOnA a g = true := by rw [← hgo]; rfl
      rw [if_pos hgt]
      exact go hgt H
    | some p =>
      obtain ⟨c, want⟩ := p
      simp only at H
      by_cases hgt : gOnA a g = true
      · rw [if_pos hgt]
        exact go hgt (H.1 (by rw [← hgt, ← hgo]; rfl))
      · rw [if_neg hgt]
        have hgf : isB want (val σ w c) = false := by
          have : gOn σ w (some (c, want)) = isB want (val σ w c) := rfl
          rw [← this, hgo]; simpa using hgt
        -- the world has not turned: what is known stays known, but the decompiler has dropped it
        refine hK _ _ w (putO a o.dst undef hlt ?_ hNd) ?_ (H.2 hgf)
        · exact ⟨R.size, R.defers, R.slot, fun e he => R.ent e (List.mem_filter.1 he).1, fun r hr => R.rd r (List.mem_filter.1 hr).1⟩
        · cases hd : o.dst with
          | none => exact nodup_filter _ hn
          | some d => exact nodup_filter _ (nodup_filter _ hn)

theorem dlist_sound (hQ : ∀ c a w, a.defers = D → QP c w → Q (.panic c) a w) {K' : Act → World → Prop}
    (hK : ∀ a' σ' w', a'.tmps.size = n → a'.defers = D → (∀ t, N.testBit t = true → a'.eval (.tmp t) = σ' t) → K σ' w' → K' a' w') :
    ∀ (L : List (Nat × List Nat)) (st : DS) (a : Act) (σ : Env) (w : World) (l : List HS), Rel P ops N n D st a σ w → nodupR st.R → dlist P ops N n st L = some l → hs P QP K l σ w → wpC P ops Q K' L a w
  | [], st, a, σ, w, l, R, _, h, H => by
    simp only [dlist, Option.some.injEq] at h; subst h
    exact hK a σ w R.size R.defers R.slot H
  | (i, F) :: L, st, a, σ, w, l, R, hn, h, H => by
    simp only [dlist] at h
    cases hs : dstep P ops N n st i F with
    | none => simp [hs] at h
    | some p =>
      obtain ⟨l1, st'⟩ := p
      simp only [hs, Option.map_eq_some_iff] at h
      obtain ⟨l2, h2, rfl⟩ := h
      exact dstep_sound hQ R hn hs H (fun a' σ' w' R' hn' H' => dlist_sound hQ hK L st' a' σ' w' l2 R' hn' h2 H')
end
end Go.HL
