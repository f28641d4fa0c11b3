/- RI: the reference's disk: turn, copy. -/
import Derived.Test.YtgalileklafbbaaRH
set_option linter.unusedSimpArgs false
set_option linter.unusedVariables false
set_option maxRecDepth 100000
namespace Go.Proofs.Y
open Go Go.HL Go.Proofs

section
variable {w : World} {next : Value → World → Prop} {QP : List PanicEntry → World → Prop} {p : Nat} {d : Dk} {S : Nat → Prop}

theorem may_two (f g : Int) : d.may [f, g] = if d.may [f] ≠ 0 then d.may [f] else d.may [g] := by
  unfold Dk.may
  cases h1 : d.down <;> cases h2 : isF f <;> cases h3 : isF g <;> simp [h2, h3]
theorem wo_len (q : List Pd) (g : Nat) : decide ((wo q g).length = q.length) = !(q.any fun p => decide ((p.file : Int) = g)) := by
  induction q with
  | nil => rfl
  | cons x q ih =>
    have hle : (wo q g).length ≤ q.length := List.length_filter_le _ _
    unfold wo at *
    by_cases hx : x.file = g
    · rw [List.filter_cons_of_neg (by simp [hx])]
      have : ¬ (q.filter fun p => !decide (p.file = g)).length = (x :: q).length := by simp; omega
      rw [decide_eq_false this]; simp [hx]
    · rw [List.filter_cons_of_pos (by simp [hx])]
      have e : (x.file : Int) ≠ g := by omega
      simp only [List.length_cons, List.any_cons, Nat.add_right_cancel_iff]
      rw [ih]; simp [e]
theorem wo_none {q : List Pd} {g : Nat} (h : (q.any fun p => decide ((p.file : Int) = g)) = false) : wo q g = q := by
  unfold wo
  rw [List.filter_eq_self]
  intro x hx
  have := List.any_eq_false.1 h x hx
  simp at this ⊢; omega

theorem rturn_ (h : RR w p d S) {f g : Int} (hqn : d.queue.length ≤ 1000000000000) (k : ∀ w', RT S w w' p (d.turn f g) → next (.int .i64 (d.turnR f g)) w') :
    callvK Try.prog (.func (.func 76) #[] #[]) [ptr p, .int .i64 f, .int .i64 g] w next QP := by
  refine r76 rfl ?_
  unfold h76
  try simp only [go_sem, ↓reduceIte, Nat.reduceEqDiff, Nat.reduceAdd, Nat.reduceLT, List.length_cons, List.length_nil, List.getElem?_cons_zero, List.getElem?_cons_succ, Nat.mul_one, Bool.true_eq_false, Bool.false_eq_true, false_implies, true_implies, Bool.not_true, Bool.not_false, decide_true, decide_false, Int.reduceToNat, Int.cast_ofNat_Int, Int.reduceLT, Int.reduceLE, Int.reduceEq, Int.reduceNeg, eq_self, Option.isNone_some, Option.isNone_none, Bool.bne_false, Bool.bne_true]
  refine rcomes_ h (f := 0) (a := 0) (s := []) (by simpa using hqn) ?_
  rw [comes_pre]
  intro w1 rt
  have hqp := pre_queue d
  try simp only [go_sem, ↓reduceIte, Nat.reduceEqDiff, Nat.reduceAdd, Nat.reduceLT, List.length_cons, List.length_nil, List.getElem?_cons_zero, List.getElem?_cons_succ, Nat.mul_one, Bool.true_eq_false, Bool.false_eq_true, false_implies, true_implies, Bool.not_true, Bool.not_false, decide_true, decide_false, Int.reduceToNat, Int.cast_ofNat_Int, Int.reduceLT, Int.reduceLE, Int.reduceEq, Int.reduceNeg, eq_self, Option.isNone_some, Option.isNone_none, Bool.bne_false, Bool.bne_true]
  refine rmay_ rt.rr f ?_
  simp only [Dk.turn, Dk.turnR, may_two] at k
  try simp only [go_sem, ↓reduceIte, Nat.reduceEqDiff, Nat.reduceAdd, Nat.reduceLT, List.length_cons, List.length_nil, List.getElem?_cons_zero, List.getElem?_cons_succ, Nat.mul_one, Bool.true_eq_false, Bool.false_eq_true, false_implies, true_implies, Bool.not_true, Bool.not_false, decide_true, decide_false, Int.reduceToNat, Int.cast_ofNat_Int, Int.reduceLT, Int.reduceLE, Int.reduceEq, Int.reduceNeg, eq_self, Option.isNone_some, Option.isNone_none, Bool.bne_false, Bool.bne_true]
  refine ⟨fun hm => ?_, fun hm => ?_⟩
  · have hm : ¬ d.pre.may [f] = 0 := by simpa using hm
    simp only [if_pos hm] at k
    exact k _ rt
  · have hm : d.pre.may [f] = 0 := by simpa using hm
    have hne : ¬ (d.pre.may [f] ≠ 0) := fun h => h hm
    simp only [if_neg hne] at k
    unfold h76_1
    try simp only [go_sem, ↓reduceIte, Nat.reduceEqDiff, Nat.reduceAdd, Nat.reduceLT, List.length_cons, List.length_nil, List.getElem?_cons_zero, List.getElem?_cons_succ, Nat.mul_one, Bool.true_eq_false, Bool.false_eq_true, false_implies, true_implies, Bool.not_true, Bool.not_false, decide_true, decide_false, Int.reduceToNat, Int.cast_ofNat_Int, Int.reduceLT, Int.reduceLE, Int.reduceEq, Int.reduceNeg, eq_self, Option.isNone_some, Option.isNone_none, Bool.bne_false, Bool.bne_true]
    refine rmay_ rt.rr g ?_
    try simp only [go_sem, ↓reduceIte, Nat.reduceEqDiff, Nat.reduceAdd, Nat.reduceLT, List.length_cons, List.length_nil, List.getElem?_cons_zero, List.getElem?_cons_succ, Nat.mul_one, Bool.true_eq_false, Bool.false_eq_true, false_implies, true_implies, Bool.not_true, Bool.not_false, decide_true, decide_false, Int.reduceToNat, Int.cast_ofNat_Int, Int.reduceLT, Int.reduceLE, Int.reduceEq, Int.reduceNeg, eq_self, Option.isNone_some, Option.isNone_none, Bool.bne_false, Bool.bne_true]
    refine ⟨fun hm2 => ?_, fun hm2 => ?_⟩
    · have hm2 : ¬ d.pre.may [g] = 0 := by simpa using hm2
      simp only [if_pos hm2] at k
      exact k _ rt
    · have hm2 : d.pre.may [g] = 0 := by simpa using hm2
      have hne2 : ¬ (d.pre.may [g] ≠ 0) := fun h => h hm2
      simp only [if_neg hne2] at k
      obtain ⟨hd, f', rfl, hf⟩ := isF_of_may hm
      obtain ⟨-, g', rfl, hg⟩ := isF_of_may hm2
      unfold h76_2
      try simp only [go_sem, ↓reduceIte, Nat.reduceEqDiff, Nat.reduceAdd, Nat.reduceLT, List.length_cons, List.length_nil, List.getElem?_cons_zero, List.getElem?_cons_succ, Nat.mul_one, Bool.true_eq_false, Bool.false_eq_true, false_implies, true_implies, Bool.not_true, Bool.not_false, decide_true, decide_false, Int.reduceToNat, Int.cast_ofNat_Int, Int.reduceLT, Int.reduceLE, Int.reduceEq, Int.reduceNeg, eq_self, Option.isNone_some, Option.isNone_none, Bool.bne_false, Bool.bne_true]
      refine ⟨fun he => ?_, fun he => ?_⟩
      · have he : (f' : Int) = g' := by simpa using he
        simp only [if_pos he] at k
        exact k _ rt
      · have he : ¬ (f' : Int) = g' := by simpa using he
        simp only [if_neg he] at k
        have rt1 := rt.mod0 (Mod.drew none' w1)
        obtain ⟨lv, qv, kv, hb, hl, hq, hk, h1, h2, h3, c0, c1, c2, c3, c4, c5⟩ := rt1.rr.parts
        obtain ⟨qa, qc, rfl, hqc, -⟩ := hq.form
        have c1' : w1.cell? ⟨p, 1, none⟩ = _ := c1
        unfold h76_3
        try simp only [go_sem, ↓reduceIte, Nat.reduceEqDiff, Nat.reduceAdd, Nat.reduceLT, List.length_cons, List.length_nil, List.getElem?_cons_zero, List.getElem?_cons_succ, Nat.mul_one, Bool.true_eq_false, Bool.false_eq_true, false_implies, true_implies, Bool.not_true, Bool.not_false, decide_true, decide_false, Int.reduceToNat, Int.cast_ofNat_Int, Int.reduceLT, Int.reduceLE, Int.reduceEq, Int.reduceNeg, eq_self, Option.isNone_some, Option.isNone_none, Bool.bne_false, Bool.bne_true, c1']
        refine rwithout_ (p := p) c1 hq (f := g') (by omega) ?_
        intro v2 w2 m2 own2 hn2
        obtain ⟨va, vc, rfl, -, -⟩ := own2.form
        have c1'' := m2.cell c1 fun h => h
        have hwl := wo_len d.pre.queue g'
        have ew : decide (((wo d.pre.queue g').length : Int) = d.pre.queue.length) = !d.pre.pends g' := by
          rw [show decide (((wo d.pre.queue g').length : Int) = d.pre.queue.length) = decide ((wo d.pre.queue g').length = d.pre.queue.length) by congr 1; apply propext; omega]
          exact hwl
        try simp only [go_sem, ↓reduceIte, Nat.reduceEqDiff, Nat.reduceAdd, Nat.reduceLT, List.length_cons, List.length_nil, List.getElem?_cons_zero, List.getElem?_cons_succ, Nat.mul_one, Bool.true_eq_false, Bool.false_eq_true, false_implies, true_implies, Bool.not_true, Bool.not_false, decide_true, decide_false, Int.reduceToNat, Int.cast_ofNat_Int, Int.reduceLT, Int.reduceLE, Int.reduceEq, Int.reduceNeg, eq_self, Option.isNone_some, Option.isNone_none, Bool.bne_false, Bool.bne_true, c1'', ew, Bool.not_not]
        refine ⟨fun hp => ?_, fun hp => ?_⟩
        · simp only [hp, if_true] at k
          exact k _ (rt1.mod0 m2)
        · simp only [hp, Bool.false_eq_true, if_false, Int.toNat_natCast] at k
          have rt2 := (rt1.mod0 m2).mod0 (Mod.drew none' w2)
          obtain ⟨lv, qv, kv, hb, hl, hq, hk, h1, h2, h3, c0, c1, c2, c3, c4, c5⟩ := rt2.rr.parts
          obtain ⟨gg, c, rfl, x0⟩ := last_at hl
          have c0' : w2.cell? ⟨p, 0, none⟩ = _ := c0
          have xg : w2.cell? ⟨gg, g', none⟩ = _ := x0 g' hg
          have hgS := h1 gg rfl
          unfold h76_4
          try simp only [go_sem, ↓reduceIte, Nat.reduceEqDiff, Nat.reduceAdd, Nat.reduceLT, List.length_cons, List.length_nil, List.getElem?_cons_zero, List.getElem?_cons_succ, Nat.mul_one, Bool.true_eq_false, Bool.false_eq_true, false_implies, true_implies, Bool.not_true, Bool.not_false, decide_true, decide_false, Int.reduceToNat, Int.cast_ofNat_Int, Int.reduceLT, Int.reduceLE, Int.reduceEq, Int.reduceNeg, eq_self, Option.isNone_some, Option.isNone_none, Bool.bne_false, Bool.bne_true, c0', xg]
          repeat refine ⟨⟨by omega, by omega⟩, ?_⟩
          refine last_st hl hf _ ?_
          intro w3 hl3 m3
          have c03 := m3.cell c0 fun e => hgS.2.1 e.symm
          try simp only [go_sem, ↓reduceIte, Nat.reduceEqDiff, Nat.reduceAdd, Nat.reduceLT, List.length_cons, List.length_nil, List.getElem?_cons_zero, List.getElem?_cons_succ, Nat.mul_one, Bool.true_eq_false, Bool.false_eq_true, false_implies, true_implies, Bool.not_true, Bool.not_false, decide_true, decide_false, Int.reduceToNat, Int.cast_ofNat_Int, Int.reduceLT, Int.reduceLE, Int.reduceEq, Int.reduceNeg, eq_self, Option.isNone_some, Option.isNone_none, Bool.bne_false, Bool.bne_true, c03]
          repeat refine ⟨⟨by omega, by omega⟩, ?_⟩
          refine last_st hl3 hg [] ?_
          intro w4 hl4 m4
          try simp only [go_sem, ↓reduceIte, Nat.reduceEqDiff, Nat.reduceAdd, Nat.reduceLT, List.length_cons, List.length_nil, List.getElem?_cons_zero, List.getElem?_cons_succ, Nat.mul_one, Bool.true_eq_false, Bool.false_eq_true, false_implies, true_implies, Bool.not_true, Bool.not_false, decide_true, decide_false, Int.reduceToNat, Int.cast_ofNat_Int, Int.reduceLT, Int.reduceLE, Int.reduceEq, Int.reduceNeg, eq_self, Option.isNone_some, Option.isNone_none, Bool.bne_false, Bool.bne_true]
          have m24 := m3.trans' m4
          have hfl : (d.pre.lasts.getD g' []).length ≤ 16777216 := by
            have : d.pre.lasts.getD g' [] = d.pre.lasts[g']'(by rw [rt2.rr.ok.nl]; exact hg) := by simp [rt2.rr.ok.nl, hg]
            rw [this]; exact rt2.rr.ok.bl _ (List.getElem_mem _)
          refine settle_end (d' := (d.pre.settle f' (d.pre.last g')).settle g' []) rt2.rr (m24.mono fun k _ (e : k = gg) => e ▸ hgS.1) (hb.mod m24 fun e => hgS.2.1 e.symm) hl4 (hq.mod m24 fun k hk (e : k = gg) => hgS.2.2.1 (e ▸ hk)) (hk.mod m24 fun k hk (e : k = gg) => hgS.2.2.2 (e ▸ hk)) (by omega)
            ((rt2.rr.ok.settle f' hfl).settle g' (by simp)) ((rt2.rr.sync.settle rt2.rr.ok hf _).settle (rt2.rr.ok.settle f' hfl) hg _) ?_ (fun k hk => ⟨.inl (h1 k hk).1, (h1 k hk).2.1⟩) (fun k hk => ⟨.inl (h3 k hk).1, (h3 k hk).2.1⟩) ?_
          · show ((d.pre.queue.filter _).filter _) = _
            rw [List.filter_filter]
            unfold wo
            apply List.filter_congr
            intro x hx
            have := List.any_eq_false.1 hp x hx
            have hxg : x.file ≠ g' := by simp at this; omega
            simp [hxg]
          · intro w5 u5 v5 rt5
            unfold h76_5
            try simp only [go_sem, ↓reduceIte, Nat.reduceEqDiff, Nat.reduceAdd, Nat.reduceLT, List.length_cons, List.length_nil, List.getElem?_cons_zero, List.getElem?_cons_succ, Nat.mul_one, Bool.true_eq_false, Bool.false_eq_true, false_implies, true_implies, Bool.not_true, Bool.not_false, decide_true, decide_false, Int.reduceToNat, Int.cast_ofNat_Int, Int.reduceLT, Int.reduceLE, Int.reduceEq, Int.reduceNeg, eq_self, Option.isNone_some, Option.isNone_none, Bool.bne_false, Bool.bne_true]
            exact k _ (rt2.trans rt5)

/-- three copies in the making -/
structure CB (w0 w : World) (v1 v2 v3 : Value) (n1 n2 n3 : Nat) (x1 x2 x3 : List Value) : Prop where
  o1 : Own w v1 9 1 n1 x1
  o2 : Own w v2 118 3 n2 x2
  o3 : Own w v3 3 1 n3 x3
  f1 : ∀ k, v1.ownBlock = some k → w0.heap.size ≤ k
  f2 : ∀ k, v2.ownBlock = some k → w0.heap.size ≤ k
  f3 : ∀ k, v3.ownBlock = some k → w0.heap.size ≤ k
  m : Mod none' w0 w
section
variable {w0 : World} {v1 v2 v3 : Value} {n1 n2 n3 : Nat} {x1 x2 x3 : List Value}
theorem CB.start (w : World) : CB w w (.slice none 0 0) (.slice none 0 0) (.slice none 0 0) 0 0 0 [] [] [] :=
  ⟨Own.nil _ _ _, Own.nil _ _ _, Own.nil _ _ _, fun k hk => (nomatch (hk : none = some k)), fun k hk => (nomatch (hk : none = some k)), fun k hk => (nomatch (hk : none = some k)), Mod.refl _ _⟩
theorem CB.drew (h : CB w0 w v1 v2 v3 n1 n2 n3 x1 x2 x3) : CB w0 w.drew v1 v2 v3 n1 n2 n3 x1 x2 x3 :=
  ⟨h.o1, h.o2, h.o3, h.f1, h.f2, h.f3, h.m.trans' (Mod.drew _ _)⟩
theorem CB.b1 (h : CB w0 w v1 v2 v3 n1 n2 n3 x1 x2 x3) (k : ∀ w' b, CB w0 w' (.slice (some ⟨b, 0, none⟩) 0 0) v2 v3 0 n2 n3 [] x2 x3 → next (.slice (some ⟨b, 0, none⟩) 0 0) w') : bslK Try.prog 40 0 [] w next QP := by
  refine bsl0 sl40 ?_
  intro b w' hb own m hs
  exact k w' b ⟨own, h.o2.mod m fun _ _ h => h, h.o3.mod m fun _ _ h => h, fun k hk => by have := h.m.size; simp [Value.ownBlock] at hk; omega, h.f2, h.f3, h.m.trans' m⟩
theorem CB.b2 (h : CB w0 w v1 v2 v3 n1 n2 n3 x1 x2 x3) (k : ∀ w' b, CB w0 w' v1 (.slice (some ⟨b, 0, none⟩) 0 0) v3 n1 0 n3 x1 [] x3 → next (.slice (some ⟨b, 0, none⟩) 0 0) w') : bslK Try.prog 97 0 [] w next QP := by
  refine bsl0 sl118 ?_
  intro b w' hb own m hs
  exact k w' b ⟨h.o1.mod m fun _ _ h => h, own, h.o3.mod m fun _ _ h => h, h.f1, fun k hk => by have := h.m.size; simp [Value.ownBlock] at hk; omega, h.f3, h.m.trans' m⟩
theorem CB.b3 (h : CB w0 w v1 v2 v3 n1 n2 n3 x1 x2 x3) (k : ∀ w' b, CB w0 w' v1 v2 (.slice (some ⟨b, 0, none⟩) 0 0) n1 n2 0 x1 x2 [] → next (.slice (some ⟨b, 0, none⟩) 0 0) w') : bslK Try.prog 22 0 [] w next QP := by
  refine bsl0 sl22 ?_
  intro b w' hb own m hs
  exact k w' b ⟨h.o1.mod m fun _ _ h => h, h.o2.mod m fun _ _ h => h, own, h.f1, h.f2, fun k hk => by have := h.m.size; simp [Value.ownBlock] at hk; omega, h.m.trans' m⟩
theorem CB.a1 {xv : Value} {m : Nat} {ys : List Value} (h : CB w0 w v1 v2 v3 0 n2 n3 [] x2 x3) (hx : Sl w0 xv 1 m ys) (hy : ∀ u ∈ ys, u.oneCell' = true) (hm : m ≤ 1000000000000) (k : ∀ w' a c, CB w0 w' (.slice a m c) v2 v3 m n2 n3 ys x2 x3 → next (.slice a m c) w') : appK Try.prog #[40, 40] 40 v1 xv w next QP := by
  refine append_ sl40 h.o1 (hx.mod h.m fun _ _ h => h) hy (by omega) (by unfold maxLen; omega) ?_
  intro v' w' own m' hb _
  obtain ⟨a, c, rfl, -, -⟩ := own.form
  rw [Nat.zero_add] at own hb ⊢
  refine k w' a c ⟨by simpa using own, h.o2.mod m' fun k hk hS => own_ne h.o1 h.o2 (by decide) hS hk, h.o3.mod m' fun k hk hS => own_ne h.o1 h.o3 (by decide) hS hk, fun k hk => ?_, h.f2, h.f3, h.m.trans m' fun k hk hS => by have := h.f1 k hS; omega⟩
  rcases hb k hk with h' | h'
  · exact h.f1 k h'
  · have := h.m.size; omega
theorem CB.a2 {xv : Value} {m : Nat} {ys : List Value} (h : CB w0 w v1 v2 v3 n1 0 n3 x1 [] x3) (hx : Sl w0 xv 3 m ys) (hy : ∀ u ∈ ys, u.oneCell' = true) (hm : m ≤ 1000000000000) (k : ∀ w' a c, CB w0 w' v1 (.slice a m c) v3 n1 m n3 x1 ys x3 → next (.slice a m c) w') : appK Try.prog #[97, 97] 97 v2 xv w next QP := by
  refine append_ sl118 h.o2 (hx.mod h.m fun _ _ h => h) hy (by omega) (by unfold maxLen; omega) ?_
  intro v' w' own m' hb _
  obtain ⟨a, c, rfl, -, -⟩ := own.form
  rw [Nat.zero_add] at own hb ⊢
  refine k w' a c ⟨h.o1.mod m' fun k hk hS => own_ne h.o2 h.o1 (by decide) hS hk, by simpa using own, h.o3.mod m' fun k hk hS => own_ne h.o2 h.o3 (by decide) hS hk, h.f1, fun k hk => ?_, h.f3, h.m.trans m' fun k hk hS => by have := h.f2 k hS; omega⟩
  rcases hb k hk with h' | h'
  · exact h.f2 k h'
  · have := h.m.size; omega
theorem CB.a3 {xv : Value} {m : Nat} {ys : List Value} (h : CB w0 w v1 v2 v3 n1 n2 0 x1 x2 []) (hx : Sl w0 xv 1 m ys) (hy : ∀ u ∈ ys, u.oneCell' = true) (hm : m ≤ 9000000000000) (k : ∀ w' a c, CB w0 w' v1 v2 (.slice a m c) n1 n2 m x1 x2 ys → next (.slice a m c) w') : appK Try.prog #[22, 22] 22 v3 xv w next QP := by
  refine append_ sl22 h.o3 (hx.mod h.m fun _ _ h => h) hy (by omega) (by unfold maxLen; omega) ?_
  intro v' w' own m' hb _
  obtain ⟨a, c, rfl, -, -⟩ := own.form
  rw [Nat.zero_add] at own hb ⊢
  refine k w' a c ⟨h.o1.mod m' fun k hk hS => own_ne h.o3 h.o1 (by decide) hS hk, h.o2.mod m' fun k hk hS => own_ne h.o3 h.o2 (by decide) hS hk, by simpa using own, h.f1, h.f2, fun k hk => ?_, h.m.trans m' fun k hk hS => by have := h.f3 k hS; omega⟩
  rcases hb k hk with h' | h'
  · exact h.f3 k h'
  · have := h.m.size; omega
end

attribute [local irreducible] bslK appK boxK
set_option maxHeartbeats 1000000 in
theorem rcopy_ (h : RR w p d S) (hqn : d.queue.length ≤ 1000000000) (hkn : d.keep.length ≤ 9000000000000) (k : ∀ p' w', w.heap.size ≤ p' → RT none' w w' p' d → next (ptr p') w') : callvK Try.prog (.func (.func 36) #[] #[]) [ptr p] w next QP := by
  refine r36 rfl ?_
  obtain ⟨lv, qv, kv, hb, hl, hq, hk, h1, h2, h3, c0, c1, c2, c3, c4, c5⟩ := h.parts
  have y1 : ∀ u ∈ d.lasts.map str, u.oneCell' = true := by intro u hu; obtain ⟨x, -, rfl⟩ := List.mem_map.1 hu; rfl
  have y2 : ∀ u ∈ rows Pd.cells d.queue, u.oneCell' = true := by
    intro u hu; obtain ⟨x, -, hx⟩ := List.mem_flatMap.1 hu; exact Pd.one x u hx
  have y3 : ∀ u ∈ ints d.keep, u.oneCell' = true := by intro u hu; obtain ⟨x, -, rfl⟩ := List.mem_map.1 hu; rfl
  have fin : ∀ (w1 : World) (a b c : Value), CB w w1 a b c 12 d.queue.length d.keep.length (d.lasts.map str) (rows Pd.cells d.queue) (ints d.keep) →
      boxK Try.prog 99 (.agg #[a, b, .int .i64 d.lost, .bool d.down, .int .i64 d.armed, c]) w1 next noPanic := by
    intro w1 a b c H
    refine box_ (cs := [a, b, .int .i64 d.lost, .bool d.down, .int .i64 d.armed, c]) rfl ?_
    intro p' w2 hp' blk2 m2 hs2
    have hs := H.m.size
    refine k p' w2 (by omega) ⟨fun k => k = p' ∨ a.ownBlock = some k ∨ b.ownBlock = some k ∨ c.ownBlock = some k, ⟨h.ok, h.sync, ⟨a, b, c, blk2, H.o1.mod m2 fun _ _ h => h, H.o2.mod m2 fun _ _ h => h, H.o3.mod m2 fun _ _ h => h, fun k hk => .inr (.inl hk), fun k hk => .inr (.inr (.inl hk)), fun k hk => .inr (.inr (.inr hk))⟩, .inl rfl, ?_⟩, ?_, H.m.trans' m2⟩
    · rintro k (rfl | hk | hk | hk)
      · omega
      · have := H.o1.lt k hk; omega
      · have := H.o2.lt k hk; omega
      · have := H.o3.lt k hk; omega
    · rintro k (rfl | hk | hk | hk) <;> right
      · omega
      · exact H.f1 k hk
      · exact H.f2 k hk
      · exact H.f3 k hk
  have H := (CB.start w).drew
  unfold h36
  try simp only [go_sem, ↓reduceIte, Nat.reduceEqDiff, Nat.reduceAdd, Nat.reduceLT, List.length_cons, List.length_nil, List.getElem?_cons_zero, List.getElem?_cons_succ, Nat.mul_one, Bool.true_eq_false, Bool.false_eq_true, false_implies, true_implies, Bool.not_true, Bool.not_false, decide_true, decide_false, Int.reduceToNat, Int.cast_ofNat_Int, Int.reduceLT, Int.reduceLE, Int.reduceEq, Int.reduceNeg, eq_self, Option.isNone_some, Option.isNone_none, Bool.bne_false, Bool.bne_true, c0, c1, c2, c3, c4, c5]
  have k0 := H.m.cell c0 fun h => h
  have k1 := H.m.cell c1 fun h => h
  have k2 := H.m.cell c2 fun h => h
  have k3 := H.m.cell c3 fun h => h
  have k4 := H.m.cell c4 fun h => h
  have k5 := H.m.cell c5 fun h => h
  repeat' first
    | exact fin _ _ _ _ H
    | exact ⟨by decide, by simp, by simp, by simp, by simp, by simp, fin _ _ _ _ H⟩
    | refine ⟨?_, ?_⟩
    | (refine H.b1 ?_; intro w' b H; have k0 := H.m.cell c0 fun h => h; have k1 := H.m.cell c1 fun h => h; have k2 := H.m.cell c2 fun h => h; have k3 := H.m.cell c3 fun h => h; have k4 := H.m.cell c4 fun h => h; have k5 := H.m.cell c5 fun h => h; try simp only [go_sem, ↓reduceIte, Nat.reduceEqDiff, Nat.reduceAdd, Nat.reduceLT, List.length_cons, List.length_nil, List.getElem?_cons_zero, List.getElem?_cons_succ, Nat.mul_one, Bool.true_eq_false, Bool.false_eq_true, false_implies, true_implies, Bool.not_true, Bool.not_false, decide_true, decide_false, Int.reduceToNat, Int.cast_ofNat_Int, Int.reduceLT, Int.reduceLE, Int.reduceEq, Int.reduceNeg, eq_self, Option.isNone_some, Option.isNone_none, Bool.bne_false, Bool.bne_true, k0, k1, k2, k3, k4, k5])
    | (refine H.b2 ?_; intro w' b H; have k0 := H.m.cell c0 fun h => h; have k1 := H.m.cell c1 fun h => h; have k2 := H.m.cell c2 fun h => h; have k3 := H.m.cell c3 fun h => h; have k4 := H.m.cell c4 fun h => h; have k5 := H.m.cell c5 fun h => h; try simp only [go_sem, ↓reduceIte, Nat.reduceEqDiff, Nat.reduceAdd, Nat.reduceLT, List.length_cons, List.length_nil, List.getElem?_cons_zero, List.getElem?_cons_succ, Nat.mul_one, Bool.true_eq_false, Bool.false_eq_true, false_implies, true_implies, Bool.not_true, Bool.not_false, decide_true, decide_false, Int.reduceToNat, Int.cast_ofNat_Int, Int.reduceLT, Int.reduceLE, Int.reduceEq, Int.reduceNeg, eq_self, Option.isNone_some, Option.isNone_none, Bool.bne_false, Bool.bne_true, k0, k1, k2, k3, k4, k5])
    | (refine H.b3 ?_; intro w' b H; have k0 := H.m.cell c0 fun h => h; have k1 := H.m.cell c1 fun h => h; have k2 := H.m.cell c2 fun h => h; have k3 := H.m.cell c3 fun h => h; have k4 := H.m.cell c4 fun h => h; have k5 := H.m.cell c5 fun h => h; try simp only [go_sem, ↓reduceIte, Nat.reduceEqDiff, Nat.reduceAdd, Nat.reduceLT, List.length_cons, List.length_nil, List.getElem?_cons_zero, List.getElem?_cons_succ, Nat.mul_one, Bool.true_eq_false, Bool.false_eq_true, false_implies, true_implies, Bool.not_true, Bool.not_false, decide_true, decide_false, Int.reduceToNat, Int.cast_ofNat_Int, Int.reduceLT, Int.reduceLE, Int.reduceEq, Int.reduceNeg, eq_self, Option.isNone_some, Option.isNone_none, Bool.bne_false, Bool.bne_true, k0, k1, k2, k3, k4, k5])
    | (refine H.a1 hl.sl y1 (by omega) ?_; intro w' a c H; have k0 := H.m.cell c0 fun h => h; have k1 := H.m.cell c1 fun h => h; have k2 := H.m.cell c2 fun h => h; have k3 := H.m.cell c3 fun h => h; have k4 := H.m.cell c4 fun h => h; have k5 := H.m.cell c5 fun h => h; try simp only [go_sem, ↓reduceIte, Nat.reduceEqDiff, Nat.reduceAdd, Nat.reduceLT, List.length_cons, List.length_nil, List.getElem?_cons_zero, List.getElem?_cons_succ, Nat.mul_one, Bool.true_eq_false, Bool.false_eq_true, false_implies, true_implies, Bool.not_true, Bool.not_false, decide_true, decide_false, Int.reduceToNat, Int.cast_ofNat_Int, Int.reduceLT, Int.reduceLE, Int.reduceEq, Int.reduceNeg, eq_self, Option.isNone_some, Option.isNone_none, Bool.bne_false, Bool.bne_true, k0, k1, k2, k3, k4, k5])
    | (refine H.a2 hq.sl y2 (by omega) ?_; intro w' a c H; have k0 := H.m.cell c0 fun h => h; have k1 := H.m.cell c1 fun h => h; have k2 := H.m.cell c2 fun h => h; have k3 := H.m.cell c3 fun h => h; have k4 := H.m.cell c4 fun h => h; have k5 := H.m.cell c5 fun h => h; try simp only [go_sem, ↓reduceIte, Nat.reduceEqDiff, Nat.reduceAdd, Nat.reduceLT, List.length_cons, List.length_nil, List.getElem?_cons_zero, List.getElem?_cons_succ, Nat.mul_one, Bool.true_eq_false, Bool.false_eq_true, false_implies, true_implies, Bool.not_true, Bool.not_false, decide_true, decide_false, Int.reduceToNat, Int.cast_ofNat_Int, Int.reduceLT, Int.reduceLE, Int.reduceEq, Int.reduceNeg, eq_self, Option.isNone_some, Option.isNone_none, Bool.bne_false, Bool.bne_true, k0, k1, k2, k3, k4, k5])
    | (refine H.a3 hk.sl y3 hkn ?_; intro w' a c H; have k0 := H.m.cell c0 fun h => h; have k1 := H.m.cell c1 fun h => h; have k2 := H.m.cell c2 fun h => h; have k3 := H.m.cell c3 fun h => h; have k4 := H.m.cell c4 fun h => h; have k5 := H.m.cell c5 fun h => h; try simp only [go_sem, ↓reduceIte, Nat.reduceEqDiff, Nat.reduceAdd, Nat.reduceLT, List.length_cons, List.length_nil, List.getElem?_cons_zero, List.getElem?_cons_succ, Nat.mul_one, Bool.true_eq_false, Bool.false_eq_true, false_implies, true_implies, Bool.not_true, Bool.not_false, decide_true, decide_false, Int.reduceToNat, Int.cast_ofNat_Int, Int.reduceLT, Int.reduceLE, Int.reduceEq, Int.reduceNeg, eq_self, Option.isNone_some, Option.isNone_none, Bool.bne_false, Bool.bne_true, k0, k1, k2, k3, k4, k5])
    | (unfold t36_1; try simp only [go_sem, ↓reduceIte, Nat.reduceEqDiff, Nat.reduceAdd, Nat.reduceLT, List.length_cons, List.length_nil, List.getElem?_cons_zero, List.getElem?_cons_succ, Nat.mul_one, Bool.true_eq_false, Bool.false_eq_true, false_implies, true_implies, Bool.not_true, Bool.not_false, decide_true, decide_false, Int.reduceToNat, Int.cast_ofNat_Int, Int.reduceLT, Int.reduceLE, Int.reduceEq, Int.reduceNeg, eq_self, Option.isNone_some, Option.isNone_none, Bool.bne_false, Bool.bne_true, k0, k1, k2, k3, k4, k5])
    | (unfold t36_2; try simp only [go_sem, ↓reduceIte, Nat.reduceEqDiff, Nat.reduceAdd, Nat.reduceLT, List.length_cons, List.length_nil, List.getElem?_cons_zero, List.getElem?_cons_succ, Nat.mul_one, Bool.true_eq_false, Bool.false_eq_true, false_implies, true_implies, Bool.not_true, Bool.not_false, decide_true, decide_false, Int.reduceToNat, Int.cast_ofNat_Int, Int.reduceLT, Int.reduceLE, Int.reduceEq, Int.reduceNeg, eq_self, Option.isNone_some, Option.isNone_none, Bool.bne_false, Bool.bne_true, k0, k1, k2, k3, k4, k5])
    | (unfold t36_3; try simp only [go_sem, ↓reduceIte, Nat.reduceEqDiff, Nat.reduceAdd, Nat.reduceLT, List.length_cons, List.length_nil, List.getElem?_cons_zero, List.getElem?_cons_succ, Nat.mul_one, Bool.true_eq_false, Bool.false_eq_true, false_implies, true_implies, Bool.not_true, Bool.not_false, decide_true, decide_false, Int.reduceToNat, Int.cast_ofNat_Int, Int.reduceLT, Int.reduceLE, Int.reduceEq, Int.reduceNeg, eq_self, Option.isNone_some, Option.isNone_none, Bool.bne_false, Bool.bne_true, k0, k1, k2, k3, k4, k5])
    | (unfold t36_4; try simp only [go_sem, ↓reduceIte, Nat.reduceEqDiff, Nat.reduceAdd, Nat.reduceLT, List.length_cons, List.length_nil, List.getElem?_cons_zero, List.getElem?_cons_succ, Nat.mul_one, Bool.true_eq_false, Bool.false_eq_true, false_implies, true_implies, Bool.not_true, Bool.not_false, decide_true, decide_false, Int.reduceToNat, Int.cast_ofNat_Int, Int.reduceLT, Int.reduceLE, Int.reduceEq, Int.reduceNeg, eq_self, Option.isNone_some, Option.isNone_none, Bool.bne_false, Bool.bne_true, k0, k1, k2, k3, k4, k5])
    | (unfold t36_5; try simp only [go_sem, ↓reduceIte, Nat.reduceEqDiff, Nat.reduceAdd, Nat.reduceLT, List.length_cons, List.length_nil, List.getElem?_cons_zero, List.getElem?_cons_succ, Nat.mul_one, Bool.true_eq_false, Bool.false_eq_true, false_implies, true_implies, Bool.not_true, Bool.not_false, decide_true, decide_false, Int.reduceToNat, Int.cast_ofNat_Int, Int.reduceLT, Int.reduceLE, Int.reduceEq, Int.reduceNeg, eq_self, Option.isNone_some, Option.isNone_none, Bool.bne_false, Bool.bne_true, k0, k1, k2, k3, k4, k5])
    | (unfold t36_6; try simp only [go_sem, ↓reduceIte, Nat.reduceEqDiff, Nat.reduceAdd, Nat.reduceLT, List.length_cons, List.length_nil, List.getElem?_cons_zero, List.getElem?_cons_succ, Nat.mul_one, Bool.true_eq_false, Bool.false_eq_true, false_implies, true_implies, Bool.not_true, Bool.not_false, decide_true, decide_false, Int.reduceToNat, Int.cast_ofNat_Int, Int.reduceLT, Int.reduceLE, Int.reduceEq, Int.reduceNeg, eq_self, Option.isNone_some, Option.isNone_none, Bool.bne_false, Bool.bne_true, k0, k1, k2, k3, k4, k5])
    | (unfold t36_7; try simp only [go_sem, ↓reduceIte, Nat.reduceEqDiff, Nat.reduceAdd, Nat.reduceLT, List.length_cons, List.length_nil, List.getElem?_cons_zero, List.getElem?_cons_succ, Nat.mul_one, Bool.true_eq_false, Bool.false_eq_true, false_implies, true_implies, Bool.not_true, Bool.not_false, decide_true, decide_false, Int.reduceToNat, Int.cast_ofNat_Int, Int.reduceLT, Int.reduceLE, Int.reduceEq, Int.reduceNeg, eq_self, Option.isNone_some, Option.isNone_none, Bool.bne_false, Bool.bne_true, k0, k1, k2, k3, k4, k5])
    | (unfold t36_8; try simp only [go_sem, ↓reduceIte, Nat.reduceEqDiff, Nat.reduceAdd, Nat.reduceLT, List.length_cons, List.length_nil, List.getElem?_cons_zero, List.getElem?_cons_succ, Nat.mul_one, Bool.true_eq_false, Bool.false_eq_true, false_implies, true_implies, Bool.not_true, Bool.not_false, decide_true, decide_false, Int.reduceToNat, Int.cast_ofNat_Int, Int.reduceLT, Int.reduceLE, Int.reduceEq, Int.reduceNeg, eq_self, Option.isNone_some, Option.isNone_none, Bool.bne_false, Bool.bne_true, k0, k1, k2, k3, k4, k5])
    | (unfold t36_9; try simp only [go_sem, ↓reduceIte, Nat.reduceEqDiff, Nat.reduceAdd, Nat.reduceLT, List.length_cons, List.length_nil, List.getElem?_cons_zero, List.getElem?_cons_succ, Nat.mul_one, Bool.true_eq_false, Bool.false_eq_true, false_implies, true_implies, Bool.not_true, Bool.not_false, decide_true, decide_false, Int.reduceToNat, Int.cast_ofNat_Int, Int.reduceLT, Int.reduceLE, Int.reduceEq, Int.reduceNeg, eq_self, Option.isNone_some, Option.isNone_none, Bool.bne_false, Bool.bne_true, k0, k1, k2, k3, k4, k5])
    | (unfold t36_10; try simp only [go_sem, ↓reduceIte, Nat.reduceEqDiff, Nat.reduceAdd, Nat.reduceLT, List.length_cons, List.length_nil, List.getElem?_cons_zero, List.getElem?_cons_succ, Nat.mul_one, Bool.true_eq_false, Bool.false_eq_true, false_implies, true_implies, Bool.not_true, Bool.not_false, decide_true, decide_false, Int.reduceToNat, Int.cast_ofNat_Int, Int.reduceLT, Int.reduceLE, Int.reduceEq, Int.reduceNeg, eq_self, Option.isNone_some, Option.isNone_none, Bool.bne_false, Bool.bne_true, k0, k1, k2, k3, k4, k5])
    | (unfold t36_11; try simp only [go_sem, ↓reduceIte, Nat.reduceEqDiff, Nat.reduceAdd, Nat.reduceLT, List.length_cons, List.length_nil, List.getElem?_cons_zero, List.getElem?_cons_succ, Nat.mul_one, Bool.true_eq_false, Bool.false_eq_true, false_implies, true_implies, Bool.not_true, Bool.not_false, decide_true, decide_false, Int.reduceToNat, Int.cast_ofNat_Int, Int.reduceLT, Int.reduceLE, Int.reduceEq, Int.reduceNeg, eq_self, Option.isNone_some, Option.isNone_none, Bool.bne_false, Bool.bne_true, k0, k1, k2, k3, k4, k5])
    | (unfold t36_12; try simp only [go_sem, ↓reduceIte, Nat.reduceEqDiff, Nat.reduceAdd, Nat.reduceLT, List.length_cons, List.length_nil, List.getElem?_cons_zero, List.getElem?_cons_succ, Nat.mul_one, Bool.true_eq_false, Bool.false_eq_true, false_implies, true_implies, Bool.not_true, Bool.not_false, decide_true, decide_false, Int.reduceToNat, Int.cast_ofNat_Int, Int.reduceLT, Int.reduceLE, Int.reduceEq, Int.reduceNeg, eq_self, Option.isNone_some, Option.isNone_none, Bool.bne_false, Bool.bne_true, k0, k1, k2, k3, k4, k5])
    | (unfold t36_13; try simp only [go_sem, ↓reduceIte, Nat.reduceEqDiff, Nat.reduceAdd, Nat.reduceLT, List.length_cons, List.length_nil, List.getElem?_cons_zero, List.getElem?_cons_succ, Nat.mul_one, Bool.true_eq_false, Bool.false_eq_true, false_implies, true_implies, Bool.not_true, Bool.not_false, decide_true, decide_false, Int.reduceToNat, Int.cast_ofNat_Int, Int.reduceLT, Int.reduceLE, Int.reduceEq, Int.reduceNeg, eq_self, Option.isNone_some, Option.isNone_none, Bool.bne_false, Bool.bne_true, k0, k1, k2, k3, k4, k5])
    | (unfold t36_14; try simp only [go_sem, ↓reduceIte, Nat.reduceEqDiff, Nat.reduceAdd, Nat.reduceLT, List.length_cons, List.length_nil, List.getElem?_cons_zero, List.getElem?_cons_succ, Nat.mul_one, Bool.true_eq_false, Bool.false_eq_true, false_implies, true_implies, Bool.not_true, Bool.not_false, decide_true, decide_false, Int.reduceToNat, Int.cast_ofNat_Int, Int.reduceLT, Int.reduceLE, Int.reduceEq, Int.reduceNeg, eq_self, Option.isNone_some, Option.isNone_none, Bool.bne_false, Bool.bne_true, k0, k1, k2, k3, k4, k5])
    | (unfold t36_15; try simp only [go_sem, ↓reduceIte, Nat.reduceEqDiff, Nat.reduceAdd, Nat.reduceLT, List.length_cons, List.length_nil, List.getElem?_cons_zero, List.getElem?_cons_succ, Nat.mul_one, Bool.true_eq_false, Bool.false_eq_true, false_implies, true_implies, Bool.not_true, Bool.not_false, decide_true, decide_false, Int.reduceToNat, Int.cast_ofNat_Int, Int.reduceLT, Int.reduceLE, Int.reduceEq, Int.reduceNeg, eq_self, Option.isNone_some, Option.isNone_none, Bool.bne_false, Bool.bne_true, k0, k1, k2, k3, k4, k5])
    | (unfold t36_16; try simp only [go_sem, ↓reduceIte, Nat.reduceEqDiff, Nat.reduceAdd, Nat.reduceLT, List.length_cons, List.length_nil, List.getElem?_cons_zero, List.getElem?_cons_succ, Nat.mul_one, Bool.true_eq_false, Bool.false_eq_true, false_implies, true_implies, Bool.not_true, Bool.not_false, decide_true, decide_false, Int.reduceToNat, Int.cast_ofNat_Int, Int.reduceLT, Int.reduceLE, Int.reduceEq, Int.reduceNeg, eq_self, Option.isNone_some, Option.isNone_none, Bool.bne_false, Bool.bne_true, k0, k1, k2, k3, k4, k5])
    | (unfold t36_17; try simp only [go_sem, ↓reduceIte, Nat.reduceEqDiff, Nat.reduceAdd, Nat.reduceLT, List.length_cons, List.length_nil, List.getElem?_cons_zero, List.getElem?_cons_succ, Nat.mul_one, Bool.true_eq_false, Bool.false_eq_true, false_implies, true_implies, Bool.not_true, Bool.not_false, decide_true, decide_false, Int.reduceToNat, Int.cast_ofNat_Int, Int.reduceLT, Int.reduceLE, Int.reduceEq, Int.reduceNeg, eq_self, Option.isNone_some, Option.isNone_none, Bool.bne_false, Bool.bne_true, k0, k1, k2, k3, k4, k5])
    | (unfold t36_18; try simp only [go_sem, ↓reduceIte, Nat.reduceEqDiff, Nat.reduceAdd, Nat.reduceLT, List.length_cons, List.length_nil, List.getElem?_cons_zero, List.getElem?_cons_succ, Nat.mul_one, Bool.true_eq_false, Bool.false_eq_true, false_implies, true_implies, Bool.not_true, Bool.not_false, decide_true, decide_false, Int.reduceToNat, Int.cast_ofNat_Int, Int.reduceLT, Int.reduceLE, Int.reduceEq, Int.reduceNeg, eq_self, Option.isNone_some, Option.isNone_none, Bool.bne_false, Bool.bne_true, k0, k1, k2, k3, k4, k5])
    | (unfold t36_19; try simp only [go_sem, ↓reduceIte, Nat.reduceEqDiff, Nat.reduceAdd, Nat.reduceLT, List.length_cons, List.length_nil, List.getElem?_cons_zero, List.getElem?_cons_succ, Nat.mul_one, Bool.true_eq_false, Bool.false_eq_true, false_implies, true_implies, Bool.not_true, Bool.not_false, decide_true, decide_false, Int.reduceToNat, Int.cast_ofNat_Int, Int.reduceLT, Int.reduceLE, Int.reduceEq, Int.reduceNeg, eq_self, Option.isNone_some, Option.isNone_none, Bool.bne_false, Bool.bne_true, k0, k1, k2, k3, k4, k5])
    | (unfold t36_20; try simp only [go_sem, ↓reduceIte, Nat.reduceEqDiff, Nat.reduceAdd, Nat.reduceLT, List.length_cons, List.length_nil, List.getElem?_cons_zero, List.getElem?_cons_succ, Nat.mul_one, Bool.true_eq_false, Bool.false_eq_true, false_implies, true_implies, Bool.not_true, Bool.not_false, decide_true, decide_false, Int.reduceToNat, Int.cast_ofNat_Int, Int.reduceLT, Int.reduceLE, Int.reduceEq, Int.reduceNeg, eq_self, Option.isNone_some, Option.isNone_none, Bool.bne_false, Bool.bne_true, k0, k1, k2, k3, k4, k5])
    | (unfold t36_21; try simp only [go_sem, ↓reduceIte, Nat.reduceEqDiff, Nat.reduceAdd, Nat.reduceLT, List.length_cons, List.length_nil, List.getElem?_cons_zero, List.getElem?_cons_succ, Nat.mul_one, Bool.true_eq_false, Bool.false_eq_true, false_implies, true_implies, Bool.not_true, Bool.not_false, decide_true, decide_false, Int.reduceToNat, Int.cast_ofNat_Int, Int.reduceLT, Int.reduceLE, Int.reduceEq, Int.reduceNeg, eq_self, Option.isNone_some, Option.isNone_none, Bool.bne_false, Bool.bne_true, k0, k1, k2, k3, k4, k5])
    | (unfold t36_22; try simp only [go_sem, ↓reduceIte, Nat.reduceEqDiff, Nat.reduceAdd, Nat.reduceLT, List.length_cons, List.length_nil, List.getElem?_cons_zero, List.getElem?_cons_succ, Nat.mul_one, Bool.true_eq_false, Bool.false_eq_true, false_implies, true_implies, Bool.not_true, Bool.not_false, decide_true, decide_false, Int.reduceToNat, Int.cast_ofNat_Int, Int.reduceLT, Int.reduceLE, Int.reduceEq, Int.reduceNeg, eq_self, Option.isNone_some, Option.isNone_none, Bool.bne_false, Bool.bne_true, k0, k1, k2, k3, k4, k5])
    | (unfold t36_23; try simp only [go_sem, ↓reduceIte, Nat.reduceEqDiff, Nat.reduceAdd, Nat.reduceLT, List.length_cons, List.length_nil, List.getElem?_cons_zero, List.getElem?_cons_succ, Nat.mul_one, Bool.true_eq_false, Bool.false_eq_true, false_implies, true_implies, Bool.not_true, Bool.not_false, decide_true, decide_false, Int.reduceToNat, Int.cast_ofNat_Int, Int.reduceLT, Int.reduceLE, Int.reduceEq, Int.reduceNeg, eq_self, Option.isNone_some, Option.isNone_none, Bool.bne_false, Bool.bne_true, k0, k1, k2, k3, k4, k5])
    | (unfold t36_24; try simp only [go_sem, ↓reduceIte, Nat.reduceEqDiff, Nat.reduceAdd, Nat.reduceLT, List.length_cons, List.length_nil, List.getElem?_cons_zero, List.getElem?_cons_succ, Nat.mul_one, Bool.true_eq_false, Bool.false_eq_true, false_implies, true_implies, Bool.not_true, Bool.not_false, decide_true, decide_false, Int.reduceToNat, Int.cast_ofNat_Int, Int.reduceLT, Int.reduceLE, Int.reduceEq, Int.reduceNeg, eq_self, Option.isNone_some, Option.isNone_none, Bool.bne_false, Bool.bne_true, k0, k1, k2, k3, k4, k5])
    | (unfold t36_25; try simp only [go_sem, ↓reduceIte, Nat.reduceEqDiff, Nat.reduceAdd, Nat.reduceLT, List.length_cons, List.length_nil, List.getElem?_cons_zero, List.getElem?_cons_succ, Nat.mul_one, Bool.true_eq_false, Bool.false_eq_true, false_implies, true_implies, Bool.not_true, Bool.not_false, decide_true, decide_false, Int.reduceToNat, Int.cast_ofNat_Int, Int.reduceLT, Int.reduceLE, Int.reduceEq, Int.reduceNeg, eq_self, Option.isNone_some, Option.isNone_none, Bool.bne_false, Bool.bne_true, k0, k1, k2, k3, k4, k5])
    | (unfold t36_26; try simp only [go_sem, ↓reduceIte, Nat.reduceEqDiff, Nat.reduceAdd, Nat.reduceLT, List.length_cons, List.length_nil, List.getElem?_cons_zero, List.getElem?_cons_succ, Nat.mul_one, Bool.true_eq_false, Bool.false_eq_true, false_implies, true_implies, Bool.not_true, Bool.not_false, decide_true, decide_false, Int.reduceToNat, Int.cast_ofNat_Int, Int.reduceLT, Int.reduceLE, Int.reduceEq, Int.reduceNeg, eq_self, Option.isNone_some, Option.isNone_none, Bool.bne_false, Bool.bne_true, k0, k1, k2, k3, k4, k5])
    | (unfold t36_27; try simp only [go_sem, ↓reduceIte, Nat.reduceEqDiff, Nat.reduceAdd, Nat.reduceLT, List.length_cons, List.length_nil, List.getElem?_cons_zero, List.getElem?_cons_succ, Nat.mul_one, Bool.true_eq_false, Bool.false_eq_true, false_implies, true_implies, Bool.not_true, Bool.not_false, decide_true, decide_false, Int.reduceToNat, Int.cast_ofNat_Int, Int.reduceLT, Int.reduceLE, Int.reduceEq, Int.reduceNeg, eq_self, Option.isNone_some, Option.isNone_none, Bool.bne_false, Bool.bne_true, k0, k1, k2, k3, k4, k5])
    | (unfold t36_28; try simp only [go_sem, ↓reduceIte, Nat.reduceEqDiff, Nat.reduceAdd, Nat.reduceLT, List.length_cons, List.length_nil, List.getElem?_cons_zero, List.getElem?_cons_succ, Nat.mul_one, Bool.true_eq_false, Bool.false_eq_true, false_implies, true_implies, Bool.not_true, Bool.not_false, decide_true, decide_false, Int.reduceToNat, Int.cast_ofNat_Int, Int.reduceLT, Int.reduceLE, Int.reduceEq, Int.reduceNeg, eq_self, Option.isNone_some, Option.isNone_none, Bool.bne_false, Bool.bne_true, k0, k1, k2, k3, k4, k5])
  all_goals trace_state
end
end Go.Proofs.Y
