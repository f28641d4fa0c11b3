/- DO: the walk of Copy, and two disks side by side. -/
import Derived.Test.YtgalileklafbbaaDJ
import Derived.Test.YtgalileklafbbaaDK
set_option linter.unusedSimpArgs false
set_option linter.unusedVariables false
set_option maxRecDepth 100000
namespace Go.Proofs.Y
open Go Go.HL Go.Proofs

theorem St.frame {S : FP} {w w' w'' : World} {p : Nat} {d : Dk} {T : Nat → Prop} (h : St S w w' p d) (m : Mod T w' w'') (hd : ∀ k, h.foot.R k → ¬ T k) (hT : ∀ k, k < w.heap.size → T k → S.W k) : St S w w'' p d :=
  ⟨h.foot, h.dr.mod m hd, h.footR, h.footW, h.mod.trans m hT⟩

theorem St.join {S : FP} {w w0 w' w'' : World} {p : Nat} {d : Dk} {T : Nat → Prop} (m0 : Mod none' w w0) (h : St S w0 w' p d) (m : Mod T w' w'') (hd : ∀ k, h.foot.R k → ¬ T k) (hT : ∀ k, k < w.heap.size → T k → S.W k) : St S w w'' p d := by
  have hs := m0.size
  exact ⟨h.foot, h.dr.mod m hd, fun k hk => (h.footR k hk).imp id fun h => by omega, fun k hk => (h.footW k hk).imp id fun h => by omega, ((m0.mono (T := S.W) fun _ _ h => h.elim).trans h.mod fun _ _ h => h).trans m hT⟩

/-- what a copy shares -/
def FPc (S : FP) : FP := ⟨none', fun k => S.R k ∧ ¬ S.W k⟩

section
variable {w : World} {next : Value → World → Prop} {QP : List PanicEntry → World → Prop}

theorem sl_nil : Sl w (.slice none 0 0) 1 0 (ints []) := (Own.nil w 3 1).sl

theorem clonep_ {v : Value} {q : List Pd} {n : Nat} (hn' : q.length = n) (hl : Sl w v 3 n (rows Pd.cells q)) (hn : n ≤ 1000000000000) (k : ∀ v' w', Own w' v' 91 3 n (rows Pd.cells q) → Mod none' w w' → (∀ k, v'.ownBlock = some k → w.heap.size ≤ k) → next v' w') :
    callvK Try.prog (.func (.func 72) #[] #[]) [v] w next QP := by
  refine r72 rfl ?_
  obtain ⟨a, c, rfl, hc, hcell⟩ := hl.form
  unfold h72
  try simp only [go_sem, ↓reduceIte, Nat.reduceEqDiff, Nat.reduceAdd, Nat.reduceLT, List.length_cons, List.length_nil, List.getElem?_cons_zero, List.getElem?_cons_succ, Nat.mul_one, Bool.true_eq_false, Bool.false_eq_true, false_implies, true_implies, Bool.not_true, Bool.not_false, decide_true, decide_false, Int.reduceToNat, Int.cast_ofNat_Int, Int.reduceLT, Int.reduceLE, Int.reduceEq, Int.reduceNeg, eq_self, Option.isNone_some, Option.isNone_none, Bool.bne_false, Bool.bne_true]
  refine ⟨fun ha => ?_, fun ha => ?_⟩
  · have hn0 : n = 0 := by
      rcases Nat.eq_zero_or_pos n with h | h
      · exact h
      · obtain ⟨b, o, rfl, _⟩ := hcell h
        simp at ha
    subst hn0
    obtain rfl : q = [] := List.eq_nil_of_length_eq_zero hn'
    exact k _ _ (Own.nil _ _ _) (Mod.refl _ _) (fun k hk => by cases hk)
  · unfold h72_1
    try simp only [go_sem, ↓reduceIte, Nat.reduceEqDiff, Nat.reduceAdd, Nat.reduceLT, List.length_cons, List.length_nil, List.getElem?_cons_zero, List.getElem?_cons_succ, Nat.mul_one, Bool.true_eq_false, Bool.false_eq_true, false_implies, true_implies, Bool.not_true, Bool.not_false, decide_true, decide_false, Int.reduceToNat, Int.cast_ofNat_Int, Int.reduceLT, Int.reduceLE, Int.reduceEq, Int.reduceNeg, eq_self, Option.isNone_some, Option.isNone_none, Bool.bne_false, Bool.bne_true]
    refine bsl0 sl84 ?_
    intro b w1 hbb own1 m1 sz1
    try simp only [go_sem, ↓reduceIte, Nat.reduceEqDiff, Nat.reduceAdd, Nat.reduceLT, List.length_cons, List.length_nil, List.getElem?_cons_zero, List.getElem?_cons_succ, Nat.mul_one, Bool.true_eq_false, Bool.false_eq_true, false_implies, true_implies, Bool.not_true, Bool.not_false, decide_true, decide_false, Int.reduceToNat, Int.cast_ofNat_Int, Int.reduceLT, Int.reduceLE, Int.reduceEq, Int.reduceNeg, eq_self, Option.isNone_some, Option.isNone_none, Bool.bne_false, Bool.bne_true]
    refine append_ sl84 (n := 0) (m := n) own1 (hl.mod m1 fun k _ h => h) ?_ (by omega) (by unfold maxLen; omega) ?_
    · intro u hu
      simp only [rows, List.mem_flatMap] at hu
      obtain ⟨x, -, hx⟩ := hu
      simp [Pd.cells] at hx; rcases hx with rfl | rfl | rfl <;> rfl
    intro v' w2 own2 m2 hb2 _
    try simp only [go_sem, ↓reduceIte, Nat.reduceEqDiff, Nat.reduceAdd, Nat.reduceLT, List.length_cons, List.length_nil, List.getElem?_cons_zero, List.getElem?_cons_succ, Nat.mul_one, Bool.true_eq_false, Bool.false_eq_true, false_implies, true_implies, Bool.not_true, Bool.not_false, decide_true, decide_false, Int.reduceToNat, Int.cast_ofNat_Int, Int.reduceLT, Int.reduceLE, Int.reduceEq, Int.reduceNeg, eq_self, Option.isNone_some, Option.isNone_none, Bool.bne_false, Bool.bne_true]
    simp only [Nat.zero_add, List.nil_append] at own2
    refine k _ _ own2 (m1.trans m2 fun i hi hS => ?_) ?_
    · simp only [ownS, Value.ownBlock, Option.some.injEq] at hS; omega
    · intro k hk
      rcases hb2 k hk with h | h
      · simp only [Value.ownBlock, Option.some.injEq] at h; omega
      · omega

theorem copyd_ {p : Nat} {d : Dk} {S : FP} (h : DR w p d S) (hqn : d.queue.length ≤ 1000000000000) (k : ∀ p' w', St (FPc S) w w' p' d → next (ptr p') w') :
    callvK Try.prog (.func (.func 34) #[] #[]) [ptr p] w next QP := by
  refine r34 rfl ?_
  have ok := h.ok
  obtain ⟨qv, kv, hb, hq, hk, h1, h2, c24, c25, c26, c27, c28⟩ := h.parts
  have hld := hb.loadN (o := 0) (n := 29) (by rw [cells_len ok.nl ok.nf]; omega)
  have hsome := hb.some (o := 0) (n := 29) (by rw [cells_len ok.nl ok.nf]; omega)
  rw [List.drop_zero, List.take_of_length_le (by rw [cells_len ok.nl ok.nf]; omega)] at hld
  simp only [e_add, Nat.zero_add] at hsome
  unfold h34
  try simp only [go_sem, ↓reduceIte, Nat.reduceEqDiff, Nat.reduceAdd, Nat.reduceLT, List.length_cons, List.length_nil, List.getElem?_cons_zero, List.getElem?_cons_succ, Nat.mul_one, Bool.true_eq_false, Bool.false_eq_true, false_implies, true_implies, Bool.not_true, Bool.not_false, decide_true, decide_false, Int.reduceToNat, Int.cast_ofNat_Int, Int.reduceLT, Int.reduceLE, Int.reduceEq, Int.reduceNeg, eq_self, Option.isNone_some, Option.isNone_none, Bool.bne_false, Bool.bne_true, hld]
  refine ⟨hsome, ?_⟩
  refine alloc_ (z := .agg (Dk.new.cells (.slice none 0 0) (.slice none 0 0)).toArray) (cs := Dk.new.cells (.slice none 0 0) (.slice none 0 0)) (by kernel_rfl) rfl ?_
  intro p' w1 hp' hb1 m1 hsz1
  have hone : ∀ u ∈ d.cells qv kv, u.oneCell' = true := by
    obtain ⟨qa, qc, rfl, -⟩ := hq.form
    obtain ⟨ka, kc, rfl, -⟩ := hk.form
    intro u hu
    simp only [Dk.cells, List.mem_append, List.mem_map, List.mem_cons, List.not_mem_nil, or_false] at hu
    rcases hu with ⟨s, -, rfl⟩ | ⟨s, -, rfl⟩ | rfl | rfl | rfl | rfl | rfl <;> rfl
  refine storeN (n := 29) (by kernel_rfl) (cells_len ok.nl ok.nf) hb1 (by rw [cells_len rfl rfl]; omega) hone ?_
  intro w2 hb2 m2 hsz2
  have hd0 : (Dk.new.cells (.slice none 0 0) (.slice none 0 0)).drop (0 + 29) = [] := rfl
  rw [hd0, List.take_zero, List.nil_append, List.append_nil] at hb2
  have m12 : Mod none' w w2 := m1.trans m2 fun k hk (e : k = p') => by omega
  have c24' : w2.cell? ⟨p, 24, none⟩ = some qv := m12.cell c24 fun h => h
  try simp only [go_sem, ↓reduceIte, Nat.reduceEqDiff, Nat.reduceAdd, Nat.reduceLT, List.length_cons, List.length_nil, List.getElem?_cons_zero, List.getElem?_cons_succ, Nat.mul_one, Bool.true_eq_false, Bool.false_eq_true, false_implies, true_implies, Bool.not_true, Bool.not_false, decide_true, decide_false, Int.reduceToNat, Int.cast_ofNat_Int, Int.reduceLT, Int.reduceLE, Int.reduceEq, Int.reduceNeg, eq_self, Option.isNone_some, Option.isNone_none, Bool.bne_false, Bool.bne_true, c24']
  refine clonep_ rfl (hq.sl.mod m12 fun _ _ h => h) hqn ?_
  intro v' w3 own3 m3 hfr
  try simp only [go_sem, ↓reduceIte, Nat.reduceEqDiff, Nat.reduceAdd, Nat.reduceLT, List.length_cons, List.length_nil, List.getElem?_cons_zero, List.getElem?_cons_succ, Nat.mul_one, Bool.true_eq_false, Bool.false_eq_true, false_implies, true_implies, Bool.not_true, Bool.not_false, decide_true, decide_false, Int.reduceToNat, Int.cast_ofNat_Int, Int.reduceLT, Int.reduceLE, Int.reduceEq, Int.reduceNeg, eq_self, Option.isNone_some, Option.isNone_none, Bool.bne_false, Bool.bne_true]
  have hb3 := hb2.mod m3 fun h => h
  obtain ⟨av, cv, rfl, -⟩ := own3.form
  refine store1 sz84 hb3 (by rw [cells_len ok.nl ok.nf]; omega) rfl ?_
  intro w4 hb4 m4 hsz4
  have hcs : (d.cells qv kv).set 24 (.slice av d.queue.length cv) = d.cells (.slice av d.queue.length cv) kv := by
    rw [show 24 = 24 + 0 from rfl, cells_set_tail ok.nl ok.nf]; rfl
  rw [hcs] at hb4
  have s3 := m3.size
  have s4 := m4.size
  have s12 := m12.size
  have mm : Mod none' w w4 := (m12.trans' m3).trans m4 fun k hk (e : k = p') => by omega
  unfold h34_1
  try simp only [go_sem, ↓reduceIte, Nat.reduceEqDiff, Nat.reduceAdd, Nat.reduceLT, List.length_cons, List.length_nil, List.getElem?_cons_zero, List.getElem?_cons_succ, Nat.mul_one, Bool.true_eq_false, Bool.false_eq_true, false_implies, true_implies, Bool.not_true, Bool.not_false, decide_true, decide_false, Int.reduceToNat, Int.cast_ofNat_Int, Int.reduceLT, Int.reduceLE, Int.reduceEq, Int.reduceNeg, eq_self, Option.isNone_some, Option.isNone_none, Bool.bne_false, Bool.bne_true]
  have hlt := own3.lt
  refine k p' w4 ⟨⟨fun k => w.heap.size ≤ k ∧ k < w4.heap.size, fun k => (S.R k ∧ ¬ S.W k) ∨ (w.heap.size ≤ k ∧ k < w4.heap.size)⟩, ⟨ok, ⟨_, kv, hb4, own3.mod m4 fun k hk (e : k = p') => ?_, hk.mod' mm fun _ _ _ h => h, fun k hk => ⟨?_, ?_⟩, fun hn k hk => ⟨.inl (h2 hn k hk), fun hW => ?_⟩⟩, ⟨by omega, by omega⟩, fun k hk => .inr hk, ?_⟩, fun k hk => hk.imp id fun h => h.1, fun k hk => .inr hk.1, mm⟩
  · have := hfr k hk; omega
  · have := hfr k hk; omega
  · have := hlt k hk; omega
  · have := h.lt k (h2 hn k hk).1; omega
  · intro k hk
    rcases hk with hk | hk
    · have := h.lt k hk.1; have := mm.size; omega
    · exact hk.2
end
end Go.Proofs.Y
