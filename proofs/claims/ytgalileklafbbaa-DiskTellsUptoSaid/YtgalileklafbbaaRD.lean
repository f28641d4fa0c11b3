/- RD: the reference's disk: the pending writes of the other files; a file behind a crash; pieces. -/
import Derived.Test.YtgalileklafbbaaRC
set_option linter.unusedSimpArgs false
set_option linter.unusedVariables false
set_option maxRecDepth 100000
namespace Go.Proofs.Y
open Go Go.HL Go.Proofs

theorem pd_at {w : World} {v : Value} {q : List Pd} {i : Nat} (hv : Sl w v 3 q.length (rows Pd.cells q)) (hi : i < q.length) : ∃ gb o c, v = .slice (some ⟨gb, o, none⟩) q.length c ∧
    w.cell? ⟨gb, o + i * 3, none⟩ = some (.int .i64 q[i].file) ∧ w.cell? ⟨gb, o + i * 3 + 1, none⟩ = some (.int .i64 q[i].at_) ∧ w.cell? ⟨gb, o + i * 3 + 2, none⟩ = some (str q[i].bytes) ∧
    loadN w ⟨gb, o + i * 3, none⟩ 3 = q[i].cells.toArray ∧ (∀ j, j < 3 → (w.cell? ⟨gb, o + i * 3 + j, none⟩).isSome = true) := by
  obtain ⟨gb, o, c', hva, hcc, hcell⟩ := hv.get Pd.cells_len rfl (by omega)
  have h : ∀ j, j < 3 → w.cell? ((⟨gb, o + i * 3, none⟩ : Addr).add j) = q[i].cells[j]? := fun j hj => by rw [e_add]; exact hcell i j hi hj
  exact ⟨gb, o, c', hva, (hcell i 0 hi (by omega)).trans rfl, (hcell i 1 hi (by omega)).trans rfl, (hcell i 2 hi (by omega)).trans rfl, loadN_of (Pd.cells_len _) h, fun j hj => by have := loadN_some (Pd.cells_len _) h j hj; rwa [e_add] at this⟩
theorem Pd.one (x : Pd) : ∀ v ∈ x.cells, v.oneCell' = true := by
  intro v hv
  simp only [Pd.cells, List.mem_cons, List.not_mem_nil, or_false] at hv
  rcases hv with rfl | rfl | rfl <;> rfl

section
variable {w : World} {next : Value → World → Prop} {QP : List PanicEntry → World → Prop} {p : Nat} {d : Dk} {S : Nat → Prop}

/-- the pending writes of the other files -/
def wo (q : List Pd) (f : Nat) : List Pd := q.filter fun p => !decide (p.file = f)

theorem rwithout_ {q : List Pd} {qv : Value} (c1 : w.cell? ⟨p, 1, none⟩ = some qv) (hq : Own w qv 118 3 q.length (rows Pd.cells q)) {f : Nat} (hqn : q.length ≤ 1000000000000) (k : ∀ v w', Mod none' w w' → Own w' v 118 3 (wo q f).length (rows Pd.cells (wo q f)) → (∀ k, v.ownBlock = some k → w.heap.size ≤ k) → next v w') :
    callvK Try.prog (.func (.func 104) #[] #[]) [ptr p, .int .i64 f] w next QP := by
  refine r104 rfl ?_
  obtain ⟨qa, qc, rfl, hqc, -⟩ := hq.form
  unfold h104
  try simp only [go_sem, ↓reduceIte, Nat.reduceEqDiff, Nat.reduceAdd, Nat.reduceLT, List.length_cons, List.length_nil, List.getElem?_cons_zero, List.getElem?_cons_succ, Nat.mul_one, Bool.true_eq_false, Bool.false_eq_true, false_implies, true_implies, Bool.not_true, Bool.not_false, decide_true, decide_false, Int.reduceToNat, Int.cast_ofNat_Int, Int.reduceLT, Int.reduceLE, Int.reduceEq, Int.reduceNeg, eq_self, Option.isNone_some, Option.isNone_none, Bool.bne_false, Bool.bne_true]
  refine loopN q.length (fun i τ w' => τ 0 = ptr p ∧ τ 1 = .int .i64 f ∧ τ 6 = .int .i64 i ∧ Mod none' w w' ∧ ∃ v, τ 5 = v ∧ Own w' v 118 3 (wo (q.take i) f).length (rows Pd.cells (wo (q.take i) f)) ∧ (∀ k, v.ownBlock = some k → w.heap.size ≤ k))
    ⟨0, by omega, rfl, rfl, rfl, Mod.refl _ _, .slice none 0 0, rfl, Own.nil _ _ _, fun k hk => (nomatch (hk : none = some k))⟩ ?_
  rintro i τ w1 hi ⟨t0, t1, t6, m1, v, t5, hv, hv2⟩
  have c1 : w1.cell? ⟨p, 1, none⟩ = _ := m1.cell c1 fun h => h
  have hq1 := hq.mod m1 fun _ _ h => h
  have hfl : (wo (q.take i) f).length ≤ q.length := Nat.le_trans (List.length_filter_le _ _) (by rw [List.length_take]; omega)
  unfold h104_1
  try simp only [go_sem, ↓reduceIte, Nat.reduceEqDiff, Nat.reduceAdd, Nat.reduceLT, List.length_cons, List.length_nil, List.getElem?_cons_zero, List.getElem?_cons_succ, Nat.mul_one, Bool.true_eq_false, Bool.false_eq_true, false_implies, true_implies, Bool.not_true, Bool.not_false, decide_true, decide_false, Int.reduceToNat, Int.cast_ofNat_Int, Int.reduceLT, Int.reduceLE, Int.reduceEq, Int.reduceNeg, eq_self, Option.isNone_some, Option.isNone_none, Bool.bne_false, Bool.bne_true, t0, t1, t5, t6, c1]
  refine ⟨fun hlt => ?_, fun hge => ?_⟩
  · have hil : i < q.length := by
        have : (i : Int) < q.length := by simpa using hlt
        omega
    obtain ⟨gb, o, c', hva, x0, x1, x2, hld, hsome⟩ := pd_at hq1.sl hil
    simp only [Value.slice.injEq] at hva
    obtain ⟨rfl, -, rfl⟩ := hva
    have hwo : wo (q.take (i + 1)) f = if q[i].file = f then wo (q.take i) f else wo (q.take i) f ++ [q[i]] := by
      unfold wo
      rw [List.take_succ_eq_append_getElem hil, List.filter_append]
      by_cases hf : q[i].file = f <;> simp [hf]
    unfold h104_2
    try simp only [go_sem, ↓reduceIte, Nat.reduceEqDiff, Nat.reduceAdd, Nat.reduceLT, List.length_cons, List.length_nil, List.getElem?_cons_zero, List.getElem?_cons_succ, Nat.mul_one, Bool.true_eq_false, Bool.false_eq_true, false_implies, true_implies, Bool.not_true, Bool.not_false, decide_true, decide_false, Int.reduceToNat, Int.cast_ofNat_Int, Int.reduceLT, Int.reduceLE, Int.reduceEq, Int.reduceNeg, eq_self, Option.isNone_some, Option.isNone_none, Bool.bne_false, Bool.bne_true, t0, t1, t5, t6, c1, x0, x1, x2]
    repeat refine ⟨⟨by omega, by omega⟩, ?_⟩
    refine ⟨fun he => ?_, fun he => ?_⟩
    · have he : ¬ (q[i].file : Int) = f := by simpa using he
      try simp only [go_sem, ↓reduceIte, Nat.reduceEqDiff, Nat.reduceAdd, Nat.reduceLT, List.length_cons, List.length_nil, List.getElem?_cons_zero, List.getElem?_cons_succ, Nat.mul_one, Bool.true_eq_false, Bool.false_eq_true, false_implies, true_implies, Bool.not_true, Bool.not_false, decide_true, decide_false, Int.reduceToNat, Int.cast_ofNat_Int, Int.reduceLT, Int.reduceLE, Int.reduceEq, Int.reduceNeg, eq_self, Option.isNone_some, Option.isNone_none, Bool.bne_false, Bool.bne_true, hld]
      repeat refine ⟨⟨by omega, by omega⟩, ?_⟩
      refine ⟨hsome, ?_⟩
      refine bsl1 sl118 (cs := q[i].cells) rfl rfl (by omega) ?_
      intro b2 w2 hb2 own2 _ m2 _
      refine append_ sl118 (hv.mod m2 fun _ _ h => h) own2.sl (Pd.one _) (by omega) (by unfold maxLen; omega) ?_
      intro v3 w3 own3 m3 hb3 _
      unfold h104_3
      try simp only [go_sem, ↓reduceIte, Nat.reduceEqDiff, Nat.reduceAdd, Nat.reduceLT, List.length_cons, List.length_nil, List.getElem?_cons_zero, List.getElem?_cons_succ, Nat.mul_one, Bool.true_eq_false, Bool.false_eq_true, false_implies, true_implies, Bool.not_true, Bool.not_false, decide_true, decide_false, Int.reduceToNat, Int.cast_ofNat_Int, Int.reduceLT, Int.reduceLE, Int.reduceEq, Int.reduceNeg, eq_self, Option.isNone_some, Option.isNone_none, Bool.bne_false, Bool.bne_true, t0, t1, t5, t6]
      rw [w64 (by omega) (by omega)]
      rw [if_neg (by omega)] at hwo
      refine ⟨i + 1, by omega, by omega, rfl, (m1.trans' m2).trans m3 fun k hk hS => ?_, v3, rfl, ?_, ?_⟩
      · have := hv2 k hS; omega
      · rw [hwo, rows_app, List.length_append]; exact own3
      · intro k hk
        rcases hb3 k hk with h | h
        · exact hv2 k h
        · have := m1.size; have := m2.size; omega
    · have he : (q[i].file : Int) = f := by simpa using he
      unfold h104_3
      try simp only [go_sem, ↓reduceIte, Nat.reduceEqDiff, Nat.reduceAdd, Nat.reduceLT, List.length_cons, List.length_nil, List.getElem?_cons_zero, List.getElem?_cons_succ, Nat.mul_one, Bool.true_eq_false, Bool.false_eq_true, false_implies, true_implies, Bool.not_true, Bool.not_false, decide_true, decide_false, Int.reduceToNat, Int.cast_ofNat_Int, Int.reduceLT, Int.reduceLE, Int.reduceEq, Int.reduceNeg, eq_self, Option.isNone_some, Option.isNone_none, Bool.bne_false, Bool.bne_true, t0, t1, t5, t6]
      rw [w64 (by omega) (by omega)]
      rw [if_pos (by omega)] at hwo
      exact ⟨i + 1, by omega, by omega, rfl, m1, v, rfl, by rw [hwo]; exact hv, hv2⟩
  · have hio : i = q.length := by
        have : ¬ (i : Int) < q.length := by simpa using hge
        omega
    subst hio
    unfold h104_4
    try simp only [go_sem, ↓reduceIte, Nat.reduceEqDiff, Nat.reduceAdd, Nat.reduceLT, List.length_cons, List.length_nil, List.getElem?_cons_zero, List.getElem?_cons_succ, Nat.mul_one, Bool.true_eq_false, Bool.false_eq_true, false_implies, true_implies, Bool.not_true, Bool.not_false, decide_true, decide_false, Int.reduceToNat, Int.cast_ofNat_Int, Int.reduceLT, Int.reduceLE, Int.reduceEq, Int.reduceNeg, eq_self, Option.isNone_some, Option.isNone_none, Bool.bne_false, Bool.bne_true, t5]
    rw [List.take_length] at hv
    exact k _ _ m1 hv hv2

theorem survF_nil {f : Nat} : ∀ (q : List Pd) (s : Bytes), survF s q [] f = s
  | [], _ => rfl
  | p :: q, s => by simp only [survF, List.getElem?_nil, kept, List.tail_nil, ite_self, survF_nil q]
theorem survF_take {f : Nat} : ∀ (q : List Pd) (s : Bytes) (ks : List Int) (i : Nat), ks.length ≤ i → survF s (q.take i) ks f = survF s q ks f
  | [], _, _, _, _ => by simp
  | p :: q, s, ks, 0, h => by
    obtain rfl : ks = [] := List.eq_nil_of_length_eq_zero (by omega)
    rw [survF_nil, survF_nil]
  | p :: q, s, ks, i + 1, h => by
    simp only [List.take_succ_cons, survF]
    exact survF_take q _ _ i (by simp; omega)

/-- a file behind a crash -/
theorem rafter_ (h : RR w p d S) {f : Nat} (hf : f < 12) {kv : Value} {ks : List Int} {n : Nat} (hk : Sl w kv 1 n (ints ks)) (hqn : d.queue.length ≤ 1000000000000) (k : ∀ w', Mod none' w w' → next (str (survF (d.last f) d.queue ks f)) w') :
    callvK Try.prog (.func (.func 97) #[] #[]) [ptr p, .int .i64 f, kv] w next QP := by
  refine r97 rfl ?_
  obtain ⟨lv, qv, kv0, hb, hl, hq, hk0, h1, h2, h3, c0, c1, c2, c3, c4, c5⟩ := h.parts
  rcases hl.blk with ⟨-, h0, -⟩ | ⟨g, c, rest, rfl, hlb, hr, hc, hm⟩
  · omega
  have hlf : w.cell? ⟨g, f, none⟩ = some (str (d.last f)) := by
    rw [hlb.cell, List.getElem?_append_left (by simp [h.ok.nl]; omega)]
    simp [Dk.last, h.ok.nl, hf]
  obtain ⟨qa, qc, rfl, hqc, -⟩ := hq.form
  have hlast : (d.last f).length ≤ 16777216 := by
    have : d.last f = d.lasts[f]'(by rw [h.ok.nl]; exact hf) := by simp [Dk.last, h.ok.nl, hf]
    rw [this]; exact h.ok.bl _ (List.getElem_mem _)
  have hkl : ks.length = n := by have := hk.len; rw [ints_len] at this; omega
  obtain ⟨-, ka, kc, rfl, hkc, hkcell⟩ := id hk
  unfold h97
  try simp only [go_sem, ↓reduceIte, Nat.reduceEqDiff, Nat.reduceAdd, Nat.reduceLT, List.length_cons, List.length_nil, List.getElem?_cons_zero, List.getElem?_cons_succ, Nat.mul_one, Bool.true_eq_false, Bool.false_eq_true, false_implies, true_implies, Bool.not_true, Bool.not_false, decide_true, decide_false, Int.reduceToNat, Int.cast_ofNat_Int, Int.reduceLT, Int.reduceLE, Int.reduceEq, Int.reduceNeg, eq_self, Option.isNone_some, Option.isNone_none, Bool.bne_false, Bool.bne_true, c0, hlf]
  refine ⟨⟨by omega, by omega⟩, ?_⟩
  refine loopN d.queue.length (fun i τ w' => τ 0 = ptr p ∧ τ 1 = .int .i64 f ∧ τ 2 = .slice ka n kc ∧ τ 7 = str (survF (d.last f) (d.queue.take i) ks f) ∧ τ 8 = .int .i64 i ∧ Mod none' w w') ⟨0, by omega, rfl, rfl, rfl, rfl, rfl, Mod.refl _ _⟩ ?_
  rintro i τ w1 hi ⟨t0, t1, t2, t7, t8, m1⟩
  have c1 : w1.cell? ⟨p, 1, none⟩ = _ := m1.cell c1 fun h => h
  have hq1 := hq.mod m1 fun _ _ h => h
  unfold h97_1
  try simp only [go_sem, ↓reduceIte, Nat.reduceEqDiff, Nat.reduceAdd, Nat.reduceLT, List.length_cons, List.length_nil, List.getElem?_cons_zero, List.getElem?_cons_succ, Nat.mul_one, Bool.true_eq_false, Bool.false_eq_true, false_implies, true_implies, Bool.not_true, Bool.not_false, decide_true, decide_false, Int.reduceToNat, Int.cast_ofNat_Int, Int.reduceLT, Int.reduceLE, Int.reduceEq, Int.reduceNeg, eq_self, Option.isNone_some, Option.isNone_none, Bool.bne_false, Bool.bne_true, t0, t1, t2, t7, t8, c1]
  by_cases hil : i < d.queue.length
  · by_cases hin : i < n
    · have e1 : decide ((i : Int) < d.queue.length) = true := by simpa using by omega
      have e2 : decide ((i : Int) < n) = true := by simpa using by omega
      try simp only [go_sem, ↓reduceIte, Nat.reduceEqDiff, Nat.reduceAdd, Nat.reduceLT, List.length_cons, List.length_nil, List.getElem?_cons_zero, List.getElem?_cons_succ, Nat.mul_one, Bool.true_eq_false, Bool.false_eq_true, false_implies, true_implies, Bool.not_true, Bool.not_false, decide_true, decide_false, Int.reduceToNat, Int.cast_ofNat_Int, Int.reduceLT, Int.reduceLE, Int.reduceEq, Int.reduceNeg, eq_self, Option.isNone_some, Option.isNone_none, Bool.bne_false, Bool.bne_true, e1, e2]
      obtain ⟨gb, o, c', hva, x0, x1, x2, hld, hsome⟩ := pd_at hq1.sl hil
      simp only [Value.slice.injEq] at hva
      obtain ⟨rfl, -, rfl⟩ := hva
      unfold h97_2
      try simp only [go_sem, ↓reduceIte, Nat.reduceEqDiff, Nat.reduceAdd, Nat.reduceLT, List.length_cons, List.length_nil, List.getElem?_cons_zero, List.getElem?_cons_succ, Nat.mul_one, Bool.true_eq_false, Bool.false_eq_true, false_implies, true_implies, Bool.not_true, Bool.not_false, decide_true, decide_false, Int.reduceToNat, Int.cast_ofNat_Int, Int.reduceLT, Int.reduceLE, Int.reduceEq, Int.reduceNeg, eq_self, Option.isNone_some, Option.isNone_none, Bool.bne_false, Bool.bne_true, t0, t1, t2, t7, t8, c1, hld]
      repeat refine ⟨⟨by omega, by omega⟩, ?_⟩
      refine ⟨hsome, ?_⟩
      refine alloc_ (z := .agg #[.int .i64 0, .int .i64 0, str []]) (cs := [.int .i64 0, .int .i64 0, str []]) (by kernel_rfl) rfl ?_
      intro b2 w2 hb2 blk2 m2 hs2
      refine storeN sz118 (Pd.cells_len d.queue[i]) blk2 (by simp) (Pd.one _) ?_
      intro w3 blk3 m3 hs3
      have m3' : Mod none' w w3 := (m1.trans' m2).trans m3 fun k hk (e : k = b2) => by have := m1.size; omega
      have blk3 : Blk w3 b2 118 d.queue[i].cells := by simpa [Pd.cells] using blk3
      have y0 : w3.cell? ⟨b2, 0, none⟩ = some (.int .i64 d.queue[i].file) := blk3.cell 0
      have y1 : w3.cell? ⟨b2, 1, none⟩ = some (.int .i64 d.queue[i].at_) := blk3.cell 1
      have y2 : w3.cell? ⟨b2, 2, none⟩ = some (str d.queue[i].bytes) := blk3.cell 2
      have hsnoc : survF (d.last f) (d.queue.take (i + 1)) ks f = (if d.queue[i].file = f then (match kept ks[i]? d.queue[i].bytes with | none => survF (d.last f) (d.queue.take i) ks f | some b => put (survF (d.last f) (d.queue.take i) ks f) d.queue[i].at_ b) else survF (d.last f) (d.queue.take i) ks f) := by
        rw [List.take_succ_eq_append_getElem hil, survF_snoc, List.length_take, Nat.min_eq_left (by omega)]; rfl
      have hbq := h.ok.bq _ (List.getElem_mem hil)
      have hsle : (survF (d.last f) (d.queue.take i) ks f).length ≤ 16777216 := survF_le _ _ _ hlast fun p hp => (h.ok.bq p (List.mem_of_mem_take hp)).2
      try simp only [go_sem, ↓reduceIte, Nat.reduceEqDiff, Nat.reduceAdd, Nat.reduceLT, List.length_cons, List.length_nil, List.getElem?_cons_zero, List.getElem?_cons_succ, Nat.mul_one, Bool.true_eq_false, Bool.false_eq_true, false_implies, true_implies, Bool.not_true, Bool.not_false, decide_true, decide_false, Int.reduceToNat, Int.cast_ofNat_Int, Int.reduceLT, Int.reduceLE, Int.reduceEq, Int.reduceNeg, eq_self, Option.isNone_some, Option.isNone_none, Bool.bne_false, Bool.bne_true, t0, t1, t2, t7, t8, y0]
      refine ⟨fun he => ?_, fun he => ?_⟩
      · have he : ¬ (d.queue[i].file : Int) = f := by simpa using he
        unfold h97_5
        try simp only [go_sem, ↓reduceIte, Nat.reduceEqDiff, Nat.reduceAdd, Nat.reduceLT, List.length_cons, List.length_nil, List.getElem?_cons_zero, List.getElem?_cons_succ, Nat.mul_one, Bool.true_eq_false, Bool.false_eq_true, false_implies, true_implies, Bool.not_true, Bool.not_false, decide_true, decide_false, Int.reduceToNat, Int.cast_ofNat_Int, Int.reduceLT, Int.reduceLE, Int.reduceEq, Int.reduceNeg, eq_self, Option.isNone_some, Option.isNone_none, Bool.bne_false, Bool.bne_true, t0, t1, t2, t7, t8]
        rw [w64 (by omega) (by omega)]
        exact ⟨i + 1, by omega, by omega, by rw [hsnoc, if_neg (by omega)], rfl, m3'⟩
      · have he : (d.queue[i].file : Int) = f := by simpa using he
        rw [if_pos (by omega)] at hsnoc
        obtain ⟨kb, ko, rfl, hkc2⟩ := hkcell (by omega)
        have hki : w.cell? ⟨kb, ko + i, none⟩ = some (.int .i64 ks[i]) := by rw [hkc2 i (by omega)]; simp [ints, hkl, hin]
        have hki3 := m3'.cell hki fun h => h
        have hks : ks[i]? = some ks[i] := by simp [hkl, hin]
        unfold h97_3
        try simp only [go_sem, ↓reduceIte, Nat.reduceEqDiff, Nat.reduceAdd, Nat.reduceLT, List.length_cons, List.length_nil, List.getElem?_cons_zero, List.getElem?_cons_succ, Nat.mul_one, Bool.true_eq_false, Bool.false_eq_true, false_implies, true_implies, Bool.not_true, Bool.not_false, decide_true, decide_false, Int.reduceToNat, Int.cast_ofNat_Int, Int.reduceLT, Int.reduceLE, Int.reduceEq, Int.reduceNeg, eq_self, Option.isNone_some, Option.isNone_none, Bool.bne_false, Bool.bne_true, t0, t1, t2, t7, t8, hki3]
        repeat refine ⟨⟨by omega, by omega⟩, ?_⟩
        refine ⟨fun h1 => ?_, fun h1 => ?_⟩
        · have h1 : ks[i] = 1 := by simpa using h1
          try simp only [go_sem, ↓reduceIte, Nat.reduceEqDiff, Nat.reduceAdd, Nat.reduceLT, List.length_cons, List.length_nil, List.getElem?_cons_zero, List.getElem?_cons_succ, Nat.mul_one, Bool.true_eq_false, Bool.false_eq_true, false_implies, true_implies, Bool.not_true, Bool.not_false, decide_true, decide_false, Int.reduceToNat, Int.cast_ofNat_Int, Int.reduceLT, Int.reduceLE, Int.reduceEq, Int.reduceNeg, eq_self, Option.isNone_some, Option.isNone_none, Bool.bne_false, Bool.bne_true, t0, t1, t2, t7, t8, y1, y2]
          refine rput_ _ _ _ hsle hbq.2 ?_
          intro w4 m4
          have hki4 := m4.cell hki3 fun h => h
          have e5 : decide ((1 : Int) = 2) = false := by decide
          unfold h97_4
          try simp only [go_sem, ↓reduceIte, Nat.reduceEqDiff, Nat.reduceAdd, Nat.reduceLT, List.length_cons, List.length_nil, List.getElem?_cons_zero, List.getElem?_cons_succ, Nat.mul_one, Bool.true_eq_false, Bool.false_eq_true, false_implies, true_implies, Bool.not_true, Bool.not_false, decide_true, decide_false, Int.reduceToNat, Int.cast_ofNat_Int, Int.reduceLT, Int.reduceLE, Int.reduceEq, Int.reduceNeg, eq_self, Option.isNone_some, Option.isNone_none, Bool.bne_false, Bool.bne_true, t0, t1, t2, t7, t8, hki4, h1, e5]
          repeat refine ⟨⟨by omega, by omega⟩, ?_⟩
          unfold h97_5
          try simp only [go_sem, ↓reduceIte, Nat.reduceEqDiff, Nat.reduceAdd, Nat.reduceLT, List.length_cons, List.length_nil, List.getElem?_cons_zero, List.getElem?_cons_succ, Nat.mul_one, Bool.true_eq_false, Bool.false_eq_true, false_implies, true_implies, Bool.not_true, Bool.not_false, decide_true, decide_false, Int.reduceToNat, Int.cast_ofNat_Int, Int.reduceLT, Int.reduceLE, Int.reduceEq, Int.reduceNeg, eq_self, Option.isNone_some, Option.isNone_none, Bool.bne_false, Bool.bne_true, t0, t1, t2, t7, t8]
          rw [w64 (by omega) (by omega)]
          exact ⟨i + 1, by omega, by omega, by rw [hsnoc, hks, h1]; rfl, rfl, m3'.trans' m4⟩
        · have h1 : ¬ ks[i] = 1 := by simpa using h1
          unfold h97_4
          try simp only [go_sem, ↓reduceIte, Nat.reduceEqDiff, Nat.reduceAdd, Nat.reduceLT, List.length_cons, List.length_nil, List.getElem?_cons_zero, List.getElem?_cons_succ, Nat.mul_one, Bool.true_eq_false, Bool.false_eq_true, false_implies, true_implies, Bool.not_true, Bool.not_false, decide_true, decide_false, Int.reduceToNat, Int.cast_ofNat_Int, Int.reduceLT, Int.reduceLE, Int.reduceEq, Int.reduceNeg, eq_self, Option.isNone_some, Option.isNone_none, Bool.bne_false, Bool.bne_true, t0, t1, t2, t7, t8, hki3]
          repeat refine ⟨⟨by omega, by omega⟩, ?_⟩
          refine ⟨fun h2 => ?_, fun h2 => ?_⟩
          · have h2 : ks[i] = 2 := by simpa using h2
            try simp only [go_sem, ↓reduceIte, Nat.reduceEqDiff, Nat.reduceAdd, Nat.reduceLT, List.length_cons, List.length_nil, List.getElem?_cons_zero, List.getElem?_cons_succ, Nat.mul_one, Bool.true_eq_false, Bool.false_eq_true, false_implies, true_implies, Bool.not_true, Bool.not_false, decide_true, decide_false, Int.reduceToNat, Int.cast_ofNat_Int, Int.reduceLT, Int.reduceLE, Int.reduceEq, Int.reduceNeg, eq_self, Option.isNone_some, Option.isNone_none, Bool.bne_false, Bool.bne_true, t0, t1, t2, t7, t8, y1, y2]
            have e24 : (if (d.queue[i].bytes.length : Int) < 24 then (d.queue[i].bytes.length : Int) else 24) = ((min d.queue[i].bytes.length 24 : Nat) : Int) := by split <;> omega
            simp only [e24, Int.toNat_natCast]
            refine ⟨⟨by omega, by omega⟩, ?_⟩
            have e25 : d.queue[i].bytes.take (min d.queue[i].bytes.length 24) = d.queue[i].bytes.take 24 := by
              rcases Nat.le_total d.queue[i].bytes.length 24 with h | h
              · rw [Nat.min_eq_left h, List.take_of_length_le (Nat.le_refl _), List.take_of_length_le h]
              · rw [Nat.min_eq_right h]
            rw [e25]
            refine rput_ _ _ _ hsle (by have := hbq.2; rw [List.length_take]; omega) ?_
            intro w4 m4
            unfold h97_5
            try simp only [go_sem, ↓reduceIte, Nat.reduceEqDiff, Nat.reduceAdd, Nat.reduceLT, List.length_cons, List.length_nil, List.getElem?_cons_zero, List.getElem?_cons_succ, Nat.mul_one, Bool.true_eq_false, Bool.false_eq_true, false_implies, true_implies, Bool.not_true, Bool.not_false, decide_true, decide_false, Int.reduceToNat, Int.cast_ofNat_Int, Int.reduceLT, Int.reduceLE, Int.reduceEq, Int.reduceNeg, eq_self, Option.isNone_some, Option.isNone_none, Bool.bne_false, Bool.bne_true, t0, t1, t2, t7, t8]
            rw [w64 (by omega) (by omega)]
            exact ⟨i + 1, by omega, by omega, by rw [hsnoc, hks, h2]; rfl, rfl, m3'.trans' ((Mod.drew none' w3).trans' m4)⟩
          · have h2 : ¬ ks[i] = 2 := by simpa using h2
            unfold h97_5
            try simp only [go_sem, ↓reduceIte, Nat.reduceEqDiff, Nat.reduceAdd, Nat.reduceLT, List.length_cons, List.length_nil, List.getElem?_cons_zero, List.getElem?_cons_succ, Nat.mul_one, Bool.true_eq_false, Bool.false_eq_true, false_implies, true_implies, Bool.not_true, Bool.not_false, decide_true, decide_false, Int.reduceToNat, Int.cast_ofNat_Int, Int.reduceLT, Int.reduceLE, Int.reduceEq, Int.reduceNeg, eq_self, Option.isNone_some, Option.isNone_none, Bool.bne_false, Bool.bne_true, t0, t1, t2, t7, t8]
            rw [w64 (by omega) (by omega)]
            exact ⟨i + 1, by omega, by omega, by rw [hsnoc, hks]; simp [kept, h1, h2], rfl, m3'⟩
    · have e1 : decide ((i : Int) < d.queue.length) = true := by simpa using by omega
      have e2 : decide ((i : Int) < n) = false := by simpa using by omega
      try simp only [go_sem, ↓reduceIte, Nat.reduceEqDiff, Nat.reduceAdd, Nat.reduceLT, List.length_cons, List.length_nil, List.getElem?_cons_zero, List.getElem?_cons_succ, Nat.mul_one, Bool.true_eq_false, Bool.false_eq_true, false_implies, true_implies, Bool.not_true, Bool.not_false, decide_true, decide_false, Int.reduceToNat, Int.cast_ofNat_Int, Int.reduceLT, Int.reduceLE, Int.reduceEq, Int.reduceNeg, eq_self, Option.isNone_some, Option.isNone_none, Bool.bne_false, Bool.bne_true, e1, e2]
      unfold h97_6
      try simp only [go_sem, ↓reduceIte, Nat.reduceEqDiff, Nat.reduceAdd, Nat.reduceLT, List.length_cons, List.length_nil, List.getElem?_cons_zero, List.getElem?_cons_succ, Nat.mul_one, Bool.true_eq_false, Bool.false_eq_true, false_implies, true_implies, Bool.not_true, Bool.not_false, decide_true, decide_false, Int.reduceToNat, Int.cast_ofNat_Int, Int.reduceLT, Int.reduceLE, Int.reduceEq, Int.reduceNeg, eq_self, Option.isNone_some, Option.isNone_none, Bool.bne_false, Bool.bne_true, t7]
      rw [survF_take _ _ _ _ (by omega)]
      exact k _ m1
  · have hio : i = d.queue.length := by omega
    subst hio
    have e1 : decide ((d.queue.length : Int) < d.queue.length) = false := by simp
    try simp only [go_sem, ↓reduceIte, Nat.reduceEqDiff, Nat.reduceAdd, Nat.reduceLT, List.length_cons, List.length_nil, List.getElem?_cons_zero, List.getElem?_cons_succ, Nat.mul_one, Bool.true_eq_false, Bool.false_eq_true, false_implies, true_implies, Bool.not_true, Bool.not_false, decide_true, decide_false, Int.reduceToNat, Int.cast_ofNat_Int, Int.reduceLT, Int.reduceLE, Int.reduceEq, Int.reduceNeg, eq_self, Option.isNone_some, Option.isNone_none, Bool.bne_false, Bool.bne_true, e1]
    unfold h97_6
    try simp only [go_sem, ↓reduceIte, Nat.reduceEqDiff, Nat.reduceAdd, Nat.reduceLT, List.length_cons, List.length_nil, List.getElem?_cons_zero, List.getElem?_cons_succ, Nat.mul_one, Bool.true_eq_false, Bool.false_eq_true, false_implies, true_implies, Bool.not_true, Bool.not_false, decide_true, decide_false, Int.reduceToNat, Int.cast_ofNat_Int, Int.reduceLT, Int.reduceLE, Int.reduceEq, Int.reduceNeg, eq_self, Option.isNone_some, Option.isNone_none, Bool.bne_false, Bool.bne_true, t7]
    rw [List.take_length]
    exact k _ m1
end
end Go.Proofs.Y
