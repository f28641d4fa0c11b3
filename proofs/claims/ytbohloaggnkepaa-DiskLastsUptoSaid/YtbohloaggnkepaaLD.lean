/- LD: the walks of without and here. -/
import Derived.Test.YtbohloaggnkepaaDW
import Derived.Test.YtbohloaggnkepaaLC
set_option linter.unusedSimpArgs false
set_option linter.unusedVariables false
namespace Go.Proofs.Y
open Go Go.HL Go.Proofs
section
variable {w : World} {next : Value → World → Prop} {QP : List PanicEntry → World → Prop}

theorem without_ {v : Value} {al : List Act} {f : Int} (hv : Sl w v 6 al.length (rows Act.cells al)) (ha : ∀ a ∈ al, a.OK w) (hn : al.length ≤ 1048576)
    (k : ∀ v' w', Own w' v' 42 6 (without al f).length (rows Act.cells (without al f)) → Mod none' w w' → (∀ k, v'.ownBlock = some k → w.heap.size ≤ k) → next v' w') :
    callvK Try.prog (.func (.func 24) #[] #[]) [v, .int .i64 f] w next QP := by
  refine r24 rfl ?_
  obtain ⟨va, vc, rfl, hvc, -⟩ := hv.form
  unfold h24
  try simp only [go_sem, ↓reduceIte, Nat.reduceEqDiff, Nat.reduceAdd, Nat.reduceLT, List.length_cons, List.length_nil, List.getElem?_cons_zero, List.getElem?_cons_succ, Nat.mul_one, Bool.true_eq_false, Bool.false_eq_true, false_implies, true_implies, Bool.not_true, Bool.not_false, decide_true, decide_false, Int.reduceToNat, Int.cast_ofNat_Int, Int.reduceLT, Int.reduceLE, Int.reduceEq, Int.reduceNeg, eq_self, Option.isNone_some, Option.isNone_none, Bool.bne_false, Bool.bne_true]
  refine loopN al.length (fun i τ w' => τ 0 = .slice va al.length vc ∧ τ 1 = .int .i64 f ∧ τ 6 = .int .i64 i ∧ Mod none' w w' ∧ ∃ v', τ 5 = v' ∧ Own w' v' 42 6 (without (al.take i) f).length (rows Act.cells (without (al.take i) f)) ∧ (∀ k, v'.ownBlock = some k → w.heap.size ≤ k))
    ⟨0, by omega, rfl, rfl, rfl, Mod.refl _ _, _, rfl, Own.nil _ _ _, (fun k hk => nomatch (hk : none = some k))⟩ ?_
  rintro i τ w1 hi ⟨t0, t1, t6, m1, v', t5, own, hfr⟩
  unfold h24_1
  try simp only [go_sem, ↓reduceIte, Nat.reduceEqDiff, Nat.reduceAdd, Nat.reduceLT, List.length_cons, List.length_nil, List.getElem?_cons_zero, List.getElem?_cons_succ, Nat.mul_one, Bool.true_eq_false, Bool.false_eq_true, false_implies, true_implies, Bool.not_true, Bool.not_false, decide_true, decide_false, Int.reduceToNat, Int.cast_ofNat_Int, Int.reduceLT, Int.reduceLE, Int.reduceEq, Int.reduceNeg, eq_self, Option.isNone_some, Option.isNone_none, Bool.bne_false, Bool.bne_true, t0, t1, t5, t6]
  refine ⟨fun hlt => ?_, fun hge => ?_⟩
  · have hil : i < al.length := by simpa using hlt
    obtain ⟨gb, o, c', hva', hcc, hcell⟩ := (hv.mod m1 fun _ _ h => h).get Act.cells_len rfl (by omega)
    obtain ⟨gb', o', c'', hva, hld, hsome⟩ := act_at hv m1 hil
    simp only [Value.slice.injEq] at hva'
    obtain ⟨rfl, -, rfl⟩ := hva'
    simp only [Value.slice.injEq, Option.some.injEq, Addr.mk.injEq, true_and, and_true] at hva
    obtain ⟨⟨rfl, rfl⟩, rfl⟩ := hva
    have x1 : w1.cell? ⟨gb, o + i * 6 + 1, none⟩ = some (.int .i64 al[i].F) := (hcell i 1 hil (by omega)).trans rfl
    have htk := filter_take (φ := fun a : Act => !decide (a.F = f)) hil
    unfold h24_2
    try simp only [go_sem, ↓reduceIte, Nat.reduceEqDiff, Nat.reduceAdd, Nat.reduceLT, List.length_cons, List.length_nil, List.getElem?_cons_zero, List.getElem?_cons_succ, Nat.mul_one, Bool.true_eq_false, Bool.false_eq_true, false_implies, true_implies, Bool.not_true, Bool.not_false, decide_true, decide_false, Int.reduceToNat, Int.cast_ofNat_Int, Int.reduceLT, Int.reduceLE, Int.reduceEq, Int.reduceNeg, eq_self, Option.isNone_some, Option.isNone_none, Bool.bne_false, Bool.bne_true, t0, t1, t5, t6, x1, hld]
    refine ⟨⟨by omega, by omega⟩, fun hne => ?_, fun heq => ?_⟩
    · rw [if_pos hne] at htk
      refine ⟨⟨by omega, by omega⟩, hsome, ?_⟩
      refine bsl1 sl38 (cs := al[i].cells) rfl rfl (by omega) ?_
      intro b2 w2 hb2 own2 _ m2 _
      have hlw : (without (al.take i) f).length ≤ i := by unfold without; exact Nat.le_trans (List.length_filter_le _ _) (by simp; omega)
      refine append_ sl38 (own.mod m2 fun _ _ h => h) own2.sl (Act.one (ha _ (List.getElem_mem hil))) (by omega) (by unfold maxLen; omega) ?_
      intro v3 w3 own3 m3 hb3 _
      have e : without (al.take (i + 1)) f = without (al.take i) f ++ [al[i]] := htk
      have m13 : Mod none' w w3 := (m1.trans' m2).trans m3 fun k hk hS => by have := hfr k hS; omega
      unfold h24_3
      try simp only [go_sem, ↓reduceIte, Nat.reduceEqDiff, Nat.reduceAdd, Nat.reduceLT, List.length_cons, List.length_nil, List.getElem?_cons_zero, List.getElem?_cons_succ, Nat.mul_one, Bool.true_eq_false, Bool.false_eq_true, false_implies, true_implies, Bool.not_true, Bool.not_false, decide_true, decide_false, Int.reduceToNat, Int.cast_ofNat_Int, Int.reduceLT, Int.reduceLE, Int.reduceEq, Int.reduceNeg, eq_self, Option.isNone_some, Option.isNone_none, Bool.bne_false, Bool.bne_true, t0, t1, t5, t6]
      rw [w64 (by omega) (by omega)]
      refine ⟨i + 1, by omega, by omega, rfl, m13, v3, rfl, ?_, ?_⟩
      · rw [e, List.length_append, rows_app]
        simpa [rows] using own3
      · intro k hk
        rcases hb3 k hk with h | h
        · exact hfr k h
        · have := m1.size; have := m2.size; omega
    · have hne : ¬ (!decide (al[i].F = f)) = true := by rw [heq]; simp
      rw [if_neg hne, List.append_nil] at htk
      have e : without (al.take (i + 1)) f = without (al.take i) f := htk
      unfold h24_3
      try simp only [go_sem, ↓reduceIte, Nat.reduceEqDiff, Nat.reduceAdd, Nat.reduceLT, List.length_cons, List.length_nil, List.getElem?_cons_zero, List.getElem?_cons_succ, Nat.mul_one, Bool.true_eq_false, Bool.false_eq_true, false_implies, true_implies, Bool.not_true, Bool.not_false, decide_true, decide_false, Int.reduceToNat, Int.cast_ofNat_Int, Int.reduceLT, Int.reduceLE, Int.reduceEq, Int.reduceNeg, eq_self, Option.isNone_some, Option.isNone_none, Bool.bne_false, Bool.bne_true, t0, t1, t5, t6]
      rw [w64 (by omega) (by omega)]
      refine ⟨i + 1, by omega, by omega, rfl, m1, v', rfl, ?_, hfr⟩
      rw [e]; exact own
  · have hge' : al.length ≤ i := by simpa using hge
    rw [List.take_of_length_le hge'] at own
    unfold h24_4
    try simp only [go_sem, ↓reduceIte, Nat.reduceEqDiff, Nat.reduceAdd, Nat.reduceLT, List.length_cons, List.length_nil, List.getElem?_cons_zero, List.getElem?_cons_succ, Nat.mul_one, Bool.true_eq_false, Bool.false_eq_true, false_implies, true_implies, Bool.not_true, Bool.not_false, decide_true, decide_false, Int.reduceToNat, Int.cast_ofNat_Int, Int.reduceLT, Int.reduceLE, Int.reduceEq, Int.reduceNeg, eq_self, Option.isNone_some, Option.isNone_none, Bool.bne_false, Bool.bne_true, t0, t1, t5, t6]
    exact k _ _ own m1 hfr

theorem here_ {s safe : Bytes} {v : Value} {al : List Act} {f : Int} (hH : Here s safe al f) (hs : s.length ≤ 16777216) (hv : Sl w v 6 al.length (rows Act.cells al)) (hn : al.length ≤ 1048576) (hN : ∀ a ∈ al, 0 ≤ a.N ∧ a.N < 4000)
    (k : ∀ w', Mod none' w w' → next (.bool true) w') : callvK Try.prog (.func (.func 25) #[] #[]) [str s, str safe, v, .int .i64 f] w next QP := by
  refine r25 rfl ?_
  obtain ⟨va, vc, rfl, hvc, -⟩ := hv.form
  unfold h25
  try simp only [go_sem, ↓reduceIte, Nat.reduceEqDiff, Nat.reduceAdd, Nat.reduceLT, List.length_cons, List.length_nil, List.getElem?_cons_zero, List.getElem?_cons_succ, Nat.mul_one, Bool.true_eq_false, Bool.false_eq_true, false_implies, true_implies, Bool.not_true, Bool.not_false, decide_true, decide_false, Int.reduceToNat, Int.cast_ofNat_Int, Int.reduceLT, Int.reduceLE, Int.reduceEq, Int.reduceNeg, eq_self, Option.isNone_some, Option.isNone_none, Bool.bne_false, Bool.bne_true]
  refine loopN s.length (fun i τ w' => τ 0 = str s ∧ τ 1 = str safe ∧ τ 2 = .slice va al.length vc ∧ τ 3 = .int .i64 f ∧ τ 9 = .int .i64 i ∧ Mod none' w w') ⟨0, by omega, rfl, rfl, rfl, rfl, rfl, Mod.refl _ _⟩ ?_
  rintro i τ w1 hi ⟨t0, t1, t2, t3, t9, m1⟩
  unfold h25_1
  try simp only [go_sem, ↓reduceIte, Nat.reduceEqDiff, Nat.reduceAdd, Nat.reduceLT, List.length_cons, List.length_nil, List.getElem?_cons_zero, List.getElem?_cons_succ, Nat.mul_one, Bool.true_eq_false, Bool.false_eq_true, false_implies, true_implies, Bool.not_true, Bool.not_false, decide_true, decide_false, Int.reduceToNat, Int.cast_ofNat_Int, Int.reduceLT, Int.reduceLE, Int.reduceEq, Int.reduceNeg, eq_self, Option.isNone_some, Option.isNone_none, Bool.bne_false, Bool.bne_true, t0, t1, t2, t3, t9]
  refine ⟨fun hlt => ?_, fun hge => ?_⟩
  · have hil : i < s.length := by have : (i : Int) < s.length := by simpa using hlt
                                  omega
    have hsi : s[i]? = some s[i] := List.getElem?_eq_getElem hil
    have hok := hH.2 i _ hsi
    unfold h25_2
    try simp only [go_sem, ↓reduceIte, Nat.reduceEqDiff, Nat.reduceAdd, Nat.reduceLT, List.length_cons, List.length_nil, List.getElem?_cons_zero, List.getElem?_cons_succ, Nat.mul_one, Bool.true_eq_false, Bool.false_eq_true, false_implies, true_implies, Bool.not_true, Bool.not_false, decide_true, decide_false, Int.reduceToNat, Int.cast_ofNat_Int, Int.reduceLT, Int.reduceLE, Int.reduceEq, Int.reduceNeg, eq_self, Option.isNone_some, Option.isNone_none, Bool.bne_false, Bool.bne_true, t0, t1, t2, t3, t9, hsi]
    refine ⟨fun _ => ⟨by omega, by omega⟩, fun h => ⟨by omega, by simpa using h⟩, fun _ => ⟨by omega, by omega⟩, ?_⟩
    generalize hok0 : (if (if decide ((i : Int) < (safe.length : Int)) = true then decide ((s[i].toNat : Int) = (((safe[i]?).getD 0).toNat : Int)) else false) = true then true else if decide ((safe.length : Int) ≤ (i : Int)) = true then decide ((s[i].toNat : Int) = 0) else false) = ok0
    have hst : ok0 = true ∨ ∃ a ∈ al.drop 0, wrote a f i s[i] := by
      rcases hok with ⟨h1, h2⟩ | ⟨h1, h2⟩ | h
      · left
        have e : decide ((i : Int) < (safe.length : Int)) = true := by simp; omega
        rw [← hok0, e, h2]; simp
      · left
        have e : decide ((i : Int) < (safe.length : Int)) = false := by simp; omega
        have e2 : decide ((safe.length : Int) ≤ (i : Int)) = true := by simp; omega
        rw [← hok0, e, e2, h2]; simp
      · exact .inr h
    clear hok0
    refine loopN al.length (fun j τ w' => τ 0 = str s ∧ τ 1 = str safe ∧ τ 2 = .slice va al.length vc ∧ τ 3 = .int .i64 f ∧ τ 9 = .int .i64 i ∧ τ 11 = .int .i64 j ∧ Mod none' w w' ∧ ∃ ok, τ 10 = .bool ok ∧ (ok = true ∨ ∃ a ∈ al.drop j, wrote a f i s[i])) ⟨0, by omega, t0, t1, t2, t3, t9, rfl, m1.trans' (Mod.drew _ _), ok0, rfl, hst⟩ ?_
    clear t0 t1 t2 t3 t9 hlt m1 hst
    rintro j τ w1 hj ⟨t0, t1, t2, t3, t9, t11, m1, ok, t10, hst⟩
    unfold h25_3
    try simp only [go_sem, ↓reduceIte, Nat.reduceEqDiff, Nat.reduceAdd, Nat.reduceLT, List.length_cons, List.length_nil, List.getElem?_cons_zero, List.getElem?_cons_succ, Nat.mul_one, Bool.true_eq_false, Bool.false_eq_true, false_implies, true_implies, Bool.not_true, Bool.not_false, decide_true, decide_false, Int.reduceToNat, Int.cast_ofNat_Int, Int.reduceLT, Int.reduceLE, Int.reduceEq, Int.reduceNeg, eq_self, Option.isNone_some, Option.isNone_none, Bool.bne_false, Bool.bne_true, t0, t1, t2, t3, t9, t10, t11]
    have out : ok = true → ∀ σ : Env, σ 0 = str s → σ 1 = str safe → σ 2 = .slice va al.length vc → σ 3 = .int .i64 f → σ 9 = .int .i64 i → σ 10 = .bool true →
        hw Try.prog noPanic h25_6 (blockX 1 (seqX (hw Try.prog noPanic h25_7 (seqX (fun σ' w' => ∃ i', i < i' ∧ i' ≤ s.length ∧ σ' 0 = str s ∧ σ' 1 = str safe ∧ σ' 2 = .slice va al.length vc ∧ σ' 3 = .int .i64 f ∧ σ' 9 = .int .i64 i' ∧ Mod none' w w') (blockX 0 (seqX (hw Try.prog noPanic h25_8 (endV [.tmp 8] next)) (endV [.tmp 8] next)))))
          (seqX (fun σ' w' => ∃ i', i < i' ∧ i' ≤ s.length ∧ σ' 0 = str s ∧ σ' 1 = str safe ∧ σ' 2 = .slice va al.length vc ∧ σ' 3 = .int .i64 f ∧ σ' 9 = .int .i64 i' ∧ Mod none' w w') (blockX 0 (seqX (hw Try.prog noPanic h25_8 (endV [.tmp 8] next)) (endV [.tmp 8] next)))))) σ w1 := by
      intro hk σ s0 s1 s2 s3 s9 s10
      unfold h25_6
      try simp only [go_sem, ↓reduceIte, Nat.reduceEqDiff, Nat.reduceAdd, Nat.reduceLT, List.length_cons, List.length_nil, List.getElem?_cons_zero, List.getElem?_cons_succ, Nat.mul_one, Bool.true_eq_false, Bool.false_eq_true, false_implies, true_implies, Bool.not_true, Bool.not_false, decide_true, decide_false, Int.reduceToNat, Int.cast_ofNat_Int, Int.reduceLT, Int.reduceLE, Int.reduceEq, Int.reduceNeg, eq_self, Option.isNone_some, Option.isNone_none, Bool.bne_false, Bool.bne_true, s0, s1, s2, s3, s9, s10]
      unfold h25_7
      try simp only [go_sem, ↓reduceIte, Nat.reduceEqDiff, Nat.reduceAdd, Nat.reduceLT, List.length_cons, List.length_nil, List.getElem?_cons_zero, List.getElem?_cons_succ, Nat.mul_one, Bool.true_eq_false, Bool.false_eq_true, false_implies, true_implies, Bool.not_true, Bool.not_false, decide_true, decide_false, Int.reduceToNat, Int.cast_ofNat_Int, Int.reduceLT, Int.reduceLE, Int.reduceEq, Int.reduceNeg, eq_self, Option.isNone_some, Option.isNone_none, Bool.bne_false, Bool.bne_true, s0, s1, s2, s3, s9, s10]
      rw [w64 (by omega) (by omega)]
      exact ⟨i + 1, by omega, by omega, rfl, m1⟩
    by_cases hex : decide ((j : Int) < (al.length : Int)) = true ∧ ok = false
    · obtain ⟨hjl, rfl⟩ := hex
      have hjl' : j < al.length := by have : (j : Int) < al.length := by simpa using hjl
                                      omega
      try simp only [go_sem, ↓reduceIte, Nat.reduceEqDiff, Nat.reduceAdd, Nat.reduceLT, List.length_cons, List.length_nil, List.getElem?_cons_zero, List.getElem?_cons_succ, Nat.mul_one, Bool.true_eq_false, Bool.false_eq_true, false_implies, true_implies, Bool.not_true, Bool.not_false, decide_true, decide_false, Int.reduceToNat, Int.cast_ofNat_Int, Int.reduceLT, Int.reduceLE, Int.reduceEq, Int.reduceNeg, eq_self, Option.isNone_some, Option.isNone_none, Bool.bne_false, Bool.bne_true, hjl]
      obtain ⟨gb, o, c', hva', hcc, hcell⟩ := (hv.mod m1 fun _ _ h => h).get Act.cells_len rfl (by omega)
      simp only [Value.slice.injEq] at hva'
      obtain ⟨rfl, -, rfl⟩ := hva'
      have x1 : w1.cell? ⟨gb, o + j * 6 + 1, none⟩ = some (.int .i64 al[j].F) := (hcell j 1 hjl' (by omega)).trans rfl
      have x3 : w1.cell? ⟨gb, o + j * 6 + 3, none⟩ = some (.int .i64 al[j].N) := (hcell j 3 hjl' (by omega)).trans rfl
      have x4 : w1.cell? ⟨gb, o + j * 6 + 4, none⟩ = some (str al[j].S) := (hcell j 4 hjl' (by omega)).trans rfl
      have hNj := hN _ (List.getElem_mem hjl')
      unfold h25_4
      try simp only [go_sem, ↓reduceIte, Nat.reduceEqDiff, Nat.reduceAdd, Nat.reduceLT, List.length_cons, List.length_nil, List.getElem?_cons_zero, List.getElem?_cons_succ, Nat.mul_one, Bool.true_eq_false, Bool.false_eq_true, false_implies, true_implies, Bool.not_true, Bool.not_false, decide_true, decide_false, Int.reduceToNat, Int.cast_ofNat_Int, Int.reduceLT, Int.reduceLE, Int.reduceEq, Int.reduceNeg, eq_self, Option.isNone_some, Option.isNone_none, Bool.bne_false, Bool.bne_true, t0, t1, t2, t3, t9, t10, t11, x1, x3, x4, hsi]
      rw [w64 (x := (i : Int) - al[j].N) (by omega) (by omega)]
      refine ⟨⟨by omega, by omega⟩, ⟨by omega, by omega⟩, fun _ => ⟨by omega, by omega⟩, fun _ => ⟨by omega, by omega⟩, fun h => ?_, fun _ => ⟨by omega, by omega⟩, ?_⟩
      · have h : (al[j].F = f ∧ 0 ≤ (i : Int) - al[j].N) ∧ (i : Int) - al[j].N < (al[j].S.length : Int) := by simpa [-Int.sub_nonneg] using h
        exact ⟨h.1.2, h.2⟩
      unfold h25_5
      try simp only [go_sem, ↓reduceIte, Nat.reduceEqDiff, Nat.reduceAdd, Nat.reduceLT, List.length_cons, List.length_nil, List.getElem?_cons_zero, List.getElem?_cons_succ, Nat.mul_one, Bool.true_eq_false, Bool.false_eq_true, false_implies, true_implies, Bool.not_true, Bool.not_false, decide_true, decide_false, Int.reduceToNat, Int.cast_ofNat_Int, Int.reduceLT, Int.reduceLE, Int.reduceEq, Int.reduceNeg, eq_self, Option.isNone_some, Option.isNone_none, Bool.bne_false, Bool.bne_true, t0, t1, t2, t3, t9, t10, t11]
      rw [w64 (x := (j : Int) + 1) (by omega) (by omega)]
      refine ⟨j + 1, by omega, by omega, rfl, m1.trans' (Mod.drew _ _), _, rfl, ?_⟩
      rcases hst with h | ⟨a, ha, hw⟩
      · cases h
      rw [List.drop_eq_getElem_cons hjl'] at ha
      rcases List.mem_cons.1 ha with rfl | ha
      · left
        obtain ⟨h1, h2, h3, h4⟩ := hw
        have e1 : decide (al[j].F = f) = true := by simp [h1]
        have e2 : decide (0 ≤ (i : Int) - al[j].N) = true := decide_eq_true h2
        have e3 : decide ((i : Int) - al[j].N < (al[j].S.length : Int)) = true := decide_eq_true h3
        rw [e1, e2, e3, h4]; simp
      · exact .inr ⟨a, ha, hw⟩
    · have hokt : ok = true := by
        cases hok2 : ok
        · exfalso
          have hj2 : al.length ≤ j := by
            rcases Nat.lt_or_ge j al.length with h | h
            · exact absurd ⟨by simp; omega, hok2⟩ hex
            · exact h
          rcases hst with h | ⟨a, ha, _⟩
          · rw [hok2] at h; cases h
          · rw [List.drop_of_length_le hj2] at ha; cases ha
        · rfl
      subst hokt
      have e : (if decide ((j : Int) < (al.length : Int)) = true then false else false) = false := by split <;> rfl
      try simp only [go_sem, ↓reduceIte, Nat.reduceEqDiff, Nat.reduceAdd, Nat.reduceLT, List.length_cons, List.length_nil, List.getElem?_cons_zero, List.getElem?_cons_succ, Nat.mul_one, Bool.true_eq_false, Bool.false_eq_true, false_implies, true_implies, Bool.not_true, Bool.not_false, decide_true, decide_false, Int.reduceToNat, Int.cast_ofNat_Int, Int.reduceLT, Int.reduceLE, Int.reduceEq, Int.reduceNeg, eq_self, Option.isNone_some, Option.isNone_none, Bool.bne_false, Bool.bne_true, e]
      exact out rfl _ t0 t1 t2 t3 t9 t10
  · unfold h25_8
    try simp only [go_sem, ↓reduceIte, Nat.reduceEqDiff, Nat.reduceAdd, Nat.reduceLT, List.length_cons, List.length_nil, List.getElem?_cons_zero, List.getElem?_cons_succ, Nat.mul_one, Bool.true_eq_false, Bool.false_eq_true, false_implies, true_implies, Bool.not_true, Bool.not_false, decide_true, decide_false, Int.reduceToNat, Int.cast_ofNat_Int, Int.reduceLT, Int.reduceLE, Int.reduceEq, Int.reduceNeg, eq_self, Option.isNone_some, Option.isNone_none, Bool.bne_false, Bool.bne_true, t0, t1, t2, t3, t9]
    have e : decide ((safe.length : Int) ≤ (s.length : Int)) = true := by have := hH.1; simp; omega
    rw [e]; exact k _ m1
end
end Go.Proofs.Y
