/- DS: the walk of DiskArms. -/
import Derived.Test.YtbohloaggnkepaaDO
import Derived.Test.YtbohloaggnkepaaDR
set_option linter.unusedSimpArgs false
set_option linter.unusedVariables false
namespace Go.Proofs.Y
open Go Go.HL Go.Proofs
section
variable {w : World} {next : Value → World → Prop} {QP : List PanicEntry → World → Prop}

def total (l : List Bytes) : Nat := (l.map List.length).sum
theorem total_snoc {l : List Bytes} {i : Nat} (h : i < l.length) : total (l.take (i + 1)) = total (l.take i) + l[i].length := by
  unfold total
  rw [List.take_succ_eq_append_getElem h, List.map_append, List.sum_append]; simp
theorem total_le {l : List Bytes} {i : Nat} : total (l.take i) ≤ total l := by
  unfold total
  conv => rhs; rw [← List.take_append_drop i l]
  rw [List.map_append, List.sum_append]; omega
theorem get_str {l : List Bytes} {i : Nat} (h : i < l.length) : (l.map str)[i]? = some (str l[i]) := by simp [h]

/-- where the scheduled crash stands -/
theorem arms_loop {lv kv : Value} {ls : List Bytes} {ks : List Int} {n : Nat} {p : Nat} {D : Dk} {σ : Env} {w1 : World} {nk : Nat} (hn1 : 1 ≤ n) (hn2 : n ≤ 100) (hl : Sl w lv 1 ls.length (ls.map str)) (hlen : ls.length ≤ 50) (htot : total ls ≤ 20000)
    (hk : Sl w kv 1 nk (ints ks)) (hkn : ks.length = nk)
    (s0 : σ 0 = lv) (s1 : σ 1 = .int .i64 n) (s2 : σ 2 = kv) (s7 : σ 7 = .bool true) (s8 : σ 8 = ptr p) (s11 : σ 11 = str []) (s12 : σ 12 = str []) (s13 : σ 13 = .int .i64 0) (s14 : σ 14 = .int .i64 0)
    (st : St FP0 w w1 p D) (hi : Arms.Inv D [] [] ks n) (k : ∀ w', Mod none' w w' → next (.bool true) w') :
    hloop (hw Try.prog noPanic h6_6) (blockX 2 (seqX (hw Try.prog noPanic h6_11 (endV [.tmp 6] next)) (endV [.tmp 6] next))) σ w1 := by
  obtain ⟨la, lc, rfl, hlc, hlcell⟩ := hl.form
  obtain ⟨ka, kc, rfl, hkc, -⟩ := hk.form
  refine loopN ls.length (fun i τ w' => τ 0 = .slice la ls.length lc ∧ τ 1 = .int .i64 n ∧ τ 2 = .slice ka nk kc ∧ τ 7 = .bool true ∧ τ 8 = ptr p ∧ τ 14 = .int .i64 i ∧
    ∃ safe rest : Bytes, ∃ c : Nat, ∃ D : Dk, τ 11 = str safe ∧ τ 12 = str rest ∧ τ 13 = .int .i64 c ∧ safe.length + rest.length = total (ls.take i) ∧ St FP0 w w' p D ∧
      ((c < n ∧ Arms.Inv D safe rest ks (n - c)) ∨ Arms.Crashed D safe rest ks)) ⟨0, by omega, s0, s1, s2, s7, s8, s14, [], [], 0, D, s11, s12, s13, rfl, st, .inl ⟨by omega, hi⟩⟩ ?_
  rintro i τ w2 hi ⟨t0, t1, t2, t7, t8, t14, safe, rest, c, D, t11, t12, t13, htl, st, hcase⟩
  have hti := total_le (l := ls) (i := i)
  -- the end, where the machine is up
  have up : ∀ (τ : Env), τ 2 = .slice ka nk kc → τ 7 = .bool true → τ 8 = ptr p → τ 11 = str safe → τ 12 = str rest → τ 13 = .int .i64 c → τ 1 = .int .i64 n → c < n → Arms.Inv D safe rest ks (n - c) → hw Try.prog noPanic h6_11 (endV [.tmp 6] next) τ w2 := by
    intro τ t2 t7 t8 t11 t12 t13 t1 hc hI
    unfold h6_11
    try simp only [go_sem, ↓reduceIte, Nat.reduceEqDiff, Nat.reduceAdd, Nat.reduceLT, List.length_cons, List.length_nil, List.getElem?_cons_zero, List.getElem?_cons_succ, Nat.mul_one, Bool.true_eq_false, Bool.false_eq_true, false_implies, true_implies, Bool.not_true, Bool.not_false, decide_true, decide_false, Int.reduceToNat, Int.cast_ofNat_Int, Int.reduceLT, Int.reduceLE, Int.reduceEq, Int.reduceNeg, eq_self, Option.isNone_some, Option.isNone_none, Bool.bne_false, Bool.bne_true, t1, t2, t7, t8, t11, t12, t13]
    refine down_ st.dr ?_
    rw [hI.down]
    try simp only [go_sem, ↓reduceIte, Nat.reduceEqDiff, Nat.reduceAdd, Nat.reduceLT, List.length_cons, List.length_nil, List.getElem?_cons_zero, List.getElem?_cons_succ, Nat.mul_one, Bool.true_eq_false, Bool.false_eq_true, false_implies, true_implies, Bool.not_true, Bool.not_false, decide_true, decide_false, Int.reduceToNat, Int.cast_ofNat_Int, Int.reduceLT, Int.reduceLE, Int.reduceEq, Int.reduceNeg, eq_self, Option.isNone_some, Option.isNone_none, Bool.bne_false, Bool.bne_true, t1, t2, t7, t8, t11, t12, t13]
    refine read_ st.dr 0 ?_
    intro w3 dr m
    have st := st.mod0 m
    have hm : D.may [0] = 0 := by simp [Dk.may, hI.down, isF]
    have hr : D.read 0 = safe ++ rest := by simp only [Dk.read, hm]; exact hI.file
    rw [hm, hr]
    have hcn : decide ((c : Int) < (n : Int)) = true := by simp; omega
    try simp only [go_sem, ↓reduceIte, Nat.reduceEqDiff, Nat.reduceAdd, Nat.reduceLT, List.length_cons, List.length_nil, List.getElem?_cons_zero, List.getElem?_cons_succ, Nat.mul_one, Bool.true_eq_false, Bool.false_eq_true, false_implies, true_implies, Bool.not_true, Bool.not_false, decide_true, decide_false, Int.reduceToNat, Int.cast_ofNat_Int, Int.reduceLT, Int.reduceLE, Int.reduceEq, Int.reduceNeg, eq_self, Option.isNone_some, Option.isNone_none, Bool.bne_false, Bool.bne_true, t1, t2, t7, t8, t11, t12, t13, hcn]
    refine ⟨by omega, ?_⟩
    exact k _ st.mod
  have downE : ∀ (τ : Env), τ 2 = .slice ka nk kc → τ 7 = .bool true → τ 8 = ptr p → τ 11 = str safe → τ 12 = str rest → Arms.Crashed D safe rest ks → hw Try.prog noPanic h6_11 (endV [.tmp 6] next) τ w2 := by
    intro τ t2 t7 t8 t11 t12 hC
    unfold h6_11
    try simp only [go_sem, ↓reduceIte, Nat.reduceEqDiff, Nat.reduceAdd, Nat.reduceLT, List.length_cons, List.length_nil, List.getElem?_cons_zero, List.getElem?_cons_succ, Nat.mul_one, Bool.true_eq_false, Bool.false_eq_true, false_implies, true_implies, Bool.not_true, Bool.not_false, decide_true, decide_false, Int.reduceToNat, Int.cast_ofNat_Int, Int.reduceLT, Int.reduceLE, Int.reduceEq, Int.reduceNeg, eq_self, Option.isNone_some, Option.isNone_none, Bool.bne_false, Bool.bne_true, t2, t7, t8, t11, t12]
    refine down_ st.dr ?_
    rw [hC.down]
    try simp only [go_sem, ↓reduceIte, Nat.reduceEqDiff, Nat.reduceAdd, Nat.reduceLT, List.length_cons, List.length_nil, List.getElem?_cons_zero, List.getElem?_cons_succ, Nat.mul_one, Bool.true_eq_false, Bool.false_eq_true, false_implies, true_implies, Bool.not_true, Bool.not_false, decide_true, decide_false, Int.reduceToNat, Int.cast_ofNat_Int, Int.reduceLT, Int.reduceLE, Int.reduceEq, Int.reduceNeg, eq_self, Option.isNone_some, Option.isNone_none, Bool.bne_false, Bool.bne_true, t2, t7, t8, t11, t12]
    unfold h6_12
    try simp only [go_sem, ↓reduceIte, Nat.reduceEqDiff, Nat.reduceAdd, Nat.reduceLT, List.length_cons, List.length_nil, List.getElem?_cons_zero, List.getElem?_cons_succ, Nat.mul_one, Bool.true_eq_false, Bool.false_eq_true, false_implies, true_implies, Bool.not_true, Bool.not_false, decide_true, decide_false, Int.reduceToNat, Int.cast_ofNat_Int, Int.reduceLT, Int.reduceLE, Int.reduceEq, Int.reduceNeg, eq_self, Option.isNone_some, Option.isNone_none, Bool.bne_false, Bool.bne_true, t2, t7, t8, t11, t12]
    refine start_ st.dr ?_
    intro w3 dr m _
    have st := st.trans (.of dr m)
    try simp only [go_sem, ↓reduceIte, Nat.reduceEqDiff, Nat.reduceAdd, Nat.reduceLT, List.length_cons, List.length_nil, List.getElem?_cons_zero, List.getElem?_cons_succ, Nat.mul_one, Bool.true_eq_false, Bool.false_eq_true, false_implies, true_implies, Bool.not_true, Bool.not_false, decide_true, decide_false, Int.reduceToNat, Int.cast_ofNat_Int, Int.reduceLT, Int.reduceLE, Int.reduceEq, Int.reduceNeg, eq_self, Option.isNone_some, Option.isNone_none, Bool.bne_false, Bool.bne_true, t2, t7, t8, t11, t12]
    refine read_ st.dr 0 ?_
    intro w4 dr m
    have st := st.mod0 m
    have hm : D.start.may [0] = 0 := by simp [Dk.may, Dk.start, isF]
    have hr : D.start.read 0 = D.file 0 := by simp only [Dk.read, hm]; rfl
    rw [hm, hr]
    try simp only [go_sem, ↓reduceIte, Nat.reduceEqDiff, Nat.reduceAdd, Nat.reduceLT, List.length_cons, List.length_nil, List.getElem?_cons_zero, List.getElem?_cons_succ, Nat.mul_one, Bool.true_eq_false, Bool.false_eq_true, false_implies, true_implies, Bool.not_true, Bool.not_false, decide_true, decide_false, Int.reduceToNat, Int.cast_ofNat_Int, Int.reduceLT, Int.reduceLE, Int.reduceEq, Int.reduceNeg, eq_self, Option.isNone_some, Option.isNone_none, Bool.bne_false, Bool.bne_true, t2, t7, t8, t11, t12]
    have e1 : decide ((safe.length : Int) ≤ ((D.file 0).length : Int)) = true := by have := hC.le; simp; omega
    have e2 : decide (((D.file 0).length : Int) ≤ (safe.length : Int) + (rest.length : Int)) = true := by have := hC.ge; simp; omega
    rw [w64 (by omega) (by omega)]
    try simp only [go_sem, ↓reduceIte, Nat.reduceEqDiff, Nat.reduceAdd, Nat.reduceLT, List.length_cons, List.length_nil, List.getElem?_cons_zero, List.getElem?_cons_succ, Nat.mul_one, Bool.true_eq_false, Bool.false_eq_true, false_implies, true_implies, Bool.not_true, Bool.not_false, decide_true, decide_false, Int.reduceToNat, Int.cast_ofNat_Int, Int.reduceLT, Int.reduceLE, Int.reduceEq, Int.reduceNeg, eq_self, Option.isNone_some, Option.isNone_none, Bool.bne_false, Bool.bne_true, e1, e2, hC.pre]
    refine ⟨⟨by omega, by have := hC.le; omega⟩, ?_⟩
    have e3 : (if decide (0 < (nk : Int)) = true then true else decide (D.file 0 = safe)) = true := by
      rcases Nat.eq_zero_or_pos nk with h0 | h0
      · have : ks = [] := List.eq_nil_of_length_eq_zero (by omega)
        simp [hC.nokeep this]
      · rw [if_pos (by simp; omega)]
    rw [e3]
    exact k _ st.mod
  unfold h6_6
  try simp only [go_sem, ↓reduceIte, Nat.reduceEqDiff, Nat.reduceAdd, Nat.reduceLT, List.length_cons, List.length_nil, List.getElem?_cons_zero, List.getElem?_cons_succ, Nat.mul_one, Bool.true_eq_false, Bool.false_eq_true, false_implies, true_implies, Bool.not_true, Bool.not_false, decide_true, decide_false, Int.reduceToNat, Int.cast_ofNat_Int, Int.reduceLT, Int.reduceLE, Int.reduceEq, Int.reduceNeg, eq_self, Option.isNone_some, Option.isNone_none, Bool.bne_false, Bool.bne_true, t0, t1, t2, t7, t8, t11, t12, t13, t14]
  refine ⟨fun hlt => ?_, fun hge => ?_⟩
  · have hil : i < ls.length := by simpa using hlt
    refine down_ st.dr ?_
    try simp only [go_sem, ↓reduceIte, Nat.reduceEqDiff, Nat.reduceAdd, Nat.reduceLT, List.length_cons, List.length_nil, List.getElem?_cons_zero, List.getElem?_cons_succ, Nat.mul_one, Bool.true_eq_false, Bool.false_eq_true, false_implies, true_implies, Bool.not_true, Bool.not_false, decide_true, decide_false, Int.reduceToNat, Int.cast_ofNat_Int, Int.reduceLT, Int.reduceLE, Int.reduceEq, Int.reduceNeg, eq_self, Option.isNone_some, Option.isNone_none, Bool.bne_false, Bool.bne_true, hlt]
    rcases hcase with ⟨hc, hI⟩ | hC
    · rw [hI.down]
      try simp only [go_sem, ↓reduceIte, Nat.reduceEqDiff, Nat.reduceAdd, Nat.reduceLT, List.length_cons, List.length_nil, List.getElem?_cons_zero, List.getElem?_cons_succ, Nat.mul_one, Bool.true_eq_false, Bool.false_eq_true, false_implies, true_implies, Bool.not_true, Bool.not_false, decide_true, decide_false, Int.reduceToNat, Int.cast_ofNat_Int, Int.reduceLT, Int.reduceLE, Int.reduceEq, Int.reduceNeg, eq_self, Option.isNone_some, Option.isNone_none, Bool.bne_false, Bool.bne_true]
      obtain ⟨b, o, rfl, hcell⟩ := hlcell (by omega)
      have hts := total_snoc (l := ls) hil
      have htl2 := total_le (l := ls) (i := i + 1)
      have cl : w2.cell? ⟨b, o + i, none⟩ = some (str ls[i]) := st.mod.cell ((hcell i (by omega)).trans (get_str hil)) fun h => h
      have hql := hI.ql
      unfold h6_7
      try simp only [go_sem, ↓reduceIte, Nat.reduceEqDiff, Nat.reduceAdd, Nat.reduceLT, List.length_cons, List.length_nil, List.getElem?_cons_zero, List.getElem?_cons_succ, Nat.mul_one, Bool.true_eq_false, Bool.false_eq_true, false_implies, true_implies, Bool.not_true, Bool.not_false, decide_true, decide_false, Int.reduceToNat, Int.cast_ofNat_Int, Int.reduceLT, Int.reduceLE, Int.reduceEq, Int.reduceNeg, eq_self, Option.isNone_some, Option.isNone_none, Bool.bne_false, Bool.bne_true, t0, t1, t2, t7, t8, t11, t12, t13, t14, cl]
      rw [w64 (by omega) (by omega), w64 (by omega) (by omega)]
      refine ⟨⟨by omega, by omega⟩, ?_⟩
      have hN : (safe.length : Int) + (rest.length : Int) = ((safe.length + rest.length : Nat) : Int) := by omega
      rw [hN]
      refine write_ st.dr (f := 0) (by omega) (by omega) (by omega) ?_
      intro w3 st'
      have st := st.trans st'
      clear st'
      have cl3 : w3.cell? ⟨b, o + i, none⟩ = some (str ls[i]) := st.mod.cell ((hcell i (by omega)).trans (get_str hil)) fun h => h
      by_cases hend : c + 1 = n
      · -- the crash comes in this write
        have hI1 : Arms.Inv D safe rest ks 1 := by rw [show n - c = 1 by omega] at hI; exact hI
        obtain ⟨hr, hC⟩ := Arms.write_end (s := ls[i]) pieces_len hI1 (by omega)
        rw [hr]
        have e1 : decide ((c : Int) + 1 = (n : Int)) = true := by simp; omega
        have e2 : decide ((c : Int) + 1 < (n : Int)) = false := by simp; omega
        try simp only [go_sem, ↓reduceIte, Nat.reduceEqDiff, Nat.reduceAdd, Nat.reduceLT, List.length_cons, List.length_nil, List.getElem?_cons_zero, List.getElem?_cons_succ, Nat.mul_one, Bool.true_eq_false, Bool.false_eq_true, false_implies, true_implies, Bool.not_true, Bool.not_false, decide_true, decide_false, Int.reduceToNat, Int.cast_ofNat_Int, Int.reduceLT, Int.reduceLE, Int.reduceEq, Int.reduceNeg, eq_self, Option.isNone_some, Option.isNone_none, Bool.bne_false, Bool.bne_true, t0, t1, t2, t7, t8, t11, t12, t13, t14, cl, e1, e2, Bool.beq_eq_decide_eq, bne_self_eq_false]
        unfold h6_8
        try simp only [go_sem, ↓reduceIte, Nat.reduceEqDiff, Nat.reduceAdd, Nat.reduceLT, List.length_cons, List.length_nil, List.getElem?_cons_zero, List.getElem?_cons_succ, Nat.mul_one, Bool.true_eq_false, Bool.false_eq_true, false_implies, true_implies, Bool.not_true, Bool.not_false, decide_true, decide_false, Int.reduceToNat, Int.cast_ofNat_Int, Int.reduceLT, Int.reduceLE, Int.reduceEq, Int.reduceNeg, eq_self, Option.isNone_some, Option.isNone_none, Bool.bne_false, Bool.bne_true, t0, t1, t2, t7, t8, t11, t12, t13, t14, cl3]
        refine ⟨⟨by omega, by omega⟩, by omega, by decide, ?_⟩
        refine ⟨fun hodd => ?_, fun heven => ?_⟩
        · refine down_ st.dr ?_
          rw [hC.down]
          try simp only [go_sem, ↓reduceIte, Nat.reduceEqDiff, Nat.reduceAdd, Nat.reduceLT, List.length_cons, List.length_nil, List.getElem?_cons_zero, List.getElem?_cons_succ, Nat.mul_one, Bool.true_eq_false, Bool.false_eq_true, false_implies, true_implies, Bool.not_true, Bool.not_false, decide_true, decide_false, Int.reduceToNat, Int.cast_ofNat_Int, Int.reduceLT, Int.reduceLE, Int.reduceEq, Int.reduceNeg, eq_self, Option.isNone_some, Option.isNone_none, Bool.bne_false, Bool.bne_true, hodd]
          unfold h6_10
          try simp only [go_sem, ↓reduceIte, Nat.reduceEqDiff, Nat.reduceAdd, Nat.reduceLT, List.length_cons, List.length_nil, List.getElem?_cons_zero, List.getElem?_cons_succ, Nat.mul_one, Bool.true_eq_false, Bool.false_eq_true, false_implies, true_implies, Bool.not_true, Bool.not_false, decide_true, decide_false, Int.reduceToNat, Int.cast_ofNat_Int, Int.reduceLT, Int.reduceLE, Int.reduceEq, Int.reduceNeg, eq_self, Option.isNone_some, Option.isNone_none, Bool.bne_false, Bool.bne_true, t0, t1, t2, t7, t8, t11, t12, t13, t14]
          rw [w64 (by omega) (by omega)]
          exact ⟨i + 1, by omega, by omega, rfl, safe, rest ++ ls[i], c + 1, _, rfl, rfl, rfl, by rw [List.length_append]; omega, st, .inr hC⟩
        · try simp only [go_sem, ↓reduceIte, Nat.reduceEqDiff, Nat.reduceAdd, Nat.reduceLT, List.length_cons, List.length_nil, List.getElem?_cons_zero, List.getElem?_cons_succ, Nat.mul_one, Bool.true_eq_false, Bool.false_eq_true, false_implies, true_implies, Bool.not_true, Bool.not_false, decide_true, decide_false, Int.reduceToNat, Int.cast_ofNat_Int, Int.reduceLT, Int.reduceLE, Int.reduceEq, Int.reduceNeg, eq_self, Option.isNone_some, Option.isNone_none, Bool.bne_false, Bool.bne_true, heven]
          unfold h6_10
          try simp only [go_sem, ↓reduceIte, Nat.reduceEqDiff, Nat.reduceAdd, Nat.reduceLT, List.length_cons, List.length_nil, List.getElem?_cons_zero, List.getElem?_cons_succ, Nat.mul_one, Bool.true_eq_false, Bool.false_eq_true, false_implies, true_implies, Bool.not_true, Bool.not_false, decide_true, decide_false, Int.reduceToNat, Int.cast_ofNat_Int, Int.reduceLT, Int.reduceLE, Int.reduceEq, Int.reduceNeg, eq_self, Option.isNone_some, Option.isNone_none, Bool.bne_false, Bool.bne_true, t0, t1, t2, t7, t8, t11, t12, t13, t14]
          rw [w64 (by omega) (by omega)]
          exact ⟨i + 1, by omega, by omega, rfl, safe, rest ++ ls[i], c + 1, _, rfl, rfl, rfl, by rw [List.length_append]; omega, st, .inr hC⟩
      · -- the write is performed
        obtain ⟨a, ha⟩ : ∃ a, n - c = a + 2 := ⟨n - c - 2, by omega⟩
        obtain ⟨hr, hI2⟩ := Arms.write_ok (s := ls[i]) pieces_len (by rw [← ha]; exact hI) (by omega)
        rw [hr]
        have e1 : decide ((c : Int) + 1 = (n : Int)) = false := by simp; omega
        have e2 : decide ((c : Int) + 1 < (n : Int)) = true := by simp; omega
        try simp only [go_sem, ↓reduceIte, Nat.reduceEqDiff, Nat.reduceAdd, Nat.reduceLT, List.length_cons, List.length_nil, List.getElem?_cons_zero, List.getElem?_cons_succ, Nat.mul_one, Bool.true_eq_false, Bool.false_eq_true, false_implies, true_implies, Bool.not_true, Bool.not_false, decide_true, decide_false, Int.reduceToNat, Int.cast_ofNat_Int, Int.reduceLT, Int.reduceLE, Int.reduceEq, Int.reduceNeg, eq_self, Option.isNone_some, Option.isNone_none, Bool.bne_false, Bool.bne_true, t0, t1, t2, t7, t8, t11, t12, t13, t14, cl, e1, e2, Bool.beq_eq_decide_eq, bne_self_eq_false]
        unfold h6_8
        try simp only [go_sem, ↓reduceIte, Nat.reduceEqDiff, Nat.reduceAdd, Nat.reduceLT, List.length_cons, List.length_nil, List.getElem?_cons_zero, List.getElem?_cons_succ, Nat.mul_one, Bool.true_eq_false, Bool.false_eq_true, false_implies, true_implies, Bool.not_true, Bool.not_false, decide_true, decide_false, Int.reduceToNat, Int.cast_ofNat_Int, Int.reduceLT, Int.reduceLE, Int.reduceEq, Int.reduceNeg, eq_self, Option.isNone_some, Option.isNone_none, Bool.bne_false, Bool.bne_true, t0, t1, t2, t7, t8, t11, t12, t13, t14, cl3]
        refine ⟨⟨by omega, by omega⟩, by omega, by decide, ?_⟩
        have hql2 := hI2.ql
        refine ⟨fun hodd => ?_, fun heven => ?_⟩
        · refine down_ st.dr ?_
          rw [hI2.down]
          try simp only [go_sem, ↓reduceIte, Nat.reduceEqDiff, Nat.reduceAdd, Nat.reduceLT, List.length_cons, List.length_nil, List.getElem?_cons_zero, List.getElem?_cons_succ, Nat.mul_one, Bool.true_eq_false, Bool.false_eq_true, false_implies, true_implies, Bool.not_true, Bool.not_false, decide_true, decide_false, Int.reduceToNat, Int.cast_ofNat_Int, Int.reduceLT, Int.reduceLE, Int.reduceEq, Int.reduceNeg, eq_self, Option.isNone_some, Option.isNone_none, Bool.bne_false, Bool.bne_true, hodd, t0, t1, t2, t7, t8, t11, t12, t13, t14]
          rw [w64 (by omega) (by omega)]
          refine flush_ st.dr (f := 0) (by simp only [List.length_append] at hql2; omega) ?_
          intro w4 st'
          have st := st.trans st'
          clear st'
          by_cases hend2 : c + 2 = n
          · have hI1 : Arms.Inv (D.write 0 ((safe.length + rest.length : Nat) : Int) ls[i]) safe (rest ++ ls[i]) ks 1 := by rw [show (1 : Nat) = a + 1 by omega]; exact hI2
            obtain ⟨hr, hC⟩ := Arms.flush_end hI1
            rw [hr]
            have e3 : decide ((c : Int) + 1 + 1 = (n : Int)) = true := by simp; omega
            have e4 : decide ((c : Int) + 1 + 1 < (n : Int)) = false := by simp; omega
            try simp only [go_sem, ↓reduceIte, Nat.reduceEqDiff, Nat.reduceAdd, Nat.reduceLT, List.length_cons, List.length_nil, List.getElem?_cons_zero, List.getElem?_cons_succ, Nat.mul_one, Bool.true_eq_false, Bool.false_eq_true, false_implies, true_implies, Bool.not_true, Bool.not_false, decide_true, decide_false, Int.reduceToNat, Int.cast_ofNat_Int, Int.reduceLT, Int.reduceLE, Int.reduceEq, Int.reduceNeg, eq_self, Option.isNone_some, Option.isNone_none, Bool.bne_false, Bool.bne_true, t0, t1, t2, t7, t8, t11, t12, t13, t14, e3, e4, Bool.beq_eq_decide_eq, bne_self_eq_false]
            unfold h6_9
            try simp only [go_sem, ↓reduceIte, Nat.reduceEqDiff, Nat.reduceAdd, Nat.reduceLT, List.length_cons, List.length_nil, List.getElem?_cons_zero, List.getElem?_cons_succ, Nat.mul_one, Bool.true_eq_false, Bool.false_eq_true, false_implies, true_implies, Bool.not_true, Bool.not_false, decide_true, decide_false, Int.reduceToNat, Int.cast_ofNat_Int, Int.reduceLT, Int.reduceLE, Int.reduceEq, Int.reduceNeg, eq_self, Option.isNone_some, Option.isNone_none, Bool.bne_false, Bool.bne_true, t0, t1, t2, t7, t8, t11, t12, t13, t14]
            unfold h6_10
            try simp only [go_sem, ↓reduceIte, Nat.reduceEqDiff, Nat.reduceAdd, Nat.reduceLT, List.length_cons, List.length_nil, List.getElem?_cons_zero, List.getElem?_cons_succ, Nat.mul_one, Bool.true_eq_false, Bool.false_eq_true, false_implies, true_implies, Bool.not_true, Bool.not_false, decide_true, decide_false, Int.reduceToNat, Int.cast_ofNat_Int, Int.reduceLT, Int.reduceLE, Int.reduceEq, Int.reduceNeg, eq_self, Option.isNone_some, Option.isNone_none, Bool.bne_false, Bool.bne_true, t0, t1, t2, t7, t8, t11, t12, t13, t14]
            rw [w64 (by omega) (by omega)]
            exact ⟨i + 1, by omega, by omega, rfl, safe, rest ++ ls[i], c + 2, _, rfl, rfl, rfl, by rw [List.length_append]; omega, st, .inr hC⟩
          · obtain ⟨a', ha'⟩ : ∃ a', a + 1 = a' + 2 := ⟨a - 1, by omega⟩
            rw [ha'] at hI2
            obtain ⟨hr, hI3⟩ := Arms.flush_ok hI2
            rw [hr]
            have e3 : decide ((c : Int) + 1 + 1 = (n : Int)) = false := by simp; omega
            have e4 : decide ((c : Int) + 1 + 1 < (n : Int)) = true := by simp; omega
            try simp only [go_sem, ↓reduceIte, Nat.reduceEqDiff, Nat.reduceAdd, Nat.reduceLT, List.length_cons, List.length_nil, List.getElem?_cons_zero, List.getElem?_cons_succ, Nat.mul_one, Bool.true_eq_false, Bool.false_eq_true, false_implies, true_implies, Bool.not_true, Bool.not_false, decide_true, decide_false, Int.reduceToNat, Int.cast_ofNat_Int, Int.reduceLT, Int.reduceLE, Int.reduceEq, Int.reduceNeg, eq_self, Option.isNone_some, Option.isNone_none, Bool.bne_false, Bool.bne_true, t0, t1, t2, t7, t8, t11, t12, t13, t14, e3, e4, Bool.beq_eq_decide_eq, bne_self_eq_false]
            unfold h6_9
            try simp only [go_sem, ↓reduceIte, Nat.reduceEqDiff, Nat.reduceAdd, Nat.reduceLT, List.length_cons, List.length_nil, List.getElem?_cons_zero, List.getElem?_cons_succ, Nat.mul_one, Bool.true_eq_false, Bool.false_eq_true, false_implies, true_implies, Bool.not_true, Bool.not_false, decide_true, decide_false, Int.reduceToNat, Int.cast_ofNat_Int, Int.reduceLT, Int.reduceLE, Int.reduceEq, Int.reduceNeg, eq_self, Option.isNone_some, Option.isNone_none, Bool.bne_false, Bool.bne_true, t0, t1, t2, t7, t8, t11, t12, t13, t14]
            refine ⟨by simp only [List.length_append]; omega, ?_⟩
            unfold h6_10
            try simp only [go_sem, ↓reduceIte, Nat.reduceEqDiff, Nat.reduceAdd, Nat.reduceLT, List.length_cons, List.length_nil, List.getElem?_cons_zero, List.getElem?_cons_succ, Nat.mul_one, Bool.true_eq_false, Bool.false_eq_true, false_implies, true_implies, Bool.not_true, Bool.not_false, decide_true, decide_false, Int.reduceToNat, Int.cast_ofNat_Int, Int.reduceLT, Int.reduceLE, Int.reduceEq, Int.reduceNeg, eq_self, Option.isNone_some, Option.isNone_none, Bool.bne_false, Bool.bne_true, t0, t1, t2, t7, t8, t11, t12, t13, t14]
            rw [w64 (by omega) (by omega)]
            exact ⟨i + 1, by omega, by omega, rfl, safe ++ (rest ++ ls[i]), [], c + 2, _, rfl, rfl, rfl, by simp only [List.length_append, List.length_nil]; omega, st, .inl ⟨by omega, by rw [show n - (c + 2) = a' + 1 by omega]; exact hI3⟩⟩
        · try simp only [go_sem, ↓reduceIte, Nat.reduceEqDiff, Nat.reduceAdd, Nat.reduceLT, List.length_cons, List.length_nil, List.getElem?_cons_zero, List.getElem?_cons_succ, Nat.mul_one, Bool.true_eq_false, Bool.false_eq_true, false_implies, true_implies, Bool.not_true, Bool.not_false, decide_true, decide_false, Int.reduceToNat, Int.cast_ofNat_Int, Int.reduceLT, Int.reduceLE, Int.reduceEq, Int.reduceNeg, eq_self, Option.isNone_some, Option.isNone_none, Bool.bne_false, Bool.bne_true, heven]
          unfold h6_10
          try simp only [go_sem, ↓reduceIte, Nat.reduceEqDiff, Nat.reduceAdd, Nat.reduceLT, List.length_cons, List.length_nil, List.getElem?_cons_zero, List.getElem?_cons_succ, Nat.mul_one, Bool.true_eq_false, Bool.false_eq_true, false_implies, true_implies, Bool.not_true, Bool.not_false, decide_true, decide_false, Int.reduceToNat, Int.cast_ofNat_Int, Int.reduceLT, Int.reduceLE, Int.reduceEq, Int.reduceNeg, eq_self, Option.isNone_some, Option.isNone_none, Bool.bne_false, Bool.bne_true, t0, t1, t2, t7, t8, t11, t12, t13, t14]
          rw [w64 (by omega) (by omega)]
          exact ⟨i + 1, by omega, by omega, rfl, safe, rest ++ ls[i], c + 1, _, rfl, rfl, rfl, by rw [List.length_append]; omega, st, .inl ⟨by omega, by rw [show n - (c + 1) = a + 1 by omega]; exact hI2⟩⟩
    · rw [hC.down]
      try simp only [go_sem, ↓reduceIte, Nat.reduceEqDiff, Nat.reduceAdd, Nat.reduceLT, List.length_cons, List.length_nil, List.getElem?_cons_zero, List.getElem?_cons_succ, Nat.mul_one, Bool.true_eq_false, Bool.false_eq_true, false_implies, true_implies, Bool.not_true, Bool.not_false, decide_true, decide_false, Int.reduceToNat, Int.cast_ofNat_Int, Int.reduceLT, Int.reduceLE, Int.reduceEq, Int.reduceNeg, eq_self, Option.isNone_some, Option.isNone_none, Bool.bne_false, Bool.bne_true]
      exact downE _ t2 t7 t8 t11 t12 hC
  · have hge' : ls.length ≤ i := by simpa using hge
    try simp only [go_sem, ↓reduceIte, Nat.reduceEqDiff, Nat.reduceAdd, Nat.reduceLT, List.length_cons, List.length_nil, List.getElem?_cons_zero, List.getElem?_cons_succ, Nat.mul_one, Bool.true_eq_false, Bool.false_eq_true, false_implies, true_implies, Bool.not_true, Bool.not_false, decide_true, decide_false, Int.reduceToNat, Int.cast_ofNat_Int, Int.reduceLT, Int.reduceLE, Int.reduceEq, Int.reduceNeg, eq_self, Option.isNone_some, Option.isNone_none, Bool.bne_false, Bool.bne_true, hge]
    rcases hcase with ⟨hc, hI⟩ | hC
    · exact up _ t2 t7 t8 t11 t12 t13 t1 hc hI
    · exact downE _ t2 t7 t8 t11 t12 hC

theorem arms_ {lv kv : Value} {ls : List Bytes} {ks : List Int} {n : Int} {nk : Nat} (hl : Sl w lv 1 ls.length (ls.map str)) (hlen : ls.length ≤ 1048576) (htot : total ls ≤ 1048576)
    (hk : Sl w kv 1 nk (ints ks)) (k : ∀ w', Mod none' w w' → next (.bool true) w') :
    callK Try.prog 6 [lv, .int .i64 n, kv] w next QP := by
  refine q6 rfl ?_
  obtain ⟨la, lc, rfl, hlc, hlcell⟩ := hl.form
  obtain ⟨ka, kc, rfl, hkc, -⟩ := hk.form
  have hkn : ks.length = nk := by have := hk.len; rw [ints_len] at this; omega
  unfold h6
  try simp only [go_sem, ↓reduceIte, Nat.reduceEqDiff, Nat.reduceAdd, Nat.reduceLT, List.length_cons, List.length_nil, List.getElem?_cons_zero, List.getElem?_cons_succ, Nat.mul_one, Bool.true_eq_false, Bool.false_eq_true, false_implies, true_implies, Bool.not_true, Bool.not_false, decide_true, decide_false, Int.reduceToNat, Int.cast_ofNat_Int, Int.reduceLT, Int.reduceLE, Int.reduceEq, Int.reduceNeg, eq_self, Option.isNone_some, Option.isNone_none, Bool.bne_false, Bool.bne_true]
  refine small_ ?_
  intro w1 m1
  try simp only [go_sem, ↓reduceIte, Nat.reduceEqDiff, Nat.reduceAdd, Nat.reduceLT, List.length_cons, List.length_nil, List.getElem?_cons_zero, List.getElem?_cons_succ, Nat.mul_one, Bool.true_eq_false, Bool.false_eq_true, false_implies, true_implies, Bool.not_true, Bool.not_false, decide_true, decide_false, Int.reduceToNat, Int.cast_ofNat_Int, Int.reduceLT, Int.reduceLE, Int.reduceEq, Int.reduceNeg, eq_self, Option.isNone_some, Option.isNone_none, Bool.bne_false, Bool.bne_true]
  refine new_ ?_
  intro p w2 hp st0
  have st : St FP0 w w2 p Dk.new := st0.after m1
  try simp only [go_sem, ↓reduceIte, Nat.reduceEqDiff, Nat.reduceAdd, Nat.reduceLT, List.length_cons, List.length_nil, List.getElem?_cons_zero, List.getElem?_cons_succ, Nat.mul_one, Bool.true_eq_false, Bool.false_eq_true, false_implies, true_implies, Bool.not_true, Bool.not_false, decide_true, decide_false, Int.reduceToNat, Int.cast_ofNat_Int, Int.reduceLT, Int.reduceLE, Int.reduceEq, Int.reduceNeg, eq_self, Option.isNone_some, Option.isNone_none, Bool.bne_false, Bool.bne_true]
  refine loopN ls.length (fun i τ w' => w2 = w' ∧ τ 0 = .slice la ls.length lc ∧ τ 1 = .int .i64 n ∧ τ 2 = .slice ka nk kc ∧ τ 7 = .bool true ∧ τ 8 = ptr p ∧ τ 9 = .int .i64 (total (ls.take i) : Nat) ∧ τ 10 = .int .i64 i) ⟨0, by omega, rfl, rfl, rfl, rfl, rfl, rfl, rfl, rfl⟩ ?_
  rintro i τ _ hi ⟨rfl, t0, t1, t2, t7, t8, t9, t10⟩
  unfold h6_1
  try simp only [go_sem, ↓reduceIte, Nat.reduceEqDiff, Nat.reduceAdd, Nat.reduceLT, List.length_cons, List.length_nil, List.getElem?_cons_zero, List.getElem?_cons_succ, Nat.mul_one, Bool.true_eq_false, Bool.false_eq_true, false_implies, true_implies, Bool.not_true, Bool.not_false, decide_true, decide_false, Int.reduceToNat, Int.cast_ofNat_Int, Int.reduceLT, Int.reduceLE, Int.reduceEq, Int.reduceNeg, eq_self, Option.isNone_some, Option.isNone_none, Bool.bne_false, Bool.bne_true, t0, t1, t2, t7, t8, t9, t10]
  refine ⟨fun hlt => ?_, fun hge => ?_⟩
  · have hil : i < ls.length := by simpa using hlt
    obtain ⟨b, o, rfl, hcell⟩ := hlcell (by omega)
    have hts := total_snoc (l := ls) hil
    have htl2 := total_le (l := ls) (i := i + 1)
    have cl : w2.cell? ⟨b, o + i, none⟩ = some (str ls[i]) := st.mod.cell ((hcell i (by omega)).trans (get_str hil)) fun h => h
    unfold h6_2
    try simp only [go_sem, ↓reduceIte, Nat.reduceEqDiff, Nat.reduceAdd, Nat.reduceLT, List.length_cons, List.length_nil, List.getElem?_cons_zero, List.getElem?_cons_succ, Nat.mul_one, Bool.true_eq_false, Bool.false_eq_true, false_implies, true_implies, Bool.not_true, Bool.not_false, decide_true, decide_false, Int.reduceToNat, Int.cast_ofNat_Int, Int.reduceLT, Int.reduceLE, Int.reduceEq, Int.reduceNeg, eq_self, Option.isNone_some, Option.isNone_none, Bool.bne_false, Bool.bne_true, t0, t1, t2, t7, t8, t9, t10, cl]
    refine ⟨⟨by omega, by omega⟩, ?_⟩
    unfold h6_3
    try simp only [go_sem, ↓reduceIte, Nat.reduceEqDiff, Nat.reduceAdd, Nat.reduceLT, List.length_cons, List.length_nil, List.getElem?_cons_zero, List.getElem?_cons_succ, Nat.mul_one, Bool.true_eq_false, Bool.false_eq_true, false_implies, true_implies, Bool.not_true, Bool.not_false, decide_true, decide_false, Int.reduceToNat, Int.cast_ofNat_Int, Int.reduceLT, Int.reduceLE, Int.reduceEq, Int.reduceNeg, eq_self, Option.isNone_some, Option.isNone_none, Bool.bne_false, Bool.bne_true, t0, t1, t2, t7, t8, t9, t10]
    rw [w64 (by omega) (by omega), w64 (by omega) (by omega)]
    refine ⟨i + 1, by omega, by omega, ?_, rfl⟩
    congr 1; omega
  · have hge' : ls.length ≤ i := by simpa using hge
    rw [List.take_of_length_le hge'] at t9
    unfold h6_4
    try simp only [go_sem, ↓reduceIte, Nat.reduceEqDiff, Nat.reduceAdd, Nat.reduceLT, List.length_cons, List.length_nil, List.getElem?_cons_zero, List.getElem?_cons_succ, Nat.mul_one, Bool.true_eq_false, Bool.false_eq_true, false_implies, true_implies, Bool.not_true, Bool.not_false, decide_true, decide_false, Int.reduceToNat, Int.cast_ofNat_Int, Int.reduceLT, Int.reduceLE, Int.reduceEq, Int.reduceNeg, eq_self, Option.isNone_some, Option.isNone_none, Bool.bne_false, Bool.bne_true, t0, t1, t2, t7, t8, t9, t10]
    refine ⟨fun hbig => k _ st.mod, fun hsmall => ?_⟩
    have hs : ls.length ≤ 50 ∧ total ls ≤ 20000 ∧ 1 ≤ n ∧ n ≤ 100 ∧ nk ≤ 1000 := by simp at hsmall; omega
    obtain ⟨m, rfl⟩ : ∃ m : Nat, n = m := ⟨n.toNat, by omega⟩
    unfold h6_5
    try simp only [go_sem, ↓reduceIte, Nat.reduceEqDiff, Nat.reduceAdd, Nat.reduceLT, List.length_cons, List.length_nil, List.getElem?_cons_zero, List.getElem?_cons_succ, Nat.mul_one, Bool.true_eq_false, Bool.false_eq_true, false_implies, true_implies, Bool.not_true, Bool.not_false, decide_true, decide_false, Int.reduceToNat, Int.cast_ofNat_Int, Int.reduceLT, Int.reduceLE, Int.reduceEq, Int.reduceNeg, eq_self, Option.isNone_some, Option.isNone_none, Bool.bne_false, Bool.bne_true, t0, t1, t2, t7, t8, t9, t10]
    refine arm_ st.dr (n := m) (by omega) (hk.mod st.mod fun _ _ h => h) (by omega) ?_
    intro w3 st'
    have st := st.trans st'
    clear st'
    try simp only [go_sem, ↓reduceIte, Nat.reduceEqDiff, Nat.reduceAdd, Nat.reduceLT, List.length_cons, List.length_nil, List.getElem?_cons_zero, List.getElem?_cons_succ, Nat.mul_one, Bool.true_eq_false, Bool.false_eq_true, false_implies, true_implies, Bool.not_true, Bool.not_false, decide_true, decide_false, Int.reduceToNat, Int.cast_ofNat_Int, Int.reduceLT, Int.reduceLE, Int.reduceEq, Int.reduceNeg, eq_self, Option.isNone_some, Option.isNone_none, Bool.bne_false, Bool.bne_true, t0, t1, t2, t7, t8, t9, t10]
    exact arms_loop (n := m) (by omega) (by omega) hl (by omega) (by omega) hk hkn t0 t1 t2 t7 t8 rfl rfl rfl rfl st (Arms.init ks m) k
end
end Go.Proofs.Y
