/- JN: deeds: few, pick, found. -/
import Derived.Test.YtgalileklafbbaaJM
import Derived.Test.YtgalileklafbbaaDX
set_option linter.unusedSimpArgs false
set_option linter.unusedVariables false
set_option maxRecDepth 100000
namespace Go.Proofs.Y
open Go Go.HL Go.Proofs

structure Deed where
  Do : Int
  Row : Bytes
  rv : Value
  rows : List Bytes
  kv : Value
  ks : List Int
  N : Int
def Deed.cells (a : Deed) : List Value := [.int .i64 a.Do, str a.Row, a.rv, a.kv, .int .i64 a.N]
theorem Deed.cells_len (a : Deed) : a.cells.length = 5 := rfl
structure Deed.OK (w : World) (a : Deed) : Prop where
  d : i64 a.Do
  n : i64 a.N
  r : Sl w a.rv 1 a.rows.length (a.rows.map str)
  k : Sl w a.kv 1 a.ks.length (ints a.ks)
theorem Deed.OK.mod0 {w w' : World} {a : Deed} (h : a.OK w) (m : Mod none' w w') : a.OK w' := ⟨h.d, h.n, h.r.mod m fun _ _ h => h, h.k.mod m fun _ _ h => h⟩
theorem Deed.one {w : World} {a : Deed} (h : a.OK w) : ∀ v ∈ a.cells, v.oneCell' = true := by
  obtain ⟨x, c, hk, -⟩ := h.k.form
  obtain ⟨y, c', hr, -⟩ := h.r.form
  intro v hv
  simp only [Deed.cells, List.mem_cons, List.not_mem_nil, or_false] at hv
  rcases hv with rfl | rfl | rfl | rfl | rfl
  · rfl
  · rfl
  · rw [hr]; rfl
  · rw [hk]; rfl
  · rfl

def Deed.few1 (a : Deed) : Bool := decide (a.Row.length ≤ 200) && decide (a.rows.length ≤ 6) && decide (a.ks.length ≤ 60) && a.rows.all fun r => decide (r.length ≤ 200)
def fewJ (l : List Deed) : Bool := decide (l.length ≤ 30) && l.all Deed.few1

theorem deed_at {w : World} {v : Value} {l : List Deed} {i : Nat} (hv : Sl w v 5 l.length (rows Deed.cells l)) (hi : i < l.length) : ∃ gb o c, v = .slice (some ⟨gb, o, none⟩) l.length c ∧
    ∀ w', Mod none' w w' → loadN w' ⟨gb, o + i * 5, none⟩ 5 = l[i].cells.toArray ∧ (∀ j, j < 5 → (w'.cell? ⟨gb, o + i * 5 + j, none⟩).isSome = true) ∧ w'.cell? ⟨gb, o + i * 5 + 1, none⟩ = some (str l[i].Row) ∧ w'.cell? ⟨gb, o + i * 5 + 2, none⟩ = some l[i].rv ∧ w'.cell? ⟨gb, o + i * 5 + 3, none⟩ = some l[i].kv := by
  obtain ⟨gb, o, c, hva, hcc, hcell⟩ := hv.get Deed.cells_len rfl (by omega)
  refine ⟨gb, o, c, hva, fun w' m => ?_⟩
  have hc : ∀ j, j < 5 → w'.cell? ⟨gb, o + i * 5 + j, none⟩ = l[i].cells[j]? := fun j hj => by
    have h1 := hcell i j hi hj
    rw [List.getElem?_eq_getElem (by rw [Deed.cells_len]; exact hj)] at h1 ⊢
    exact m.cell h1 fun h => h
  exact ⟨loadN_of rfl fun j hj => by rw [e_add]; exact hc j hj, fun j hj => by rw [hc j hj]; simp [Deed.cells_len, hj], hc 1 (by omega), hc 2 (by omega), hc 3 (by omega)⟩

section
variable {w : World} {next : Value → World → Prop} {QP : List PanicEntry → World → Prop}

theorem fewJ_ {v : Value} {l : List Deed} (hv : Sl w v 5 l.length (rows Deed.cells l)) (ha : ∀ a ∈ l, a.OK w) (k : next (.bool (fewJ l)) w) : callvK Try.prog (.func (.func 48) #[] #[]) [v] w next QP := by
  refine r48 rfl ?_
  obtain ⟨va, vc, rfl, hvc, -⟩ := hv.form
  unfold h48
  try simp only [go_sem, ↓reduceIte, Nat.reduceEqDiff, Nat.reduceAdd, Nat.reduceLT, List.length_cons, List.length_nil, List.getElem?_cons_zero, List.getElem?_cons_succ, Nat.mul_one, Bool.true_eq_false, Bool.false_eq_true, false_implies, true_implies, Bool.not_true, Bool.not_false, decide_true, decide_false, Int.reduceToNat, Int.cast_ofNat_Int, Int.reduceLT, Int.reduceLE, Int.reduceEq, Int.reduceNeg, eq_self, Option.isNone_some, Option.isNone_none, Bool.bne_false, Bool.bne_true]
  refine ⟨fun h30 => ?_, fun h30 => ?_⟩
  · have h30 : 30 < l.length := by
      have : (30 : Int) < l.length := by simpa using h30
      omega
    have : fewJ l = false := by simp only [fewJ, decide_eq_false (show ¬ l.length ≤ 30 by omega), Bool.false_and]
    rw [this] at k; exact k
  have h30 : l.length ≤ 30 := by
    have : ¬ (30 : Int) < l.length := by simpa using h30
    omega
  unfold h48_1
  try simp only [go_sem, ↓reduceIte, Nat.reduceEqDiff, Nat.reduceAdd, Nat.reduceLT, List.length_cons, List.length_nil, List.getElem?_cons_zero, List.getElem?_cons_succ, Nat.mul_one, Bool.true_eq_false, Bool.false_eq_true, false_implies, true_implies, Bool.not_true, Bool.not_false, decide_true, decide_false, Int.reduceToNat, Int.cast_ofNat_Int, Int.reduceLT, Int.reduceLE, Int.reduceEq, Int.reduceNeg, eq_self, Option.isNone_some, Option.isNone_none, Bool.bne_false, Bool.bne_true]
  refine loopN l.length (fun i τ w' => w' = w ∧ τ 0 = .slice va l.length vc ∧ τ 3 = .int .i64 i ∧ (l.take i).all Deed.few1 = true) ⟨0, by omega, rfl, rfl, rfl, by simp⟩ ?_
  rintro i τ w1 hi ⟨rfl, t0, t3, hall⟩
  unfold h48_2
  try simp only [go_sem, ↓reduceIte, Nat.reduceEqDiff, Nat.reduceAdd, Nat.reduceLT, List.length_cons, List.length_nil, List.getElem?_cons_zero, List.getElem?_cons_succ, Nat.mul_one, Bool.true_eq_false, Bool.false_eq_true, false_implies, true_implies, Bool.not_true, Bool.not_false, decide_true, decide_false, Int.reduceToNat, Int.cast_ofNat_Int, Int.reduceLT, Int.reduceLE, Int.reduceEq, Int.reduceNeg, eq_self, Option.isNone_some, Option.isNone_none, Bool.bne_false, Bool.bne_true, t0, t3]
  refine ⟨fun hlt => ?_, fun hge => ?_⟩
  · have hil : i < l.length := by
      have : (i : Int) < l.length := by simpa using hlt
      omega
    obtain ⟨gb, o, c', hva, hA⟩ := deed_at hv hil
    simp only [Value.slice.injEq] at hva
    obtain ⟨rfl, -, rfl⟩ := hva
    obtain ⟨-, -, x1, x2, x3⟩ := hA w1 (Mod.refl _ _)
    have hok := ha _ (List.getElem_mem hil)
    obtain ⟨ra, rc, hrv, -, hrcell⟩ := hok.r.form
    obtain ⟨ka, kc, hkv, -, -⟩ := hok.k.form
    rw [hrv] at x2
    rw [hkv] at x3
    have bad : Deed.few1 l[i] = false → fewJ l = false := by
      intro h
      simp only [fewJ, Bool.and_eq_false_iff]
      right
      rw [List.all_eq_false]
      exact ⟨l[i], List.getElem_mem hil, by simp [h]⟩
    have eb : (if (if decide ((200 : Int) < l[i].Row.length) = true then true else decide ((6 : Int) < l[i].rows.length)) = true then true else decide ((60 : Int) < l[i].ks.length)) = decide (200 < l[i].Row.length ∨ 6 < l[i].rows.length ∨ 60 < l[i].ks.length) := by
      have g1 : decide ((200 : Int) < l[i].Row.length) = decide (200 < l[i].Row.length) := by congr 1; apply propext; omega
      have g2 : decide ((6 : Int) < l[i].rows.length) = decide (6 < l[i].rows.length) := by congr 1; apply propext; omega
      have g3 : decide ((60 : Int) < l[i].ks.length) = decide (60 < l[i].ks.length) := by congr 1; apply propext; omega
      rw [g1, g2, g3]
      by_cases c1 : 200 < l[i].Row.length <;> by_cases c2 : 6 < l[i].rows.length <;> by_cases c3 : 60 < l[i].ks.length <;> simp [c1, c2, c3]
    unfold h48_3
    try simp only [go_sem, ↓reduceIte, Nat.reduceEqDiff, Nat.reduceAdd, Nat.reduceLT, List.length_cons, List.length_nil, List.getElem?_cons_zero, List.getElem?_cons_succ, Nat.mul_one, Bool.true_eq_false, Bool.false_eq_true, false_implies, true_implies, Bool.not_true, Bool.not_false, decide_true, decide_false, Int.reduceToNat, Int.cast_ofNat_Int, Int.reduceLT, Int.reduceLE, Int.reduceEq, Int.reduceNeg, eq_self, Option.isNone_some, Option.isNone_none, Bool.bne_false, Bool.bne_true, t0, t3, x1, x2, x3, eb]
    repeat refine ⟨⟨by omega, by omega⟩, ?_⟩
    refine ⟨fun _ => ⟨by omega, by omega⟩, fun _ => ⟨by omega, by omega⟩, fun hb => ?_, fun hb => ?_⟩
    · have hb : 200 < l[i].Row.length ∨ 6 < l[i].rows.length ∨ 60 < l[i].ks.length := by simpa using hb
      have : Deed.few1 l[i] = false := by
        simp only [Deed.few1, Bool.and_eq_false_iff, decide_eq_false_iff_not]
        rcases hb with h | h | h
        · left; left; left; omega
        · left; left; right; omega
        · left; right; omega
      rw [bad this] at k; exact k
    have hb : ¬ (200 < l[i].Row.length ∨ 6 < l[i].rows.length ∨ 60 < l[i].ks.length) := by simpa using hb
    unfold h48_4
    try simp only [go_sem, ↓reduceIte, Nat.reduceEqDiff, Nat.reduceAdd, Nat.reduceLT, List.length_cons, List.length_nil, List.getElem?_cons_zero, List.getElem?_cons_succ, Nat.mul_one, Bool.true_eq_false, Bool.false_eq_true, false_implies, true_implies, Bool.not_true, Bool.not_false, decide_true, decide_false, Int.reduceToNat, Int.cast_ofNat_Int, Int.reduceLT, Int.reduceLE, Int.reduceEq, Int.reduceNeg, eq_self, Option.isNone_some, Option.isNone_none, Bool.bne_false, Bool.bne_true, t0, t3]
    refine loopN l[i].rows.length (fun j τ w' => w' = w1 ∧ τ 0 = .slice (some ⟨gb, o, none⟩) l.length vc ∧ τ 3 = .int .i64 i ∧ τ 4 = .int .i64 j ∧ (l[i].rows.take j).all (fun r => decide (r.length ≤ 200)) = true) ⟨0, by omega, rfl, t0, t3, rfl, by simp⟩ ?_
    rintro j τ w2 hj ⟨rfl, t0, t3, t4, hallj⟩
    unfold h48_5
    try simp only [go_sem, ↓reduceIte, Nat.reduceEqDiff, Nat.reduceAdd, Nat.reduceLT, List.length_cons, List.length_nil, List.getElem?_cons_zero, List.getElem?_cons_succ, Nat.mul_one, Bool.true_eq_false, Bool.false_eq_true, false_implies, true_implies, Bool.not_true, Bool.not_false, decide_true, decide_false, Int.reduceToNat, Int.cast_ofNat_Int, Int.reduceLT, Int.reduceLE, Int.reduceEq, Int.reduceNeg, eq_self, Option.isNone_some, Option.isNone_none, Bool.bne_false, Bool.bne_true, t0, t3, t4, x2]
    repeat refine ⟨⟨by omega, by omega⟩, ?_⟩
    refine ⟨fun hltj => ?_, fun hgej => ?_⟩
    · have hjl : j < l[i].rows.length := by
        have : (j : Int) < l[i].rows.length := by simpa using hltj
        omega
      obtain ⟨gr, or, rfl, hrc⟩ := hrcell (by omega)
      have xr : w2.cell? ⟨gr, or + j, none⟩ = some (str l[i].rows[j]) := by
        rw [hrc j (by omega), List.getElem?_map, List.getElem?_eq_getElem hjl]; rfl
      unfold h48_6
      try simp only [go_sem, ↓reduceIte, Nat.reduceEqDiff, Nat.reduceAdd, Nat.reduceLT, List.length_cons, List.length_nil, List.getElem?_cons_zero, List.getElem?_cons_succ, Nat.mul_one, Bool.true_eq_false, Bool.false_eq_true, false_implies, true_implies, Bool.not_true, Bool.not_false, decide_true, decide_false, Int.reduceToNat, Int.cast_ofNat_Int, Int.reduceLT, Int.reduceLE, Int.reduceEq, Int.reduceNeg, eq_self, Option.isNone_some, Option.isNone_none, Bool.bne_false, Bool.bne_true, t0, t3, t4, x2, xr]
      repeat refine ⟨⟨by omega, by omega⟩, ?_⟩
      refine ⟨fun hg => ?_, fun hg => ?_⟩
      · have hg : 200 < l[i].rows[j].length := by
          have : (200 : Int) < l[i].rows[j].length := by simpa using hg
          omega
        have : Deed.few1 l[i] = false := by
          simp only [Deed.few1, Bool.and_eq_false_iff]
          right
          rw [List.all_eq_false]
          exact ⟨l[i].rows[j], List.getElem_mem hjl, by simp; omega⟩
        rw [bad this] at k; exact k
      · have hg : l[i].rows[j].length ≤ 200 := by
          have : ¬ (200 : Int) < l[i].rows[j].length := by simpa using hg
          omega
        unfold h48_7
        try simp only [go_sem, ↓reduceIte, Nat.reduceEqDiff, Nat.reduceAdd, Nat.reduceLT, List.length_cons, List.length_nil, List.getElem?_cons_zero, List.getElem?_cons_succ, Nat.mul_one, Bool.true_eq_false, Bool.false_eq_true, false_implies, true_implies, Bool.not_true, Bool.not_false, decide_true, decide_false, Int.reduceToNat, Int.cast_ofNat_Int, Int.reduceLT, Int.reduceLE, Int.reduceEq, Int.reduceNeg, eq_self, Option.isNone_some, Option.isNone_none, Bool.bne_false, Bool.bne_true, t0, t3, t4]
        rw [w64 (by omega) (by omega)]
        refine ⟨j + 1, by omega, by omega, rfl, ?_⟩
        rw [List.take_succ_eq_append_getElem hjl, List.all_append, hallj]
        simp [hg]
    · have hjo : j = l[i].rows.length := by
        have : ¬ (j : Int) < l[i].rows.length := by simpa using hgej
        omega
      subst hjo
      rw [List.take_length] at hallj
      unfold h48_8
      try simp only [go_sem, ↓reduceIte, Nat.reduceEqDiff, Nat.reduceAdd, Nat.reduceLT, List.length_cons, List.length_nil, List.getElem?_cons_zero, List.getElem?_cons_succ, Nat.mul_one, Bool.true_eq_false, Bool.false_eq_true, false_implies, true_implies, Bool.not_true, Bool.not_false, decide_true, decide_false, Int.reduceToNat, Int.cast_ofNat_Int, Int.reduceLT, Int.reduceLE, Int.reduceEq, Int.reduceNeg, eq_self, Option.isNone_some, Option.isNone_none, Bool.bne_false, Bool.bne_true, t0, t3]
      rw [w64 (by omega) (by omega)]
      refine ⟨i + 1, by omega, by omega, rfl, ?_⟩
      rw [List.take_succ_eq_append_getElem hil, List.all_append, hall]
      have h1 : Deed.few1 l[i] = true := by simp only [Deed.few1, hallj, Bool.and_true, Bool.and_eq_true, decide_eq_true_eq]; omega
      simp [h1]
  · have hio : i = l.length := by
      have : ¬ (i : Int) < l.length := by simpa using hge
      omega
    subst hio
    rw [List.take_length] at hall
    unfold h48_9
    try simp only [go_sem, ↓reduceIte, Nat.reduceEqDiff, Nat.reduceAdd, Nat.reduceLT, List.length_cons, List.length_nil, List.getElem?_cons_zero, List.getElem?_cons_succ, Nat.mul_one, Bool.true_eq_false, Bool.false_eq_true, false_implies, true_implies, Bool.not_true, Bool.not_false, decide_true, decide_false, Int.reduceToNat, Int.cast_ofNat_Int, Int.reduceLT, Int.reduceLE, Int.reduceEq, Int.reduceNeg, eq_self, Option.isNone_some, Option.isNone_none, Bool.bne_false, Bool.bne_true]
    have : fewJ l = true := by simp [fewJ, h30, hall]
    rw [this] at k; exact k

theorem jpick_ {n m : Int} (hn : i64 n) (hm : 0 < m ∧ m ≤ 1000) (k : next (.int .i64 (n % m)) w) : callvK Try.prog (.func (.func 50) #[] #[]) [.int .i64 n, .int .i64 m] w next QP := by
  refine r50 rfl ?_
  have h1 := hn.1
  have h2 := hn.2
  have hne : m ≠ 0 := by omega
  unfold h50
  try simp only [go_sem, ↓reduceIte, Nat.reduceEqDiff, Nat.reduceAdd, Nat.reduceLT, List.length_cons, List.length_nil, List.getElem?_cons_zero, List.getElem?_cons_succ, Nat.mul_one, Bool.true_eq_false, Bool.false_eq_true, false_implies, true_implies, Bool.not_true, Bool.not_false, decide_true, decide_false, Int.reduceToNat, Int.cast_ofNat_Int, Int.reduceLT, Int.reduceLE, Int.reduceEq, Int.reduceNeg, eq_self, Option.isNone_some, Option.isNone_none, Bool.bne_false, Bool.bne_true]
  refine ⟨hne, ?_⟩
  have hb1 : n.tmod m < m := Int.tmod_lt_of_pos _ (by omega)
  have hb2 : -m < n.tmod m := by
    have := Int.lt_tmod_of_pos n (show 0 < m by omega)
    exact this
  have hemod : n % m = if n.tmod m < 0 then n.tmod m + m else n.tmod m := by
    by_cases h0 : 0 ≤ n
    · rw [Int.tmod_eq_emod_of_nonneg h0, if_neg (by have := Int.emod_nonneg n hne; omega)]
    · have h3 := Int.tmod_add_mul_tdiv n m
      have e : n % m = (n.tmod m) % m := by
        conv => lhs; rw [← h3]
        rw [Int.add_mul_emod_self_left]
      rw [e]
      split
      · rw [← Int.add_emod_right, Int.emod_eq_of_lt (by omega) (by omega)]
      · exact Int.emod_eq_of_lt (by omega) hb1
  refine ⟨fun hneg => ?_, fun hpos => ?_⟩
  · have hneg : n.tmod m < 0 := by simpa using hneg
    rw [w64 (by omega) (by omega)]
    unfold h50_1
    try simp only [go_sem, ↓reduceIte, Nat.reduceEqDiff, Nat.reduceAdd, Nat.reduceLT, List.length_cons, List.length_nil, List.getElem?_cons_zero, List.getElem?_cons_succ, Nat.mul_one, Bool.true_eq_false, Bool.false_eq_true, false_implies, true_implies, Bool.not_true, Bool.not_false, decide_true, decide_false, Int.reduceToNat, Int.cast_ofNat_Int, Int.reduceLT, Int.reduceLE, Int.reduceEq, Int.reduceNeg, eq_self, Option.isNone_some, Option.isNone_none, Bool.bne_false, Bool.bne_true]
    rw [hemod, if_pos hneg] at k; exact k
  · have hpos : ¬ n.tmod m < 0 := by simpa using hpos
    unfold h50_1
    try simp only [go_sem, ↓reduceIte, Nat.reduceEqDiff, Nat.reduceAdd, Nat.reduceLT, List.length_cons, List.length_nil, List.getElem?_cons_zero, List.getElem?_cons_succ, Nat.mul_one, Bool.true_eq_false, Bool.false_eq_true, false_implies, true_implies, Bool.not_true, Bool.not_false, decide_true, decide_false, Int.reduceToNat, Int.cast_ofNat_Int, Int.reduceLT, Int.reduceLE, Int.reduceEq, Int.reduceNeg, eq_self, Option.isNone_some, Option.isNone_none, Bool.bne_false, Bool.bne_true]
    rw [hemod, if_neg hpos] at k; exact k
end
end Go.Proofs.Y
