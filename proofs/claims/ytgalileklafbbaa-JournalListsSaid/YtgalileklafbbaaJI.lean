/- JI: Same, and the reference's reading of a file. -/
import Derived.Test.YtgalileklafbbaaJHb
set_option linter.unusedSimpArgs false
set_option linter.unusedVariables false
set_option maxRecDepth 100000
namespace Go.Proofs.Y
open Go Go.HL Go.Proofs

section
variable {w : World} {next : Value → World → Prop} {QP : List PanicEntry → World → Prop}

theorem str_inj {a b : Bytes} : (a = b) ↔ (str a = str b) := by
  constructor
  · rintro rfl; rfl
  · intro h
    simp only [str, Value.string.injEq, ByteArray.mk.injEq] at h
    simpa using h

theorem same__ {va vb : Value} {a b : List Bytes} {n m : Nat} (ha : Sl w va 1 n (a.map str)) (hb : Sl w vb 1 m (b.map str)) (hn : n ≤ 1000000000000) (k : ∀ w', Mod none' w w' → next (.bool (decide (a = b))) w') :
    callvK Try.prog (.func (.func 46) #[] #[]) [va, vb] w next QP := by
  refine r46 rfl ?_
  have han : a.length = n := by have := ha.len; simpa using this
  have hbm : b.length = m := by have := hb.len; simpa using this
  obtain ⟨aa, ac, rfl, -, hac⟩ := ha.form
  obtain ⟨ba, bc, rfl, -, hbc⟩ := hb.form
  unfold h46
  try simp only [go_sem, ↓reduceIte, Nat.reduceEqDiff, Nat.reduceAdd, Nat.reduceLT, List.length_cons, List.length_nil, List.getElem?_cons_zero, List.getElem?_cons_succ, Nat.mul_one, Bool.true_eq_false, Bool.false_eq_true, false_implies, true_implies, Bool.not_true, Bool.not_false, decide_true, decide_false, Int.reduceToNat, Int.cast_ofNat_Int, Int.reduceLT, Int.reduceLE, Int.reduceEq, Int.reduceNeg, eq_self, Option.isNone_some, Option.isNone_none, Bool.bne_false, Bool.bne_true]
  refine ⟨fun hl => ?_, fun hl => ?_⟩
  · have hl : ¬ a = b := by
      have h0 : ¬ (n : Int) = m := by simpa using hl
      rintro rfl; omega
    have := k w (Mod.refl _ _)
    rw [decide_eq_false hl] at this
    exact this
  · have hl : n = m := by
      have h0 : (n : Int) = m := by simpa using hl
      omega
    subst hl
    unfold h46_1
    try simp only [go_sem, ↓reduceIte, Nat.reduceEqDiff, Nat.reduceAdd, Nat.reduceLT, List.length_cons, List.length_nil, List.getElem?_cons_zero, List.getElem?_cons_succ, Nat.mul_one, Bool.true_eq_false, Bool.false_eq_true, false_implies, true_implies, Bool.not_true, Bool.not_false, decide_true, decide_false, Int.reduceToNat, Int.cast_ofNat_Int, Int.reduceLT, Int.reduceLE, Int.reduceEq, Int.reduceNeg, eq_self, Option.isNone_some, Option.isNone_none, Bool.bne_false, Bool.bne_true]
    refine loopN n (fun i τ w' => τ 0 = .slice aa n ac ∧ τ 1 = .slice ba n bc ∧ τ 5 = .int .i64 i ∧ Mod none' w w' ∧ a.take i = b.take i) ⟨0, by omega, rfl, rfl, rfl, Mod.refl _ _, by simp⟩ ?_
    rintro i τ w1 hi ⟨t0, t1, t5, m1, heq⟩
    unfold h46_2
    try simp only [go_sem, ↓reduceIte, Nat.reduceEqDiff, Nat.reduceAdd, Nat.reduceLT, List.length_cons, List.length_nil, List.getElem?_cons_zero, List.getElem?_cons_succ, Nat.mul_one, Bool.true_eq_false, Bool.false_eq_true, false_implies, true_implies, Bool.not_true, Bool.not_false, decide_true, decide_false, Int.reduceToNat, Int.cast_ofNat_Int, Int.reduceLT, Int.reduceLE, Int.reduceEq, Int.reduceNeg, eq_self, Option.isNone_some, Option.isNone_none, Bool.bne_false, Bool.bne_true, t0, t1, t5]
    refine ⟨fun hlt => ?_, fun hge => ?_⟩
    · have hin : i < n := by
        have : (i : Int) < n := by simpa using hlt
        omega
      obtain ⟨ga, oa, rfl, hca⟩ := hac (by omega)
      obtain ⟨gb, ob, rfl, hcb⟩ := hbc (by omega)
      have xa : w1.cell? ⟨ga, oa + i, none⟩ = some (str (a[i]'(by omega))) := by
        have h1 := hca i (by omega)
        rw [List.getElem?_map, List.getElem?_eq_getElem (by omega)] at h1
        exact m1.cell h1 fun h => h
      have xb : w1.cell? ⟨gb, ob + i, none⟩ = some (str (b[i]'(by omega))) := by
        have h1 := hcb i (by omega)
        rw [List.getElem?_map, List.getElem?_eq_getElem (by omega)] at h1
        exact m1.cell h1 fun h => h
      unfold h46_3
      try simp only [go_sem, ↓reduceIte, Nat.reduceEqDiff, Nat.reduceAdd, Nat.reduceLT, List.length_cons, List.length_nil, List.getElem?_cons_zero, List.getElem?_cons_succ, Nat.mul_one, Bool.true_eq_false, Bool.false_eq_true, false_implies, true_implies, Bool.not_true, Bool.not_false, decide_true, decide_false, Int.reduceToNat, Int.cast_ofNat_Int, Int.reduceLT, Int.reduceLE, Int.reduceEq, Int.reduceNeg, eq_self, Option.isNone_some, Option.isNone_none, Bool.bne_false, Bool.bne_true, t0, t1, t5, xa, xb]
      repeat refine ⟨⟨by omega, by omega⟩, ?_⟩
      refine ⟨fun hne => ?_, fun heq1 => ?_⟩
      · have hne : ¬ a[i]'(by omega) = b[i]'(by omega) := by simpa using hne
        have hab : ¬ a = b := by rintro rfl; exact hne rfl
        have := k _ (m1.trans' (Mod.drew none' w1))
        rw [decide_eq_false hab] at this
        exact this
      · have heq1 : a[i]'(by omega) = b[i]'(by omega) := by simpa using heq1
        unfold h46_4
        try simp only [go_sem, ↓reduceIte, Nat.reduceEqDiff, Nat.reduceAdd, Nat.reduceLT, List.length_cons, List.length_nil, List.getElem?_cons_zero, List.getElem?_cons_succ, Nat.mul_one, Bool.true_eq_false, Bool.false_eq_true, false_implies, true_implies, Bool.not_true, Bool.not_false, decide_true, decide_false, Int.reduceToNat, Int.cast_ofNat_Int, Int.reduceLT, Int.reduceLE, Int.reduceEq, Int.reduceNeg, eq_self, Option.isNone_some, Option.isNone_none, Bool.bne_false, Bool.bne_true, t0, t1, t5]
        rw [w64 (by omega) (by omega)]
        refine ⟨i + 1, by omega, by omega, rfl, m1.trans' (Mod.drew none' w1), ?_⟩
        rw [List.take_succ_eq_append_getElem (by omega), List.take_succ_eq_append_getElem (by omega), heq, heq1]
    · have hio : i = n := by
        have : ¬ (i : Int) < n := by simpa using hge
        omega
      subst hio
      rw [List.take_of_length_le (by omega), List.take_of_length_le (by omega)] at heq
      unfold h46_5
      try simp only [go_sem, ↓reduceIte, Nat.reduceEqDiff, Nat.reduceAdd, Nat.reduceLT, List.length_cons, List.length_nil, List.getElem?_cons_zero, List.getElem?_cons_succ, Nat.mul_one, Bool.true_eq_false, Bool.false_eq_true, false_implies, true_implies, Bool.not_true, Bool.not_false, decide_true, decide_false, Int.reduceToNat, Int.cast_ofNat_Int, Int.reduceLT, Int.reduceLE, Int.reduceEq, Int.reduceNeg, eq_self, Option.isNone_some, Option.isNone_none, Bool.bne_false, Bool.bne_true]
      have := k w1 m1
      rw [decide_eq_true heq] at this
      exact this

/-- the reference's checksum -/
theorem rcrc_ (s : List UInt8) (hs : s.length ≤ 1000000000000) (k : next (.int .i64 (crc s : Nat)) w) : callvK Try.prog (.func (.func 83) #[] #[]) [str s] w next QP := by
  refine r83 rfl ?_
  unfold h83
  try simp only [go_sem, ↓reduceIte, Nat.reduceEqDiff, Nat.reduceAdd, Nat.reduceLT, List.length_cons, List.length_nil, List.getElem?_cons_zero, List.getElem?_cons_succ, Nat.mul_one, Bool.true_eq_false, Bool.false_eq_true, false_implies, true_implies, Bool.not_true, Bool.not_false, decide_true, decide_false, Int.reduceToNat, Int.cast_ofNat_Int, Int.reduceLT, Int.reduceLE, Int.reduceEq, Int.reduceNeg, eq_self, Option.isNone_some, Option.isNone_none, Bool.bne_false, Bool.bne_true]
  refine loopN s.length (fun i τ w' => w' = w ∧ τ 0 = str s ∧ τ 3 = .int .i64 (crcFold 4294967295 (s.take i) : Nat) ∧ τ 4 = .int .i64 i) ⟨0, by omega, rfl, rfl, rfl, rfl⟩ ?_
  rintro i τ w1 hi ⟨rfl, t0, t3, t4⟩
  unfold h83_1
  try simp only [go_sem, ↓reduceIte, Nat.reduceEqDiff, Nat.reduceAdd, Nat.reduceLT, List.length_cons, List.length_nil, List.getElem?_cons_zero, List.getElem?_cons_succ, Nat.mul_one, Bool.true_eq_false, Bool.false_eq_true, false_implies, true_implies, Bool.not_true, Bool.not_false, decide_true, decide_false, Int.reduceToNat, Int.cast_ofNat_Int, Int.reduceLT, Int.reduceLE, Int.reduceEq, Int.reduceNeg, eq_self, Option.isNone_some, Option.isNone_none, Bool.bne_false, Bool.bne_true, t0, t3, t4]
  refine ⟨fun hlt => ?_, fun hge => ?_⟩
  · have hil : i < s.length := by
      have : (i : Int) < s.length := by simpa using hlt
      omega
    have hx := crcFold_lt (s.take i) 4294967295 (by decide)
    have hb := (s[i]).toNat_lt
    have hxb := xor_byte hx s[i]
    have hw1 : IntKind.i64.wrap ((s[i]).toNat : Int) = ((s[i]).toNat : Int) := by rw [w64 (by omega) (by omega)]
    unfold h83_2
    try simp only [go_sem, ↓reduceIte, Nat.reduceEqDiff, Nat.reduceAdd, Nat.reduceLT, List.length_cons, List.length_nil, List.getElem?_cons_zero, List.getElem?_cons_succ, Nat.mul_one, Bool.true_eq_false, Bool.false_eq_true, false_implies, true_implies, Bool.not_true, Bool.not_false, decide_true, decide_false, Int.reduceToNat, Int.cast_ofNat_Int, Int.reduceLT, Int.reduceLE, Int.reduceEq, Int.reduceNeg, eq_self, Option.isNone_some, Option.isNone_none, Bool.bne_false, Bool.bne_true, t0, t3, t4]
    repeat refine ⟨⟨by omega, by omega⟩, ?_⟩
    have hidx : s[i]?.getD 0 = s[i] := by simp [hil]
    rw [hidx, hw1, xor64 (by omega) (by omega)]
    try simp only [go_sem, ↓reduceIte, Nat.reduceEqDiff, Nat.reduceAdd, Nat.reduceLT, List.length_cons, List.length_nil, List.getElem?_cons_zero, List.getElem?_cons_succ, Nat.mul_one, Bool.true_eq_false, Bool.false_eq_true, false_implies, true_implies, Bool.not_true, Bool.not_false, decide_true, decide_false, Int.reduceToNat, Int.cast_ofNat_Int, Int.reduceLT, Int.reduceLE, Int.reduceEq, Int.reduceNeg, eq_self, Option.isNone_some, Option.isNone_none, Bool.bne_false, Bool.bne_true, t0, t3, t4]
    refine loopN 8 (fun j τ w' => w' = w1 ∧ τ 0 = str s ∧ τ 3 = .int .i64 (crcIt j (crcFold 4294967295 (s.take i) ^^^ (s[i]).toNat) : Nat) ∧ τ 4 = .int .i64 i ∧ τ 5 = .int .i64 j) ⟨0, by omega, rfl, t0, rfl, t4, rfl⟩ ?_
    rintro j τ w2 hj ⟨rfl, t0, t3, t4, t5⟩
    unfold h83_3
    try simp only [go_sem, ↓reduceIte, Nat.reduceEqDiff, Nat.reduceAdd, Nat.reduceLT, List.length_cons, List.length_nil, List.getElem?_cons_zero, List.getElem?_cons_succ, Nat.mul_one, Bool.true_eq_false, Bool.false_eq_true, false_implies, true_implies, Bool.not_true, Bool.not_false, decide_true, decide_false, Int.reduceToNat, Int.cast_ofNat_Int, Int.reduceLT, Int.reduceLE, Int.reduceEq, Int.reduceNeg, eq_self, Option.isNone_some, Option.isNone_none, Bool.bne_false, Bool.bne_true, t0, t3, t4, t5]
    refine ⟨fun hlt8 => ?_, fun hge8 => ?_⟩
    · have hj8 : j < 8 := by
        have : (j : Int) < 8 := by simpa using hlt8
        omega
      have hy := crcIt_lt j _ hxb
      have hst := crcIt_succ j (crcFold 4294967295 (s.take i) ^^^ (s[i]).toNat)
      generalize hyd : crcIt j (crcFold 4294967295 (s.take i) ^^^ (s[i]).toNat) = y at *
      have e1 : (y : Int).tmod 2 = ((y % 2 : Nat) : Int) := by rw [Int.tmod_eq_emod_of_nonneg (by omega)]; rfl
      have e2 : (y : Int).tdiv 2 = ((y / 2 : Nat) : Int) := by rw [Int.tdiv_eq_ediv_of_nonneg (by omega)]; rfl
      have e3 : IntKind.i64.wrap ((y / 2 : Nat) : Int) = ((y / 2 : Nat) : Int) := by rw [w64 (by omega) (by omega)]
      unfold h83_4
      try simp only [go_sem, ↓reduceIte, Nat.reduceEqDiff, Nat.reduceAdd, Nat.reduceLT, List.length_cons, List.length_nil, List.getElem?_cons_zero, List.getElem?_cons_succ, Nat.mul_one, Bool.true_eq_false, Bool.false_eq_true, false_implies, true_implies, Bool.not_true, Bool.not_false, decide_true, decide_false, Int.reduceToNat, Int.cast_ofNat_Int, Int.reduceLT, Int.reduceLE, Int.reduceEq, Int.reduceNeg, eq_self, Option.isNone_some, Option.isNone_none, Bool.bne_false, Bool.bne_true, t0, t3, t4, t5, e1, e2, e3]
      refine ⟨by decide, fun ho => ?_, fun ho => ?_⟩
      · have ho : y % 2 = 1 := by
          have : ((y % 2 : Nat) : Int) = 1 := by simpa using ho
          omega
        have hs1 : crcStep y = (y / 2) ^^^ 3988292384 := by simp [crcStep, ho]
        have hx64 := xor64 (a := y / 2) (b := 3988292384) (by omega) (by omega)
        rw [show ((3988292384 : Nat) : Int) = 3988292384 from rfl] at hx64
        refine ⟨by decide, ?_⟩
        unfold h83_5
        try simp only [go_sem, ↓reduceIte, Nat.reduceEqDiff, Nat.reduceAdd, Nat.reduceLT, List.length_cons, List.length_nil, List.getElem?_cons_zero, List.getElem?_cons_succ, Nat.mul_one, Bool.true_eq_false, Bool.false_eq_true, false_implies, true_implies, Bool.not_true, Bool.not_false, decide_true, decide_false, Int.reduceToNat, Int.cast_ofNat_Int, Int.reduceLT, Int.reduceLE, Int.reduceEq, Int.reduceNeg, eq_self, Option.isNone_some, Option.isNone_none, Bool.bne_false, Bool.bne_true, t0, t3, t4, t5, hx64]
        rw [w64 (by omega) (by omega)]
        exact ⟨j + 1, by omega, by omega, by rw [hst, hs1], rfl⟩
      · have ho : ¬ y % 2 = 1 := by
          have : ¬ ((y % 2 : Nat) : Int) = 1 := by simpa using ho
          omega
        have hs1 : crcStep y = y / 2 := by simp [crcStep, ho]
        refine ⟨by decide, ?_⟩
        unfold h83_5
        try simp only [go_sem, ↓reduceIte, Nat.reduceEqDiff, Nat.reduceAdd, Nat.reduceLT, List.length_cons, List.length_nil, List.getElem?_cons_zero, List.getElem?_cons_succ, Nat.mul_one, Bool.true_eq_false, Bool.false_eq_true, false_implies, true_implies, Bool.not_true, Bool.not_false, decide_true, decide_false, Int.reduceToNat, Int.cast_ofNat_Int, Int.reduceLT, Int.reduceLE, Int.reduceEq, Int.reduceNeg, eq_self, Option.isNone_some, Option.isNone_none, Bool.bne_false, Bool.bne_true, t0, t3, t4, t5]
        rw [w64 (by omega) (by omega)]
        exact ⟨j + 1, by omega, by omega, by rw [hst, hs1], rfl⟩
    · have hj8 : j = 8 := by
        have : ¬ (j : Int) < 8 := by simpa using hge8
        omega
      subst hj8
      unfold h83_6
      try simp only [go_sem, ↓reduceIte, Nat.reduceEqDiff, Nat.reduceAdd, Nat.reduceLT, List.length_cons, List.length_nil, List.getElem?_cons_zero, List.getElem?_cons_succ, Nat.mul_one, Bool.true_eq_false, Bool.false_eq_true, false_implies, true_implies, Bool.not_true, Bool.not_false, decide_true, decide_false, Int.reduceToNat, Int.cast_ofNat_Int, Int.reduceLT, Int.reduceLE, Int.reduceEq, Int.reduceNeg, eq_self, Option.isNone_some, Option.isNone_none, Bool.bne_false, Bool.bne_true, t0, t3, t4]
      rw [w64 (by omega) (by omega)]
      refine ⟨i + 1, by omega, by omega, ?_, rfl⟩
      rw [List.take_succ_eq_append_getElem hil]
      simp only [crcFold, List.foldl_append, List.foldl_cons, List.foldl_nil]
  · have hio : i = s.length := by
      have : ¬ (i : Int) < s.length := by simpa using hge
      omega
    subst hio
    rw [List.take_length] at t3
    have hl := crcFold_lt s 4294967295 (by decide)
    have hx := xor64 (a := crcFold 4294967295 s) (b := 4294967295) (by omega) (by omega)
    have hc : crcFold 4294967295 s ^^^ 4294967295 = crc s := by
      unfold crc
      have h1 : (BitVec.ofNat 32 (crcFold 4294967295 s) ^^^ BitVec.allOnes 32).toNat = 4294967295 - crcFold 4294967295 s := by
        rw [BitVec.xor_allOnes, BitVec.toNat_not, BitVec.toNat_ofNat, Nat.mod_eq_of_lt (show _ < 2 ^ 32 by omega)]
      rw [BitVec.toNat_xor, BitVec.toNat_ofNat, Nat.mod_eq_of_lt (show _ < 2 ^ 32 by omega)] at h1
      exact h1
    rw [show ((4294967295 : Nat) : Int) = 4294967295 from rfl, hc] at hx
    unfold h83_7
    try simp only [go_sem, ↓reduceIte, Nat.reduceEqDiff, Nat.reduceAdd, Nat.reduceLT, List.length_cons, List.length_nil, List.getElem?_cons_zero, List.getElem?_cons_succ, Nat.mul_one, Bool.true_eq_false, Bool.false_eq_true, false_implies, true_implies, Bool.not_true, Bool.not_false, decide_true, decide_false, Int.reduceToNat, Int.cast_ofNat_Int, Int.reduceLT, Int.reduceLE, Int.reduceEq, Int.reduceNeg, eq_self, Option.isNone_some, Option.isNone_none, Bool.bne_false, Bool.bne_true, t3, hx]
    exact k

/-- the number at an offset, if there is one -/
theorem rget_ (s : List UInt8) (hs : s.length ≤ 1000000000000) {a : Nat} (kn : s.length < 8 + a → next (.tuple #[.int .i64 0, .bool false]) w) (ks : 8 + a ≤ s.length → next (.tuple #[.int .i64 (val (s.drop a)), .bool true]) w) (ha : a ≤ 1000000000000) :
    callvK Try.prog (.func (.func 82) #[] #[]) [str s, .int .i64 a] w next QP := by
  refine r82 rfl ?_
  have hneg : decide ((a : Int) < 0) = false := by simp
  have e8 : IntKind.i64.wrap ((s.length : Int) - 8) = s.length - 8 := by rw [w64 (by omega) (by omega)]
  have ec : (if decide ((s.length : Int) < 8) = true then true else decide ((s.length : Int) - 8 < a)) = decide (s.length < 8 + a) := by
    by_cases h : (s.length : Int) < 8
    · simp only [h, decide_true, if_true]; symm; rw [decide_eq_true_eq]; omega
    · simp only [h, decide_false, Bool.false_eq_true, if_false]; congr 1; apply propext; omega
  unfold h82
  try simp only [go_sem, ↓reduceIte, Nat.reduceEqDiff, Nat.reduceAdd, Nat.reduceLT, List.length_cons, List.length_nil, List.getElem?_cons_zero, List.getElem?_cons_succ, Nat.mul_one, Bool.true_eq_false, Bool.false_eq_true, false_implies, true_implies, Bool.not_true, Bool.not_false, decide_true, decide_false, Int.reduceToNat, Int.cast_ofNat_Int, Int.reduceLT, Int.reduceLE, Int.reduceEq, Int.reduceNeg, eq_self, Option.isNone_some, Option.isNone_none, Bool.bne_false, Bool.bne_true, hneg, e8, ec]
  refine ⟨fun hb => kn (by simpa using hb), fun hb => ?_⟩
  have hb : 8 + a ≤ s.length := by
    have : ¬ s.length < 8 + a := by simpa using hb
    omega
  unfold h82_1
  try simp only [go_sem, ↓reduceIte, Nat.reduceEqDiff, Nat.reduceAdd, Nat.reduceLT, List.length_cons, List.length_nil, List.getElem?_cons_zero, List.getElem?_cons_succ, Nat.mul_one, Bool.true_eq_false, Bool.false_eq_true, false_implies, true_implies, Bool.not_true, Bool.not_false, decide_true, decide_false, Int.reduceToNat, Int.cast_ofNat_Int, Int.reduceLT, Int.reduceLE, Int.reduceEq, Int.reduceNeg, eq_self, Option.isNone_some, Option.isNone_none, Bool.bne_false, Bool.bne_true]
  refine loopN 8 (fun i τ w' => w' = w ∧ τ 0 = str s ∧ τ 1 = .int .i64 a ∧ τ 6 = .int .i64 (valFrom (s.drop a) i) ∧ τ 7 = .int .i64 (7 - i)) ⟨0, by omega, rfl, rfl, rfl, rfl, rfl⟩ ?_
  rintro i τ w1 hi ⟨rfl, t0, t1, t6, t7⟩
  unfold h82_2
  try simp only [go_sem, ↓reduceIte, Nat.reduceEqDiff, Nat.reduceAdd, Nat.reduceLT, List.length_cons, List.length_nil, List.getElem?_cons_zero, List.getElem?_cons_succ, Nat.mul_one, Bool.true_eq_false, Bool.false_eq_true, false_implies, true_implies, Bool.not_true, Bool.not_false, decide_true, decide_false, Int.reduceToNat, Int.cast_ofNat_Int, Int.reduceLT, Int.reduceLE, Int.reduceEq, Int.reduceNeg, eq_self, Option.isNone_some, Option.isNone_none, Bool.bne_false, Bool.bne_true, t0, t1, t6, t7]
  refine ⟨fun hge => ?_, fun hlt => ?_⟩
  · have hi8 : i < 8 := by
      have : (0 : Int) ≤ 7 - i := by simpa using hge
      omega
    have e1 : (7 - (i : Int)) = ((7 - i : Nat) : Int) := by omega
    have ea : IntKind.i64.wrap ((a : Int) + ((7 - i : Nat) : Int)) = ((a + (7 - i) : Nat) : Int) := by rw [w64 (by omega) (by omega)]; omega
    have hidx : s[a + (7 - i)]?.getD 0 = s[a + (7 - i)]'(by omega) := by rw [List.getElem?_eq_getElem (by omega)]; rfl
    have hb := (s[a + (7 - i)]'(by omega)).toNat_lt
    have hsh : (2 : Int) ^ (min 8 64) = 256 := by decide
    have hva : valAt (s.drop a) (7 - i) = (s[a + (7 - i)]'(by omega)).toNat := by simp only [valAt, List.getElem?_drop, hidx]
    have e9 : IntKind.i64.wrap (((7 - i : Nat) : Int) - 1) = 7 - ((i + 1 : Nat) : Int) := by rw [w64 (by omega) (by omega)]; omega
    unfold h82_3
    try simp only [go_sem, ↓reduceIte, Nat.reduceEqDiff, Nat.reduceAdd, Nat.reduceLT, List.length_cons, List.length_nil, List.getElem?_cons_zero, List.getElem?_cons_succ, Nat.mul_one, Bool.true_eq_false, Bool.false_eq_true, false_implies, true_implies, Bool.not_true, Bool.not_false, decide_true, decide_false, Int.reduceToNat, Int.cast_ofNat_Int, Int.reduceLT, Int.reduceLE, Int.reduceEq, Int.reduceNeg, eq_self, Option.isNone_some, Option.isNone_none, Bool.bne_false, Bool.bne_true, t0, t1, t6, t7, e1, ea, hidx, hsh]
    refine ⟨⟨by omega, by omega⟩, ?_⟩
    rw [w64 (x := ((s[a + (7 - i)]'(by omega)).toNat : Int)) (by omega) (by omega), or_byte _ _ (by omega)]
    unfold h82_4
    try simp only [go_sem, ↓reduceIte, Nat.reduceEqDiff, Nat.reduceAdd, Nat.reduceLT, List.length_cons, List.length_nil, List.getElem?_cons_zero, List.getElem?_cons_succ, Nat.mul_one, Bool.true_eq_false, Bool.false_eq_true, false_implies, true_implies, Bool.not_true, Bool.not_false, decide_true, decide_false, Int.reduceToNat, Int.cast_ofNat_Int, Int.reduceLT, Int.reduceLE, Int.reduceEq, Int.reduceNeg, eq_self, Option.isNone_some, Option.isNone_none, Bool.bne_false, Bool.bne_true, t0, t1, t7, e1, e9]
    refine ⟨i + 1, by omega, by omega, ?_, rfl⟩
    show Value.int .i64 _ = Value.int .i64 (wr (valFrom (s.drop a) i * 256 + valAt (s.drop a) (7 - i)))
    rw [hva]; rfl
  · have hi8 : i = 8 := by
      have : ¬ (0 : Int) ≤ 7 - i := by simpa using hlt
      omega
    subst hi8
    unfold h82_5
    try simp only [go_sem, ↓reduceIte, Nat.reduceEqDiff, Nat.reduceAdd, Nat.reduceLT, List.length_cons, List.length_nil, List.getElem?_cons_zero, List.getElem?_cons_succ, Nat.mul_one, Bool.true_eq_false, Bool.false_eq_true, false_implies, true_implies, Bool.not_true, Bool.not_false, decide_true, decide_false, Int.reduceToNat, Int.cast_ofNat_Int, Int.reduceLT, Int.reduceLE, Int.reduceEq, Int.reduceNeg, eq_self, Option.isNone_some, Option.isNone_none, Bool.bne_false, Bool.bne_true, t6]
    exact ks hb

theorem rrows_ (s : List UInt8) (hs : s.length ≤ 1000000000) (kn : openB s = none → ∀ w' v, Mod none' w w' → next (.tuple #[v, .bool false]) w')
    (ks : ∀ L, openB s = some L → ∀ v w', Mod none' w w' → Own w' v 9 1 L.rows.length (L.rows.map str) → (∀ k, v.ownBlock = some k → w.heap.size ≤ k) → next (.tuple #[v, .bool true]) w') :
    callvK Try.prog (.func (.func 45) #[] #[]) [str s] w next QP := by
  refine r45 rfl ?_
  have k0 : (s.length < 16 ∨ val s = 0) → next (.tuple #[.slice none 0 0, .bool true]) w := fun hc => ks ⟨[], 0, 16⟩ (by rw [openB, if_pos hc]) _ w (Mod.refl _ _) (Own.nil _ _ _) fun k hk => (nomatch (hk : none = some k))
  unfold h45
  try simp only [go_sem, ↓reduceIte, Nat.reduceEqDiff, Nat.reduceAdd, Nat.reduceLT, List.length_cons, List.length_nil, List.getElem?_cons_zero, List.getElem?_cons_succ, Nat.mul_one, Bool.true_eq_false, Bool.false_eq_true, false_implies, true_implies, Bool.not_true, Bool.not_false, decide_true, decide_false, Int.reduceToNat, Int.cast_ofNat_Int, Int.reduceLT, Int.reduceLE, Int.reduceEq, Int.reduceNeg, eq_self, Option.isNone_some, Option.isNone_none, Bool.bne_false, Bool.bne_true]
  refine rget_ s (by omega) (a := 0) (fun h => ?_) (fun h => ?_) (by omega)
  · try simp only [go_sem, ↓reduceIte, Nat.reduceEqDiff, Nat.reduceAdd, Nat.reduceLT, List.length_cons, List.length_nil, List.getElem?_cons_zero, List.getElem?_cons_succ, Nat.mul_one, Bool.true_eq_false, Bool.false_eq_true, false_implies, true_implies, Bool.not_true, Bool.not_false, decide_true, decide_false, Int.reduceToNat, Int.cast_ofNat_Int, Int.reduceLT, Int.reduceLE, Int.reduceEq, Int.reduceNeg, eq_self, Option.isNone_some, Option.isNone_none, Bool.bne_false, Bool.bne_true]
    refine rget_ s (by omega) (a := 8) (fun h8 => ?_) (fun h8 => by omega) (by omega)
    try simp only [go_sem, ↓reduceIte, Nat.reduceEqDiff, Nat.reduceAdd, Nat.reduceLT, List.length_cons, List.length_nil, List.getElem?_cons_zero, List.getElem?_cons_succ, Nat.mul_one, Bool.true_eq_false, Bool.false_eq_true, false_implies, true_implies, Bool.not_true, Bool.not_false, decide_true, decide_false, Int.reduceToNat, Int.cast_ofNat_Int, Int.reduceLT, Int.reduceLE, Int.reduceEq, Int.reduceNeg, eq_self, Option.isNone_some, Option.isNone_none, Bool.bne_false, Bool.bne_true]
    exact k0 (.inl (by omega))
  rw [List.drop_zero]
  try simp only [go_sem, ↓reduceIte, Nat.reduceEqDiff, Nat.reduceAdd, Nat.reduceLT, List.length_cons, List.length_nil, List.getElem?_cons_zero, List.getElem?_cons_succ, Nat.mul_one, Bool.true_eq_false, Bool.false_eq_true, false_implies, true_implies, Bool.not_true, Bool.not_false, decide_true, decide_false, Int.reduceToNat, Int.cast_ofNat_Int, Int.reduceLT, Int.reduceLE, Int.reduceEq, Int.reduceNeg, eq_self, Option.isNone_some, Option.isNone_none, Bool.bne_false, Bool.bne_true]
  refine rget_ s (by omega) (a := 8) (fun h8 => ?_) (fun h8 => ?_) (by omega)
  · try simp only [go_sem, ↓reduceIte, Nat.reduceEqDiff, Nat.reduceAdd, Nat.reduceLT, List.length_cons, List.length_nil, List.getElem?_cons_zero, List.getElem?_cons_succ, Nat.mul_one, Bool.true_eq_false, Bool.false_eq_true, false_implies, true_implies, Bool.not_true, Bool.not_false, decide_true, decide_false, Int.reduceToNat, Int.cast_ofNat_Int, Int.reduceLT, Int.reduceLE, Int.reduceEq, Int.reduceNeg, eq_self, Option.isNone_some, Option.isNone_none, Bool.bne_false, Bool.bne_true]
    exact k0 (.inl (by omega))
  try simp only [go_sem, ↓reduceIte, Nat.reduceEqDiff, Nat.reduceAdd, Nat.reduceLT, List.length_cons, List.length_nil, List.getElem?_cons_zero, List.getElem?_cons_succ, Nat.mul_one, Bool.true_eq_false, Bool.false_eq_true, false_implies, true_implies, Bool.not_true, Bool.not_false, decide_true, decide_false, Int.reduceToNat, Int.cast_ofNat_Int, Int.reduceLT, Int.reduceLE, Int.reduceEq, Int.reduceNeg, eq_self, Option.isNone_some, Option.isNone_none, Bool.bne_false, Bool.bne_true]
  refine ⟨fun h0 => ?_, fun h0 => ?_⟩
  · have h0 : val s = 0 := by simpa using h0
    exact k0 (.inr h0)
  have h0 : ¬ val s = 0 := by simpa using h0
  have hob : openB s = if val s < 16 ∨ (s.length : Int) < val s then none
      else match splitB ((s.take (val s).toNat).drop 16) with
        | none => none
        | some l => if (l.length : Int) = val (s.drop 8) then some ⟨l, l.length, (val s).toNat⟩ else none := by
    rw [openB, if_neg (by omega)]; rfl
  clear k0
  have ec : (if decide (val s < 16) = true then true else decide ((s.length : Int) < val s)) = decide (val s < 16 ∨ (s.length : Int) < val s) := by
    by_cases h : val s < 16 <;> simp [h]
  unfold h45_1
  try simp only [go_sem, ↓reduceIte, Nat.reduceEqDiff, Nat.reduceAdd, Nat.reduceLT, List.length_cons, List.length_nil, List.getElem?_cons_zero, List.getElem?_cons_succ, Nat.mul_one, Bool.true_eq_false, Bool.false_eq_true, false_implies, true_implies, Bool.not_true, Bool.not_false, decide_true, decide_false, Int.reduceToNat, Int.cast_ofNat_Int, Int.reduceLT, Int.reduceLE, Int.reduceEq, Int.reduceNeg, eq_self, Option.isNone_some, Option.isNone_none, Bool.bne_false, Bool.bne_true, ec]
  refine ⟨fun hb => ?_, fun hb => ?_⟩
  · have hb : val s < 16 ∨ (s.length : Int) < val s := by simpa using hb
    exact kn (by rw [hob, if_pos hb]) w _ (Mod.refl _ _)
  have hb : ¬ (val s < 16 ∨ (s.length : Int) < val s) := by simpa using hb
  rw [if_neg hb] at hob
  obtain ⟨x, hx⟩ := Int.eq_ofNat_of_zero_le (show 0 ≤ val s by omega)
  rw [hx] at hob hb
  simp only [Int.toNat_natCast] at hob
  have htl : (s.take x).length = x := by rw [List.length_take]; omega
  unfold h45_2
  try simp only [go_sem, ↓reduceIte, Nat.reduceEqDiff, Nat.reduceAdd, Nat.reduceLT, List.length_cons, List.length_nil, List.getElem?_cons_zero, List.getElem?_cons_succ, Nat.mul_one, Bool.true_eq_false, Bool.false_eq_true, false_implies, true_implies, Bool.not_true, Bool.not_false, decide_true, decide_false, Int.reduceToNat, Int.cast_ofNat_Int, Int.reduceLT, Int.reduceLE, Int.reduceEq, Int.reduceNeg, eq_self, Option.isNone_some, Option.isNone_none, Bool.bne_false, Bool.bne_true, hx]
  refine loopN x (fun a τ w' => τ 0 = str s ∧ τ 4 = .int .i64 x ∧ τ 6 = .int .i64 (val (s.drop 8)) ∧ τ 9 = .int .i64 a ∧ 16 ≤ a ∧ Mod none' w w' ∧ ∃ (l : List Bytes) (v : Value), τ 8 = v ∧ l.length ≤ a ∧ splitB ((s.take x).drop 16) = (splitB ((s.take x).drop a)).map (fun m => l ++ m) ∧ Own w' v 9 1 l.length (l.map str) ∧ (∀ k, v.ownBlock = some k → w.heap.size ≤ k))
    ⟨16, by omega, rfl, rfl, rfl, rfl, Nat.le_refl _, Mod.refl _ _, [], .slice none 0 0, rfl, by simp, by simp, Own.nil _ _ _, fun k hk => (nomatch (hk : none = some k))⟩ ?_
  rintro a τ w1 hax ⟨t0, t4, t6, t9, h16, m1, l, v, t8, hla, hsp, hv, hvn⟩
  unfold h45_3
  try simp only [go_sem, ↓reduceIte, Nat.reduceEqDiff, Nat.reduceAdd, Nat.reduceLT, List.length_cons, List.length_nil, List.getElem?_cons_zero, List.getElem?_cons_succ, Nat.mul_one, Bool.true_eq_false, Bool.false_eq_true, false_implies, true_implies, Bool.not_true, Bool.not_false, decide_true, decide_false, Int.reduceToNat, Int.cast_ofNat_Int, Int.reduceLT, Int.reduceLE, Int.reduceEq, Int.reduceNeg, eq_self, Option.isNone_some, Option.isNone_none, Bool.bne_false, Bool.bne_true, t0, t4, t6, t8, t9]
  refine ⟨fun hlt => ?_, fun hge => ?_⟩
  · have hlt : a < x := by
      have : (a : Int) < x := by simpa using hlt
      omega
    have hrl : ((s.take x).drop a).length = x - a := by rw [List.length_drop, htl]
    have hrne : (s.take x).drop a ≠ [] := by intro h; rw [h] at hrl; simp at hrl; omega
    have hsx : splitB ((s.take x).drop a) = if x - a < 16 then none else if val ((s.take x).drop a) < 0 ∨ ((x - a - 16 : Nat) : Int) < val ((s.take x).drop a) then none
        else if (crc ((((s.take x).drop a).drop 16).take (val ((s.take x).drop a)).toNat) : Int) ≠ val (((s.take x).drop a).drop 8) then none
        else (splitB ((((s.take x).drop a).drop 16).drop (val ((s.take x).drop a)).toNat)).map fun l => (((s.take x).drop a).drop 16).take (val ((s.take x).drop a)).toNat :: l := by
      rw [splitB]
      simp only [hrne, dif_neg, not_false_eq_true, hrl, List.length_drop, htl]
      by_cases h : x - a < 16
      · simp [h]
      · simp [h]
    have e8 : IntKind.i64.wrap ((a : Int) + 8) = ((a + 8 : Nat) : Int) := by rw [w64 (by omega) (by omega)]; rfl
    have bad : splitB ((s.take x).drop a) = none → openB s = none := by
      intro h; rw [hob, hsp, h]; rfl
    unfold h45_4
    try simp only [go_sem, ↓reduceIte, Nat.reduceEqDiff, Nat.reduceAdd, Nat.reduceLT, List.length_cons, List.length_nil, List.getElem?_cons_zero, List.getElem?_cons_succ, Nat.mul_one, Bool.true_eq_false, Bool.false_eq_true, false_implies, true_implies, Bool.not_true, Bool.not_false, decide_true, decide_false, Int.reduceToNat, Int.cast_ofNat_Int, Int.reduceLT, Int.reduceLE, Int.reduceEq, Int.reduceNeg, eq_self, Option.isNone_some, Option.isNone_none, Bool.bne_false, Bool.bne_true, t0, t4, t6, t8, t9]
    refine ⟨⟨by omega, by omega⟩, ?_⟩
    refine rget_ (s.take x) (by omega) (a := a) (fun h1 => ?_) (fun h1 => ?_) (by omega)
    · rw [htl] at h1
      try simp only [go_sem, ↓reduceIte, Nat.reduceEqDiff, Nat.reduceAdd, Nat.reduceLT, List.length_cons, List.length_nil, List.getElem?_cons_zero, List.getElem?_cons_succ, Nat.mul_one, Bool.true_eq_false, Bool.false_eq_true, false_implies, true_implies, Bool.not_true, Bool.not_false, decide_true, decide_false, Int.reduceToNat, Int.cast_ofNat_Int, Int.reduceLT, Int.reduceLE, Int.reduceEq, Int.reduceNeg, eq_self, Option.isNone_some, Option.isNone_none, Bool.bne_false, Bool.bne_true, t0, t4, t6, t8, t9, e8]
      refine ⟨⟨by omega, by omega⟩, ?_⟩
      refine rget_ (s.take x) (by omega) (a := a + 8) (fun h2 => ?_) (fun h2 => by rw [htl] at h2; omega) (by omega)
      try simp only [go_sem, ↓reduceIte, Nat.reduceEqDiff, Nat.reduceAdd, Nat.reduceLT, List.length_cons, List.length_nil, List.getElem?_cons_zero, List.getElem?_cons_succ, Nat.mul_one, Bool.true_eq_false, Bool.false_eq_true, false_implies, true_implies, Bool.not_true, Bool.not_false, decide_true, decide_false, Int.reduceToNat, Int.cast_ofNat_Int, Int.reduceLT, Int.reduceLE, Int.reduceEq, Int.reduceNeg, eq_self, Option.isNone_some, Option.isNone_none, Bool.bne_false, Bool.bne_true, t0, t4, t6, t8, t9]
      exact kn (bad (by rw [hsx, if_pos (by omega)])) _ _ m1
    rw [htl] at h1
    try simp only [go_sem, ↓reduceIte, Nat.reduceEqDiff, Nat.reduceAdd, Nat.reduceLT, List.length_cons, List.length_nil, List.getElem?_cons_zero, List.getElem?_cons_succ, Nat.mul_one, Bool.true_eq_false, Bool.false_eq_true, false_implies, true_implies, Bool.not_true, Bool.not_false, decide_true, decide_false, Int.reduceToNat, Int.cast_ofNat_Int, Int.reduceLT, Int.reduceLE, Int.reduceEq, Int.reduceNeg, eq_self, Option.isNone_some, Option.isNone_none, Bool.bne_false, Bool.bne_true, t0, t4, t6, t8, t9, e8]
    refine ⟨⟨by omega, by omega⟩, ?_⟩
    refine rget_ (s.take x) (by omega) (a := a + 8) (fun h2 => ?_) (fun h2 => ?_) (by omega)
    · rw [htl] at h2
      try simp only [go_sem, ↓reduceIte, Nat.reduceEqDiff, Nat.reduceAdd, Nat.reduceLT, List.length_cons, List.length_nil, List.getElem?_cons_zero, List.getElem?_cons_succ, Nat.mul_one, Bool.true_eq_false, Bool.false_eq_true, false_implies, true_implies, Bool.not_true, Bool.not_false, decide_true, decide_false, Int.reduceToNat, Int.cast_ofNat_Int, Int.reduceLT, Int.reduceLE, Int.reduceEq, Int.reduceNeg, eq_self, Option.isNone_some, Option.isNone_none, Bool.bne_false, Bool.bne_true, t0, t4, t6, t8, t9]
      exact kn (bad (by rw [hsx, if_pos (by omega)])) _ _ m1
    rw [htl] at h2
    rw [if_neg (show ¬ x - a < 16 by omega), List.drop_drop, List.drop_drop] at hsx
    generalize hn : val ((s.take x).drop a) = nn at *
    generalize hsum : val ((s.take x).drop (a + 8)) = sum at *
    have e16 : IntKind.i64.wrap ((a : Int) + 16) = ((a + 16 : Nat) : Int) := by rw [w64 (by omega) (by omega)]; rfl
    have ecb : (if (if decide (nn < 0) = true then true else decide ((x : Int) < nn)) = true then true else decide ((x : Int) < IntKind.i64.wrap (((a + 16 : Nat) : Int) + nn))) = decide (nn < 0 ∨ ((x - a - 16 : Nat) : Int) < nn) := by
      by_cases c1 : nn < 0
      · simp [c1]
      · by_cases c2 : (x : Int) < nn
        · simp only [c1, c2, decide_true, decide_false, Bool.false_eq_true, if_false, if_true, false_or]; symm; rw [decide_eq_true_eq]; omega
        · rw [w64 (by omega) (by omega)]
          simp only [c1, c2, decide_false, Bool.false_eq_true, if_false, false_or]; congr 1; apply propext; omega
    try simp only [go_sem, ↓reduceIte, Nat.reduceEqDiff, Nat.reduceAdd, Nat.reduceLT, List.length_cons, List.length_nil, List.getElem?_cons_zero, List.getElem?_cons_succ, Nat.mul_one, Bool.true_eq_false, Bool.false_eq_true, false_implies, true_implies, Bool.not_true, Bool.not_false, decide_true, decide_false, Int.reduceToNat, Int.cast_ofNat_Int, Int.reduceLT, Int.reduceLE, Int.reduceEq, Int.reduceNeg, eq_self, Option.isNone_some, Option.isNone_none, Bool.bne_false, Bool.bne_true, t0, t4, t6, t8, t9, e16, ecb]
    refine ⟨fun hbad => ?_, fun hbad => ?_⟩
    · have hbad : nn < 0 ∨ ((x - a - 16 : Nat) : Int) < nn := by simpa using hbad
      exact kn (bad (by rw [hsx, if_pos hbad])) _ _ m1
    have hbad : ¬ (nn < 0 ∨ ((x - a - 16 : Nat) : Int) < nn) := by simpa using hbad
    rw [if_neg hbad] at hsx
    obtain ⟨y, rfl⟩ := Int.eq_ofNat_of_zero_le (show 0 ≤ nn by omega)
    simp only [Int.toNat_natCast, List.drop_drop] at hsx
    have e17 : IntKind.i64.wrap (((a + 16 : Nat) : Int) + y) = ((a + 16 + y : Nat) : Int) := by rw [w64 (by omega) (by omega)]; rfl
    have hrow : ((s.take x).drop (a + 16)).take y = (s.drop (a + 16)).take y := by rw [List.drop_take, List.take_take, Nat.min_eq_left (by omega)]
    rw [hrow] at hsx
    unfold h45_5
    try simp only [go_sem, ↓reduceIte, Nat.reduceEqDiff, Nat.reduceAdd, Nat.reduceLT, List.length_cons, List.length_nil, List.getElem?_cons_zero, List.getElem?_cons_succ, Nat.mul_one, Bool.true_eq_false, Bool.false_eq_true, false_implies, true_implies, Bool.not_true, Bool.not_false, decide_true, decide_false, Int.reduceToNat, Int.cast_ofNat_Int, Int.reduceLT, Int.reduceLE, Int.reduceEq, Int.reduceNeg, eq_self, Option.isNone_some, Option.isNone_none, Bool.bne_false, Bool.bne_true, t0, t4, t6, t8, t9, e16, e17]
    refine ⟨⟨⟨by omega, by omega⟩, by omega, by omega⟩, ?_⟩
    rw [show a + 16 + y - (a + 16) = y by omega]
    have hyl : ((s.drop (a + 16)).take y).length = y := by rw [List.length_take, List.length_drop]; omega
    refine rcrc_ _ (by omega) ?_
    try simp only [go_sem, ↓reduceIte, Nat.reduceEqDiff, Nat.reduceAdd, Nat.reduceLT, List.length_cons, List.length_nil, List.getElem?_cons_zero, List.getElem?_cons_succ, Nat.mul_one, Bool.true_eq_false, Bool.false_eq_true, false_implies, true_implies, Bool.not_true, Bool.not_false, decide_true, decide_false, Int.reduceToNat, Int.cast_ofNat_Int, Int.reduceLT, Int.reduceLE, Int.reduceEq, Int.reduceNeg, eq_self, Option.isNone_some, Option.isNone_none, Bool.bne_false, Bool.bne_true, t0, t4, t6, t8, t9]
    refine ⟨fun hc => ?_, fun hc => ?_⟩
    · have hc : ¬ (crc ((s.drop (a + 16)).take y) : Int) = sum := by simpa using hc
      exact kn (bad (by rw [hsx, if_pos hc])) _ _ m1
    have hc : (crc ((s.drop (a + 16)).take y) : Int) = sum := by simpa using hc
    rw [if_neg (fun h => h hc)] at hsx
    unfold h45_6
    try simp only [go_sem, ↓reduceIte, Nat.reduceEqDiff, Nat.reduceAdd, Nat.reduceLT, List.length_cons, List.length_nil, List.getElem?_cons_zero, List.getElem?_cons_succ, Nat.mul_one, Bool.true_eq_false, Bool.false_eq_true, false_implies, true_implies, Bool.not_true, Bool.not_false, decide_true, decide_false, Int.reduceToNat, Int.cast_ofNat_Int, Int.reduceLT, Int.reduceLE, Int.reduceEq, Int.reduceNeg, eq_self, Option.isNone_some, Option.isNone_none, Bool.bne_false, Bool.bne_true, t0, t4, t6, t8, t9]
    refine bsl1 sl40 (cs := [str ((s.drop (a + 16)).take y)]) rfl rfl (by omega) ?_
    intro b2 w2 hb2 own2 _ m2 _
    refine append_ sl40 (hv.mod m2 fun _ _ h => h) own2.sl (by intro u hu; rw [List.mem_singleton.1 hu]; rfl) (by omega) (by unfold maxLen; omega) ?_
    intro v3 w3 own3 m3 hb3 _
    have m12 := m1.trans' m2
    try simp only [go_sem, ↓reduceIte, Nat.reduceEqDiff, Nat.reduceAdd, Nat.reduceLT, List.length_cons, List.length_nil, List.getElem?_cons_zero, List.getElem?_cons_succ, Nat.mul_one, Bool.true_eq_false, Bool.false_eq_true, false_implies, true_implies, Bool.not_true, Bool.not_false, decide_true, decide_false, Int.reduceToNat, Int.cast_ofNat_Int, Int.reduceLT, Int.reduceLE, Int.reduceEq, Int.reduceNeg, eq_self, Option.isNone_some, Option.isNone_none, Bool.bne_false, Bool.bne_true, t0, t4, t6, t8, t9, e16, e17]
    refine ⟨a + 16 + y, by omega, by omega, rfl, by omega, m12.trans m3 fun k hk hS => ?_, l ++ [(s.drop (a + 16)).take y], v3, rfl, by simp; omega, ?_, ?_, ?_⟩
    · have := hvn k hS; omega
    · rw [hsp, hsx, Option.map_map]; congr 1; funext m; simp
    · have : (l ++ [(s.drop (a + 16)).take y]).map str = l.map str ++ [str ((s.drop (a + 16)).take y)] := by simp
      rw [this, List.length_append]; exact own3
    · intro k hk
      rcases hb3 k hk with h' | h'
      · exact hvn k h'
      · have := m12.size; omega
  · have hio : a = x := by
      have : ¬ (a : Int) < x := by simpa using hge
      omega
    subst hio
    have hd : (s.take a).drop a = [] := List.eq_nil_of_length_eq_zero (by rw [List.length_drop, htl]; omega)
    have hsn : splitB ((s.take a).drop 16) = some l := by rw [hsp, hd, splitB]; simp
    rw [hsn] at hob
    simp only at hob
    obtain ⟨va, vc, rfl, -, -⟩ := hv.form
    unfold h45_7
    try simp only [go_sem, ↓reduceIte, Nat.reduceEqDiff, Nat.reduceAdd, Nat.reduceLT, List.length_cons, List.length_nil, List.getElem?_cons_zero, List.getElem?_cons_succ, Nat.mul_one, Bool.true_eq_false, Bool.false_eq_true, false_implies, true_implies, Bool.not_true, Bool.not_false, decide_true, decide_false, Int.reduceToNat, Int.cast_ofNat_Int, Int.reduceLT, Int.reduceLE, Int.reduceEq, Int.reduceNeg, eq_self, Option.isNone_some, Option.isNone_none, Bool.bne_false, Bool.bne_true, t6, t8]
    cases hl : decide ((l.length : Int) = val (s.drop 8)) with
    | true =>
      have hl' : (l.length : Int) = val (s.drop 8) := by simpa using hl
      rw [if_pos hl'] at hob
      exact ks _ hob _ _ m1 hv hvn
    | false =>
      have hl' : ¬ (l.length : Int) = val (s.drop 8) := by simpa using hl
      rw [if_neg hl'] at hob
      exact kn hob _ _ m1
end
end Go.Proofs.Y
