/- JI: Same, and the reference's reading of a file. -/
import Derived.Test.YtgalileklafbbaaJF
import Derived.Test.YtgalileklafbbaaJC
set_option linter.unusedSimpArgs false
set_option linter.unusedVariables false
set_option maxRecDepth 100000
namespace Go.Proofs.Y
open Go Go.HL Go.Proofs

section
variable {w : World} {next : Value → World → Prop} {QP : List PanicEntry → World → Prop}

theorem str_inj {a b : Bytes} : (a = b) ↔ (str a = str b) := by
  constructor
  · rintro rfl; rfl
  · intro h
    simp only [str, Value.string.injEq, ByteArray.mk.injEq] at h
    simpa using h

theorem same__ {va vb : Value} {a b : List Bytes} {n m : Nat} (ha : Sl w va 1 n (a.map str)) (hb : Sl w vb 1 m (b.map str)) (hn : n ≤ 1000000000000) (k : ∀ w', Mod none' w w' → next (.bool (decide (a = b))) w') :
    callvK Try.prog (.func (.func 46) #[] #[]) [va, vb] w next QP := by
  refine r46 rfl ?_
  have han : a.length = n := by have := ha.len; simpa using this
  have hbm : b.length = m := by have := hb.len; simpa using this
  obtain ⟨aa, ac, rfl, -, hac⟩ := ha.form
  obtain ⟨ba, bc, rfl, -, hbc⟩ := hb.form
  unfold h46
  try simp only [go_sem, ↓reduceIte, Nat.reduceEqDiff, Nat.reduceAdd, Nat.reduceLT, List.length_cons, List.length_nil, List.getElem?_cons_zero, List.getElem?_cons_succ, Nat.mul_one, Bool.true_eq_false, Bool.false_eq_true, false_implies, true_implies, Bool.not_true, Bool.not_false, decide_true, decide_false, Int.reduceToNat, Int.cast_ofNat_Int, Int.reduceLT, Int.reduceLE, Int.reduceEq, Int.reduceNeg, eq_self, Option.isNone_some, Option.isNone_none, Bool.bne_false, Bool.bne_true]
  refine ⟨fun hl => ?_, fun hl => ?_⟩
  · have hl : ¬ a = b := by
      have h0 : ¬ (n : Int) = m := by simpa using hl
      rintro rfl; omega
    have := k w (Mod.refl _ _)
    rw [decide_eq_false hl] at this
    exact this
  · have hl : n = m := by
      have h0 : (n : Int) = m := by simpa using hl
      omega
    subst hl
    unfold h46_1
    try simp only [go_sem, ↓reduceIte, Nat.reduceEqDiff, Nat.reduceAdd, Nat.reduceLT, List.length_cons, List.length_nil, List.getElem?_cons_zero, List.getElem?_cons_succ, Nat.mul_one, Bool.true_eq_false, Bool.false_eq_true, false_implies, true_implies, Bool.not_true, Bool.not_false, decide_true, decide_false, Int.reduceToNat, Int.cast_ofNat_Int, Int.reduceLT, Int.reduceLE, Int.reduceEq, Int.reduceNeg, eq_self, Option.isNone_some, Option.isNone_none, Bool.bne_false, Bool.bne_true]
    refine loopN n (fun i τ w' => τ 0 = .slice aa n ac ∧ τ 1 = .slice ba n bc ∧ τ 5 = .int .i64 i ∧ Mod none' w w' ∧ a.take i = b.take i) ⟨0, by omega, rfl, rfl, rfl, Mod.refl _ _, by simp⟩ ?_
    rintro i τ w1 hi ⟨t0, t1, t5, m1, heq⟩
    unfold h46_2
    try simp only [go_sem, ↓reduceIte, Nat.reduceEqDiff, Nat.reduceAdd, Nat.reduceLT, List.length_cons, List.length_nil, List.getElem?_cons_zero, List.getElem?_cons_succ, Nat.mul_one, Bool.true_eq_false, Bool.false_eq_true, false_implies, true_implies, Bool.not_true, Bool.not_false, decide_true, decide_false, Int.reduceToNat, Int.cast_ofNat_Int, Int.reduceLT, Int.reduceLE, Int.reduceEq, Int.reduceNeg, eq_self, Option.isNone_some, Option.isNone_none, Bool.bne_false, Bool.bne_true, t0, t1, t5]
    refine ⟨fun hlt => ?_, fun hge => ?_⟩
    · have hin : i < n := by
        have : (i : Int) < n := by simpa using hlt
        omega
      obtain ⟨ga, oa, rfl, hca⟩ := hac (by omega)
      obtain ⟨gb, ob, rfl, hcb⟩ := hbc (by omega)
      have xa : w1.cell? ⟨ga, oa + i, none⟩ = some (str (a[i]'(by omega))) := by
        have h1 := hca i (by omega)
        rw [List.getElem?_map, List.getElem?_eq_getElem (by omega)] at h1
        exact m1.cell h1 fun h => h
      have xb : w1.cell? ⟨gb, ob + i, none⟩ = some (str (b[i]'(by omega))) := by
        have h1 := hcb i (by omega)
        rw [List.getElem?_map, List.getElem?_eq_getElem (by omega)] at h1
        exact m1.cell h1 fun h => h
      unfold h46_3
      try simp only [go_sem, ↓reduceIte, Nat.reduceEqDiff, Nat.reduceAdd, Nat.reduceLT, List.length_cons, List.length_nil, List.getElem?_cons_zero, List.getElem?_cons_succ, Nat.mul_one, Bool.true_eq_false, Bool.false_eq_true, false_implies, true_implies, Bool.not_true, Bool.not_false, decide_true, decide_false, Int.reduceToNat, Int.cast_ofNat_Int, Int.reduceLT, Int.reduceLE, Int.reduceEq, Int.reduceNeg, eq_self, Option.isNone_some, Option.isNone_none, Bool.bne_false, Bool.bne_true, t0, t1, t5, xa, xb]
      repeat refine ⟨⟨by omega, by omega⟩, ?_⟩
      refine ⟨fun hne => ?_, fun heq1 => ?_⟩
      · have hne : ¬ a[i]'(by omega) = b[i]'(by omega) := by simpa using hne
        have hab : ¬ a = b := by rintro rfl; exact hne rfl
        have := k _ (m1.trans' (Mod.drew none' w1))
        rw [decide_eq_false hab] at this
        exact this
      · have heq1 : a[i]'(by omega) = b[i]'(by omega) := by simpa using heq1
        unfold h46_4
        try simp only [go_sem, ↓reduceIte, Nat.reduceEqDiff, Nat.reduceAdd, Nat.reduceLT, List.length_cons, List.length_nil, List.getElem?_cons_zero, List.getElem?_cons_succ, Nat.mul_one, Bool.true_eq_false, Bool.false_eq_true, false_implies, true_implies, Bool.not_true, Bool.not_false, decide_true, decide_false, Int.reduceToNat, Int.cast_ofNat_Int, Int.reduceLT, Int.reduceLE, Int.reduceEq, Int.reduceNeg, eq_self, Option.isNone_some, Option.isNone_none, Bool.bne_false, Bool.bne_true, t0, t1, t5]
        rw [w64 (by omega) (by omega)]
        refine ⟨i + 1, by omega, by omega, rfl, m1.trans' (Mod.drew none' w1), ?_⟩
        rw [List.take_succ_eq_append_getElem (by omega), List.take_succ_eq_append_getElem (by omega), heq, heq1]
    · have hio : i = n := by
        have : ¬ (i : Int) < n := by simpa using hge
        omega
      subst hio
      rw [List.take_of_length_le (by omega), List.take_of_length_le (by omega)] at heq
      unfold h46_5
      try simp only [go_sem, ↓reduceIte, Nat.reduceEqDiff, Nat.reduceAdd, Nat.reduceLT, List.length_cons, List.length_nil, List.getElem?_cons_zero, List.getElem?_cons_succ, Nat.mul_one, Bool.true_eq_false, Bool.false_eq_true, false_implies, true_implies, Bool.not_true, Bool.not_false, decide_true, decide_false, Int.reduceToNat, Int.cast_ofNat_Int, Int.reduceLT, Int.reduceLE, Int.reduceEq, Int.reduceNeg, eq_self, Option.isNone_some, Option.isNone_none, Bool.bne_false, Bool.bne_true]
      have := k w1 m1
      rw [decide_eq_true heq] at this
      exact this

/-- the reference's checksum -/
theorem rcrc_ (s : List UInt8) (hs : s.length ≤ 1000000000000) (k : next (.int .i64 (crc s : Nat)) w) : callvK Try.prog (.func (.func 83) #[] #[]) [str s] w next QP := by
  refine r83 rfl ?_
  unfold h83
  try simp only [go_sem, ↓reduceIte, Nat.reduceEqDiff, Nat.reduceAdd, Nat.reduceLT, List.length_cons, List.length_nil, List.getElem?_cons_zero, List.getElem?_cons_succ, Nat.mul_one, Bool.true_eq_false, Bool.false_eq_true, false_implies, true_implies, Bool.not_true, Bool.not_false, decide_true, decide_false, Int.reduceToNat, Int.cast_ofNat_Int, Int.reduceLT, Int.reduceLE, Int.reduceEq, Int.reduceNeg, eq_self, Option.isNone_some, Option.isNone_none, Bool.bne_false, Bool.bne_true]
  refine loopN s.length (fun i τ w' => w' = w ∧ τ 0 = str s ∧ τ 3 = .int .i64 (crcFold 4294967295 (s.take i) : Nat) ∧ τ 4 = .int .i64 i) ⟨0, by omega, rfl, rfl, rfl, rfl⟩ ?_
  rintro i τ w1 hi ⟨rfl, t0, t3, t4⟩
  unfold h83_1
  try simp only [go_sem, ↓reduceIte, Nat.reduceEqDiff, Nat.reduceAdd, Nat.reduceLT, List.length_cons, List.length_nil, List.getElem?_cons_zero, List.getElem?_cons_succ, Nat.mul_one, Bool.true_eq_false, Bool.false_eq_true, false_implies, true_implies, Bool.not_true, Bool.not_false, decide_true, decide_false, Int.reduceToNat, Int.cast_ofNat_Int, Int.reduceLT, Int.reduceLE, Int.reduceEq, Int.reduceNeg, eq_self, Option.isNone_some, Option.isNone_none, Bool.bne_false, Bool.bne_true, t0, t3, t4]
  refine ⟨fun hlt => ?_, fun hge => ?_⟩
  · have hil : i < s.length := by
      have : (i : Int) < s.length := by simpa using hlt
      omega
    have hx := crcFold_lt (s.take i) 4294967295 (by decide)
    have hb := (s[i]).toNat_lt
    have hxb := xor_byte hx s[i]
    have hw1 : IntKind.i64.wrap ((s[i]).toNat : Int) = ((s[i]).toNat : Int) := by rw [w64 (by omega) (by omega)]
    unfold h83_2
    try simp only [go_sem, ↓reduceIte, Nat.reduceEqDiff, Nat.reduceAdd, Nat.reduceLT, List.length_cons, List.length_nil, List.getElem?_cons_zero, List.getElem?_cons_succ, Nat.mul_one, Bool.true_eq_false, Bool.false_eq_true, false_implies, true_implies, Bool.not_true, Bool.not_false, decide_true, decide_false, Int.reduceToNat, Int.cast_ofNat_Int, Int.reduceLT, Int.reduceLE, Int.reduceEq, Int.reduceNeg, eq_self, Option.isNone_some, Option.isNone_none, Bool.bne_false, Bool.bne_true, t0, t3, t4]
    repeat refine ⟨⟨by omega, by omega⟩, ?_⟩
    have hidx : s[i]?.getD 0 = s[i] := by simp [hil]
    rw [hidx, hw1, xor64 (by omega) (by omega)]
    try simp only [go_sem, ↓reduceIte, Nat.reduceEqDiff, Nat.reduceAdd, Nat.reduceLT, List.length_cons, List.length_nil, List.getElem?_cons_zero, List.getElem?_cons_succ, Nat.mul_one, Bool.true_eq_false, Bool.false_eq_true, false_implies, true_implies, Bool.not_true, Bool.not_false, decide_true, decide_false, Int.reduceToNat, Int.cast_ofNat_Int, Int.reduceLT, Int.reduceLE, Int.reduceEq, Int.reduceNeg, eq_self, Option.isNone_some, Option.isNone_none, Bool.bne_false, Bool.bne_true, t0, t3, t4]
    refine loopN 8 (fun j τ w' => w' = w1 ∧ τ 0 = str s ∧ τ 3 = .int .i64 (crcIt j (crcFold 4294967295 (s.take i) ^^^ (s[i]).toNat) : Nat) ∧ τ 4 = .int .i64 i ∧ τ 5 = .int .i64 j) ⟨0, by omega, rfl, t0, rfl, t4, rfl⟩ ?_
    rintro j τ w2 hj ⟨rfl, t0, t3, t4, t5⟩
    unfold h83_3
    try simp only [go_sem, ↓reduceIte, Nat.reduceEqDiff, Nat.reduceAdd, Nat.reduceLT, List.length_cons, List.length_nil, List.getElem?_cons_zero, List.getElem?_cons_succ, Nat.mul_one, Bool.true_eq_false, Bool.false_eq_true, false_implies, true_implies, Bool.not_true, Bool.not_false, decide_true, decide_false, Int.reduceToNat, Int.cast_ofNat_Int, Int.reduceLT, Int.reduceLE, Int.reduceEq, Int.reduceNeg, eq_self, Option.isNone_some, Option.isNone_none, Bool.bne_false, Bool.bne_true, t0, t3, t4, t5]
    refine ⟨fun hlt8 => ?_, fun hge8 => ?_⟩
    · have hj8 : j < 8 := by
        have : (j : Int) < 8 := by simpa using hlt8
        omega
      have hy := crcIt_lt j _ hxb
      have hst := crcIt_succ j (crcFold 4294967295 (s.take i) ^^^ (s[i]).toNat)
      generalize hyd : crcIt j (crcFold 4294967295 (s.take i) ^^^ (s[i]).toNat) = y at *
      have e1 : (y : Int).tmod 2 = ((y % 2 : Nat) : Int) := by rw [Int.tmod_eq_emod_of_nonneg (by omega)]; rfl
      have e2 : (y : Int).tdiv 2 = ((y / 2 : Nat) : Int) := by rw [Int.tdiv_eq_ediv_of_nonneg (by omega)]; rfl
      have e3 : IntKind.i64.wrap ((y / 2 : Nat) : Int) = ((y / 2 : Nat) : Int) := by rw [w64 (by omega) (by omega)]
      unfold h83_4
      try simp only [go_sem, ↓reduceIte, Nat.reduceEqDiff, Nat.reduceAdd, Nat.reduceLT, List.length_cons, List.length_nil, List.getElem?_cons_zero, List.getElem?_cons_succ, Nat.mul_one, Bool.true_eq_false, Bool.false_eq_true, false_implies, true_implies, Bool.not_true, Bool.not_false, decide_true, decide_false, Int.reduceToNat, Int.cast_ofNat_Int, Int.reduceLT, Int.reduceLE, Int.reduceEq, Int.reduceNeg, eq_self, Option.isNone_some, Option.isNone_none, Bool.bne_false, Bool.bne_true, t0, t3, t4, t5, e1, e2, e3]
      refine ⟨by decide, fun ho => ?_, fun ho => ?_⟩
      · have ho : y % 2 = 1 := by
          have : ((y % 2 : Nat) : Int) = 1 := by simpa using ho
          omega
        have hs1 : crcStep y = (y / 2) ^^^ 3988292384 := by simp [crcStep, ho]
        have hx64 := xor64 (a := y / 2) (b := 3988292384) (by omega) (by omega)
        rw [show ((3988292384 : Nat) : Int) = 3988292384 from rfl] at hx64
        refine ⟨by decide, ?_⟩
        unfold h83_5
        try simp only [go_sem, ↓reduceIte, Nat.reduceEqDiff, Nat.reduceAdd, Nat.reduceLT, List.length_cons, List.length_nil, List.getElem?_cons_zero, List.getElem?_cons_succ, Nat.mul_one, Bool.true_eq_false, Bool.false_eq_true, false_implies, true_implies, Bool.not_true, Bool.not_false, decide_true, decide_false, Int.reduceToNat, Int.cast_ofNat_Int, Int.reduceLT, Int.reduceLE, Int.reduceEq, Int.reduceNeg, eq_self, Option.isNone_some, Option.isNone_none, Bool.bne_false, Bool.bne_true, t0, t3, t4, t5, hx64]
        rw [w64 (by omega) (by omega)]
        exact ⟨j + 1, by omega, by omega, by rw [hst, hs1], rfl⟩
      · have ho : ¬ y % 2 = 1 := by
          have : ¬ ((y % 2 : Nat) : Int) = 1 := by simpa using ho
          omega
        have hs1 : crcStep y = y / 2 := by simp [crcStep, ho]
        refine ⟨by decide, ?_⟩
        unfold h83_5
        try simp only [go_sem, ↓reduceIte, Nat.reduceEqDiff, Nat.reduceAdd, Nat.reduceLT, List.length_cons, List.length_nil, List.getElem?_cons_zero, List.getElem?_cons_succ, Nat.mul_one, Bool.true_eq_false, Bool.false_eq_true, false_implies, true_implies, Bool.not_true, Bool.not_false, decide_true, decide_false, Int.reduceToNat, Int.cast_ofNat_Int, Int.reduceLT, Int.reduceLE, Int.reduceEq, Int.reduceNeg, eq_self, Option.isNone_some, Option.isNone_none, Bool.bne_false, Bool.bne_true, t0, t3, t4, t5]
        rw [w64 (by omega) (by omega)]
        exact ⟨j + 1, by omega, by omega, by rw [hst, hs1], rfl⟩
    · have hj8 : j = 8 := by
        have : ¬ (j : Int) < 8 := by simpa using hge8
        omega
      subst hj8
      unfold h83_6
      try simp only [go_sem, ↓reduceIte, Nat.reduceEqDiff, Nat.reduceAdd, Nat.reduceLT, List.length_cons, List.length_nil, List.getElem?_cons_zero, List.getElem?_cons_succ, Nat.mul_one, Bool.true_eq_false, Bool.false_eq_true, false_implies, true_implies, Bool.not_true, Bool.not_false, decide_true, decide_false, Int.reduceToNat, Int.cast_ofNat_Int, Int.reduceLT, Int.reduceLE, Int.reduceEq, Int.reduceNeg, eq_self, Option.isNone_some, Option.isNone_none, Bool.bne_false, Bool.bne_true, t0, t3, t4]
      rw [w64 (by omega) (by omega)]
      refine ⟨i + 1, by omega, by omega, ?_, rfl⟩
      rw [List.take_succ_eq_append_getElem hil]
      simp only [crcFold, List.foldl_append, List.foldl_cons, List.foldl_nil]
  · have hio : i = s.length := by
      have : ¬ (i : Int) < s.length := by simpa using hge
      omega
    subst hio
    rw [List.take_length] at t3
    have hl := crcFold_lt s 4294967295 (by decide)
    have hx := xor64 (a := crcFold 4294967295 s) (b := 4294967295) (by omega) (by omega)
    have hc : crcFold 4294967295 s ^^^ 4294967295 = crc s := by
      unfold crc
      have h1 : (BitVec.ofNat 32 (crcFold 4294967295 s) ^^^ BitVec.allOnes 32).toNat = 4294967295 - crcFold 4294967295 s := by
        rw [BitVec.xor_allOnes, BitVec.toNat_not, BitVec.toNat_ofNat, Nat.mod_eq_of_lt (show _ < 2 ^ 32 by omega)]
      rw [BitVec.toNat_xor, BitVec.toNat_ofNat, Nat.mod_eq_of_lt (show _ < 2 ^ 32 by omega)] at h1
      exact h1
    rw [show ((4294967295 : Nat) : Int) = 4294967295 from rfl, hc] at hx
    unfold h83_7
    try simp only [go_sem, ↓reduceIte, Nat.reduceEqDiff, Nat.reduceAdd, Nat.reduceLT, List.length_cons, List.length_nil, List.getElem?_cons_zero, List.getElem?_cons_succ, Nat.mul_one, Bool.true_eq_false, Bool.false_eq_true, false_implies, true_implies, Bool.not_true, Bool.not_false, decide_true, decide_false, Int.reduceToNat, Int.cast_ofNat_Int, Int.reduceLT, Int.reduceLE, Int.reduceEq, Int.reduceNeg, eq_self, Option.isNone_some, Option.isNone_none, Bool.bne_false, Bool.bne_true, t3, hx]
    exact k

/-- the number at an offset, if there is one -/
theorem rget_ (s : List UInt8) (hs : s.length ≤ 1000000000000) {a : Nat} (kn : s.length < 8 + a → next (.tuple #[.int .i64 0, .bool false]) w) (ks : 8 + a ≤ s.length → next (.tuple #[.int .i64 (val (s.drop a)), .bool true]) w) (ha : a ≤ 1000000000000) :
    callvK Try.prog (.func (.func 82) #[] #[]) [str s, .int .i64 a] w next QP := by
  refine r82 rfl ?_
  have hneg : decide ((a : Int) < 0) = false := by simp
  have e8 : IntKind.i64.wrap ((s.length : Int) - 8) = s.length - 8 := by rw [w64 (by omega) (by omega)]
  have ec : (if decide ((s.length : Int) < 8) = true then true else decide ((s.length : Int) - 8 < a)) = decide (s.length < 8 + a) := by
    by_cases h : (s.length : Int) < 8
    · simp only [h, decide_true, if_true]; symm; rw [decide_eq_true_eq]; omega
    · simp only [h, decide_false, Bool.false_eq_true, if_false]; congr 1; apply propext; omega
  unfold h82
  try simp only [go_sem, ↓reduceIte, Nat.reduceEqDiff, Nat.reduceAdd, Nat.reduceLT, List.length_cons, List.length_nil, List.getElem?_cons_zero, List.getElem?_cons_succ, Nat.mul_one, Bool.true_eq_false, Bool.false_eq_true, false_implies, true_implies, Bool.not_true, Bool.not_false, decide_true, decide_false, Int.reduceToNat, Int.cast_ofNat_Int, Int.reduceLT, Int.reduceLE, Int.reduceEq, Int.reduceNeg, eq_self, Option.isNone_some, Option.isNone_none, Bool.bne_false, Bool.bne_true, hneg, e8, ec]
  refine ⟨fun hb => kn (by simpa using hb), fun hb => ?_⟩
  have hb : 8 + a ≤ s.length := by
    have : ¬ s.length < 8 + a := by simpa using hb
    omega
  unfold h82_1
  try simp only [go_sem, ↓reduceIte, Nat.reduceEqDiff, Nat.reduceAdd, Nat.reduceLT, List.length_cons, List.length_nil, List.getElem?_cons_zero, List.getElem?_cons_succ, Nat.mul_one, Bool.true_eq_false, Bool.false_eq_true, false_implies, true_implies, Bool.not_true, Bool.not_false, decide_true, decide_false, Int.reduceToNat, Int.cast_ofNat_Int, Int.reduceLT, Int.reduceLE, Int.reduceEq, Int.reduceNeg, eq_self, Option.isNone_some, Option.isNone_none, Bool.bne_false, Bool.bne_true]
  refine loopN 8 (fun i τ w' => w' = w ∧ τ 0 = str s ∧ τ 1 = .int .i64 a ∧ τ 6 = .int .i64 (valFrom (s.drop a) i) ∧ τ 7 = .int .i64 (7 - i)) ⟨0, by omega, rfl, rfl, rfl, rfl, rfl⟩ ?_
  rintro i τ w1 hi ⟨rfl, t0, t1, t6, t7⟩
  unfold h82_2
  try simp only [go_sem, ↓reduceIte, Nat.reduceEqDiff, Nat.reduceAdd, Nat.reduceLT, List.length_cons, List.length_nil, List.getElem?_cons_zero, List.getElem?_cons_succ, Nat.mul_one, Bool.true_eq_false, Bool.false_eq_true, false_implies, true_implies, Bool.not_true, Bool.not_false, decide_true, decide_false, Int.reduceToNat, Int.cast_ofNat_Int, Int.reduceLT, Int.reduceLE, Int.reduceEq, Int.reduceNeg, eq_self, Option.isNone_some, Option.isNone_none, Bool.bne_false, Bool.bne_true, t0, t1, t6, t7]
  refine ⟨fun hge => ?_, fun hlt => ?_⟩
  · have hi8 : i < 8 := by
      have : (0 : Int) ≤ 7 - i := by simpa using hge
      omega
    have e1 : (7 - (i : Int)) = ((7 - i : Nat) : Int) := by omega
    have ea : IntKind.i64.wrap ((a : Int) + ((7 - i : Nat) : Int)) = ((a + (7 - i) : Nat) : Int) := by rw [w64 (by omega) (by omega)]; omega
    have hidx : s[a + (7 - i)]?.getD 0 = s[a + (7 - i)]'(by omega) := by rw [List.getElem?_eq_getElem (by omega)]; rfl
    have hb := (s[a + (7 - i)]'(by omega)).toNat_lt
    have hsh : (2 : Int) ^ (min 8 64) = 256 := by decide
    have hva : valAt (s.drop a) (7 - i) = (s[a + (7 - i)]'(by omega)).toNat := by simp only [valAt, List.getElem?_drop, hidx]
    have e9 : IntKind.i64.wrap (((7 - i : Nat) : Int) - 1) = 7 - ((i + 1 : Nat) : Int) := by rw [w64 (by omega) (by omega)]; omega
    unfold h82_3
    try simp only [go_sem, ↓reduceIte, Nat.reduceEqDiff, Nat.reduceAdd, Nat.reduceLT, List.length_cons, List.length_nil, List.getElem?_cons_zero, List.getElem?_cons_succ, Nat.mul_one, Bool.true_eq_false, Bool.false_eq_true, false_implies, true_implies, Bool.not_true, Bool.not_false, decide_true, decide_false, Int.reduceToNat, Int.cast_ofNat_Int, Int.reduceLT, Int.reduceLE, Int.reduceEq, Int.reduceNeg, eq_self, Option.isNone_some, Option.isNone_none, Bool.bne_false, Bool.bne_true, t0, t1, t6, t7, e1, ea, hidx, hsh]
    refine ⟨⟨by omega, by omega⟩, ?_⟩
    rw [w64 (x := ((s[a + (7 - i)]'(by omega)).toNat : Int)) (by omega) (by omega), or_byte _ _ (by omega)]
    unfold h82_4
    try simp only [go_sem, ↓reduceIte, Nat.reduceEqDiff, Nat.reduceAdd, Nat.reduceLT, List.length_cons, List.length_nil, List.getElem?_cons_zero, List.getElem?_cons_succ, Nat.mul_one, Bool.true_eq_false, Bool.false_eq_true, false_implies, true_implies, Bool.not_true, Bool.not_false, decide_true, decide_false, Int.reduceToNat, Int.cast_ofNat_Int, Int.reduceLT, Int.reduceLE, Int.reduceEq, Int.reduceNeg, eq_self, Option.isNone_some, Option.isNone_none, Bool.bne_false, Bool.bne_true, t0, t1, t7, e1, e9]
    refine ⟨i + 1, by omega, by omega, ?_, rfl⟩
    show Value.int .i64 _ = Value.int .i64 (wr (valFrom (s.drop a) i * 256 + valAt (s.drop a) (7 - i)))
    rw [hva]; rfl
  · have hi8 : i = 8 := by
      have : ¬ (0 : Int) ≤ 7 - i := by simpa using hlt
      omega
    subst hi8
    unfold h82_5
    try simp only [go_sem, ↓reduceIte, Nat.reduceEqDiff, Nat.reduceAdd, Nat.reduceLT, List.length_cons, List.length_nil, List.getElem?_cons_zero, List.getElem?_cons_succ, Nat.mul_one, Bool.true_eq_false, Bool.false_eq_true, false_implies, true_implies, Bool.not_true, Bool.not_false, decide_true, decide_false, Int.reduceToNat, Int.cast_ofNat_Int, Int.reduceLT, Int.reduceLE, Int.reduceEq, Int.reduceNeg, eq_self, Option.isNone_some, Option.isNone_none, Bool.bne_false, Bool.bne_true, t6]
    exact ks hb

theorem rrows_ (s : List UInt8) (hs : s.length ≤ 1000000000) (kn : openB s = none → ∀ w' v, Mod none' w w' → next (.tuple #[v, .bool false]) w')
    (ks : ∀ L, openB s = some L → ∀ v w', Mod none' w w' → Own w' v 9 1 L.rows.length (L.rows.map str) → (∀ k, v.ownBlock = some k → w.heap.size ≤ k) → next (.tuple #[v, .bool true]) w') :
    callvK Try.prog (.func (.func 45) #[] #[]) [str s] w next QP := by
  refine r45 rfl ?_
  have k0 : (s.length < 16 ∨ val s = 0) → next (.tuple #[.slice none 0 0, .bool true]) w := fun hc => ks ⟨[], 0, 16⟩ (by rw [openB, if_pos hc]) _ w (Mod.refl _ _) (Own.nil _ _ _) fun k hk => (nomatch (hk : none = some k))
  unfold h45
  try simp only [go_sem, ↓reduceIte, Nat.reduceEqDiff, Nat.reduceAdd, Nat.reduceLT, List.length_cons, List.length_nil, List.getElem?_cons_zero, List.getElem?_cons_succ, Nat.mul_one, Bool.true_eq_false, Bool.false_eq_true, false_implies, true_implies, Bool.not_true, Bool.not_false, decide_true, decide_false, Int.reduceToNat, Int.cast_ofNat_Int, Int.reduceLT, Int.reduceLE, Int.reduceEq, Int.reduceNeg, eq_self, Option.isNone_some, Option.isNone_none, Bool.bne_false, Bool.bne_true]
  refine rget_ s (by omega) (a := 0) (fun h => ?_) (fun h => ?_) (by omega)
  · try simp only [go_sem, ↓reduceIte, Nat.reduceEqDiff, Nat.reduceAdd, Nat.reduceLT, List.length_cons, List.length_nil, List.getElem?_cons_zero, List.getElem?_cons_succ, Nat.mul_one, Bool.true_eq_false, Bool.false_eq_true, false_implies, true_implies, Bool.not_true, Bool.not_false, decide_true, decide_false, Int.reduceToNat, Int.cast_ofNat_Int, Int.reduceLT, Int.reduceLE, Int.reduceEq, Int.reduceNeg, eq_self, Option.isNone_some, Option.isNone_none, Bool.bne_false, Bool.bne_true]
    refine rget_ s (by omega) (a := 8) (fun h8 => ?_) (fun h8 => by omega) (by omega)
    try simp only [go_sem, ↓reduceIte, Nat.reduceEqDiff, Nat.reduceAdd, Nat.reduceLT, List.length_cons, List.length_nil, List.getElem?_cons_zero, List.getElem?_cons_succ, Nat.mul_one, Bool.true_eq_false, Bool.false_eq_true, false_implies, true_implies, Bool.not_true, Bool.not_false, decide_true, decide_false, Int.reduceToNat, Int.cast_ofNat_Int, Int.reduceLT, Int.reduceLE, Int.reduceEq, Int.reduceNeg, eq_self, Option.isNone_some, Option.isNone_none, Bool.bne_false, Bool.bne_true]
    exact k0 (.inl (by omega))
  rw [List.drop_zero]
  try simp only [go_sem, ↓reduceIte, Nat.reduceEqDiff, Nat.reduceAdd, Nat.reduceLT, List.length_cons, List.length_nil, List.getElem?_cons_zero, List.getElem?_cons_succ, Nat.mul_one, Bool.true_eq_false, Bool.false_eq_true, false_implies, true_implies, Bool.not_true, Bool.not_false, decide_true, decide_false, Int.reduceToNat, Int.cast_ofNat_Int, Int.reduceLT, Int.reduceLE, Int.reduceEq, Int.reduceNeg, eq_self, Option.isNone_some, Option.isNone_none, Bool.bne_false, Bool.bne_true]
  refine rget_ s (by omega) (a := 8) (fun h8 => ?_) (fun h8 => ?_) (by omega)
  · try simp only [go_sem, ↓reduceIte, Nat.reduceEqDiff, Nat.reduceAdd, Nat.reduceLT, List.length_cons, List.length_nil, List.getElem?_cons_zero, List.getElem?_cons_succ, Nat.mul_one, Bool.true_eq_false, Bool.false_eq_true, false_implies, true_implies, Bool.not_true, Bool.not_false, decide_true, decide_false, Int.reduceToNat, Int.cast_ofNat_Int, Int.reduceLT, Int.reduceLE, Int.reduceEq, Int.reduceNeg, eq_self, Option.isNone_some, Option.isNone_none, Bool.bne_false, Bool.bne_true]
    exact k0 (.inl (by omega))
  try simp only [go_sem, ↓reduceIte, Nat.reduceEqDiff, Nat.reduceAdd, Nat.reduceLT, List.length_cons, List.length_nil, List.getElem?_cons_zero, List.getElem?_cons_succ, Nat.mul_one, Bool.true_eq_false, Bool.false_eq_true, false_implies, true_implies, Bool.not_true, Bool.not_false, decide_true, decide_false, Int.reduceToNat, Int.cast_ofNat_Int, Int.reduceLT, Int.reduceLE, Int.reduceEq, Int.reduceNeg, eq_self, Option.isNone_some, Option.isNone_none, Bool.bne_false, Bool.bne_true]
  refine ⟨fun h0 => ?_, fun h0 => ?_⟩
  · have h0 : val s = 0 := by simpa using h0
    exact k0 (.inr h0)
  have h0 : ¬ val s = 0 := by simpa using h0
  have hob : openB s = if val s < 16 ∨ (s.length : Int) < val s then none
      else match splitB ((s.take (val s).toNat).drop 16) with
        | none => none
        | some l => if (l.length : Int) = val (s.drop 8) then some ⟨l, l.length, (val s).toNat⟩ else none := by
    rw [openB, if_neg (by omega)]; rfl
  clear k0
  have ec : (if decide (val s < 16) = true then true else decide ((s.length : Int) < val s)) = decide (val s < 16 ∨ (s.length : Int) < val s) := by
    by_cases h : val s < 16 <;> simp [h]
  unfold h45_1
  try simp only [go_sem, ↓reduceIte, Nat.reduceEqDiff, Nat.reduceAdd, Nat.reduceLT, List.length_cons, List.length_nil, List.getElem?_cons_zero, List.getElem?_cons_succ, Nat.mul_one, Bool.true_eq_false, Bool.false_eq_true, false_implies, true_implies, Bool.not_true, Bool.not_false, decide_true, decide_false, Int.reduceToNat, Int.cast_ofNat_Int, Int.reduceLT, Int.reduceLE, Int.reduceEq, Int.reduceNeg, eq_self, Option.isNone_some, Option.isNone_none, Bool.bne_false, Bool.bne_true, ec]
  refine ⟨fun hb => ?_, fun hb => ?_⟩
  · have hb : val s < 16 ∨ (s.length : Int) < val s := by simpa using hb
    exact kn (by rw [hob, if_pos hb]) w _ (Mod.refl _ _)
  have hb : ¬ (val s < 16 ∨ (s.length : Int) < val s) := by simpa using hb
  rw [if_neg hb] at hob
  obtain ⟨x, hx⟩ := Int.eq_ofNat_of_zero_le (show 0 ≤ val s by omega)
  rw [hx] at hob hb
  simp only [Int.toNat_natCast] at hob
  have htl : (s.take x).length = x := by rw [List.length_take]; omega
  unfold h45_2
  try simp only [go_sem, ↓reduceIte, Nat.reduceEqDiff, Nat.reduceAdd, Nat.reduceLT, List.length_cons, List.length_nil, List.getElem?_cons_zero, List.getElem?_cons_succ, Nat.mul_one, Bool.true_eq_false, Bool.false_eq_true, false_implies, true_implies, Bool.not_true, Bool.not_false, decide_true, decide_false, Int.reduceToNat, Int.cast_ofNat_Int, Int.reduceLT, Int.reduceLE, Int.reduceEq, Int.reduceNeg, eq_self, Option.isNone_some, Option.isNone_none, Bool.bne_false, Bool.bne_true, hx]
  refine loopN x (fun a τ w' => τ 0 = str s ∧ τ 4 = .int .i64 x ∧ τ 6 = .int .i64 (val (s.drop 8)) ∧ τ 9 = .int .i64 a ∧ 16 ≤ a ∧ Mod none' w w' ∧ ∃ (l : List Bytes) (v : Value), τ 8 = v ∧ l.length ≤ a ∧ splitB ((s.take x).drop 16) = (splitB ((s.take x).drop a)).map (fun m => l ++ m) ∧ Own w' v 9 1 l.length (l.map str) ∧ (∀ k, v.ownBlock = some k → w.heap.size ≤ k))
    ⟨16, by omega, rfl, rfl, rfl, rfl, Nat.le_refl _, Mod.refl _ _, [], .slice none 0 0, rfl, by simp, by simp, Own.nil _ _ _, fun k hk => (nomatch (hk : none = some k))⟩ ?_
  rintro a τ w1 hax ⟨t0, t4, t6, t9, h16, m1, l, v, t8, hla, hsp, hv, hvn⟩
  unfold h45_3
  try simp only [go_sem, ↓reduceIte, Nat.reduceEqDiff, Nat.reduceAdd, Nat.reduceLT, List.length_cons, List.length_nil, List.getElem?_cons_zero, List.getElem?_cons_succ, Nat.mul_one, Bool.true_eq_false, Bool.false_eq_true, false_implies, true_implies, Bool.not_true, Bool.not_false, decide_true, decide_false, Int.reduceToNat, Int.cast_ofNat_Int, Int.reduceLT, Int.reduceLE, Int.reduceEq, Int.reduceNeg, eq_self, Option.isNone_some, Option.isNone_none, Bool.bne_false, Bool.bne_true, t0, t4, t6, t8, t9]
  refine ⟨fun hlt => ?_, fun hge => ?_⟩
  · have hlt : a < x := by
      have : (a : Int) < x := by simpa using hlt
      omega
    have hrl : ((s.take x).drop a).length = x - a := by rw [List.length_drop, htl]
    have hrne : (s.take x).drop a ≠ [] := by intro h; rw [h] at hrl; simp at hrl; omega
    have hsx : splitB ((s.take x).drop a) = if x - a < 16 then none else if val ((s.take x).drop a) < 0 ∨ ((x - a - 16 : Nat) : Int) < val ((s.take x).drop a) then none
        else if (crc ((((s.take x).drop a).drop 16).take (val ((s.take x).drop a)).toNat) : Int) ≠ val (((s.take x).drop a).drop 8) then none
        else (splitB ((((s.take x).drop a).drop 16).drop (val ((s.take x).drop a)).toNat)).map fun l => (((s.take x).drop a).drop 16).take (val ((s.take x).drop a)).toNat :: l := by
      rw [splitB]
      simp only [hrne, dif_neg, not_false_eq_true, hrl, List.length_drop, htl]
      by_cases h : x - a < 16
      · simp [h]
      · simp [h]
    have e8 : IntKind.i64.wrap ((a : Int) + 8) = ((a + 8 : Nat) : Int) := by rw [w64 (by omega) (by omega)]; rfl
    have bad : splitB ((s.take x).drop a) = none → openB s = none := by
      intro h; rw [hob, hsp, h]; rfl
    unfold h45_4
    try simp only [go_sem, ↓reduceIte, Nat.reduceEqDiff, Nat.reduceAdd, Nat.reduceLT, List.length_cons, List.length_nil, List.getElem?_cons_zero, List.getElem?_cons_succ, Nat.mul_one, Bool.true_eq_false, Bool.false_eq_true, false_implies, true_implies, Bool.not_true, Bool.not_false, decide_true, decide_false, Int.reduceToNat, Int.cast_ofNat_Int, Int.reduceLT, Int.reduceLE, Int.reduceEq, Int.reduceNeg, eq_self, Option.isNone_some, Option.isNone_none, Bool.bne_false, Bool.bne_true, t0, t4, t6, t8, t9]
    refine ⟨⟨by omega, by omega⟩, ?_⟩
    refine rget_ (s.take x) (by omega) (a := a) (fun h1 => ?_) (fun h1 => ?_) (by omega)
    · rw [htl] at h1
      try simp only [go_sem, ↓reduceIte, Nat.reduceEqDiff, Nat.reduceAdd, Nat.reduceLT, List.length_cons, List.length_nil, List.getElem?_cons_zero, List.getElem?_cons_succ, Nat.mul_one, Bool.true_eq_false, Bool.false_eq_true, false_implies, true_implies, Bool.not_true, Bool.not_false, decide_true, decide_false, Int.reduceToNat, Int.cast_ofNat_Int, Int.reduceLT, Int.reduceLE, Int.reduceEq, Int.reduceNeg, eq_self, Option.isNone_some, Option.isNone_none, Bool.bne_false, Bool.bne_true, t0, t4, t6, t8, t9, e8]
      refine ⟨⟨by omega, by omega⟩, ?_⟩
      refine rget_ (s.take x) (by omega) (a := a + 8) (fun h2 => ?_) (fun h2 => by rw [htl] at h2; omega) (by omega)
      try simp only [go_sem, ↓reduceIte, Nat.reduceEqDiff, Nat.reduceAdd, Nat.reduceLT, List.length_cons, List.length_nil, List.getElem?_cons_zero, List.getElem?_cons_succ, Nat.mul_one, Bool.true_eq_false, Bool.false_eq_true, false_implies, true_implies, Bool.not_true, Bool.not_false, decide_true, decide_false, Int.reduceToNat, Int.cast_ofNat_Int, Int.reduceLT, Int.reduceLE, Int.reduceEq, Int.reduceNeg, eq_self, Option.isNone_some, Option.isNone_none, Bool.bne_false, Bool.bne_true, t0, t4, t6, t8, t9]
      exact kn (bad (by rw [hsx, if_pos (by omega)])) _ _ m1
    rw [htl] at h1
    try simp only [go_sem, ↓reduceIte, Nat.reduceEqDiff, Nat.reduceAdd, Nat.reduceLT, List.length_cons, List.length_nil, List.getElem?_cons_zero, List.getElem?_cons_succ, Nat.mul_one, Bool.true_eq_false, Bool.false_eq_true, false_implies, true_implies, Bool.not_true, Bool.not_false, decide_true, decide_false, Int.reduceToNat, Int.cast_ofNat_Int, Int.reduceLT, Int.reduceLE, Int.reduceEq, Int.reduceNeg, eq_self, Option.isNone_some, Option.isNone_none, Bool.bne_false, Bool.bne_true, t0, t4, t6, t8, t9, e8]
    refine ⟨⟨by omega, by omega⟩, ?_⟩
    refine rget_ (s.take x) (by omega) (a := a + 8) (fun h2 => ?_) (fun h2 => ?_) (by omega)
    · rw [htl] at h2
      try simp only [go_sem, ↓reduceIte, Nat.reduceEqDiff, Nat.reduceAdd, Nat.reduceLT, List.length_cons, List.length_nil, List.getElem?_cons_zero, List.getElem?_cons_succ, Nat.mul_one, Bool.true_eq_false, Bool.false_eq_true, false_implies, true_implies, Bool.not_true, Bool.not_false, decide_true, decide_false, Int.reduceToNat, Int.cast_ofNat_Int, Int.reduceLT, Int.reduceLE, Int.reduceEq, Int.reduceNeg, eq_self, Option.isNone_some, Option.isNone_none, Bool.bne_false, Bool.bne_true, t0, t4, t6, t8, t9]
      exact kn (bad (by rw [hsx, if_pos (by omega)])) _ _ m1
    rw [htl] at h2
    rw [if_neg (show ¬ x - a < 16 by omega), List.drop_drop, List.drop_drop] at hsx
    generalize hn : val ((s.take x).drop a) = nn at *
    generalize hsum : val ((s.take x).drop (a + 8)) = sum at *
    have e16 : IntKind.i64.wrap ((a : Int) + 16) = ((a + 16 : Nat) : Int) := by rw [w64 (by omega) (by omega)]; rfl
    have ecb : (if (if decide (nn < 0) = true then true else decide ((x : Int) < nn)) = true then true else decide ((x : Int) < IntKind.i64.wrap (((a + 16 : Nat) : Int) + nn))) = decide (nn < 0 ∨ ((x - a - 16 : Nat) : Int) < nn) := by
      by_cases c1 : nn < 0
      · simp [c1]
      · by_cases c2 : (x : Int) < nn
        · simp only [c1, c2, decide_true, decide_false, Bool.false_eq_true, if_false, if_true, false_or]; symm; rw [decide_eq_true_eq]; omega
        · rw [w64 (by omega) (by omega)]
          simp only [c1, c2, decide_false, Bool.false_eq_true, if_false, false_or]; congr 1; apply propext; omega
    try simp only [go_sem, ↓reduceIte, Nat.reduceEqDiff, Nat.reduceAdd, Nat.reduceLT, List.length_cons, List.length_nil, List.getElem?_cons_zero, List.getElem?_cons_succ, Nat.mul_one, Bool.true_eq_false, Bool.false_eq_true, false_implies, true_implies, Bool.not_true, Bool.not_false, decide_true, decide_false, Int.reduceToNat, Int.cast_ofNat_Int, Int.reduceLT, Int.reduceLE, Int.reduceEq, Int.reduceNeg, eq_self, Option.isNone_some, Option.isNone_none, Bool.bne_false, Bool.bne_true, t0, t4, t6, t8, t9, e16, ecb]
    refine ⟨fun hbad => ?_, fun hbad => ?_⟩
    · have hbad : nn < 0 ∨ ((x - a - 16 : Nat) : Int) < nn := by simpa using hbad
      exact kn (bad (by rw [hsx, if_pos hbad])) _ _ m1
    have hbad : ¬ (nn < 0 ∨ ((x - a - 16 : Nat) : Int) < nn) := by simpa using hbad
    rw [if_neg hbad] at hsx
    obtain ⟨y, rfl⟩ := Int.eq_ofNat_of_zero_le (show 0 ≤ nn by omega)
    simp only [Int.toNat_natCast, List.drop_drop] at hsx
    have e17 : IntKind.i64.wrap (((a + 16 : Nat) : Int) + y) = ((a + 16 + y : Nat) : Int) := by rw [w64 (by omega) (by omega)]; rfl
    have hrow : ((s.take x).drop (a + 16)).take y = (s.drop (a + 16)).take y := by rw [List.drop_take, List.take_take, Nat.min_eq_left (by omega)]
    rw [hrow] at hsx
    unfold h45_5
    try simp only [go_sem, ↓reduceIte, Nat.reduceEqDiff, Nat.reduceAdd, Nat.reduceLT, List.length_cons, List.length_nil, List.getElem?_cons_zero, List.getElem?_cons_succ, Nat.mul_one, Bool.true_eq_false, Bool.false_eq_true, false_implies, true_implies, Bool.not_true, Bool.not_false, decide_true, decide_false, Int.reduceToNat, Int.cast_ofNat_Int, Int.reduceLT, Int.reduceLE, Int.reduceEq, Int.reduceNeg, eq_self, Option.isNone_some, Option.isNone_none, Bool.bne_false, Bool.bne_true, t0, t4, t6, t8, t9, e16, e17]
    refine ⟨⟨⟨by omega, by omega⟩, by omega, by omega⟩, ?_⟩
    rw [show a + 16 + y - (a + 16) = y by omega]
    have hyl : ((s.drop (a + 16)).take y).length = y := by rw [List.length_take, List.length_drop]; omega
    refine rcrc_ _ (by omega) ?_
    try simp only [go_sem, ↓reduceIte, Nat.reduceEqDiff, Nat.reduceAdd, Nat.reduceLT, List.length_cons, List.length_nil, List.getElem?_cons_zero, List.getElem?_cons_succ, Nat.mul_one, Bool.true_eq_false, Bool.false_eq_true, false_implies, true_implies, Bool.not_true, Bool.not_false, decide_true, decide_false, Int.reduceToNat, Int.cast_ofNat_Int, Int.reduceLT, Int.reduceLE, Int.reduceEq, Int.reduceNeg, eq_self, Option.isNone_some, Option.isNone_none, Bool.bne_false, Bool.bne_true, t0, t4, t6, t8, t9]
    refine ⟨fun hc => ?_, fun hc => ?_⟩
    · have hc : ¬ (crc ((s.drop (a + 16)).take y) : Int) = sum := by simpa using hc
      exact kn (bad (by rw [hsx, if_pos hc])) _ _ m1
    have hc : (crc ((s.drop (a + 16)).take y) : Int) = sum := by simpa using hc
    rw [if_neg (fun h => h hc)] at hsx
    unfold h45_6
    try simp only [go_sem, ↓reduceIte, Nat.reduceEqDiff, Nat.reduceAdd, Nat.reduceLT, List.length_cons, List.length_nil, List.getElem?_cons_zero, List.getElem?_cons_succ, Nat.mul_one, Bool.true_eq_false, Bool.false_eq_true, false_implies, true_implies, Bool.not_true, Bool.not_false, decide_true, decide_false, Int.reduceToNat, Int.cast_ofNat_Int, Int.reduceLT, Int.reduceLE, Int.reduceEq, Int.reduceNeg, eq_self, Option.isNone_some, Option.isNone_none, Bool.bne_false, Bool.bne_true, t0, t4, t6, t8, t9]
    refine bsl1 sl40 (cs := [str ((s.drop (a + 16)).take y)]) rfl rfl (by omega) ?_
    intro b2 w2 hb2 own2 _ m2 _
    refine append_ sl40 (hv.mod m2 fun _ _ h => h) own2.sl (by intro u hu; rw [List.mem_singleton.1 hu]; rfl) (by omega) (by unfold maxLen; omega) ?_
    intro v3 w3 own3 m3 hb3 _
    have m12 := m1.trans' m2
    try simp only [go_sem, ↓reduceIte, Nat.reduceEqDiff, Nat.reduceAdd, Nat.reduceLT, List.length_cons, List.length_nil, List.getElem?_cons_zero, List.getElem?_cons_succ, Nat.mul_one, Bool.true_eq_false, Bool.false_eq_true, false_implies, true_implies, Bool.not_true, Bool.not_false, decide_true, decide_false, Int.reduceToNat, Int.cast_ofNat_Int, Int.reduceLT, Int.reduceLE, Int.reduceEq, Int.reduceNeg, eq_self, Option.isNone_some, Option.isNone_none, Bool.bne_false, Bool.bne_true, t0, t4, t6, t8, t9, e16, e17]
    refine ⟨a + 16 + y, by omega, by omega, rfl, by omega, m12.trans m3 fun k hk hS => ?_, l ++ [(s.drop (a + 16)).take y], v3, rfl, by simp; omega, ?_, ?_, ?_⟩
    · have := hvn k hS; omega
    · rw [hsp, hsx, Option.map_map]; congr 1; funext m; simp
    · have : (l ++ [(s.drop (a + 16)).take y]).map str = l.map str ++ [str ((s.drop (a + 16)).take y)] := by simp
      rw [this, List.length_append]; exact own3
    · intro k hk
      rcases hb3 k hk with h' | h'
      · exact hvn k h'
      · have := m12.size; omega
  · have hio : a = x := by
      have : ¬ (a : Int) < x := by simpa using hge
      omega
    subst hio
    have hd : (s.take a).drop a = [] := List.eq_nil_of_length_eq_zero (by rw [List.length_drop, htl]; omega)
    have hsn : splitB ((s.take a).drop 16) = some l := by rw [hsp, hd, splitB]; simp
    rw [hsn] at hob
    simp only at hob
    obtain ⟨va, vc, rfl, -, -⟩ := hv.form
    unfold h45_7
    try simp only [go_sem, ↓reduceIte, Nat.reduceEqDiff, Nat.reduceAdd, Nat.reduceLT, List.length_cons, List.length_nil, List.getElem?_cons_zero, List.getElem?_cons_succ, Nat.mul_one, Bool.true_eq_false, Bool.false_eq_true, false_implies, true_implies, Bool.not_true, Bool.not_false, decide_true, decide_false, Int.reduceToNat, Int.cast_ofNat_Int, Int.reduceLT, Int.reduceLE, Int.reduceEq, Int.reduceNeg, eq_self, Option.isNone_some, Option.isNone_none, Bool.bne_false, Bool.bne_true, t6, t8]
    cases hl : decide ((l.length : Int) = val (s.drop 8)) with
    | true =>
      have hl' : (l.length : Int) = val (s.drop 8) := by simpa using hl
      rw [if_pos hl'] at hob
      exact ks _ hob _ _ m1 hv hvn
    | false =>
      have hl' : ¬ (l.length : Int) = val (s.drop 8) := by simpa using hl
      rw [if_neg hl'] at hob
      exact kn hob _ _ m1
end
end Go.Proofs.Y

/- RA: plain laws for the reference's disk: files out of the durable parts and what is pending. -/
namespace Go.Proofs.Y
open Go Go.HL

/-- the pending writes laid over a file -/
def putAll (s : Bytes) : List Pd → Nat → Bytes
  | [], _ => s
  | p :: q, f => putAll (if p.file = f then put s p.at_ p.bytes else s) q f
def Sync (d : Dk) : Prop := ∀ f, f < 12 → d.file f = putAll (d.last f) d.queue f

theorem putAll_app {f : Nat} : ∀ (q r : List Pd) (s : Bytes), putAll s (q ++ r) f = putAll (putAll s q f) r f
  | [], _, _ => rfl
  | p :: q, r, s => by simp only [List.cons_append, putAll, putAll_app q r]
theorem putAll_other {f : Nat} : ∀ (q : List Pd) (s : Bytes), (∀ p ∈ q, p.file ≠ f) → putAll s q f = s
  | [], _, _ => rfl
  | p :: q, s, h => by
    simp only [putAll]
    rw [if_neg (h p (by simp)), putAll_other q s fun p hp => h p (by simp [hp])]
theorem putAll_filter {f g : Nat} (h : g ≠ f) : ∀ (q : List Pd) (s : Bytes), putAll s (q.filter fun p => !decide (p.file = f)) g = putAll s q g
  | [], _ => rfl
  | p :: q, s => by
    by_cases hp : p.file = f
    · rw [List.filter_cons_of_neg (by simp [hp]), putAll_filter h q]
      simp only [putAll]
      rw [if_neg (by omega)]
    · rw [List.filter_cons_of_pos (by simp [hp])]
      simp only [putAll, putAll_filter h q]
theorem putAll_le {f : Nat} {N : Nat} : ∀ (q : List Pd) (s : Bytes), s.length ≤ N → (∀ p ∈ q, p.at_ + p.bytes.length ≤ N) → (putAll s q f).length ≤ N
  | [], _, hs, _ => hs
  | p :: q, s, hs, h => by
    simp only [putAll]
    refine putAll_le q _ ?_ fun p hp => h p (by simp [hp])
    split
    · rw [put_len]; have := h p (by simp); omega
    · exact hs

theorem put_at (s : Bytes) (o : Nat) (t : Bytes) (i : Nat) : (put s o t)[i]? = if o ≤ i ∧ i < o + t.length then t[i - o]? else if i < s.length then s[i]? else if i < o + t.length then some 0 else none := by
  unfold put lay
  have hlen : (s ++ List.replicate (max s.length (o + t.length) - s.length) (0 : UInt8)).length = max s.length (o + t.length) := by rw [List.length_append, List.length_replicate]; omega
  have hz : ∀ j, (s ++ List.replicate (max s.length (o + t.length) - s.length) (0 : UInt8))[j]? = if j < s.length then s[j]? else if j < o + t.length then some 0 else none := by
    intro j
    by_cases hj : j < s.length
    · rw [List.getElem?_append_left hj, if_pos hj]
    · rw [List.getElem?_append_right (by omega), if_neg hj, List.getElem?_replicate]
      by_cases h2 : j < o + t.length
      · rw [if_pos (by omega), if_pos h2]
      · rw [if_neg (by omega), if_neg h2]
  generalize s ++ List.replicate (max s.length (o + t.length) - s.length) (0 : UInt8) = z at hz hlen
  have hto : (z.take o).length = o := by rw [List.length_take]; omega
  rw [List.append_assoc]
  by_cases h1 : i < o
  · have hn : ¬ (o ≤ i ∧ i < o + t.length) := by omega
    rw [List.getElem?_append_left (by omega), List.getElem?_take_of_lt h1, hz, if_neg hn]
  · rw [List.getElem?_append_right (by omega), hto]
    by_cases h2 : i - o < t.length
    · rw [List.getElem?_append_left h2, if_pos (by omega)]
    · have hn : ¬ (o ≤ i ∧ i < o + t.length) := by omega
      rw [List.getElem?_append_right (by omega), List.getElem?_drop, show o + t.length + (i - o - t.length) = i by omega, hz, if_neg hn]

theorem put_put (s : Bytes) (a : Nat) (x y : Bytes) (hy : y ≠ []) : put (put s a x) (a + x.length) y = put s a (x ++ y) := by
  have hy' : 0 < y.length := List.length_pos_iff.2 hy
  apply List.ext_getElem?
  intro i
  simp only [put_at, put_len, List.length_append]
  repeat' split
  all_goals first
    | rfl
    | (exfalso; omega)
    | (rw [List.getElem?_append_right (by omega)]; congr 1; omega)
    | rw [List.getElem?_append_left (by omega)]

theorem putAll_pieces {f : Nat} : ∀ (n a : Nat) (t s : Bytes), t ≠ [] → t.length ≤ n → putAll s (pieces f n a t) f = put s a t
  | 0, _, t, _, h, hn => absurd (List.eq_nil_of_length_eq_zero (by omega)) h
  | n + 1, a, t, s, h, hn => by
    have h0 : 0 < t.length := List.length_pos_iff.2 h
    have hp := piece_pos (a := a) h0
    have hl := piece_le (n := t.length) (a := a)
    simp only [pieces, if_neg h, putAll, if_true]
    generalize piece t.length a = k at hp hl
    by_cases hd : t.drop k = []
    · have hk : k = t.length := by have := congrArg List.length hd; simp at this; omega
      rw [hd, pieces_none, hk, List.take_length]; rfl
    · rw [putAll_pieces n (a + k) (t.drop k) _ hd (by simp; omega)]
      have := put_put s a (t.take k) (t.drop k) hd
      rw [List.take_append_drop, List.length_take, Nat.min_eq_left hl] at this
      exact this

section
variable {d : Dk}
theorem Sync.writeD (h : Sync d) (ok : d.OK) (f a : Int) (s : Bytes) : Sync (d.writeD f a s) := by
  unfold Dk.writeD
  split
  · exact h
  · rename_i hc
    have hs : s ≠ [] := fun e => hc (.inr e)
    intro g hg
    have hb := h g hg
    show (d.files.set f.toNat _).getD g [] = putAll (d.last g) (d.queue ++ _) g
    rw [putAll_app, ← hb]
    by_cases hgf : g = f.toNat
    · subst hgf
      rw [putAll_pieces _ _ _ _ hs (Nat.le_refl _)]
      simp [ok.nf, hg]
    · rw [putAll_other _ _ fun p hp => by rw [pieces_file _ _ _ _ p hp]; exact fun e => hgf e.symm]
      simp [List.getElem?_set_ne (Ne.symm hgf), Dk.file]
theorem Sync.settle (h : Sync d) (ok : d.OK) {f : Nat} (hf : f < 12) (s : Bytes) : Sync (d.settle f s) := by
  intro g hg
  by_cases hgf : g = f
  · subst hgf
    have : (d.settle g s).file g = s := by simp [Dk.settle, Dk.file, ok.nf, hg]
    rw [this, putAll_other]
    · simp [Dk.settle, Dk.last, ok.nl, hg]
    · intro p hp
      have := (List.mem_filter.1 hp).2
      simpa using this
  · have e1 : (d.settle f s).file g = d.file g := by simp [Dk.settle, Dk.file, List.getElem?_set_ne (Ne.symm hgf)]
    have e2 : (d.settle f s).last g = d.last g := by simp [Dk.settle, Dk.last, List.getElem?_set_ne (Ne.symm hgf)]
    rw [e1, e2, h g hg]
    exact (putAll_filter hgf _ _).symm
theorem Sync.crash (h : Sync d) (ks : List Int) : Sync (d.crash ks) := by
  unfold Dk.crash
  split
  · exact h
  · intro g _; rfl
theorem Sync.tick (h : Sync d) : Sync d.tick := by unfold Dk.tick; split <;> exact h
theorem Sync.endW (h : Sync d) (e : Bool) : Sync (Dk.endW e d) := by unfold Dk.endW; split; exact h.crash _; exact h
theorem Sync.new : Sync Dk.new := by
  intro f hf
  rfl

/-- a file behind a crash, worked out alone -/
def survF (s : Bytes) : List Pd → List Int → Nat → Bytes
  | [], _, _ => s
  | p :: q, ks, f => survF (if p.file = f then (match kept ks[0]? p.bytes with | none => s | some b => put s p.at_ b) else s) q ks.tail f
theorem survF_eq {f : Nat} (hf : f < 12) : ∀ (q : List Pd) (lasts : List Bytes) (ks : List Int), lasts.length = 12 → (survs lasts q ks).getD f [] = survF (lasts.getD f []) q ks f
  | [], _, _, _ => rfl
  | p :: q, lasts, ks, hl => by
    simp only [survs, survF]
    rw [survF_eq hf q _ _ (by rw [surv_len]; exact hl)]
    congr 1
    unfold surv
    by_cases hp : p.file = f
    · subst hp
      rw [if_pos rfl]
      split <;> rename_i hk <;> simp only [hk]
      simp [hl, hf]
    · rw [if_neg hp]
      split
      · rfl
      · simp [List.getElem?_set_ne hp]
theorem survF_snoc {f : Nat} (p : Pd) : ∀ (q : List Pd) (s : Bytes) (ks : List Int), survF s (q ++ [p]) ks f = (if p.file = f then (match kept ks[q.length]? p.bytes with | none => survF s q ks f | some b => put (survF s q ks f) p.at_ b) else survF s q ks f)
  | [], s, ks => rfl
  | x :: q, s, ks => by
    simp only [List.cons_append, survF, survF_snoc p q, List.length_cons]
    cases ks <;> simp
theorem survF_le {f N : Nat} : ∀ (q : List Pd) (s : Bytes) (ks : List Int), s.length ≤ N → (∀ p ∈ q, p.at_ + p.bytes.length ≤ N) → (survF s q ks f).length ≤ N
  | [], _, _, hs, _ => hs
  | p :: q, s, ks, hs, h => by
    simp only [survF]
    refine survF_le q _ _ ?_ fun p hp => h p (by simp [hp])
    split
    · have := h p (by simp)
      split
      · exact hs
      · rename_i b hb
        have := kept_le hb
        rw [put_len]; omega
    · exact hs
end
end Go.Proofs.Y

/- JK: plain laws of the journal: what a file of rows is read as; the disk at rest. -/
namespace Go.Proofs.Y
open Go Go.HL

theorem val_form (r : Bytes) (hr : r.length ≤ 1000000000000) (t : Bytes) : val (formB r ++ t) = r.length := by
  unfold formB
  rw [List.append_assoc, List.append_assoc]
  exact val_num (by omega) (by omega) _
theorem val_form8 (r : Bytes) (t : Bytes) : val ((formB r ++ t).drop 8) = (crc r : Nat) := by
  have hc := crc_lt r
  unfold formB
  rw [List.append_assoc, List.append_assoc, List.drop_append_of_le_length (by rw [num_len]; exact Nat.le_refl _), List.drop_of_length_le (by rw [num_len]; exact Nat.le_refl _), List.nil_append]
  exact val_num (by omega) (by omega) _
theorem drop_form (r t : Bytes) : (formB r ++ t).drop 16 = r ++ t := by
  unfold formB
  have : (num r.length ++ num (crc r : Nat) ++ r ++ t) = (num r.length ++ num (crc r : Nat)) ++ (r ++ t) := by simp
  rw [this, List.drop_append_of_le_length (by simp [num_len]), List.drop_of_length_le (by simp [num_len]), List.nil_append]

theorem splitB_forms : ∀ l : List Bytes, (formsB l).length ≤ 1000000000000 → splitB (formsB l) = some l
  | [], _ => by rw [splitB]; simp [formsB]
  | r :: l, h => by
    have e : formsB (r :: l) = formB r ++ formsB l := rfl
    have hl := formB_len r
    have hlen : (formsB (r :: l)).length = 16 + r.length + (formsB l).length := by rw [e, List.length_append, hl]
    have ih := splitB_forms l (by omega)
    have hne : formB r ++ formsB l ≠ [] := by intro h; have := congrArg List.length h; simp [hl] at this
    rw [e, splitB, dif_neg hne, dif_neg (by rw [List.length_append, hl]; omega), val_form r (by omega), drop_form, val_form8, Int.toNat_natCast]
    have h1 : ¬ (((r.length : Nat) : Int) < 0 ∨ ((r ++ formsB l).length : Int) < ((r.length : Nat) : Int)) := by rw [List.length_append]; omega
    rw [if_neg h1, List.take_left, List.drop_left, if_neg (by simp), ih]
    rfl

/-- a file that is read as these rows, whose end is e -/
inductive Core : Bytes → List Bytes → Nat → Prop
  | nil : Core [] [] 16
  | zero (t : Bytes) : Core (List.replicate 16 0 ++ t) [] 16
  | full (rows : List Bytes) (t : Bytes) : Core (header (16 + (formsB rows).length : Nat) rows.length ++ formsB rows ++ t) rows (16 + (formsB rows).length)

theorem val_zero (t : Bytes) : val (List.replicate 16 0 ++ t) = 0 := by
  have h : ∀ i, i < 8 → valAt (List.replicate 16 (0 : UInt8) ++ t) i = 0 := by
    intro i hi
    unfold valAt
    rw [List.getElem?_append_left (by simp; omega), List.getElem?_replicate, if_pos (by omega)]; rfl
  have hw : wr 0 = 0 := by rw [wr, wrap_i64]; rfl
  have key : ∀ k, k ≤ 8 → valFrom (List.replicate 16 (0 : UInt8) ++ t) k = 0 := by
    intro k
    induction k with
    | zero => intro _; rfl
    | succ k ih =>
      intro hk
      show wr (valFrom _ k * 256 + valAt _ (7 - k)) = 0
      rw [ih (by omega), h (7 - k) (by omega)]; exact hw
  exact key 8 (Nat.le_refl _)
theorem Core.end_le {s : Bytes} {rows : List Bytes} {e : Nat} (h : Core s rows e) : s = [] ∨ e ≤ s.length := by
  cases h with
  | nil => exact .inl rfl
  | zero t => right; simp
  | full rows t => right; simp [header_len]
theorem Core.endE {s : Bytes} {rows : List Bytes} {e : Nat} (h : Core s rows e) : e = 16 + (formsB rows).length := by
  cases h with
  | nil => rfl
  | zero t => rfl
  | full rows t => rfl
theorem openB_core {s : Bytes} {rows : List Bytes} {e : Nat} (h : Core s rows e) (hs : s.length ≤ 1000000000) : openB s = some ⟨rows, rows.length, e⟩ := by
  cases h with
  | nil => rw [openB, if_pos (.inl (by simp))]; rfl
  | zero t => rw [openB, if_pos (.inr (val_zero t))]; rfl
  | full rows t =>
    have hh := header_len (16 + (formsB rows).length : Nat) rows.length
    have hfr := formsB_rows rows
    simp only [List.length_append, hh] at hs
    have hv : val (header (16 + (formsB rows).length : Nat) rows.length ++ formsB rows ++ t) = ((16 + (formsB rows).length : Nat) : Int) := by
      unfold header
      rw [List.append_assoc, List.append_assoc]
      exact val_num (by omega) (by omega) _
    have hv8 : val ((header (16 + (formsB rows).length : Nat) rows.length ++ formsB rows ++ t).drop 8) = (rows.length : Int) := by
      unfold header
      rw [List.append_assoc, List.append_assoc, List.drop_append_of_le_length (by rw [num_len]; exact Nat.le_refl _), List.drop_of_length_le (by rw [num_len]; exact Nat.le_refl _), List.nil_append]
      exact val_num (by omega) (by omega) _
    have hlen : (header (16 + (formsB rows).length : Nat) rows.length ++ formsB rows ++ t).length = 16 + (formsB rows).length + t.length := by simp only [List.length_append, hh]
    have ht : ((header (16 + (formsB rows).length : Nat) rows.length ++ formsB rows ++ t).take (16 + (formsB rows).length)).drop 16 = formsB rows := by
      rw [List.take_append_of_le_length (by rw [List.length_append, hh]; omega), List.take_of_length_le (by rw [List.length_append, hh]; omega), List.drop_append_of_le_length (by rw [hh]; omega), List.drop_of_length_le (by rw [hh]; omega), List.nil_append]
    rw [openB, if_neg (by rw [hlen, hv]; omega), hv, hlen, if_neg (by omega), Int.toNat_natCast, ht, splitB_forms rows (by omega), hv8]
    simp

theorem put_append (u t x : Bytes) {o : Nat} (h : u.length ≤ o) : put (u ++ t) o x = u ++ put t (o - u.length) x := by
  apply List.ext_getElem?
  intro i
  rw [put_at, List.length_append]
  by_cases hi : i < u.length
  · rw [List.getElem?_append_left hi, if_neg (by omega), if_pos (by omega), List.getElem?_append_left hi]
  · simp only [List.getElem?_append_right (show u.length ≤ i by omega)]
    rw [put_at]
    repeat' split
    all_goals first
      | rfl
      | (exfalso; omega)
      | (congr 1; omega)
theorem put_nil_at (o : Nat) (x : Bytes) (h : 16 ≤ o) : ∃ t, put [] o x = List.replicate 16 0 ++ t := by
  refine ⟨put [] (o - 16) x, ?_⟩
  apply List.ext_getElem?
  intro i
  rw [put_at]
  by_cases hi : i < 16
  · rw [List.getElem?_append_left (by simpa using hi), if_neg (by omega), if_neg (by simp), if_pos (by omega), List.getElem?_replicate, if_pos hi]
  · rw [List.getElem?_append_right (by simpa using hi), put_at]
    simp only [List.length_replicate, List.length_nil, Nat.not_lt_zero, if_false]
    repeat' split
    all_goals first
      | rfl
      | (exfalso; omega)
      | (congr 1; omega)

/-- what is written behind the end does not matter -/
theorem Core.put {s : Bytes} {rows : List Bytes} {e : Nat} (h : Core s rows e) {o : Nat} (ho : e ≤ o) (x : Bytes) : Core (put s o x) rows e := by
  cases h with
  | nil => obtain ⟨t, ht⟩ := put_nil_at o x ho; rw [ht]; exact .zero t
  | zero t => rw [put_append _ _ _ (by simpa using ho)]; exact .zero _
  | full rows t => rw [put_append _ _ _ (by simp only [List.length_append, header_len]; exact ho)]; exact .full rows _
/-- a header over rows that are there -/
theorem Core.head {u t : Bytes} {rows : List Bytes} (hu : u.length = 16) : Core (Y.put (u ++ formsB rows ++ t) 0 (header (16 + (formsB rows).length : Nat) rows.length)) rows (16 + (formsB rows).length) := by
  have hh := header_len (16 + (formsB rows).length : Nat) rows.length
  have e : Y.put (u ++ formsB rows ++ t) 0 (header (16 + (formsB rows).length : Nat) rows.length) = header (16 + (formsB rows).length : Nat) rows.length ++ formsB rows ++ t := by
    apply List.ext_getElem?
    intro i
    rw [put_at, hh, List.append_assoc, List.append_assoc]
    by_cases hi : i < 16
    · rw [if_pos (by omega), List.getElem?_append_left (by rw [hh]; exact hi)]; rfl
    · have h1 : u.length ≤ i := by omega
      have h2 : (header (16 + (formsB rows).length : Nat) rows.length).length ≤ i := by omega
      rw [if_neg (by omega)]
      simp only [List.getElem?_append_right h1, List.getElem?_append_right h2, hh, hu, List.length_append]
      split
      · rfl
      · symm; exact List.getElem?_eq_none (by rw [List.length_append]; omega)
  rw [e]; exact .full rows t
end Go.Proofs.Y

/- JL: the journal's small example. -/
namespace Go.Proofs.Y
open Go Go.HL Go.Proofs

theorem JS.opened {w0 w w' : World} {p q g : Nat} {d : Dk} {L : Lg} {F : FP} {S : Nat → Prop} (dr : DR w p d F) (f0 : ∀ k, F.R k → w0.heap.size ≤ k) (m : Mod none' w0 w) (lg : LG w' q p g L S) (hS : ∀ k, S k → w.heap.size ≤ k) (m' : Mod none' w w') : JS w0 w' p q g d L F S := by
  have hs := m.size
  exact ⟨dr.mod0 m', lg, fun k hk hS' => by have := dr.lt k hk; have := hS k hS'; omega, f0, fun k hk => by have := hS k hk; omega, m.trans' m'⟩

/-! ### the example's states -/
def L0 : Lg := ⟨[], 0, 16⟩
def dA : Dk := addD' Dk.new L0 2 [[97]]
def LA : Lg := L0.add [[97]]
def dB : Dk := (flushJ dA LA 2).1
def LB : Lg := ⟨[[97]], 1, 33⟩
def dC : Dk := addD' dB LB 2 [[98]]
def dD : Dk := (dC.crash []).start
def dE : Dk := (rewr dD 2 [[98], [99]]).1
def dF : Dk := (dE.crash []).start
theorem xA : addE Dk.new L0 2 [[97]] = 0 := by decide +kernel
theorem xB : (flushJ dA LA 2).2.2 = 0 := by decide +kernel
theorem xB2 : (flushJ dA LA 2).2.1 = LB := by
  have h1 : ¬ LA.sure = LA.rows.length := by decide
  have h2 : (flush3 dA LA 2).2 = 0 := by decide +kernel
  rw [flushJ, if_neg h1]
  simp only [h2, if_true]
  rfl
theorem xC : addE dB LB 2 [[98]] = 0 := by decide +kernel
theorem xD0 : dD.may [2] = 0 := by decide +kernel
theorem xD : dD.file 2 = header (16 + (formsB [[97]]).length : Nat) ([[97]] : List Bytes).length ++ formsB [[97]] ++ [] := by decide +kernel
theorem xDo : openB (dD.file 2) = some ⟨[[97]], 1, 33⟩ := by
  have h := openB_core (Core.full [[97]] []) (by decide +kernel)
  rw [← xD] at h
  have e : 16 + (formsB [[97]]).length = 33 := by decide +kernel
  rw [h, e]; rfl
theorem xE : (rewr dD 2 [[98], [99]]).2 = 0 := by decide +kernel
theorem xF0 : dF.may [2] = 0 := by decide +kernel
theorem xF : dF.file 2 = header (16 + (formsB [[98], [99]]).length : Nat) ([[98], [99]] : List Bytes).length ++ formsB [[98], [99]] ++ [] := by decide +kernel
theorem xFo : openB (dF.file 2) = some ⟨[[98], [99]], 2, 50⟩ := by
  have h := openB_core (Core.full [[98], [99]] []) (by decide +kernel)
  rw [← xF] at h
  have e : 16 + (formsB [[98], [99]]).length = 50 := by decide +kernel
  rw [h, e]; rfl

theorem St.reopen {w0 w w' : World} {p q f : Nat} {d d' : Dk} {L : Lg} {F : FP} {S : Nat → Prop} (h : JS w0 w p q f d L F S) (st : St F w w' p d') : ∃ F', DR w' p d' F' ∧ (∀ k, F'.R k → w0.heap.size ≤ k) ∧ Mod none' w0 w' := ⟨_, (h.disk st).dr, (h.disk st).f0, (h.disk st).m⟩

section
variable {w : World} {next : Value → World → Prop} {QP : List PanicEntry → World → Prop}

theorem jsmall5 {w1 : World} {p q : Nat} {L : Lg} {σ : Env} (h : JT w w1 p q 2 dF ⟨[[98], [99]], 2, 50⟩) (s2 : σ 4 = .int .i64 0) (s5 : σ 5 = .int .i64 0) (s6 : σ 6 = .int .i64 0) (s7 : σ 7 = .int .i64 1) (s10 : σ 10 = .bool true) (s11 : σ 11 = .int .i64 0) (s12 : σ 12 = ptr q) (k : ∀ w', Mod none' w w' → next (.bool true) w') :
    hw Try.prog noPanic h43_5 (endV [.tmp 0] next) σ w1 := by
  obtain ⟨F, S, h⟩ := h
  unfold h43_5
  try simp only [go_sem, ↓reduceIte, Nat.reduceEqDiff, Nat.reduceAdd, Nat.reduceLT, List.length_cons, List.length_nil, List.getElem?_cons_zero, List.getElem?_cons_succ, Nat.mul_one, Bool.true_eq_false, Bool.false_eq_true, false_implies, true_implies, Bool.not_true, Bool.not_false, decide_true, decide_false, Int.reduceToNat, Int.cast_ofNat_Int, Int.reduceLT, Int.reduceLE, Int.reduceEq, Int.reduceNeg, eq_self, Option.isNone_some, Option.isNone_none, Bool.bne_false, Bool.bne_true, s2, s5, s6, s7, s10, s11, s12]
  refine jall_ h.lg ?_
  intro v2 w2 own2 m2 _
  try simp only [go_sem, ↓reduceIte, Nat.reduceEqDiff, Nat.reduceAdd, Nat.reduceLT, List.length_cons, List.length_nil, List.getElem?_cons_zero, List.getElem?_cons_succ, Nat.mul_one, Bool.true_eq_false, Bool.false_eq_true, false_implies, true_implies, Bool.not_true, Bool.not_false, decide_true, decide_false, Int.reduceToNat, Int.cast_ofNat_Int, Int.reduceLT, Int.reduceLE, Int.reduceEq, Int.reduceNeg, eq_self, Option.isNone_some, Option.isNone_none, Bool.bne_false, Bool.bne_true, s2, s5, s6, s7, s10, s11, s12]
  refine bsl2 sl40 rfl rfl ?_
  intro b3 w3 _ own3 _ m3 _
  refine same__ (a := [[98], [99]]) (b := [[98], [99]]) (n := 2) (m := 2) (own2.sl.mod m3 fun _ _ h => h) own3.sl (by omega) ?_
  intro w4 m4
  have h4 := ((h.mod0 m2).mod0 m3).mod0 m4
  try simp only [go_sem, ↓reduceIte, Nat.reduceEqDiff, Nat.reduceAdd, Nat.reduceLT, List.length_cons, List.length_nil, List.getElem?_cons_zero, List.getElem?_cons_succ, Nat.mul_one, Bool.true_eq_false, Bool.false_eq_true, false_implies, true_implies, Bool.not_true, Bool.not_false, decide_true, decide_false, Int.reduceToNat, Int.cast_ofNat_Int, Int.reduceLT, Int.reduceLE, Int.reduceEq, Int.reduceNeg, eq_self, Option.isNone_some, Option.isNone_none, Bool.bne_false, Bool.bne_true, s2, s5, s6, s7, s10, s11, s12]
  refine jsure_ h4.lg ?_
  try simp only [go_sem, ↓reduceIte, Nat.reduceEqDiff, Nat.reduceAdd, Nat.reduceLT, List.length_cons, List.length_nil, List.getElem?_cons_zero, List.getElem?_cons_succ, Nat.mul_one, Bool.true_eq_false, Bool.false_eq_true, false_implies, true_implies, Bool.not_true, Bool.not_false, decide_true, decide_false, Int.reduceToNat, Int.cast_ofNat_Int, Int.reduceLT, Int.reduceLE, Int.reduceEq, Int.reduceNeg, eq_self, Option.isNone_some, Option.isNone_none, Bool.bne_false, Bool.bne_true]
  exact k _ h4.m

theorem jsmall3 {w1 : World} {p q : Nat} {σ : Env} (h : JT w w1 p q 2 dD ⟨[[97]], 1, 33⟩) (s1 : σ 1 = ptr p) (s2 : σ 4 = .int .i64 0) (s5 : σ 5 = .int .i64 0) (s6 : σ 6 = .int .i64 0) (s7 : σ 7 = .int .i64 1) (s8 : σ 8 = ptr q) (k : ∀ w', Mod none' w w' → next (.bool true) w') :
    hw Try.prog noPanic h43_3 (endV [.tmp 0] next) σ w1 := by
  obtain ⟨F, S, h⟩ := h
  unfold h43_3
  try simp only [go_sem, ↓reduceIte, Nat.reduceEqDiff, Nat.reduceAdd, Nat.reduceLT, List.length_cons, List.length_nil, List.getElem?_cons_zero, List.getElem?_cons_succ, Nat.mul_one, Bool.true_eq_false, Bool.false_eq_true, false_implies, true_implies, Bool.not_true, Bool.not_false, decide_true, decide_false, Int.reduceToNat, Int.cast_ofNat_Int, Int.reduceLT, Int.reduceLE, Int.reduceEq, Int.reduceNeg, eq_self, Option.isNone_some, Option.isNone_none, Bool.bne_false, Bool.bne_true, s1, s2, s5, s6, s7, s8]
  refine jall_ h.lg ?_
  intro v2 w2 own2 m2 _
  try simp only [go_sem, ↓reduceIte, Nat.reduceEqDiff, Nat.reduceAdd, Nat.reduceLT, List.length_cons, List.length_nil, List.getElem?_cons_zero, List.getElem?_cons_succ, Nat.mul_one, Bool.true_eq_false, Bool.false_eq_true, false_implies, true_implies, Bool.not_true, Bool.not_false, decide_true, decide_false, Int.reduceToNat, Int.cast_ofNat_Int, Int.reduceLT, Int.reduceLE, Int.reduceEq, Int.reduceNeg, eq_self, Option.isNone_some, Option.isNone_none, Bool.bne_false, Bool.bne_true, s1, s2, s5, s6, s7, s8]
  refine bsl1 sl40 (cs := [str [97]]) rfl rfl (by omega) ?_
  intro b3 w3 _ own3 _ m3 _
  refine same__ (a := [[97]]) (b := [[97]]) (n := 1) (m := 1) (own2.sl.mod m3 fun _ _ h => h) own3.sl (by omega) ?_
  intro w4 m4
  have h4 := ((h.mod0 m2).mod0 m3).mod0 m4
  try simp only [go_sem, ↓reduceIte, Nat.reduceEqDiff, Nat.reduceAdd, Nat.reduceLT, List.length_cons, List.length_nil, List.getElem?_cons_zero, List.getElem?_cons_succ, Nat.mul_one, Bool.true_eq_false, Bool.false_eq_true, false_implies, true_implies, Bool.not_true, Bool.not_false, decide_true, decide_false, Int.reduceToNat, Int.cast_ofNat_Int, Int.reduceLT, Int.reduceLE, Int.reduceEq, Int.reduceNeg, eq_self, Option.isNone_some, Option.isNone_none, Bool.bne_false, Bool.bne_true, s1, s2, s5, s6, s7, s8]
  refine bsl2 sl40 rfl rfl ?_
  intro b5 w5 hb5 own5 _ m5 hs5
  have h5 := h4.mod0 m5
  refine rewrite_ h5 (by omega) (rows := [[98], [99]]) (n := 2) own5.sl (fun _ k hk => ?_) (by decide +kernel) ?_
  · have e : b5 = k := by simpa [Value.ownBlock] using hk
    refine ⟨fun hR => ?_, by omega⟩
    have := h4.dr.lt k hR; omega
  intro w6 ⟨F6, S6, h6⟩
  have e6 : (rewriteJ dD ⟨[[97]], 1, 33⟩ 2 [[98], [99]]).2.2 = 0 := xE
  rw [e6]
  have h6 : JS w w6 p q 2 dE _ F6 S6 := h6
  unfold h43_4
  try simp only [go_sem, ↓reduceIte, Nat.reduceEqDiff, Nat.reduceAdd, Nat.reduceLT, List.length_cons, List.length_nil, List.getElem?_cons_zero, List.getElem?_cons_succ, Nat.mul_one, Bool.true_eq_false, Bool.false_eq_true, false_implies, true_implies, Bool.not_true, Bool.not_false, decide_true, decide_false, Int.reduceToNat, Int.cast_ofNat_Int, Int.reduceLT, Int.reduceLE, Int.reduceEq, Int.reduceNeg, eq_self, Option.isNone_some, Option.isNone_none, Bool.bne_false, Bool.bne_true, s1, s2, s5, s6, s7, s8]
  refine crash_ h6.dr sl_nil (fun h => by omega) (by decide +kernel) ?_
  intro w7 st7
  have h7 := h6.disk st7
  try simp only [go_sem, ↓reduceIte, Nat.reduceEqDiff, Nat.reduceAdd, Nat.reduceLT, List.length_cons, List.length_nil, List.getElem?_cons_zero, List.getElem?_cons_succ, Nat.mul_one, Bool.true_eq_false, Bool.false_eq_true, false_implies, true_implies, Bool.not_true, Bool.not_false, decide_true, decide_false, Int.reduceToNat, Int.cast_ofNat_Int, Int.reduceLT, Int.reduceLE, Int.reduceEq, Int.reduceNeg, eq_self, Option.isNone_some, Option.isNone_none, Bool.bne_false, Bool.bne_true, s1, s2, s5, s6, s7, s8]
  refine start_ h7.dr ?_
  intro w8 dr8 m8 _
  have h8 := h7.disk (.of dr8 m8)
  have h8d : DR w8 p dF _ := h8.dr
  try simp only [go_sem, ↓reduceIte, Nat.reduceEqDiff, Nat.reduceAdd, Nat.reduceLT, List.length_cons, List.length_nil, List.getElem?_cons_zero, List.getElem?_cons_succ, Nat.mul_one, Bool.true_eq_false, Bool.false_eq_true, false_implies, true_implies, Bool.not_true, Bool.not_false, decide_true, decide_false, Int.reduceToNat, Int.cast_ofNat_Int, Int.reduceLT, Int.reduceLE, Int.reduceEq, Int.reduceNeg, eq_self, Option.isNone_some, Option.isNone_none, Bool.bne_false, Bool.bne_true, s1, s2, s5, s6, s7, s8]
  have hE0 : openE dF 2 = 0 := by
    have := xF0
    simp only [openE, this, show ((2 : Int)).toNat = 2 from rfl, xFo]; decide
  refine open_ h8d (fun w9 m9 hne => absurd hE0 hne) ?_
  intro g L hg _ _ hL q9 w9 S9 lg9 hS9 m9
  obtain rfl : g = 2 := by omega
  rw [xFo] at hL
  obtain rfl := Option.some.inj hL
  have h9 := JS.opened h8d h8.f0 h8.m lg9 hS9 m9
  try simp only [go_sem, ↓reduceIte, Nat.reduceEqDiff, Nat.reduceAdd, Nat.reduceLT, List.length_cons, List.length_nil, List.getElem?_cons_zero, List.getElem?_cons_succ, Nat.mul_one, Bool.true_eq_false, Bool.false_eq_true, false_implies, true_implies, Bool.not_true, Bool.not_false, decide_true, decide_false, Int.reduceToNat, Int.cast_ofNat_Int, Int.reduceLT, Int.reduceLE, Int.reduceEq, Int.reduceNeg, eq_self, Option.isNone_some, Option.isNone_none, Bool.bne_false, Bool.bne_true, s1, s2, s5, s6, s7, s8]
  exact jsmall5 (L := L0) h9.jt s2 s5 s6 s7 rfl rfl rfl k

theorem jsmall_ (k : ∀ w', Mod none' w w' → next (.bool true) w') : callvK Try.prog (.func (.func 43) #[] #[]) [] w next QP := by
  refine r43 rfl ?_
  unfold h43
  try simp only [go_sem, ↓reduceIte, Nat.reduceEqDiff, Nat.reduceAdd, Nat.reduceLT, List.length_cons, List.length_nil, List.getElem?_cons_zero, List.getElem?_cons_succ, Nat.mul_one, Bool.true_eq_false, Bool.false_eq_true, false_implies, true_implies, Bool.not_true, Bool.not_false, decide_true, decide_false, Int.reduceToNat, Int.cast_ofNat_Int, Int.reduceLT, Int.reduceLE, Int.reduceEq, Int.reduceNeg, eq_self, Option.isNone_some, Option.isNone_none, Bool.bne_false, Bool.bne_true]
  refine new_ ?_
  intro p w1 hp st1
  try simp only [go_sem, ↓reduceIte, Nat.reduceEqDiff, Nat.reduceAdd, Nat.reduceLT, List.length_cons, List.length_nil, List.getElem?_cons_zero, List.getElem?_cons_succ, Nat.mul_one, Bool.true_eq_false, Bool.false_eq_true, false_implies, true_implies, Bool.not_true, Bool.not_false, decide_true, decide_false, Int.reduceToNat, Int.cast_ofNat_Int, Int.reduceLT, Int.reduceLE, Int.reduceEq, Int.reduceNeg, eq_self, Option.isNone_some, Option.isNone_none, Bool.bne_false, Bool.bne_true]
  have hE0 : openE Dk.new 2 = 0 := by decide +kernel
  have hO : openB (Dk.new.file 2) = some L0 := openB_core (s := []) .nil (by decide)
  refine open_ st1.dr (fun w9 m9 hne => absurd hE0 hne) ?_
  intro g L hg _ _ hL q w2 S2 lg2 hS2 m2
  obtain rfl : g = 2 := by omega
  rw [hO] at hL
  obtain rfl := Option.some.inj hL
  have h2 : JS w w2 p q 2 Dk.new L0 st1.foot S2 := JS.opened st1.dr (fun k hk => by rcases st1.footR k hk with h | h; exact h.elim; exact h) (st1.mod.mono fun _ _ h => h) lg2 hS2 m2
  try simp only [go_sem, ↓reduceIte, Nat.reduceEqDiff, Nat.reduceAdd, Nat.reduceLT, List.length_cons, List.length_nil, List.getElem?_cons_zero, List.getElem?_cons_succ, Nat.mul_one, Bool.true_eq_false, Bool.false_eq_true, false_implies, true_implies, Bool.not_true, Bool.not_false, decide_true, decide_false, Int.reduceToNat, Int.cast_ofNat_Int, Int.reduceLT, Int.reduceLE, Int.reduceEq, Int.reduceNeg, eq_self, Option.isNone_some, Option.isNone_none, Bool.bne_false, Bool.bne_true]
  unfold h43_1
  try simp only [go_sem, ↓reduceIte, Nat.reduceEqDiff, Nat.reduceAdd, Nat.reduceLT, List.length_cons, List.length_nil, List.getElem?_cons_zero, List.getElem?_cons_succ, Nat.mul_one, Bool.true_eq_false, Bool.false_eq_true, false_implies, true_implies, Bool.not_true, Bool.not_false, decide_true, decide_false, Int.reduceToNat, Int.cast_ofNat_Int, Int.reduceLT, Int.reduceLE, Int.reduceEq, Int.reduceNeg, eq_self, Option.isNone_some, Option.isNone_none, Bool.bne_false, Bool.bne_true]
  refine append1_ h2 (by decide +kernel) ?_
  intro w3 jt3
  rw [if_pos xA] at jt3
  rw [xA]
  obtain ⟨F3, S3, h3⟩ := jt3
  have h3 : JS w w3 p q 2 dA LA F3 S3 := h3
  try simp only [go_sem, ↓reduceIte, Nat.reduceEqDiff, Nat.reduceAdd, Nat.reduceLT, List.length_cons, List.length_nil, List.getElem?_cons_zero, List.getElem?_cons_succ, Nat.mul_one, Bool.true_eq_false, Bool.false_eq_true, false_implies, true_implies, Bool.not_true, Bool.not_false, decide_true, decide_false, Int.reduceToNat, Int.cast_ofNat_Int, Int.reduceLT, Int.reduceLE, Int.reduceEq, Int.reduceNeg, eq_self, Option.isNone_some, Option.isNone_none, Bool.bne_false, Bool.bne_true]
  refine flushJ_ h3 (by decide +kernel) ?_
  intro w4 jt4
  rw [xB2] at jt4
  rw [xB]
  obtain ⟨F4, S4, h4⟩ := jt4
  have h4 : JS w w4 p q 2 dB LB F4 S4 := h4
  try simp only [go_sem, ↓reduceIte, Nat.reduceEqDiff, Nat.reduceAdd, Nat.reduceLT, List.length_cons, List.length_nil, List.getElem?_cons_zero, List.getElem?_cons_succ, Nat.mul_one, Bool.true_eq_false, Bool.false_eq_true, false_implies, true_implies, Bool.not_true, Bool.not_false, decide_true, decide_false, Int.reduceToNat, Int.cast_ofNat_Int, Int.reduceLT, Int.reduceLE, Int.reduceEq, Int.reduceNeg, eq_self, Option.isNone_some, Option.isNone_none, Bool.bne_false, Bool.bne_true]
  refine append1_ h4 (by decide +kernel) ?_
  intro w5 jt5
  rw [if_pos xC] at jt5
  rw [xC]
  obtain ⟨F5, S5, h5⟩ := jt5
  have h5 : JS w w5 p q 2 dC (LB.add [[98]]) F5 S5 := h5
  try simp only [go_sem, ↓reduceIte, Nat.reduceEqDiff, Nat.reduceAdd, Nat.reduceLT, List.length_cons, List.length_nil, List.getElem?_cons_zero, List.getElem?_cons_succ, Nat.mul_one, Bool.true_eq_false, Bool.false_eq_true, false_implies, true_implies, Bool.not_true, Bool.not_false, decide_true, decide_false, Int.reduceToNat, Int.cast_ofNat_Int, Int.reduceLT, Int.reduceLE, Int.reduceEq, Int.reduceNeg, eq_self, Option.isNone_some, Option.isNone_none, Bool.bne_false, Bool.bne_true]
  refine jsure_ h5.lg ?_
  have e1 : (LB.add [[98]]).sure = 1 := rfl
  rw [e1]
  unfold h43_2
  try simp only [go_sem, ↓reduceIte, Nat.reduceEqDiff, Nat.reduceAdd, Nat.reduceLT, List.length_cons, List.length_nil, List.getElem?_cons_zero, List.getElem?_cons_succ, Nat.mul_one, Bool.true_eq_false, Bool.false_eq_true, false_implies, true_implies, Bool.not_true, Bool.not_false, decide_true, decide_false, Int.reduceToNat, Int.cast_ofNat_Int, Int.reduceLT, Int.reduceLE, Int.reduceEq, Int.reduceNeg, eq_self, Option.isNone_some, Option.isNone_none, Bool.bne_false, Bool.bne_true]
  refine crash_ h5.dr sl_nil (fun h => by omega) (by decide +kernel) ?_
  intro w7 st7
  have h7 := h5.disk st7
  try simp only [go_sem, ↓reduceIte, Nat.reduceEqDiff, Nat.reduceAdd, Nat.reduceLT, List.length_cons, List.length_nil, List.getElem?_cons_zero, List.getElem?_cons_succ, Nat.mul_one, Bool.true_eq_false, Bool.false_eq_true, false_implies, true_implies, Bool.not_true, Bool.not_false, decide_true, decide_false, Int.reduceToNat, Int.cast_ofNat_Int, Int.reduceLT, Int.reduceLE, Int.reduceEq, Int.reduceNeg, eq_self, Option.isNone_some, Option.isNone_none, Bool.bne_false, Bool.bne_true]
  refine start_ h7.dr ?_
  intro w8 dr8 m8 _
  have h8 := h7.disk (.of dr8 m8)
  have h8d : DR w8 p dD _ := h8.dr
  try simp only [go_sem, ↓reduceIte, Nat.reduceEqDiff, Nat.reduceAdd, Nat.reduceLT, List.length_cons, List.length_nil, List.getElem?_cons_zero, List.getElem?_cons_succ, Nat.mul_one, Bool.true_eq_false, Bool.false_eq_true, false_implies, true_implies, Bool.not_true, Bool.not_false, decide_true, decide_false, Int.reduceToNat, Int.cast_ofNat_Int, Int.reduceLT, Int.reduceLE, Int.reduceEq, Int.reduceNeg, eq_self, Option.isNone_some, Option.isNone_none, Bool.bne_false, Bool.bne_true]
  have hE1 : openE dD 2 = 0 := by
    have := xD0
    simp only [openE, this, show ((2 : Int)).toNat = 2 from rfl, xDo]; decide
  refine open_ h8d (fun w9 m9 hne => absurd hE1 hne) ?_
  intro g L hg _ _ hL q9 w9 S9 lg9 hS9 m9
  obtain rfl : g = 2 := by omega
  rw [xDo] at hL
  obtain rfl := Option.some.inj hL
  have h9 := JS.opened h8d h8.f0 h8.m lg9 hS9 m9
  try simp only [go_sem, ↓reduceIte, Nat.reduceEqDiff, Nat.reduceAdd, Nat.reduceLT, List.length_cons, List.length_nil, List.getElem?_cons_zero, List.getElem?_cons_succ, Nat.mul_one, Bool.true_eq_false, Bool.false_eq_true, false_implies, true_implies, Bool.not_true, Bool.not_false, decide_true, decide_false, Int.reduceToNat, Int.cast_ofNat_Int, Int.reduceLT, Int.reduceLE, Int.reduceEq, Int.reduceNeg, eq_self, Option.isNone_some, Option.isNone_none, Bool.bne_false, Bool.bne_true]
  exact jsmall3 h9.jt rfl rfl rfl rfl rfl rfl k
end
end Go.Proofs.Y

/- JM: JournalForms. -/
namespace Go.Proofs.Y
open Go Go.HL Go.Proofs

theorem val_app (s t : Bytes) (h : 8 ≤ s.length) : val (s ++ t) = val s := by
  have hv : ∀ i, i < 8 → valAt (s ++ t) i = valAt s i := by
    intro i hi
    unfold valAt
    rw [List.getElem?_append_left (by omega)]
  have key : ∀ k, k ≤ 8 → valFrom (s ++ t) k = valFrom s k := by
    intro k
    induction k with
    | zero => intro _; rfl
    | succ k ih =>
      intro hk
      show wr (valFrom _ k * 256 + valAt _ (7 - k)) = wr (valFrom _ k * 256 + valAt _ (7 - k))
      rw [ih (by omega), hv (7 - k) (by omega)]
  exact key 8 (Nat.le_refl _)
theorem openB_more {s : Bytes} {L : Lg} (h : openB s = some L) (h16 : 16 ≤ s.length) (t : Bytes) : openB (s ++ t) = some L := by
  have e1 : val (s ++ t) = val s := val_app s t (by omega)
  have e2 : val ((s ++ t).drop 8) = val (s.drop 8) := by rw [List.drop_append_of_le_length (by omega)]; exact val_app _ _ (by rw [List.length_drop]; omega)
  rw [openB] at h ⊢
  rw [e1, e2]
  by_cases h0 : val s = 0
  · rw [if_pos (.inr h0)] at h ⊢; exact h
  · rw [if_neg (by omega)] at h
    rw [if_neg (by rw [List.length_append]; omega)]
    by_cases hb : val s < 16 ∨ (s.length : Int) < val s
    · rw [if_pos hb] at h; cases h
    · rw [if_neg hb] at h
      rw [if_neg (by rw [List.length_append]; omega), List.take_append_of_le_length (by omega)]
      exact h

/-! ### the disk at rest -/
theorem idle_writeR {d : Dk} (ha : d.armed = 0) {f a : Int} {s : Bytes} (hm : d.may [f] = 0) (h0 : 0 ≤ a) (hfit : a + s.length ≤ 16777216) : d.writeR f a s = 0 := by
  rw [Dk.writeR_idle ha]
  unfold Dk.writeE
  rw [hm, if_neg (by simp), if_neg (by omega), if_neg (by omega)]
theorem idle_write {d : Dk} (ha : d.armed = 0) {f a : Int} {s : Bytes} (hm : d.may [f] = 0) (h0 : 0 ≤ a) (hfit : a + s.length ≤ 16777216) : d.write f a s = if s = [] then d else { d with files := d.files.set f.toNat (put (d.file f.toNat) a.toNat s), queue := d.queue ++ pieces f.toNat s.length a.toNat s } := by
  have h := idle_writeR ha hm h0 hfit
  rw [Dk.writeR_idle ha] at h
  rw [Dk.write_idle ha]
  unfold Dk.writeD
  by_cases hs : s = []
  · rw [if_pos (.inr hs), if_pos hs]
  · rw [if_neg (by simp [h, hs]), if_neg hs]
theorem idle_file {d : Dk} (ha : d.armed = 0) {f a : Nat} {s : Bytes} (hf : f < 12) (hn : d.files.length = 12) (hm : d.may [(f : Int)] = 0) (hfit : a + s.length ≤ 16777216) : (d.write f a s).file f = if s = [] then d.file f else put (d.file f) a s := by
  rw [idle_write ha hm (by omega) (by omega)]
  split
  · rfl
  · simp [Dk.file, hn, hf]
theorem idle_same {d : Dk} (ha : d.armed = 0) {f a : Int} {s : Bytes} (hm : d.may [f] = 0) (h0 : 0 ≤ a) (hfit : a + s.length ≤ 16777216) : (d.write f a s).armed = 0 ∧ (d.write f a s).down = d.down ∧ (d.write f a s).files.length = d.files.length := by
  rw [idle_write ha hm h0 hfit]
  split
  · exact ⟨ha, rfl, rfl⟩
  · exact ⟨ha, rfl, by simp⟩
theorem may_up {d : Dk} (h : d.down = false) {f : Nat} (hf : f < 12) : d.may [(f : Int)] = 0 := by
  have : isF (f : Int) = true := by simp [isF]; omega
  simp [Dk.may, h, this]

section
variable {w : World} {next : Value → World → Prop} {QP : List PanicEntry → World → Prop}

theorem forms2 {w1 : World} {p : Nat} {s m : Bytes} {d : Dk} {L : Lg} {vr : Value} {σ : Env} (hs : s.length ≤ 1000) (hm : m.length ≤ 1000) (h16 : 16 ≤ s.length) {F : FP} (dr : DR w1 p d F) (f0 : ∀ k, F.R k → w.heap.size ≤ k) (mw : Mod none' w w1)
    (ha : d.armed = 0) (hd : d.down = false) (hfs : d.file 1 = s) (hq : d.queue.length ≤ 1000) (hO : openB s = some L) (hv : Own w1 vr 9 1 L.rows.length (L.rows.map str)) (hvF : ∀ k, vr.ownBlock = some k → ¬ F.R k) (s0 : σ 0 = str s) (s1 : σ 1 = str m) (s5 : σ 5 = .bool true) (s6 : σ 6 = ptr p) (s9 : σ 9 = vr) (s11 : σ 11 = .bool true)
    (k : ∀ w', Mod none' w w' → next (.bool true) w') : hw Try.prog noPanic h10_5 (endV [.tmp 4] next) σ w1 := by
  have hm0 := may_up hd (f := 1) (by omega)
  have hm0 : d.may [(1 : Int)] = 0 := hm0
  have hr := idle_writeR ha hm0 (a := s.length) (s := m) (by omega) (by omega)
  have hfile : (d.write 1 s.length m).file 1 = s ++ m := by
    have := idle_file ha (f := 1) (a := s.length) (s := m) (by omega) dr.ok.nf hm0 (by omega)
    rw [show ((1 : Nat) : Int) = 1 from rfl, hfs] at this
    rw [this]
    split
    · rename_i h; simp [h]
    · have h2 := put_append s [] m (Nat.le_refl s.length)
      rw [List.append_nil, Nat.sub_self, put_nil] at h2
      exact h2
  have hsame := idle_same ha hm0 (a := s.length) (s := m) (by omega) (by omega)
  have hO2 := openB_more hO h16 m
  unfold h10_5
  try simp only [go_sem, ↓reduceIte, Nat.reduceEqDiff, Nat.reduceAdd, Nat.reduceLT, List.length_cons, List.length_nil, List.getElem?_cons_zero, List.getElem?_cons_succ, Nat.mul_one, Bool.true_eq_false, Bool.false_eq_true, false_implies, true_implies, Bool.not_true, Bool.not_false, decide_true, decide_false, Int.reduceToNat, Int.cast_ofNat_Int, Int.reduceLT, Int.reduceLE, Int.reduceEq, Int.reduceNeg, eq_self, Option.isNone_some, Option.isNone_none, Bool.bne_false, Bool.bne_true, s0, s1, s5, s6, s9, s11]
  refine write_ dr (by omega) (by omega) (by omega) ?_
  intro w2 st2
  rw [hr]
  have f2 : ∀ k, st2.foot.R k → w.heap.size ≤ k := fun k hk => by
    have := mw.size
    rcases st2.footR k hk with h | h
    · exact f0 k h
    · omega
  have m2 : Mod none' w w2 := mw.trans st2.mod fun k hk hW => by have := f0 k (dr.sub k hW); omega
  have hv2 := hv.mod st2.mod fun k hk hW => hvF k hk (dr.sub k hW)
  try simp only [go_sem, ↓reduceIte, Nat.reduceEqDiff, Nat.reduceAdd, Nat.reduceLT, List.length_cons, List.length_nil, List.getElem?_cons_zero, List.getElem?_cons_succ, Nat.mul_one, Bool.true_eq_false, Bool.false_eq_true, false_implies, true_implies, Bool.not_true, Bool.not_false, decide_true, decide_false, Int.reduceToNat, Int.cast_ofNat_Int, Int.reduceLT, Int.reduceLE, Int.reduceEq, Int.reduceNeg, eq_self, Option.isNone_some, Option.isNone_none, Bool.bne_false, Bool.bne_true, s0, s1, s5, s6, s9, s11]
  unfold h10_6
  try simp only [go_sem, ↓reduceIte, Nat.reduceEqDiff, Nat.reduceAdd, Nat.reduceLT, List.length_cons, List.length_nil, List.getElem?_cons_zero, List.getElem?_cons_succ, Nat.mul_one, Bool.true_eq_false, Bool.false_eq_true, false_implies, true_implies, Bool.not_true, Bool.not_false, decide_true, decide_false, Int.reduceToNat, Int.cast_ofNat_Int, Int.reduceLT, Int.reduceLE, Int.reduceEq, Int.reduceNeg, eq_self, Option.isNone_some, Option.isNone_none, Bool.bne_false, Bool.bne_true, s0, s1, s5, s6, s9, s11]
  have hm2 : (d.write 1 s.length m).may [(1 : Int)] = 0 := may_up (hsame.2.1.trans hd) (f := 1) (by omega)
  have hE : openE (d.write 1 s.length m) 1 = 0 := by
    have h1 : ¬ ((1 : Int) < 0 ∨ (6 : Int) < 1) := by decide
    have h2 : ¬ ((d.write 1 s.length m).may [(1 : Int)] ≠ 0) := fun h => h hm2
    simp only [openE, if_neg h1, if_neg h2, show ((1 : Int)).toNat = 1 from rfl, hfile, hO2]; rfl
  refine open_ st2.dr (fun w9 m9 hne => absurd hE hne) ?_
  intro g L' hg _ _ hL q9 w9 S9 lg9 hS9 m9
  obtain rfl : g = 1 := by omega
  rw [hfile, hO2] at hL
  obtain rfl := Option.some.inj hL
  try simp only [go_sem, ↓reduceIte, Nat.reduceEqDiff, Nat.reduceAdd, Nat.reduceLT, List.length_cons, List.length_nil, List.getElem?_cons_zero, List.getElem?_cons_succ, Nat.mul_one, Bool.true_eq_false, Bool.false_eq_true, false_implies, true_implies, Bool.not_true, Bool.not_false, decide_true, decide_false, Int.reduceToNat, Int.cast_ofNat_Int, Int.reduceLT, Int.reduceLE, Int.reduceEq, Int.reduceNeg, eq_self, Option.isNone_some, Option.isNone_none, Bool.bne_false, Bool.bne_true, s0, s1, s5, s6, s9, s11]
  unfold h10_7
  try simp only [go_sem, ↓reduceIte, Nat.reduceEqDiff, Nat.reduceAdd, Nat.reduceLT, List.length_cons, List.length_nil, List.getElem?_cons_zero, List.getElem?_cons_succ, Nat.mul_one, Bool.true_eq_false, Bool.false_eq_true, false_implies, true_implies, Bool.not_true, Bool.not_false, decide_true, decide_false, Int.reduceToNat, Int.cast_ofNat_Int, Int.reduceLT, Int.reduceLE, Int.reduceEq, Int.reduceNeg, eq_self, Option.isNone_some, Option.isNone_none, Bool.bne_false, Bool.bne_true, s0, s1, s5, s6, s9, s11]
  refine jall_ lg9 ?_
  intro v10 w10 own10 m10 _
  have hrb := lg9.rb
  have hbd := lg9.bd
  try simp only [go_sem, ↓reduceIte, Nat.reduceEqDiff, Nat.reduceAdd, Nat.reduceLT, List.length_cons, List.length_nil, List.getElem?_cons_zero, List.getElem?_cons_succ, Nat.mul_one, Bool.true_eq_false, Bool.false_eq_true, false_implies, true_implies, Bool.not_true, Bool.not_false, decide_true, decide_false, Int.reduceToNat, Int.cast_ofNat_Int, Int.reduceLT, Int.reduceLE, Int.reduceEq, Int.reduceNeg, eq_self, Option.isNone_some, Option.isNone_none, Bool.bne_false, Bool.bne_true, s0, s1, s5, s6, s9, s11]
  refine same__ own10.sl ((hv2.mod m9 fun _ _ h => h).mod m10 fun _ _ h => h).sl (by omega) ?_
  intro w11 m11
  try simp only [go_sem, ↓reduceIte, Nat.reduceEqDiff, Nat.reduceAdd, Nat.reduceLT, List.length_cons, List.length_nil, List.getElem?_cons_zero, List.getElem?_cons_succ, Nat.mul_one, Bool.true_eq_false, Bool.false_eq_true, false_implies, true_implies, Bool.not_true, Bool.not_false, decide_true, decide_false, Int.reduceToNat, Int.cast_ofNat_Int, Int.reduceLT, Int.reduceLE, Int.reduceEq, Int.reduceNeg, eq_self, Option.isNone_some, Option.isNone_none, Bool.bne_false, Bool.bne_true, s0, s1, s5, s6, s9, s11]
  exact k _ (((m2.trans' m9).trans' m10).trans' m11)

theorem jforms_ {s m : Bytes} (k : ∀ w', Mod none' w w' → next (.bool true) w') : callK Try.prog 10 [str s, str m] w next QP := by
  refine q10 rfl ?_
  unfold h10
  try simp only [go_sem, ↓reduceIte, Nat.reduceEqDiff, Nat.reduceAdd, Nat.reduceLT, List.length_cons, List.length_nil, List.getElem?_cons_zero, List.getElem?_cons_succ, Nat.mul_one, Bool.true_eq_false, Bool.false_eq_true, false_implies, true_implies, Bool.not_true, Bool.not_false, decide_true, decide_false, Int.reduceToNat, Int.cast_ofNat_Int, Int.reduceLT, Int.reduceLE, Int.reduceEq, Int.reduceNeg, eq_self, Option.isNone_some, Option.isNone_none, Bool.bne_false, Bool.bne_true]
  refine jsmall_ ?_
  intro w1 m1
  have ec : (if decide ((1000 : Int) < s.length) = true then true else decide ((1000 : Int) < m.length)) = decide (1000 < s.length ∨ 1000 < m.length) := by
    by_cases h : (1000 : Int) < s.length
    · simp only [h, decide_true, if_true]; symm; rw [decide_eq_true_eq]; omega
    · simp only [h, decide_false, Bool.false_eq_true, if_false]; congr 1; apply propext; omega
  try simp only [go_sem, ↓reduceIte, Nat.reduceEqDiff, Nat.reduceAdd, Nat.reduceLT, List.length_cons, List.length_nil, List.getElem?_cons_zero, List.getElem?_cons_succ, Nat.mul_one, Bool.true_eq_false, Bool.false_eq_true, false_implies, true_implies, Bool.not_true, Bool.not_false, decide_true, decide_false, Int.reduceToNat, Int.cast_ofNat_Int, Int.reduceLT, Int.reduceLE, Int.reduceEq, Int.reduceNeg, eq_self, Option.isNone_some, Option.isNone_none, Bool.bne_false, Bool.bne_true, ec]
  refine ⟨fun _ => k _ m1, fun hb => ?_⟩
  have hb : ¬ (1000 < s.length ∨ 1000 < m.length) := by simpa using hb
  unfold h10_1
  try simp only [go_sem, ↓reduceIte, Nat.reduceEqDiff, Nat.reduceAdd, Nat.reduceLT, List.length_cons, List.length_nil, List.getElem?_cons_zero, List.getElem?_cons_succ, Nat.mul_one, Bool.true_eq_false, Bool.false_eq_true, false_implies, true_implies, Bool.not_true, Bool.not_false, decide_true, decide_false, Int.reduceToNat, Int.cast_ofNat_Int, Int.reduceLT, Int.reduceLE, Int.reduceEq, Int.reduceNeg, eq_self, Option.isNone_some, Option.isNone_none, Bool.bne_false, Bool.bne_true]
  refine new_ ?_
  intro p w2 hp st0
  have st2 : St FP0 w w2 p Dk.new := st0.after m1
  try simp only [go_sem, ↓reduceIte, Nat.reduceEqDiff, Nat.reduceAdd, Nat.reduceLT, List.length_cons, List.length_nil, List.getElem?_cons_zero, List.getElem?_cons_succ, Nat.mul_one, Bool.true_eq_false, Bool.false_eq_true, false_implies, true_implies, Bool.not_true, Bool.not_false, decide_true, decide_false, Int.reduceToNat, Int.cast_ofNat_Int, Int.reduceLT, Int.reduceLE, Int.reduceEq, Int.reduceNeg, eq_self, Option.isNone_some, Option.isNone_none, Bool.bne_false, Bool.bne_true]
  have hr := idle_writeR (d := Dk.new) rfl (f := 1) (a := 0) (s := s) rfl (by omega) (by omega)
  have hfile : (Dk.new.write 1 0 s).file 1 = s := by
    have := idle_file (d := Dk.new) rfl (f := 1) (a := 0) (s := s) (by omega) rfl rfl (by omega)
    rw [show ((1 : Nat) : Int) = 1 from rfl, show ((0 : Nat) : Int) = 0 from rfl] at this
    rw [this]
    split
    · rename_i h; rw [h]; rfl
    · exact put_nil s
  have hsame := idle_same (d := Dk.new) rfl (f := 1) (a := 0) (s := s) rfl (by omega) (by omega)
  have hqn := write_queue Dk.new 1 0 s
  have hq0 : Dk.new.queue.length = 0 := rfl
  refine write_ st2.dr (by omega) (by omega) (by omega) ?_
  intro w3 st3
  have st3 := st2.trans st3
  rw [hr]
  try simp only [go_sem, ↓reduceIte, Nat.reduceEqDiff, Nat.reduceAdd, Nat.reduceLT, List.length_cons, List.length_nil, List.getElem?_cons_zero, List.getElem?_cons_succ, Nat.mul_one, Bool.true_eq_false, Bool.false_eq_true, false_implies, true_implies, Bool.not_true, Bool.not_false, decide_true, decide_false, Int.reduceToNat, Int.cast_ofNat_Int, Int.reduceLT, Int.reduceLE, Int.reduceEq, Int.reduceNeg, eq_self, Option.isNone_some, Option.isNone_none, Bool.bne_false, Bool.bne_true]
  have hm3 : (Dk.new.write 1 0 s).may [(1 : Int)] = 0 := may_up hsame.2.1 (f := 1) (by omega)
  generalize Dk.new.write 1 0 s = d at *
  have hE : openE d 1 = if (openB s).isNone = true then 2 else 0 := by
    have h1 : ¬ ((1 : Int) < 0 ∨ (6 : Int) < 1) := by decide
    have h2 : ¬ (d.may [(1 : Int)] ≠ 0) := fun h => h hm3
    simp only [openE, if_neg h1, if_neg h2, show ((1 : Int)).toNat = 1 from rfl, hfile]
  unfold h10_2
  try simp only [go_sem, ↓reduceIte, Nat.reduceEqDiff, Nat.reduceAdd, Nat.reduceLT, List.length_cons, List.length_nil, List.getElem?_cons_zero, List.getElem?_cons_succ, Nat.mul_one, Bool.true_eq_false, Bool.false_eq_true, false_implies, true_implies, Bool.not_true, Bool.not_false, decide_true, decide_false, Int.reduceToNat, Int.cast_ofNat_Int, Int.reduceLT, Int.reduceLE, Int.reduceEq, Int.reduceNeg, eq_self, Option.isNone_some, Option.isNone_none, Bool.bne_false, Bool.bne_true]
  refine open_ st3.dr (fun w4 m4 hne => ?_) (fun g L hg _ _ hL q4 w4 S4 lg4 hS4 m4 => ?_)
  · cases hO : openB s with
    | some L => rw [hE, hO] at hne; exact absurd rfl hne
    | none =>
      rw [hE, hO]
      try simp only [go_sem, ↓reduceIte, Nat.reduceEqDiff, Nat.reduceAdd, Nat.reduceLT, List.length_cons, List.length_nil, List.getElem?_cons_zero, List.getElem?_cons_succ, Nat.mul_one, Bool.true_eq_false, Bool.false_eq_true, false_implies, true_implies, Bool.not_true, Bool.not_false, decide_true, decide_false, Int.reduceToNat, Int.cast_ofNat_Int, Int.reduceLT, Int.reduceLE, Int.reduceEq, Int.reduceNeg, eq_self, Option.isNone_some, Option.isNone_none, Bool.bne_false, Bool.bne_true]
      refine rrows_ s (by omega) (fun _ w5 v5 m5 => ?_) (fun L hL => by rw [hO] at hL; cases hL)
      have m25 := (st3.mod.trans' (m4.mono fun _ _ h => h.elim)).trans' (m5.mono fun _ _ h => h.elim)
      try simp only [go_sem, ↓reduceIte, Nat.reduceEqDiff, Nat.reduceAdd, Nat.reduceLT, List.length_cons, List.length_nil, List.getElem?_cons_zero, List.getElem?_cons_succ, Nat.mul_one, Bool.true_eq_false, Bool.false_eq_true, false_implies, true_implies, Bool.not_true, Bool.not_false, decide_true, decide_false, Int.reduceToNat, Int.cast_ofNat_Int, Int.reduceLT, Int.reduceLE, Int.reduceEq, Int.reduceNeg, eq_self, Option.isNone_some, Option.isNone_none, Bool.bne_false, Bool.bne_true, beq_self_eq_true, Bool.true_beq, Bool.false_beq]
      unfold h10_3
      try simp only [go_sem, ↓reduceIte, Nat.reduceEqDiff, Nat.reduceAdd, Nat.reduceLT, List.length_cons, List.length_nil, List.getElem?_cons_zero, List.getElem?_cons_succ, Nat.mul_one, Bool.true_eq_false, Bool.false_eq_true, false_implies, true_implies, Bool.not_true, Bool.not_false, decide_true, decide_false, Int.reduceToNat, Int.cast_ofNat_Int, Int.reduceLT, Int.reduceLE, Int.reduceEq, Int.reduceNeg, eq_self, Option.isNone_some, Option.isNone_none, Bool.bne_false, Bool.bne_true]
      exact k _ (m25.mono fun _ _ h => h)
  · obtain rfl : g = 1 := by omega
    rw [hfile] at hL
    have hvF : ∀ k, st3.foot.R k → w.heap.size ≤ k := fun k hk => by
      rcases st3.footR k hk with h | h
      · exact h.elim
      · exact h
    have mw : Mod none' w w3 := st3.mod.mono fun _ _ h => h
    try simp only [go_sem, ↓reduceIte, Nat.reduceEqDiff, Nat.reduceAdd, Nat.reduceLT, List.length_cons, List.length_nil, List.getElem?_cons_zero, List.getElem?_cons_succ, Nat.mul_one, Bool.true_eq_false, Bool.false_eq_true, false_implies, true_implies, Bool.not_true, Bool.not_false, decide_true, decide_false, Int.reduceToNat, Int.cast_ofNat_Int, Int.reduceLT, Int.reduceLE, Int.reduceEq, Int.reduceNeg, eq_self, Option.isNone_some, Option.isNone_none, Bool.bne_false, Bool.bne_true]
    refine rrows_ s (by omega) (fun hn => by rw [hL] at hn; cases hn) (fun L' hL' v5 w5 m5 own5 hn5 => ?_)
    rw [hL] at hL'
    obtain rfl := Option.some.inj hL'
    have lg5 := lg4.mod0 m5
    try simp only [go_sem, ↓reduceIte, Nat.reduceEqDiff, Nat.reduceAdd, Nat.reduceLT, List.length_cons, List.length_nil, List.getElem?_cons_zero, List.getElem?_cons_succ, Nat.mul_one, Bool.true_eq_false, Bool.false_eq_true, false_implies, true_implies, Bool.not_true, Bool.not_false, decide_true, decide_false, Int.reduceToNat, Int.cast_ofNat_Int, Int.reduceLT, Int.reduceLE, Int.reduceEq, Int.reduceNeg, eq_self, Option.isNone_some, Option.isNone_none, Bool.bne_false, Bool.bne_true, beq_self_eq_true, Bool.true_beq, Bool.false_beq]
    unfold h10_3
    try simp only [go_sem, ↓reduceIte, Nat.reduceEqDiff, Nat.reduceAdd, Nat.reduceLT, List.length_cons, List.length_nil, List.getElem?_cons_zero, List.getElem?_cons_succ, Nat.mul_one, Bool.true_eq_false, Bool.false_eq_true, false_implies, true_implies, Bool.not_true, Bool.not_false, decide_true, decide_false, Int.reduceToNat, Int.cast_ofNat_Int, Int.reduceLT, Int.reduceLE, Int.reduceEq, Int.reduceNeg, eq_self, Option.isNone_some, Option.isNone_none, Bool.bne_false, Bool.bne_true]
    unfold h10_4
    try simp only [go_sem, ↓reduceIte, Nat.reduceEqDiff, Nat.reduceAdd, Nat.reduceLT, List.length_cons, List.length_nil, List.getElem?_cons_zero, List.getElem?_cons_succ, Nat.mul_one, Bool.true_eq_false, Bool.false_eq_true, false_implies, true_implies, Bool.not_true, Bool.not_false, decide_true, decide_false, Int.reduceToNat, Int.cast_ofNat_Int, Int.reduceLT, Int.reduceLE, Int.reduceEq, Int.reduceNeg, eq_self, Option.isNone_some, Option.isNone_none, Bool.bne_false, Bool.bne_true]
    refine jall_ lg5 ?_
    intro v6 w6 own6 m6 _
    have hrb := lg4.rb
    have hbd := lg4.bd
    try simp only [go_sem, ↓reduceIte, Nat.reduceEqDiff, Nat.reduceAdd, Nat.reduceLT, List.length_cons, List.length_nil, List.getElem?_cons_zero, List.getElem?_cons_succ, Nat.mul_one, Bool.true_eq_false, Bool.false_eq_true, false_implies, true_implies, Bool.not_true, Bool.not_false, decide_true, decide_false, Int.reduceToNat, Int.cast_ofNat_Int, Int.reduceLT, Int.reduceLE, Int.reduceEq, Int.reduceNeg, eq_self, Option.isNone_some, Option.isNone_none, Bool.bne_false, Bool.bne_true]
    refine same__ own6.sl (own5.mod m6 fun _ _ h => h).sl (by omega) ?_
    intro w7 m7
    have m37 := ((m4.trans' m5).trans' m6).trans' m7
    try simp only [go_sem, ↓reduceIte, Nat.reduceEqDiff, Nat.reduceAdd, Nat.reduceLT, List.length_cons, List.length_nil, List.getElem?_cons_zero, List.getElem?_cons_succ, Nat.mul_one, Bool.true_eq_false, Bool.false_eq_true, false_implies, true_implies, Bool.not_true, Bool.not_false, decide_true, decide_false, Int.reduceToNat, Int.cast_ofNat_Int, Int.reduceLT, Int.reduceLE, Int.reduceEq, Int.reduceNeg, eq_self, Option.isNone_some, Option.isNone_none, Bool.bne_false, Bool.bne_true, decide_true]
    refine ⟨fun h16 => ?_, fun h16 => ?_⟩
    · exact k _ (mw.trans' m37)
    · have h16 : 16 ≤ s.length := by
        have : ¬ (s.length : Int) < 16 := by simpa using h16
        omega
      refine forms2 (by omega) (by omega) h16 (st3.dr.mod0 m37) hvF (mw.trans' m37) hsame.1 hsame.2.1 hfile (by omega) hL ((own5.mod m6 fun _ _ h => h).mod m7 fun _ _ h => h) (fun k hk hR => ?_) rfl rfl rfl rfl rfl rfl k
      have := hn5 k hk
      have := st3.dr.lt k hR
      have := m4.size
      omega
end
end Go.Proofs.Y
