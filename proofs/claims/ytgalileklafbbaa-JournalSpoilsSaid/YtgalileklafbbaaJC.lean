/- JC: the walks of the journal's codec. -/
import Derived.Test.YtgalileklafbbaaDI
import Derived.Test.YtgalileklafbbaaYJ
import Derived.Test.YtgalileklafbbaaHLH
set_option linter.unusedSimpArgs false
set_option linter.unusedVariables false
set_option maxRecDepth 100000
namespace Go.Proofs.Y
open Go Go.HL Go.Proofs

section
variable {w : World} {next : Value → World → Prop} {QP : List PanicEntry → World → Prop}

theorem shr1_32 {a : Nat} (ha : a < 4294967296) : ((a : Int).fdiv (2 ^ min 1 32)) = ((a / 2 : Nat) : Int) := by
  have : (2 : Int) ^ (min 1 32) = 2 := by decide
  rw [this, Int.fdiv_eq_ediv_of_nonneg _ (by decide)]; rfl

theorem crc_ (s : List UInt8) (hs : s.length ≤ 1000000000000) (k : next (.int .i64 (crc s : Nat)) w) : callvK Try.prog (.func (.func 106) #[] #[]) [str s] w next QP := by
  refine r106 rfl ?_
  unfold h106
  try simp only [go_sem, ↓reduceIte, Nat.reduceEqDiff, Nat.reduceAdd, Nat.reduceLT, List.length_cons, List.length_nil, List.getElem?_cons_zero, List.getElem?_cons_succ, Nat.mul_one, Bool.true_eq_false, Bool.false_eq_true, false_implies, true_implies, Bool.not_true, Bool.not_false, decide_true, decide_false, Int.reduceToNat, Int.cast_ofNat_Int, Int.reduceLT, Int.reduceLE, Int.reduceEq, Int.reduceNeg, eq_self, Option.isNone_some, Option.isNone_none, Bool.bne_false, Bool.bne_true]
  refine loopN s.length (fun i τ w' => w' = w ∧ τ 0 = str s ∧ τ 3 = .int .u32 (crcFold 4294967295 (s.take i) : Nat) ∧ τ 7 = .int .i64 s.length ∧ τ 8 = .int .i64 i) ⟨0, by omega, rfl, rfl, rfl, rfl, rfl⟩ ?_
  rintro i τ w1 hi ⟨rfl, t0, t3, t7, t8⟩
  unfold h106_1
  try simp only [go_sem, ↓reduceIte, Nat.reduceEqDiff, Nat.reduceAdd, Nat.reduceLT, List.length_cons, List.length_nil, List.getElem?_cons_zero, List.getElem?_cons_succ, Nat.mul_one, Bool.true_eq_false, Bool.false_eq_true, false_implies, true_implies, Bool.not_true, Bool.not_false, decide_true, decide_false, Int.reduceToNat, Int.cast_ofNat_Int, Int.reduceLT, Int.reduceLE, Int.reduceEq, Int.reduceNeg, eq_self, Option.isNone_some, Option.isNone_none, Bool.bne_false, Bool.bne_true, t0, t3, t7, t8]
  refine ⟨fun hlt => ?_, fun hge => ?_⟩
  · have hil : i < s.length := by
      have : (i : Int) < s.length := by simpa using hlt
      omega
    have hx := crcFold_lt (s.take i) 4294967295 (by decide)
    have hb := (s[i]).toNat_lt
    have hxb := xor_byte hx s[i]
    have hw1 : IntKind.u32.wrap ((s[i]).toNat : Int) = ((s[i]).toNat : Int) := by rw [wrap_u32]; omega
    unfold h106_2
    try simp only [go_sem, ↓reduceIte, Nat.reduceEqDiff, Nat.reduceAdd, Nat.reduceLT, List.length_cons, List.length_nil, List.getElem?_cons_zero, List.getElem?_cons_succ, Nat.mul_one, Bool.true_eq_false, Bool.false_eq_true, false_implies, true_implies, Bool.not_true, Bool.not_false, decide_true, decide_false, Int.reduceToNat, Int.cast_ofNat_Int, Int.reduceLT, Int.reduceLE, Int.reduceEq, Int.reduceNeg, eq_self, Option.isNone_some, Option.isNone_none, Bool.bne_false, Bool.bne_true, t0, t3, t7, t8]
    repeat refine ⟨⟨by omega, by omega⟩, ?_⟩
    have hidx : s[i]?.getD 0 = s[i] := by simp [hil]
    rw [hidx, hw1, xor32 hx (by omega)]
    try simp only [go_sem, ↓reduceIte, Nat.reduceEqDiff, Nat.reduceAdd, Nat.reduceLT, List.length_cons, List.length_nil, List.getElem?_cons_zero, List.getElem?_cons_succ, Nat.mul_one, Bool.true_eq_false, Bool.false_eq_true, false_implies, true_implies, Bool.not_true, Bool.not_false, decide_true, decide_false, Int.reduceToNat, Int.cast_ofNat_Int, Int.reduceLT, Int.reduceLE, Int.reduceEq, Int.reduceNeg, eq_self, Option.isNone_some, Option.isNone_none, Bool.bne_false, Bool.bne_true, t0, t3, t7, t8]
    refine loopN 8 (fun j τ w' => w' = w1 ∧ τ 0 = str s ∧ τ 3 = .int .u32 (crcIt j (crcFold 4294967295 (s.take i) ^^^ (s[i]).toNat) : Nat) ∧ τ 7 = .int .i64 s.length ∧ τ 8 = .int .i64 i ∧ τ 17 = .int .i64 j) ⟨0, by omega, rfl, t0, rfl, t7, t8, rfl⟩ ?_
    rintro j τ w2 hj ⟨rfl, t0, t3, t7, t8, t17⟩
    unfold h106_3
    try simp only [go_sem, ↓reduceIte, Nat.reduceEqDiff, Nat.reduceAdd, Nat.reduceLT, List.length_cons, List.length_nil, List.getElem?_cons_zero, List.getElem?_cons_succ, Nat.mul_one, Bool.true_eq_false, Bool.false_eq_true, false_implies, true_implies, Bool.not_true, Bool.not_false, decide_true, decide_false, Int.reduceToNat, Int.cast_ofNat_Int, Int.reduceLT, Int.reduceLE, Int.reduceEq, Int.reduceNeg, eq_self, Option.isNone_some, Option.isNone_none, Bool.bne_false, Bool.bne_true, t0, t3, t7, t8, t17]
    refine ⟨fun hlt8 => ?_, fun hge8 => ?_⟩
    · have hj8 : j < 8 := by
        have : (j : Int) < 8 := by simpa using hlt8
        omega
      have hy := crcIt_lt j _ hxb
      have hst := crcIt_succ j (crcFold 4294967295 (s.take i) ^^^ (s[i]).toNat)
      generalize hyd : crcIt j (crcFold 4294967295 (s.take i) ^^^ (s[i]).toNat) = y at *
      unfold h106_4
      try simp only [go_sem, ↓reduceIte, Nat.reduceEqDiff, Nat.reduceAdd, Nat.reduceLT, List.length_cons, List.length_nil, List.getElem?_cons_zero, List.getElem?_cons_succ, Nat.mul_one, Bool.true_eq_false, Bool.false_eq_true, false_implies, true_implies, Bool.not_true, Bool.not_false, decide_true, decide_false, Int.reduceToNat, Int.cast_ofNat_Int, Int.reduceLT, Int.reduceLE, Int.reduceEq, Int.reduceNeg, eq_self, Option.isNone_some, Option.isNone_none, Bool.bne_false, Bool.bne_true, t0, t3, t7, t8, t17, and1_32 hy, shr1_32 hy]
      refine ⟨fun ho => ?_, fun ho => ?_⟩
      · have ho : y % 2 = 1 := by
          have : ((y % 2 : Nat) : Int) = 1 := by simpa using ho
          omega
        have hs1 : crcStep y = (y / 2) ^^^ 3988292384 := by simp [crcStep, ho]
        have hx32 := xor32 (a := y / 2) (b := 3988292384) (by omega) (by omega)
        rw [show ((3988292384 : Nat) : Int) = 3988292384 from rfl] at hx32
        unfold h106_5
        try simp only [go_sem, ↓reduceIte, Nat.reduceEqDiff, Nat.reduceAdd, Nat.reduceLT, List.length_cons, List.length_nil, List.getElem?_cons_zero, List.getElem?_cons_succ, Nat.mul_one, Bool.true_eq_false, Bool.false_eq_true, false_implies, true_implies, Bool.not_true, Bool.not_false, decide_true, decide_false, Int.reduceToNat, Int.cast_ofNat_Int, Int.reduceLT, Int.reduceLE, Int.reduceEq, Int.reduceNeg, eq_self, Option.isNone_some, Option.isNone_none, Bool.bne_false, Bool.bne_true, t0, t3, t7, t8, t17, hx32]
        rw [w64 (by omega) (by omega)]
        exact ⟨j + 1, by omega, by omega, by rw [hst, hs1], rfl⟩
      · have ho : ¬ y % 2 = 1 := by
          have : ¬ ((y % 2 : Nat) : Int) = 1 := by simpa using ho
          omega
        have hs1 : crcStep y = y / 2 := by simp [crcStep, ho]
        unfold h106_5
        try simp only [go_sem, ↓reduceIte, Nat.reduceEqDiff, Nat.reduceAdd, Nat.reduceLT, List.length_cons, List.length_nil, List.getElem?_cons_zero, List.getElem?_cons_succ, Nat.mul_one, Bool.true_eq_false, Bool.false_eq_true, false_implies, true_implies, Bool.not_true, Bool.not_false, decide_true, decide_false, Int.reduceToNat, Int.cast_ofNat_Int, Int.reduceLT, Int.reduceLE, Int.reduceEq, Int.reduceNeg, eq_self, Option.isNone_some, Option.isNone_none, Bool.bne_false, Bool.bne_true, t0, t3, t7, t8, t17]
        rw [w64 (by omega) (by omega)]
        exact ⟨j + 1, by omega, by omega, by rw [hst, hs1], rfl⟩
    · have hj8 : j = 8 := by
        have : ¬ (j : Int) < 8 := by simpa using hge8
        omega
      subst hj8
      unfold h106_6
      try simp only [go_sem, ↓reduceIte, Nat.reduceEqDiff, Nat.reduceAdd, Nat.reduceLT, List.length_cons, List.length_nil, List.getElem?_cons_zero, List.getElem?_cons_succ, Nat.mul_one, Bool.true_eq_false, Bool.false_eq_true, false_implies, true_implies, Bool.not_true, Bool.not_false, decide_true, decide_false, Int.reduceToNat, Int.cast_ofNat_Int, Int.reduceLT, Int.reduceLE, Int.reduceEq, Int.reduceNeg, eq_self, Option.isNone_some, Option.isNone_none, Bool.bne_false, Bool.bne_true, t0, t3, t7, t8]
      rw [w64 (by omega) (by omega)]
      refine ⟨i + 1, by omega, by omega, ?_, rfl⟩
      rw [List.take_succ_eq_append_getElem hil]
      simp only [crcFold, List.foldl_append, List.foldl_cons, List.foldl_nil]
  · have hio : i = s.length := by
      have : ¬ (i : Int) < s.length := by simpa using hge
      omega
    subst hio
    rw [List.take_length] at t3
    have hl := crcFold_lt s 4294967295 (by decide)
    have hnot : v1 w1 .xor (.int .u32 (crcFold 4294967295 s : Nat)) = .int .u32 (crc s : Nat) := by
      have h1 : v1 w1 .xor (.int .u32 (crcFold 4294967295 s : Nat)) = .int .u32 (IntKind.u32.wrap (BitVec.ofInt 32 4294967295 ^^^ BitVec.ofInt 32 (crcFold 4294967295 s : Nat)).toNat) := rfl
      rw [h1]
      congr 1
      have h2 : (BitVec.ofInt 32 4294967295 ^^^ BitVec.ofInt 32 (crcFold 4294967295 s : Nat)).toNat = 4294967295 - crcFold 4294967295 s := by
        have h3 : BitVec.ofInt 32 4294967295 = BitVec.allOnes 32 := by decide
        rw [h3, BitVec.allOnes_xor, BitVec.toNat_not, bv_nat (show _ < 2 ^ 32 by omega)]
      rw [h2, wrap_u32]
      unfold crc; omega
    have hc := crc_lt s
    unfold h106_7
    try simp only [go_sem, ↓reduceIte, Nat.reduceEqDiff, Nat.reduceAdd, Nat.reduceLT, List.length_cons, List.length_nil, List.getElem?_cons_zero, List.getElem?_cons_succ, Nat.mul_one, Bool.true_eq_false, Bool.false_eq_true, false_implies, true_implies, Bool.not_true, Bool.not_false, decide_true, decide_false, Int.reduceToNat, Int.cast_ofNat_Int, Int.reduceLT, Int.reduceLE, Int.reduceEq, Int.reduceNeg, eq_self, Option.isNone_some, Option.isNone_none, Bool.bne_false, Bool.bne_true, t3, hnot]
    rw [w64 (by omega) (by omega)]
    exact ⟨trivial, k⟩

theorem shr_byte (n : Int) {i : Nat} (hi : i < 8) : IntKind.u8.wrap (n.fdiv (2 ^ (min (8 * i) 64))) = (byteOf n i).toNat := by
  rw [byteOf_nat, wrap_u8]
  have h1 : min (8 * i) 64 = 8 * i := by omega
  rw [h1, Int.fdiv_eq_ediv_of_nonneg _ (by exact Int.le_of_lt (Int.pow_pos (by decide))), Int.pow_mul]
  rfl

theorem number_ (n : Int) (k : ∀ w', Mod none' w w' → next (str (num n)) w') : callvK Try.prog (.func (.func 108) #[] #[]) [.int .i64 n] w next QP := by
  refine r108 rfl ?_
  unfold h108
  try simp only [go_sem, ↓reduceIte, Nat.reduceEqDiff, Nat.reduceAdd, Nat.reduceLT, List.length_cons, List.length_nil, List.getElem?_cons_zero, List.getElem?_cons_succ, Nat.mul_one, Bool.true_eq_false, Bool.false_eq_true, false_implies, true_implies, Bool.not_true, Bool.not_false, decide_true, decide_false, Int.reduceToNat, Int.cast_ofNat_Int, Int.reduceLT, Int.reduceLE, Int.reduceEq, Int.reduceNeg, eq_self, Option.isNone_some, Option.isNone_none, Bool.bne_false, Bool.bne_true]
  refine msl1 sl36 rfl 8 rfl (by omega) (by unfold maxLen; omega) ?_
  intro b w1 hb own1 blk1 m1 hs1
  try simp only [go_sem, ↓reduceIte, Nat.reduceEqDiff, Nat.reduceAdd, Nat.reduceLT, List.length_cons, List.length_nil, List.getElem?_cons_zero, List.getElem?_cons_succ, Nat.mul_one, Bool.true_eq_false, Bool.false_eq_true, false_implies, true_implies, Bool.not_true, Bool.not_false, decide_true, decide_false, Int.reduceToNat, Int.cast_ofNat_Int, Int.reduceLT, Int.reduceLE, Int.reduceEq, Int.reduceNeg, eq_self, Option.isNone_some, Option.isNone_none, Bool.bne_false, Bool.bne_true]
  refine loopN 8 (fun i τ w' => τ 0 = .int .i64 n ∧ τ 3 = .slice (some ⟨b, 0, none⟩) 8 8 ∧ τ 7 = .int .i64 8 ∧ τ 8 = .int .i64 i ∧ Mod none' w w' ∧ Blk w' b 5 (bys ((num n).take i ++ List.replicate (8 - i) 0))) ⟨0, by omega, rfl, rfl, rfl, rfl, m1, by simpa [bys] using blk1⟩ ?_
  rintro i τ w2 hi ⟨t0, t3, t7, t8, m2, blk2⟩
  unfold h108_1
  try simp only [go_sem, ↓reduceIte, Nat.reduceEqDiff, Nat.reduceAdd, Nat.reduceLT, List.length_cons, List.length_nil, List.getElem?_cons_zero, List.getElem?_cons_succ, Nat.mul_one, Bool.true_eq_false, Bool.false_eq_true, false_implies, true_implies, Bool.not_true, Bool.not_false, decide_true, decide_false, Int.reduceToNat, Int.cast_ofNat_Int, Int.reduceLT, Int.reduceLE, Int.reduceEq, Int.reduceNeg, eq_self, Option.isNone_some, Option.isNone_none, Bool.bne_false, Bool.bne_true, t0, t3, t7, t8]
  refine ⟨fun hlt => ?_, fun hge => ?_⟩
  · have hi8 : i < 8 := by
      have : (i : Int) < 8 := by simpa using hlt
      omega
    unfold h108_2
    try simp only [go_sem, ↓reduceIte, Nat.reduceEqDiff, Nat.reduceAdd, Nat.reduceLT, List.length_cons, List.length_nil, List.getElem?_cons_zero, List.getElem?_cons_succ, Nat.mul_one, Bool.true_eq_false, Bool.false_eq_true, false_implies, true_implies, Bool.not_true, Bool.not_false, decide_true, decide_false, Int.reduceToNat, Int.cast_ofNat_Int, Int.reduceLT, Int.reduceLE, Int.reduceEq, Int.reduceNeg, eq_self, Option.isNone_some, Option.isNone_none, Bool.bne_false, Bool.bne_true, t0, t3, t7, t8]
    have e1 : IntKind.i64.wrap (8 * (i : Int)) = ((8 * i : Nat) : Int) := by rw [w64 (by omega) (by omega)]; omega
    simp only [e1, Int.toNat_natCast, shr_byte n hi8]
    refine ⟨by omega, ⟨by omega, by omega⟩, ?_⟩
    have hl : (bys ((num n).take i ++ List.replicate (8 - i) 0)).length = 8 := by rw [bys_len, List.length_append, List.length_take, num_len, List.length_replicate]; omega
    refine store1 sz5 blk2 (by rw [hl]; omega) rfl ?_
    intro w3 blk3 m3 hs3
    unfold h108_3
    try simp only [go_sem, ↓reduceIte, Nat.reduceEqDiff, Nat.reduceAdd, Nat.reduceLT, List.length_cons, List.length_nil, List.getElem?_cons_zero, List.getElem?_cons_succ, Nat.mul_one, Bool.true_eq_false, Bool.false_eq_true, false_implies, true_implies, Bool.not_true, Bool.not_false, decide_true, decide_false, Int.reduceToNat, Int.cast_ofNat_Int, Int.reduceLT, Int.reduceLE, Int.reduceEq, Int.reduceNeg, eq_self, Option.isNone_some, Option.isNone_none, Bool.bne_false, Bool.bne_true, t0, t3, t7, t8]
    rw [w64 (by omega) (by omega)]
    refine ⟨i + 1, by omega, by omega, rfl, m2.trans m3 fun k hk (e : k = b) => by omega, ?_⟩
    have e2 : (num n).take (i + 1) = (num n).take i ++ [byteOf n i] := by
      rw [List.take_succ_eq_append_getElem (by rw [num_len]; exact hi8)]
      simp [num]
    have e3 : List.replicate (8 - i) (0 : UInt8) = 0 :: List.replicate (8 - (i + 1)) 0 := by
      rw [show 8 - i = (8 - (i + 1)) + 1 by omega, List.replicate_succ]
    have e4 : (bys ((num n).take i ++ List.replicate (8 - i) 0)).set i (.int .u8 (byteOf n i).toNat) = bys ((num n).take (i + 1) ++ List.replicate (8 - (i + 1)) 0) := by
      have hti : (bys ((num n).take i)).length = i := by rw [bys_len, List.length_take, num_len]; omega
      rw [e2, e3]
      simp only [bys, List.map_append, List.map_cons, List.map_nil] at hti ⊢
      rw [List.set_append_right _ _ (by omega), hti, Nat.sub_self, List.set_cons_zero]
      simp
    rw [← e4]; exact blk3
  · have hi8 : i = 8 := by
      have : ¬ (i : Int) < 8 := by simpa using hge
      omega
    subst hi8
    unfold h108_4
    try simp only [go_sem, ↓reduceIte, Nat.reduceEqDiff, Nat.reduceAdd, Nat.reduceLT, List.length_cons, List.length_nil, List.getElem?_cons_zero, List.getElem?_cons_succ, Nat.mul_one, Bool.true_eq_false, Bool.false_eq_true, false_implies, true_implies, Bool.not_true, Bool.not_false, decide_true, decide_false, Int.reduceToNat, Int.cast_ofNat_Int, Int.reduceLT, Int.reduceLE, Int.reduceEq, Int.reduceNeg, eq_self, Option.isNone_some, Option.isNone_none, Bool.bne_false, Bool.bne_true, t3]
    have e5 : (num n).take 8 ++ List.replicate (8 - 8) 0 = num n := by
      rw [List.take_of_length_le (by rw [num_len]; omega)]; simp
    rw [e5] at blk2
    refine b2s u36 u9 u5 (n := 8) (l := num n) ⟨by rw [bys_len, num_len], _, _, rfl, by omega, fun _ => ⟨b, 0, rfl, fun j hj => by rw [Nat.zero_add, blk2.cell]⟩⟩ ?_
    try simp only [go_sem, ↓reduceIte, Nat.reduceEqDiff, Nat.reduceAdd, Nat.reduceLT, List.length_cons, List.length_nil, List.getElem?_cons_zero, List.getElem?_cons_succ, Nat.mul_one, Bool.true_eq_false, Bool.false_eq_true, false_implies, true_implies, Bool.not_true, Bool.not_false, decide_true, decide_false, Int.reduceToNat, Int.cast_ofNat_Int, Int.reduceLT, Int.reduceLE, Int.reduceEq, Int.reduceNeg, eq_self, Option.isNone_some, Option.isNone_none, Bool.bne_false, Bool.bne_true]
    exact k _ m2

theorem value_ (s : List UInt8) (hs : 8 ≤ s.length) (k : next (.int .i64 (val s)) w) : callvK Try.prog (.func (.func 80) #[] #[]) [str s] w next QP := by
  refine r80 rfl ?_
  unfold h80
  try simp only [go_sem, ↓reduceIte, Nat.reduceEqDiff, Nat.reduceAdd, Nat.reduceLT, List.length_cons, List.length_nil, List.getElem?_cons_zero, List.getElem?_cons_succ, Nat.mul_one, Bool.true_eq_false, Bool.false_eq_true, false_implies, true_implies, Bool.not_true, Bool.not_false, decide_true, decide_false, Int.reduceToNat, Int.cast_ofNat_Int, Int.reduceLT, Int.reduceLE, Int.reduceEq, Int.reduceNeg, eq_self, Option.isNone_some, Option.isNone_none, Bool.bne_false, Bool.bne_true]
  refine loopN 8 (fun i τ w' => w' = w ∧ τ 0 = str s ∧ τ 3 = .int .i64 (valFrom s i) ∧ τ 4 = .int .i64 (7 - i)) ⟨0, by omega, rfl, rfl, rfl, rfl⟩ ?_
  rintro i τ w1 hi ⟨rfl, t0, t3, t4⟩
  unfold h80_1
  try simp only [go_sem, ↓reduceIte, Nat.reduceEqDiff, Nat.reduceAdd, Nat.reduceLT, List.length_cons, List.length_nil, List.getElem?_cons_zero, List.getElem?_cons_succ, Nat.mul_one, Bool.true_eq_false, Bool.false_eq_true, false_implies, true_implies, Bool.not_true, Bool.not_false, decide_true, decide_false, Int.reduceToNat, Int.cast_ofNat_Int, Int.reduceLT, Int.reduceLE, Int.reduceEq, Int.reduceNeg, eq_self, Option.isNone_some, Option.isNone_none, Bool.bne_false, Bool.bne_true, t0, t3, t4]
  refine ⟨fun hge => ?_, fun hlt => ?_⟩
  · have hi8 : i < 8 := by
      have : (0 : Int) ≤ 7 - i := by simpa using hge
      omega
    have e1 : (7 - (i : Int)) = ((7 - i : Nat) : Int) := by omega
    have hidx : s[7 - i]?.getD 0 = s[7 - i]'(by omega) := by rw [List.getElem?_eq_getElem (by omega)]; rfl
    have hb := (s[7 - i]'(by omega)).toNat_lt
    have hsh : (2 : Int) ^ (min 8 64) = 256 := by decide
    have hva : valAt s (7 - i) = (s[7 - i]'(by omega)).toNat := by simp only [valAt, hidx]
    unfold h80_2
    try simp only [go_sem, ↓reduceIte, Nat.reduceEqDiff, Nat.reduceAdd, Nat.reduceLT, List.length_cons, List.length_nil, List.getElem?_cons_zero, List.getElem?_cons_succ, Nat.mul_one, Bool.true_eq_false, Bool.false_eq_true, false_implies, true_implies, Bool.not_true, Bool.not_false, decide_true, decide_false, Int.reduceToNat, Int.cast_ofNat_Int, Int.reduceLT, Int.reduceLE, Int.reduceEq, Int.reduceNeg, eq_self, Option.isNone_some, Option.isNone_none, Bool.bne_false, Bool.bne_true, t0, t3, t4, e1, hidx, hsh]
    refine ⟨⟨by omega, by omega⟩, ?_⟩
    rw [w64 (x := ((s[7 - i]'(by omega)).toNat : Int)) (by omega) (by omega), or_byte _ _ (by omega)]
    have e9 : IntKind.i64.wrap (((7 - i : Nat) : Int) - 1) = 7 - ((i + 1 : Nat) : Int) := by rw [w64 (by omega) (by omega)]; omega
    unfold h80_3
    try simp only [go_sem, ↓reduceIte, Nat.reduceEqDiff, Nat.reduceAdd, Nat.reduceLT, List.length_cons, List.length_nil, List.getElem?_cons_zero, List.getElem?_cons_succ, Nat.mul_one, Bool.true_eq_false, Bool.false_eq_true, false_implies, true_implies, Bool.not_true, Bool.not_false, decide_true, decide_false, Int.reduceToNat, Int.cast_ofNat_Int, Int.reduceLT, Int.reduceLE, Int.reduceEq, Int.reduceNeg, eq_self, Option.isNone_some, Option.isNone_none, Bool.bne_false, Bool.bne_true, t0, t4, e1, e9]
    refine ⟨i + 1, by omega, by omega, ?_, rfl⟩
    show Value.int .i64 _ = Value.int .i64 (wr (valFrom s i * 256 + valAt s (7 - i)))
    rw [hva]; rfl
  · have hi8 : i = 8 := by
      have : ¬ (0 : Int) ≤ 7 - i := by simpa using hlt
      omega
    subst hi8
    unfold h80_4
    try simp only [go_sem, ↓reduceIte, Nat.reduceEqDiff, Nat.reduceAdd, Nat.reduceLT, List.length_cons, List.length_nil, List.getElem?_cons_zero, List.getElem?_cons_succ, Nat.mul_one, Bool.true_eq_false, Bool.false_eq_true, false_implies, true_implies, Bool.not_true, Bool.not_false, decide_true, decide_false, Int.reduceToNat, Int.cast_ofNat_Int, Int.reduceLT, Int.reduceLE, Int.reduceEq, Int.reduceNeg, eq_self, Option.isNone_some, Option.isNone_none, Bool.bne_false, Bool.bne_true, t3]
    exact k

def header (e m : Int) : List UInt8 := num e ++ num m
theorem header_len (e m : Int) : (header e m).length = 16 := by simp [header, num_len]
theorem header_ (e m : Int) (k : ∀ w', Mod none' w w' → next (str (header e m)) w') : callvK Try.prog (.func (.func 89) #[] #[]) [.int .i64 e, .int .i64 m] w next QP := by
  refine r89 rfl ?_
  unfold h89
  try simp only [go_sem, ↓reduceIte, Nat.reduceEqDiff, Nat.reduceAdd, Nat.reduceLT, List.length_cons, List.length_nil, List.getElem?_cons_zero, List.getElem?_cons_succ, Nat.mul_one, Bool.true_eq_false, Bool.false_eq_true, false_implies, true_implies, Bool.not_true, Bool.not_false, decide_true, decide_false, Int.reduceToNat, Int.cast_ofNat_Int, Int.reduceLT, Int.reduceLE, Int.reduceEq, Int.reduceNeg, eq_self, Option.isNone_some, Option.isNone_none, Bool.bne_false, Bool.bne_true]
  refine number_ e ?_
  intro w1 m1
  try simp only [go_sem, ↓reduceIte, Nat.reduceEqDiff, Nat.reduceAdd, Nat.reduceLT, List.length_cons, List.length_nil, List.getElem?_cons_zero, List.getElem?_cons_succ, Nat.mul_one, Bool.true_eq_false, Bool.false_eq_true, false_implies, true_implies, Bool.not_true, Bool.not_false, decide_true, decide_false, Int.reduceToNat, Int.cast_ofNat_Int, Int.reduceLT, Int.reduceLE, Int.reduceEq, Int.reduceNeg, eq_self, Option.isNone_some, Option.isNone_none, Bool.bne_false, Bool.bne_true]
  refine number_ m ?_
  intro w2 m2
  have h1 := num_len e
  have h2 := num_len m
  try simp only [go_sem, ↓reduceIte, Nat.reduceEqDiff, Nat.reduceAdd, Nat.reduceLT, List.length_cons, List.length_nil, List.getElem?_cons_zero, List.getElem?_cons_succ, Nat.mul_one, Bool.true_eq_false, Bool.false_eq_true, false_implies, true_implies, Bool.not_true, Bool.not_false, decide_true, decide_false, Int.reduceToNat, Int.cast_ofNat_Int, Int.reduceLT, Int.reduceLE, Int.reduceEq, Int.reduceNeg, eq_self, Option.isNone_some, Option.isNone_none, Bool.bne_false, Bool.bne_true]
  refine ⟨by omega, ?_⟩
  exact k _ (m1.trans' m2)

theorem sclone_ {v : Value} {l : List (List UInt8)} {n : Nat} (hl : Sl w v 1 n (l.map str)) (hn : n ≤ 1000000000000) (k : ∀ v' w', Own w' v' 9 1 n (l.map str) → Mod none' w w' → (∀ k, v'.ownBlock = some k → w.heap.size ≤ k) → next v' w') :
    callvK Try.prog (.func (.func 84) #[] #[]) [v] w next QP := by
  refine r84 rfl ?_
  obtain ⟨a, c, rfl, hc, hcell⟩ := hl.form
  unfold h84
  try simp only [go_sem, ↓reduceIte, Nat.reduceEqDiff, Nat.reduceAdd, Nat.reduceLT, List.length_cons, List.length_nil, List.getElem?_cons_zero, List.getElem?_cons_succ, Nat.mul_one, Bool.true_eq_false, Bool.false_eq_true, false_implies, true_implies, Bool.not_true, Bool.not_false, decide_true, decide_false, Int.reduceToNat, Int.cast_ofNat_Int, Int.reduceLT, Int.reduceLE, Int.reduceEq, Int.reduceNeg, eq_self, Option.isNone_some, Option.isNone_none, Bool.bne_false, Bool.bne_true]
  refine ⟨fun ha => ?_, fun ha => ?_⟩
  · have hn0 : n = 0 := by
      rcases Nat.eq_zero_or_pos n with h | h
      · exact h
      · obtain ⟨b, o, rfl, _⟩ := hcell h
        simp at ha
    subst hn0
    obtain rfl : l = [] := List.eq_nil_of_length_eq_zero (by have := hl.len; simpa using this)
    exact k _ _ (Own.nil _ _ _) (Mod.refl _ _) (fun k hk => by cases hk)
  · unfold h84_1
    try simp only [go_sem, ↓reduceIte, Nat.reduceEqDiff, Nat.reduceAdd, Nat.reduceLT, List.length_cons, List.length_nil, List.getElem?_cons_zero, List.getElem?_cons_succ, Nat.mul_one, Bool.true_eq_false, Bool.false_eq_true, false_implies, true_implies, Bool.not_true, Bool.not_false, decide_true, decide_false, Int.reduceToNat, Int.cast_ofNat_Int, Int.reduceLT, Int.reduceLE, Int.reduceEq, Int.reduceNeg, eq_self, Option.isNone_some, Option.isNone_none, Bool.bne_false, Bool.bne_true]
    refine bsl0 sl40 ?_
    intro b w1 hbb own1 m1 sz1
    try simp only [go_sem, ↓reduceIte, Nat.reduceEqDiff, Nat.reduceAdd, Nat.reduceLT, List.length_cons, List.length_nil, List.getElem?_cons_zero, List.getElem?_cons_succ, Nat.mul_one, Bool.true_eq_false, Bool.false_eq_true, false_implies, true_implies, Bool.not_true, Bool.not_false, decide_true, decide_false, Int.reduceToNat, Int.cast_ofNat_Int, Int.reduceLT, Int.reduceLE, Int.reduceEq, Int.reduceNeg, eq_self, Option.isNone_some, Option.isNone_none, Bool.bne_false, Bool.bne_true]
    refine append_ sl40 (n := 0) (m := n) own1 (hl.mod m1 fun k _ h => h) (by intro u hu; obtain ⟨x, -, rfl⟩ := List.mem_map.1 hu; rfl) (by omega) (by unfold maxLen; omega) ?_
    intro v' w2 own2 m2 hb2 _
    try simp only [go_sem, ↓reduceIte, Nat.reduceEqDiff, Nat.reduceAdd, Nat.reduceLT, List.length_cons, List.length_nil, List.getElem?_cons_zero, List.getElem?_cons_succ, Nat.mul_one, Bool.true_eq_false, Bool.false_eq_true, false_implies, true_implies, Bool.not_true, Bool.not_false, decide_true, decide_false, Int.reduceToNat, Int.cast_ofNat_Int, Int.reduceLT, Int.reduceLE, Int.reduceEq, Int.reduceNeg, eq_self, Option.isNone_some, Option.isNone_none, Bool.bne_false, Bool.bne_true]
    simp only [Nat.zero_add, List.nil_append] at own2
    refine k _ _ own2 (m1.trans m2 fun i hi hS => ?_) ?_
    · simp only [ownS, Value.ownBlock, Option.some.injEq] at hS; omega
    · intro k hk
      rcases hb2 k hk with h | h
      · simp only [Value.ownBlock, Option.some.injEq] at h; omega
      · omega
end
end Go.Proofs.Y

/- JD: strings.Builder, the forms of rows, and their reading. -/
namespace Go.Proofs.Y
open Go Go.HL Go.Proofs

structure BR (w0 w : World) (b : Nat) (l : List UInt8) : Prop where
  inv : ∃ pv bv, Blk w b 122 [pv, bv] ∧ (pv = .pointer none ∨ pv = ptr b) ∧ Own w bv 5 1 l.length (bys l) ∧ (∀ k, bv.ownBlock = some k → w0.heap.size ≤ k)
  fb : w0.heap.size ≤ b
  m : Mod none' w0 w

theorem sz120 : szOf Try.prog 120 = some 1 := by kernel_rfl
theorem sz36 : szOf Try.prog 36 = some 1 := by kernel_rfl
theorem ext112a : Extern.findNext Try.f112 = none := by kernel_rfl
theorem ext112b : Extern.find Try.f112 = some Extern.AbiNoEscape.same := by kernel_rfl

section
variable {w : World} {next : Value → World → Prop} {QP : List PanicEntry → World → Prop}

theorem copycheck_ {b : Nat} {pv bv : Value} (h : Blk w b 122 [pv, bv]) (hp : pv = .pointer none ∨ pv = ptr b) (k : ∀ w', Blk w' b 122 [ptr b, bv] → Mod (fun k => k = b) w w' → next (.tuple #[]) w') :
    callvK Try.prog (.func (.func 111) #[] #[]) [ptr b] w next QP := by
  refine r111 rfl ?_
  have c0 := h.cell 0
  have c0 : w.cell? ⟨b, 0, none⟩ = some pv := c0
  unfold h111
  rcases hp with rfl | rfl
  · try simp only [go_sem, ↓reduceIte, Nat.reduceEqDiff, Nat.reduceAdd, Nat.reduceLT, List.length_cons, List.length_nil, List.getElem?_cons_zero, List.getElem?_cons_succ, Nat.mul_one, Bool.true_eq_false, Bool.false_eq_true, false_implies, true_implies, Bool.not_true, Bool.not_false, decide_true, decide_false, Int.reduceToNat, Int.cast_ofNat_Int, Int.reduceLT, Int.reduceLE, Int.reduceEq, Int.reduceNeg, eq_self, Option.isNone_some, Option.isNone_none, Bool.bne_false, Bool.bne_true, c0]
    refine conv_up (t := 122) (by kernel_rfl) (by kernel_rfl) (by kernel_rfl) h (by simp) ?_
    try simp only [go_sem, ↓reduceIte, Nat.reduceEqDiff, Nat.reduceAdd, Nat.reduceLT, List.length_cons, List.length_nil, List.getElem?_cons_zero, List.getElem?_cons_succ, Nat.mul_one, Bool.true_eq_false, Bool.false_eq_true, false_implies, true_implies, Bool.not_true, Bool.not_false, decide_true, decide_false, Int.reduceToNat, Int.cast_ofNat_Int, Int.reduceLT, Int.reduceLE, Int.reduceEq, Int.reduceNeg, eq_self, Option.isNone_some, Option.isNone_none, Bool.bne_false, Bool.bne_true]
    refine same_ Try.func112 (by kernel_rfl) (by kernel_rfl) ext112a ext112b ?_
    try simp only [go_sem, ↓reduceIte, Nat.reduceEqDiff, Nat.reduceAdd, Nat.reduceLT, List.length_cons, List.length_nil, List.getElem?_cons_zero, List.getElem?_cons_succ, Nat.mul_one, Bool.true_eq_false, Bool.false_eq_true, false_implies, true_implies, Bool.not_true, Bool.not_false, decide_true, decide_false, Int.reduceToNat, Int.cast_ofNat_Int, Int.reduceLT, Int.reduceLE, Int.reduceEq, Int.reduceNeg, eq_self, Option.isNone_some, Option.isNone_none, Bool.bne_false, Bool.bne_true]
    refine conv_dn (u := 122) (by kernel_rfl) (by kernel_rfl) (by kernel_rfl) h (by kernel_rfl) ?_
    try simp only [go_sem, ↓reduceIte, Nat.reduceEqDiff, Nat.reduceAdd, Nat.reduceLT, List.length_cons, List.length_nil, List.getElem?_cons_zero, List.getElem?_cons_succ, Nat.mul_one, Bool.true_eq_false, Bool.false_eq_true, false_implies, true_implies, Bool.not_true, Bool.not_false, decide_true, decide_false, Int.reduceToNat, Int.cast_ofNat_Int, Int.reduceLT, Int.reduceLE, Int.reduceEq, Int.reduceNeg, eq_self, Option.isNone_some, Option.isNone_none, Bool.bne_false, Bool.bne_true]
    refine store1 sz120 h (by simp) rfl ?_
    intro w1 h1 m1 _
    try simp only [go_sem, ↓reduceIte, Nat.reduceEqDiff, Nat.reduceAdd, Nat.reduceLT, List.length_cons, List.length_nil, List.getElem?_cons_zero, List.getElem?_cons_succ, Nat.mul_one, Bool.true_eq_false, Bool.false_eq_true, false_implies, true_implies, Bool.not_true, Bool.not_false, decide_true, decide_false, Int.reduceToNat, Int.cast_ofNat_Int, Int.reduceLT, Int.reduceLE, Int.reduceEq, Int.reduceNeg, eq_self, Option.isNone_some, Option.isNone_none, Bool.bne_false, Bool.bne_true]
    exact k _ h1 m1
  · try simp only [go_sem, ↓reduceIte, Nat.reduceEqDiff, Nat.reduceAdd, Nat.reduceLT, List.length_cons, List.length_nil, List.getElem?_cons_zero, List.getElem?_cons_succ, Nat.mul_one, Bool.true_eq_false, Bool.false_eq_true, false_implies, true_implies, Bool.not_true, Bool.not_false, decide_true, decide_false, Int.reduceToNat, Int.cast_ofNat_Int, Int.reduceLT, Int.reduceLE, Int.reduceEq, Int.reduceNeg, eq_self, Option.isNone_some, Option.isNone_none, Bool.bne_false, Bool.bne_true, c0]
    exact k _ h (Mod.refl _ _)

theorem wstr_ {w0 : World} {b : Nat} {l s : List UInt8} (h : BR w0 w b l) (hm : l.length + s.length ≤ 140737488355328) (k : ∀ w' v, BR w0 w' b (l ++ s) → next v w') : callvK Try.prog (.func (.func 107) #[] #[]) [ptr b, str s] w next QP := by
  refine r107 rfl ?_
  obtain ⟨⟨pv, bv, hb, hp, ho, hf⟩, hfb, m⟩ := h
  have hbb : bv.ownBlock ≠ some b := fun e => own_neb ho hb (by decide) e
  unfold h107
  try simp only [go_sem, ↓reduceIte, Nat.reduceEqDiff, Nat.reduceAdd, Nat.reduceLT, List.length_cons, List.length_nil, List.getElem?_cons_zero, List.getElem?_cons_succ, Nat.mul_one, Bool.true_eq_false, Bool.false_eq_true, false_implies, true_implies, Bool.not_true, Bool.not_false, decide_true, decide_false, Int.reduceToNat, Int.cast_ofNat_Int, Int.reduceLT, Int.reduceLE, Int.reduceEq, Int.reduceNeg, eq_self, Option.isNone_some, Option.isNone_none, Bool.bne_false, Bool.bne_true]
  refine copycheck_ hb hp ?_
  intro w1 hb1 m1
  have ho1 := ho.mod m1 fun k hk (e : k = b) => hbb (e ▸ hk)
  have c1 : w1.cell? ⟨b, 1, none⟩ = some bv := hb1.cell 1
  try simp only [go_sem, ↓reduceIte, Nat.reduceEqDiff, Nat.reduceAdd, Nat.reduceLT, List.length_cons, List.length_nil, List.getElem?_cons_zero, List.getElem?_cons_succ, Nat.mul_one, Bool.true_eq_false, Bool.false_eq_true, false_implies, true_implies, Bool.not_true, Bool.not_false, decide_true, decide_false, Int.reduceToNat, Int.cast_ofNat_Int, Int.reduceLT, Int.reduceLE, Int.reduceEq, Int.reduceNeg, eq_self, Option.isNone_some, Option.isNone_none, Bool.bne_false, Bool.bne_true, c1]
  refine appS_ sl36 u9 ho1 hm ?_
  intro v2 w2 own2 m2 hb2
  obtain ⟨ua, uc, rfl, -, -⟩ := own2.form
  have hb2' := hb1.mod m2 fun hS => hbb hS
  refine store1 sz36 hb2' (by simp) rfl ?_
  intro w3 hb3 m3 _
  try simp only [go_sem, ↓reduceIte, Nat.reduceEqDiff, Nat.reduceAdd, Nat.reduceLT, List.length_cons, List.length_nil, List.getElem?_cons_zero, List.getElem?_cons_succ, Nat.mul_one, Bool.true_eq_false, Bool.false_eq_true, false_implies, true_implies, Bool.not_true, Bool.not_false, decide_true, decide_false, Int.reduceToNat, Int.cast_ofNat_Int, Int.reduceLT, Int.reduceLE, Int.reduceEq, Int.reduceNeg, eq_self, Option.isNone_some, Option.isNone_none, Bool.bne_false, Bool.bne_true]
  have hs := m.size
  have hs1 := m1.size
  have hnew : ∀ k, (Value.slice ua (l.length + s.length) uc).ownBlock = some k → w0.heap.size ≤ k ∧ k ≠ b := by
    intro k hk
    rcases hb2 k hk with h' | h'
    · exact ⟨hf k h', fun e => hbb (e ▸ h')⟩
    · have := hb1.lt; exact ⟨by omega, by omega⟩
  refine k _ _ ⟨⟨_, _, by simpa using hb3, .inr rfl, ?_, fun k hk => (hnew k hk).1⟩, hfb, ((m.trans m1 fun k hk (e : k = b) => by omega).trans m2 fun k hk hS => ?_).trans m3 fun k hk (e : k = b) => by omega⟩
  · have := own2.mod m3 fun k hk (e : k = b) => (hnew k hk).2 e
    simpa [bys] using this
  · have := hf k hS; omega

theorem bstr_ {w0 : World} {b : Nat} {l : List UInt8} (h : BR w0 w b l) (hm : l.length ≤ 9223372036854775807) (k : ∀ w', Mod none' w0 w' → next (str l) w') : callvK Try.prog (.func (.func 109) #[] #[]) [ptr b] w next QP := by
  refine r109 rfl ?_
  obtain ⟨⟨pv, bv, hb, hp, ho, hf⟩, hfb, m⟩ := h
  have c1 : w.cell? ⟨b, 1, none⟩ = some bv := hb.cell 1
  obtain ⟨ua, uc, rfl, -, -⟩ := ho.form
  unfold h109
  try simp only [go_sem, ↓reduceIte, Nat.reduceEqDiff, Nat.reduceAdd, Nat.reduceLT, List.length_cons, List.length_nil, List.getElem?_cons_zero, List.getElem?_cons_succ, Nat.mul_one, Bool.true_eq_false, Bool.false_eq_true, false_implies, true_implies, Bool.not_true, Bool.not_false, decide_true, decide_false, Int.reduceToNat, Int.cast_ofNat_Int, Int.reduceLT, Int.reduceLE, Int.reduceEq, Int.reduceNeg, eq_self, Option.isNone_some, Option.isNone_none, Bool.bne_false, Bool.bne_true, c1]
  refine usd_ (e := 5) (by kernel_rfl) (ho.mod (Mod.drew none' w) fun _ _ h => h) ?_
  intro p w1 m1 hpv
  have c1' := (m1.cell (show w.drew.cell? ⟨b, 1, none⟩ = _ from c1) fun h => h)
  try simp only [go_sem, ↓reduceIte, Nat.reduceEqDiff, Nat.reduceAdd, Nat.reduceLT, List.length_cons, List.length_nil, List.getElem?_cons_zero, List.getElem?_cons_succ, Nat.mul_one, Bool.true_eq_false, Bool.false_eq_true, false_implies, true_implies, Bool.not_true, Bool.not_false, decide_true, decide_false, Int.reduceToNat, Int.cast_ofNat_Int, Int.reduceLT, Int.reduceLE, Int.reduceEq, Int.reduceNeg, eq_self, Option.isNone_some, Option.isNone_none, Bool.bne_false, Bool.bne_true, c1']
  refine us_ (e := 5) (by kernel_rfl) (by kernel_rfl) (ho.mod ((Mod.drew none' w).trans' m1) fun _ _ h => h) hpv hm ?_
  intro w2 m2
  try simp only [go_sem, ↓reduceIte, Nat.reduceEqDiff, Nat.reduceAdd, Nat.reduceLT, List.length_cons, List.length_nil, List.getElem?_cons_zero, List.getElem?_cons_succ, Nat.mul_one, Bool.true_eq_false, Bool.false_eq_true, false_implies, true_implies, Bool.not_true, Bool.not_false, decide_true, decide_false, Int.reduceToNat, Int.cast_ofNat_Int, Int.reduceLT, Int.reduceLE, Int.reduceEq, Int.reduceNeg, eq_self, Option.isNone_some, Option.isNone_none, Bool.bne_false, Bool.bne_true]
  refine k _ (((m.trans' (Mod.drew none' w)).trans' m1).trans m2 fun k hk hS => ?_)
  have := hf k hS; omega

def formB (r : List UInt8) : List UInt8 := num r.length ++ num (crc r : Nat) ++ r
def formsB (l : List (List UInt8)) : List UInt8 := l.flatMap formB
theorem formB_len (r : List UInt8) : (formB r).length = 16 + r.length := by simp [formB, num_len]; omega
theorem formsB_app (l m : List (List UInt8)) : formsB (l ++ m) = formsB l ++ formsB m := by simp [formsB]
theorem formsB_take {l : List (List UInt8)} {i : Nat} (h : i < l.length) : formsB (l.take (i + 1)) = formsB (l.take i) ++ formB l[i] := by
  rw [List.take_succ_eq_append_getElem h, formsB_app]; simp [formsB]
theorem formsB_le {l : List (List UInt8)} {i : Nat} : (formsB (l.take i)).length ≤ (formsB l).length := by
  have : formsB l = formsB (l.take i) ++ formsB (l.drop i) := by rw [← formsB_app, List.take_append_drop]
  rw [this, List.length_append]; omega

theorem forms_ {v : Value} {l : List (List UInt8)} {n : Nat} (hl : Sl w v 1 n (l.map str)) (hm : (formsB l).length ≤ 1000000000000) (k : ∀ w', Mod none' w w' → next (str (formsB l)) w') :
    callvK Try.prog (.func (.func 85) #[] #[]) [v] w next QP := by
  refine r85 rfl ?_
  have hln : l.length = n := by have := hl.len; simpa using this
  obtain ⟨a, c, rfl, hc, hcell⟩ := hl.form
  unfold h85
  try simp only [go_sem, ↓reduceIte, Nat.reduceEqDiff, Nat.reduceAdd, Nat.reduceLT, List.length_cons, List.length_nil, List.getElem?_cons_zero, List.getElem?_cons_succ, Nat.mul_one, Bool.true_eq_false, Bool.false_eq_true, false_implies, true_implies, Bool.not_true, Bool.not_false, decide_true, decide_false, Int.reduceToNat, Int.cast_ofNat_Int, Int.reduceLT, Int.reduceLE, Int.reduceEq, Int.reduceNeg, eq_self, Option.isNone_some, Option.isNone_none, Bool.bne_false, Bool.bne_true]
  refine alloc_ (z := .agg #[.pointer none, .slice none 0 0]) (cs := [.pointer none, .slice none 0 0]) (by kernel_rfl) rfl ?_
  intro b w1 hb blk1 m1 hs1
  have hbr : BR w w1 b [] := ⟨⟨_, _, blk1, .inl rfl, Own.nil _ _ _, fun k hk => (nomatch (hk : none = some k))⟩, by omega, m1⟩
  try simp only [go_sem, ↓reduceIte, Nat.reduceEqDiff, Nat.reduceAdd, Nat.reduceLT, List.length_cons, List.length_nil, List.getElem?_cons_zero, List.getElem?_cons_succ, Nat.mul_one, Bool.true_eq_false, Bool.false_eq_true, false_implies, true_implies, Bool.not_true, Bool.not_false, decide_true, decide_false, Int.reduceToNat, Int.cast_ofNat_Int, Int.reduceLT, Int.reduceLE, Int.reduceEq, Int.reduceNeg, eq_self, Option.isNone_some, Option.isNone_none, Bool.bne_false, Bool.bne_true]
  refine loopN n (fun i τ w' => τ 3 = ptr b ∧ τ 6 = .slice a n c ∧ τ 7 = .int .i64 n ∧ τ 8 = .int .i64 i ∧ BR w w' b (formsB (l.take i))) ⟨0, by omega, rfl, rfl, rfl, rfl, hbr⟩ ?_
  rintro i τ w2 hi ⟨t3, t6, t7, t8, hbr⟩
  have hle := formsB_le (l := l) (i := i)
  have hnb : n ≤ 1000000000000 := by
    have : ∀ l : List (List UInt8), l.length ≤ (formsB l).length := by
      intro l
      induction l with
      | nil => simp
      | cons x l ih => simp only [formsB, List.flatMap_cons, List.length_append, List.length_cons, formB_len] at ih ⊢; omega
    have := this l; omega
  unfold h85_1
  try simp only [go_sem, ↓reduceIte, Nat.reduceEqDiff, Nat.reduceAdd, Nat.reduceLT, List.length_cons, List.length_nil, List.getElem?_cons_zero, List.getElem?_cons_succ, Nat.mul_one, Bool.true_eq_false, Bool.false_eq_true, false_implies, true_implies, Bool.not_true, Bool.not_false, decide_true, decide_false, Int.reduceToNat, Int.cast_ofNat_Int, Int.reduceLT, Int.reduceLE, Int.reduceEq, Int.reduceNeg, eq_self, Option.isNone_some, Option.isNone_none, Bool.bne_false, Bool.bne_true, t3, t6, t7, t8]
  refine ⟨fun hlt => ?_, fun hge => ?_⟩
  · have hin : i < n := by
      have : (i : Int) < n := by simpa using hlt
      omega
    obtain ⟨g, o, rfl, hcl⟩ := hcell (by omega)
    have hci : w2.cell? ⟨g, o + i, none⟩ = some (str (l[i]'(by omega))) := by
      have h1 := hcl i (by omega)
      rw [List.getElem?_map, List.getElem?_eq_getElem (by omega)] at h1
      exact hbr.m.cell h1 fun h => h
    have hfs := formsB_take (l := l) (i := i) (by omega)
    have hle1 := formsB_le (l := l) (i := i + 1)
    have hfl := formB_len (l[i]'(by omega))
    have hlen1 := congrArg List.length hfs
    rw [List.length_append] at hlen1
    unfold h85_2
    try simp only [go_sem, ↓reduceIte, Nat.reduceEqDiff, Nat.reduceAdd, Nat.reduceLT, List.length_cons, List.length_nil, List.getElem?_cons_zero, List.getElem?_cons_succ, Nat.mul_one, Bool.true_eq_false, Bool.false_eq_true, false_implies, true_implies, Bool.not_true, Bool.not_false, decide_true, decide_false, Int.reduceToNat, Int.cast_ofNat_Int, Int.reduceLT, Int.reduceLE, Int.reduceEq, Int.reduceNeg, eq_self, Option.isNone_some, Option.isNone_none, Bool.bne_false, Bool.bne_true, t3, t6, t7, t8, hci]
    repeat refine ⟨⟨by omega, by omega⟩, ?_⟩
    refine number_ _ ?_
    intro w3 m3
    try simp only [go_sem, ↓reduceIte, Nat.reduceEqDiff, Nat.reduceAdd, Nat.reduceLT, List.length_cons, List.length_nil, List.getElem?_cons_zero, List.getElem?_cons_succ, Nat.mul_one, Bool.true_eq_false, Bool.false_eq_true, false_implies, true_implies, Bool.not_true, Bool.not_false, decide_true, decide_false, Int.reduceToNat, Int.cast_ofNat_Int, Int.reduceLT, Int.reduceLE, Int.reduceEq, Int.reduceNeg, eq_self, Option.isNone_some, Option.isNone_none, Bool.bne_false, Bool.bne_true, t3, t6, t7, t8]
    refine crc_ _ (by omega) ?_
    try simp only [go_sem, ↓reduceIte, Nat.reduceEqDiff, Nat.reduceAdd, Nat.reduceLT, List.length_cons, List.length_nil, List.getElem?_cons_zero, List.getElem?_cons_succ, Nat.mul_one, Bool.true_eq_false, Bool.false_eq_true, false_implies, true_implies, Bool.not_true, Bool.not_false, decide_true, decide_false, Int.reduceToNat, Int.cast_ofNat_Int, Int.reduceLT, Int.reduceLE, Int.reduceEq, Int.reduceNeg, eq_self, Option.isNone_some, Option.isNone_none, Bool.bne_false, Bool.bne_true, t3, t6, t7, t8]
    refine number_ _ ?_
    intro w4 m4
    have hn1 := num_len ((l[i]'(by omega)).length : Nat)
    have hn2 := num_len (crc (l[i]'(by omega)) : Nat)
    try simp only [go_sem, ↓reduceIte, Nat.reduceEqDiff, Nat.reduceAdd, Nat.reduceLT, List.length_cons, List.length_nil, List.getElem?_cons_zero, List.getElem?_cons_succ, Nat.mul_one, Bool.true_eq_false, Bool.false_eq_true, false_implies, true_implies, Bool.not_true, Bool.not_false, decide_true, decide_false, Int.reduceToNat, Int.cast_ofNat_Int, Int.reduceLT, Int.reduceLE, Int.reduceEq, Int.reduceNeg, eq_self, Option.isNone_some, Option.isNone_none, Bool.bne_false, Bool.bne_true, t3, t6, t7, t8]
    simp only [List.length_append]
    refine ⟨by omega, by omega, ?_⟩
    have hbr4 : BR w w4 b (formsB (l.take i)) := by
      obtain ⟨⟨pv, bv, hb, hp, ho, hf⟩, hfb, m⟩ := hbr
      have m34 := m3.trans' m4
      exact ⟨⟨pv, bv, hb.mod m34 fun h => h, hp, ho.mod m34 fun _ _ h => h, hf⟩, hfb, m.trans' m34⟩
    refine wstr_ hbr4 (by rw [List.length_append, List.length_append]; omega) ?_
    intro w5 v5 hbr5
    unfold h85_3
    try simp only [go_sem, ↓reduceIte, Nat.reduceEqDiff, Nat.reduceAdd, Nat.reduceLT, List.length_cons, List.length_nil, List.getElem?_cons_zero, List.getElem?_cons_succ, Nat.mul_one, Bool.true_eq_false, Bool.false_eq_true, false_implies, true_implies, Bool.not_true, Bool.not_false, decide_true, decide_false, Int.reduceToNat, Int.cast_ofNat_Int, Int.reduceLT, Int.reduceLE, Int.reduceEq, Int.reduceNeg, eq_self, Option.isNone_some, Option.isNone_none, Bool.bne_false, Bool.bne_true, t3, t6, t7, t8]
    rw [w64 (by omega) (by omega)]
    refine ⟨i + 1, by omega, by omega, rfl, ?_⟩
    rw [hfs]; exact hbr5
  · have hio : i = n := by
      have : ¬ (i : Int) < n := by simpa using hge
      omega
    subst hio
    rw [List.take_of_length_le (by omega)] at hbr
    unfold h85_4
    try simp only [go_sem, ↓reduceIte, Nat.reduceEqDiff, Nat.reduceAdd, Nat.reduceLT, List.length_cons, List.length_nil, List.getElem?_cons_zero, List.getElem?_cons_succ, Nat.mul_one, Bool.true_eq_false, Bool.false_eq_true, false_implies, true_implies, Bool.not_true, Bool.not_false, decide_true, decide_false, Int.reduceToNat, Int.cast_ofNat_Int, Int.reduceLT, Int.reduceLE, Int.reduceEq, Int.reduceNeg, eq_self, Option.isNone_some, Option.isNone_none, Bool.bne_false, Bool.bne_true, t3]
    refine bstr_ hbr (by omega) ?_
    intro w3 m3
    try simp only [go_sem, ↓reduceIte, Nat.reduceEqDiff, Nat.reduceAdd, Nat.reduceLT, List.length_cons, List.length_nil, List.getElem?_cons_zero, List.getElem?_cons_succ, Nat.mul_one, Bool.true_eq_false, Bool.false_eq_true, false_implies, true_implies, Bool.not_true, Bool.not_false, decide_true, decide_false, Int.reduceToNat, Int.cast_ofNat_Int, Int.reduceLT, Int.reduceLE, Int.reduceEq, Int.reduceNeg, eq_self, Option.isNone_some, Option.isNone_none, Bool.bne_false, Bool.bne_true]
    exact k _ m3

/-! ### the reading of forms -/
def splitB (s : List UInt8) : Option (List (List UInt8)) :=
  if h0 : s = [] then some []
  else if h : s.length < 16 then none
  else if val s < 0 ∨ ((s.drop 16).length : Int) < val s then none
  else if (crc ((s.drop 16).take (val s).toNat) : Int) ≠ val (s.drop 8) then none
  else (splitB ((s.drop 16).drop (val s).toNat)).map fun l => (s.drop 16).take (val s).toNat :: l
termination_by s.length
decreasing_by
  have := List.length_pos_iff.2 h0
  simp; omega

theorem split_ {s : List UInt8} (hs : s.length ≤ 1000000000000) (kn : splitB s = none → ∀ w', Mod none' w w' → next (.tuple #[.slice none 0 0, .bool false]) w')
    (ks : ∀ l, splitB s = some l → ∀ v w', Mod none' w w' → Own w' v 9 1 l.length (l.map str) → (∀ k, v.ownBlock = some k → w.heap.size ≤ k) → next (.tuple #[v, .bool true]) w') :
    callvK Try.prog (.func (.func 81) #[] #[]) [str s] w next QP := by
  refine r81 rfl ?_
  unfold h81
  try simp only [go_sem, ↓reduceIte, Nat.reduceEqDiff, Nat.reduceAdd, Nat.reduceLT, List.length_cons, List.length_nil, List.getElem?_cons_zero, List.getElem?_cons_succ, Nat.mul_one, Bool.true_eq_false, Bool.false_eq_true, false_implies, true_implies, Bool.not_true, Bool.not_false, decide_true, decide_false, Int.reduceToNat, Int.cast_ofNat_Int, Int.reduceLT, Int.reduceLE, Int.reduceEq, Int.reduceNeg, eq_self, Option.isNone_some, Option.isNone_none, Bool.bne_false, Bool.bne_true]
  refine loopN s.length (fun i τ w' => Mod none' w w' ∧ ∃ (r : List UInt8) (l : List (List UInt8)) (v : Value), τ 0 = str r ∧ τ 2 = v ∧ r.length = s.length - i ∧ l.length ≤ i ∧ splitB s = (splitB r).map (fun m => l ++ m) ∧ Own w' v 9 1 l.length (l.map str) ∧ (∀ k, v.ownBlock = some k → w.heap.size ≤ k))
    ⟨0, by omega, Mod.refl _ _, s, [], .slice none 0 0, rfl, rfl, rfl, Nat.le_refl _, by simp, Own.nil _ _ _, fun k hk => (nomatch (hk : none = some k))⟩ ?_
  rintro i τ w1 hi ⟨m1, r, l, v, t0, t2, hr, hli, hsp, hv, hvn⟩
  unfold h81_1
  try simp only [go_sem, ↓reduceIte, Nat.reduceEqDiff, Nat.reduceAdd, Nat.reduceLT, List.length_cons, List.length_nil, List.getElem?_cons_zero, List.getElem?_cons_succ, Nat.mul_one, Bool.true_eq_false, Bool.false_eq_true, false_implies, true_implies, Bool.not_true, Bool.not_false, decide_true, decide_false, Int.reduceToNat, Int.cast_ofNat_Int, Int.reduceLT, Int.reduceLE, Int.reduceEq, Int.reduceNeg, eq_self, Option.isNone_some, Option.isNone_none, Bool.bne_false, Bool.bne_true, t0, t2]
  refine ⟨fun hgt => ?_, fun hle => ?_⟩
  · have hr0 : 0 < r.length := by
      have : (0 : Int) < r.length := by simpa using hgt
      omega
    have hrne : r ≠ [] := List.length_pos_iff.1 hr0
    unfold h81_2
    try simp only [go_sem, ↓reduceIte, Nat.reduceEqDiff, Nat.reduceAdd, Nat.reduceLT, List.length_cons, List.length_nil, List.getElem?_cons_zero, List.getElem?_cons_succ, Nat.mul_one, Bool.true_eq_false, Bool.false_eq_true, false_implies, true_implies, Bool.not_true, Bool.not_false, decide_true, decide_false, Int.reduceToNat, Int.cast_ofNat_Int, Int.reduceLT, Int.reduceLE, Int.reduceEq, Int.reduceNeg, eq_self, Option.isNone_some, Option.isNone_none, Bool.bne_false, Bool.bne_true, t0, t2]
    refine ⟨fun h16 => ?_, fun h16 => ?_⟩
    · have h16 : r.length < 16 := by
        have : (r.length : Int) < 16 := by simpa using h16
        omega
      refine kn ?_ w1 m1
      rw [hsp, splitB]; simp [hrne, h16]
    · have h16 : ¬ r.length < 16 := by
        have : ¬ (r.length : Int) < 16 := by simpa using h16
        omega
      unfold h81_3
      try simp only [go_sem, ↓reduceIte, Nat.reduceEqDiff, Nat.reduceAdd, Nat.reduceLT, List.length_cons, List.length_nil, List.getElem?_cons_zero, List.getElem?_cons_succ, Nat.mul_one, Bool.true_eq_false, Bool.false_eq_true, false_implies, true_implies, Bool.not_true, Bool.not_false, decide_true, decide_false, Int.reduceToNat, Int.cast_ofNat_Int, Int.reduceLT, Int.reduceLE, Int.reduceEq, Int.reduceNeg, eq_self, Option.isNone_some, Option.isNone_none, Bool.bne_false, Bool.bne_true, t0, t2]
      refine ⟨by omega, ?_⟩
      refine value_ r (by omega) ?_
      have hd8 : (r.drop 8).length = r.length - 8 := List.length_drop
      have hd16 : (r.drop 16).length = r.length - 16 := List.length_drop
      try simp only [go_sem, ↓reduceIte, Nat.reduceEqDiff, Nat.reduceAdd, Nat.reduceLT, List.length_cons, List.length_nil, List.getElem?_cons_zero, List.getElem?_cons_succ, Nat.mul_one, Bool.true_eq_false, Bool.false_eq_true, false_implies, true_implies, Bool.not_true, Bool.not_false, decide_true, decide_false, Int.reduceToNat, Int.cast_ofNat_Int, Int.reduceLT, Int.reduceLE, Int.reduceEq, Int.reduceNeg, eq_self, Option.isNone_some, Option.isNone_none, Bool.bne_false, Bool.bne_true, t0, t2]
      refine value_ (r.drop 8) (by omega) ?_
      have eb : (if decide (val r < 0) = true then true else decide (((r.drop 16).length : Int) < val r)) = decide (val r < 0 ∨ ((r.drop 16).length : Int) < val r) := by
        by_cases h : val r < 0 <;> simp [h]
      have m1d := m1.trans' (Mod.drew none' w1)
      by_cases hbad : val r < 0 ∨ ((r.drop 16).length : Int) < val r
      · have hd := decide_eq_true hbad
        try simp only [go_sem, ↓reduceIte, Nat.reduceEqDiff, Nat.reduceAdd, Nat.reduceLT, List.length_cons, List.length_nil, List.getElem?_cons_zero, List.getElem?_cons_succ, Nat.mul_one, Bool.true_eq_false, Bool.false_eq_true, false_implies, true_implies, Bool.not_true, Bool.not_false, decide_true, decide_false, Int.reduceToNat, Int.cast_ofNat_Int, Int.reduceLT, Int.reduceLE, Int.reduceEq, Int.reduceNeg, eq_self, Option.isNone_some, Option.isNone_none, Bool.bne_false, Bool.bne_true, eb, hd]
        refine ⟨by omega, ?_⟩
        refine kn ?_ _ m1d
        rw [hsp, splitB]; simp only [hrne, dif_neg, not_false_eq_true, h16, if_pos hbad, Option.map_none]
      · have hd := decide_eq_false hbad
        obtain ⟨x, hx⟩ := Int.eq_ofNat_of_zero_le (show 0 ≤ val r by omega)
        have hsx : splitB r = if (crc ((r.drop 16).take x) : Int) ≠ val (r.drop 8) then none else (splitB ((r.drop 16).drop x)).map fun l => (r.drop 16).take x :: l := by
          rw [splitB]; simp only [hrne, dif_neg, not_false_eq_true, h16, if_neg hbad]; simp only [hx, Int.toNat_natCast]
        rw [hx] at eb hd
        try simp only [go_sem, ↓reduceIte, Nat.reduceEqDiff, Nat.reduceAdd, Nat.reduceLT, List.length_cons, List.length_nil, List.getElem?_cons_zero, List.getElem?_cons_succ, Nat.mul_one, Bool.true_eq_false, Bool.false_eq_true, false_implies, true_implies, Bool.not_true, Bool.not_false, decide_true, decide_false, Int.reduceToNat, Int.cast_ofNat_Int, Int.reduceLT, Int.reduceLE, Int.reduceEq, Int.reduceNeg, eq_self, Option.isNone_some, Option.isNone_none, Bool.bne_false, Bool.bne_true, hx, eb, hd]
        refine ⟨by omega, ⟨by omega, by omega⟩, ?_⟩
        refine crc_ _ (by rw [List.length_take]; omega) ?_
        try simp only [go_sem, ↓reduceIte, Nat.reduceEqDiff, Nat.reduceAdd, Nat.reduceLT, List.length_cons, List.length_nil, List.getElem?_cons_zero, List.getElem?_cons_succ, Nat.mul_one, Bool.true_eq_false, Bool.false_eq_true, false_implies, true_implies, Bool.not_true, Bool.not_false, decide_true, decide_false, Int.reduceToNat, Int.cast_ofNat_Int, Int.reduceLT, Int.reduceLE, Int.reduceEq, Int.reduceNeg, eq_self, Option.isNone_some, Option.isNone_none, Bool.bne_false, Bool.bne_true, hx, eb, hd]
        refine ⟨fun hc => ?_, fun hc => ?_⟩
        · have hc : ¬ (crc ((r.drop 16).take x) : Int) = val (r.drop 8) := by simpa using hc
          refine kn ?_ _ m1d
          rw [hsp, hsx, if_pos hc]; rfl
        · have hc : (crc ((r.drop 16).take x) : Int) = val (r.drop 8) := by simpa using hc
          rw [if_neg (fun h => h hc)] at hsx
          have hdx : ((r.drop 16).drop x).length = r.length - 16 - x := by rw [List.length_drop, hd16]
          unfold h81_4
          try simp only [go_sem, ↓reduceIte, Nat.reduceEqDiff, Nat.reduceAdd, Nat.reduceLT, List.length_cons, List.length_nil, List.getElem?_cons_zero, List.getElem?_cons_succ, Nat.mul_one, Bool.true_eq_false, Bool.false_eq_true, false_implies, true_implies, Bool.not_true, Bool.not_false, decide_true, decide_false, Int.reduceToNat, Int.cast_ofNat_Int, Int.reduceLT, Int.reduceLE, Int.reduceEq, Int.reduceNeg, eq_self, Option.isNone_some, Option.isNone_none, Bool.bne_false, Bool.bne_true, t0, t2, hx]
          repeat refine ⟨⟨by omega, by omega⟩, ?_⟩
          refine bsl1 sl40 (cs := [str ((r.drop 16).take x)]) rfl rfl (by omega) ?_
          intro b2 w2 hb2 own2 _ m2 _
          refine append_ sl40 ((hv.mod (Mod.drew none' w1) fun _ _ h => h).mod ((Mod.drew none' _).trans' m2) fun _ _ h => h) own2.sl (by intro u hu; rw [List.mem_singleton.1 hu]; rfl) (by omega) (by unfold maxLen; omega) ?_
          intro v3 w3 own3 m3 hb3 _
          try simp only [go_sem, ↓reduceIte, Nat.reduceEqDiff, Nat.reduceAdd, Nat.reduceLT, List.length_cons, List.length_nil, List.getElem?_cons_zero, List.getElem?_cons_succ, Nat.mul_one, Bool.true_eq_false, Bool.false_eq_true, false_implies, true_implies, Bool.not_true, Bool.not_false, decide_true, decide_false, Int.reduceToNat, Int.cast_ofNat_Int, Int.reduceLT, Int.reduceLE, Int.reduceEq, Int.reduceNeg, eq_self, Option.isNone_some, Option.isNone_none, Bool.bne_false, Bool.bne_true, t0, t2, hx]
          repeat refine ⟨⟨by omega, by omega⟩, ?_⟩
          have m2' : Mod none' w w2 := (m1d.trans' (Mod.drew none' _)).trans' m2
          refine ⟨s.length - ((r.drop 16).drop x).length, by omega, by omega, m2'.trans m3 fun k hk hS => ?_, (r.drop 16).drop x, l ++ [(r.drop 16).take x], v3, rfl, rfl, by omega, by simp; omega, ?_, ?_, ?_⟩
          · have := hvn k hS; omega
          · rw [hsp, hsx, Option.map_map]; congr 1; funext m; simp
          · have : (l ++ [(r.drop 16).take x]).map str = l.map str ++ [str ((r.drop 16).take x)] := by simp
            rw [this, List.length_append]; exact own3
          · intro k hk
            rcases hb3 k hk with h' | h'
            · exact hvn k h'
            · have := m2'.size; omega
  · have hr0 : r = [] := by
      have : ¬ (0 : Int) < r.length := by simpa using hle
      exact List.eq_nil_of_length_eq_zero (by omega)
    subst hr0
    have hsn : splitB s = some l := by rw [hsp, splitB]; simp
    unfold h81_5
    try simp only [go_sem, ↓reduceIte, Nat.reduceEqDiff, Nat.reduceAdd, Nat.reduceLT, List.length_cons, List.length_nil, List.getElem?_cons_zero, List.getElem?_cons_succ, Nat.mul_one, Bool.true_eq_false, Bool.false_eq_true, false_implies, true_implies, Bool.not_true, Bool.not_false, decide_true, decide_false, Int.reduceToNat, Int.cast_ofNat_Int, Int.reduceLT, Int.reduceLE, Int.reduceEq, Int.reduceNeg, eq_self, Option.isNone_some, Option.isNone_none, Bool.bne_false, Bool.bne_true, t2]
    exact ks l hsn v w1 m1 hv hvn
end
end Go.Proofs.Y

/- DK: plain laws of the disk. -/
namespace Go.Proofs.Y
open Go Go.HL
namespace Dk
variable {d : Dk}
theorem tick_idle (h : d.armed = 0) : d.tick = d := by simp [tick, h]
theorem ends_idle (h : d.armed = 0) : d.ends = false := by simp [ends, h]
theorem pre_idle (h : d.armed = 0) : d.pre = d := by simp [pre, endW, ends_idle h, tick_idle h]
theorem write_idle (h : d.armed = 0) (f a : Int) (s : Bytes) : d.write f a s = d.writeD f a s := by simp [write, endW, ends_idle h, tick_idle h]
theorem writeR_idle (h : d.armed = 0) (f a : Int) (s : Bytes) : d.writeR f a s = d.writeE f a s := by simp [writeR, ends_idle h, tick_idle h]
theorem flush_idle (h : d.armed = 0) (f : Int) : d.flush f = if d.may [f] ≠ 0 then d else if 0 < d.lost then { d with lost := d.lost - 1 } else d.settle f.toNat (d.file f.toNat) := by simp only [flush, pre_idle h]
theorem flushR_idle (h : d.armed = 0) (f : Int) : d.flushR f = if d.may [f] ≠ 0 then d.may [f] else if 0 < d.lost then 9 else 0 := by simp only [flushR, pre_idle h]
theorem turn_idle (h : d.armed = 0) (f g : Int) : d.turn f g = if d.may [f, g] ≠ 0 then d else if f = g then d else if d.pends g then d else (d.settle f.toNat (d.last g.toNat)).settle g.toNat [] := by simp only [turn, pre_idle h]
theorem turnR_idle (h : d.armed = 0) (f g : Int) : d.turnR f g = if d.may [f, g] ≠ 0 then d.may [f, g] else if f = g then 1 else if d.pends g then 7 else 0 := by simp only [turnR, pre_idle h]
theorem cut_idle (h : d.armed = 0) (f n : Int) : d.cut f n = if d.may [f] ≠ 0 then d else if n < 0 ∨ d.size f < n then d else d.settle f.toNat ((d.file f.toNat).take n.toNat) := by simp only [cut, pre_idle h]
theorem cutR_idle (h : d.armed = 0) (f n : Int) : d.cutR f n = if d.may [f] ≠ 0 then d.may [f] else if n < 0 ∨ d.size f < n then 1 else 0 := by simp only [cutR, pre_idle h]
end Dk

theorem put_nil (t : Bytes) : put [] 0 t = t := by simp [put, lay]

theorem pieces_file (f : Nat) : ∀ (n a : Nat) (s : Bytes), ∀ p ∈ pieces f n a s, p.file = f
  | 0, _, _, p, h => by simp [pieces] at h
  | n + 1, a, s, p, h => by
    simp only [pieces] at h
    split at h
    · cases h
    · rcases List.mem_cons.1 h with rfl | h
      · rfl
      · exact pieces_file f n _ _ p h
theorem pieces_bound (f : Nat) : ∀ (n a : Nat) (s : Bytes), ∀ p ∈ pieces f n a s, a ≤ p.at_ ∧ p.at_ + p.bytes.length ≤ a + s.length
  | 0, _, _, p, h => by simp [pieces] at h
  | n + 1, a, s, p, h => by
    simp only [pieces] at h
    split at h
    · cases h
    · have := piece_le (n := s.length) (a := a)
      rcases List.mem_cons.1 h with rfl | h
      · simp; omega
      · have := pieces_bound f n _ _ p h
        simp at this; omega
theorem pieces_ne {f n a : Nat} {s : Bytes} (h : s ≠ []) (hn : s.length ≤ n) : pieces f n a s ≠ [] := by
  cases n with
  | zero => exact absurd (List.eq_nil_of_length_eq_zero (by omega)) h
  | succ n => simp [pieces, h]
theorem pieces_none {f n a : Nat} : pieces f n a [] = [] := by cases n <;> simp [pieces]
theorem pieces_filter {f n a : Nat} {s : Bytes} : (pieces f n a s).filter (fun p => !decide (p.file = f)) = [] := by
  rw [List.filter_eq_nil_iff]; intro p hp; simp [pieces_file f n a s p hp]

/-- a file that nothing is pending for survives as it was -/
theorem surv_other {lasts : List Bytes} {p : Pd} {k : Option Int} {g : Nat} (h : p.file ≠ g) : (surv lasts p k).getD g [] = lasts.getD g [] := by
  unfold surv; split
  · rfl
  · simp only [List.getD_eq_getElem?_getD]; rw [List.getElem?_set_ne h]
theorem survs_other {g : Nat} : ∀ (q : List Pd) (lasts : List Bytes) (ks : List Int), (∀ p ∈ q, p.file ≠ g) → (survs lasts q ks).getD g [] = lasts.getD g []
  | [], _, _, _ => rfl
  | p :: q, lasts, ks, h => by
    rw [survs, survs_other q _ _ fun x hx => h x (by simp [hx]), surv_other (h p (by simp))]
theorem kept_le {k : Option Int} {b c : Bytes} (h : kept k b = some c) : c.length ≤ b.length := by
  unfold kept at h
  split at h
  · cases h
  · split at h
    · cases h; exact Nat.le_refl _
    · split at h
      · cases h; simp; omega
      · cases h
theorem surv_le {lasts : List Bytes} {p : Pd} {k : Option Int} {g N : Nat} (h : (lasts.getD g []).length ≤ N) (hp : p.file = g → p.at_ + p.bytes.length ≤ N) : ((surv lasts p k).getD g []).length ≤ N := by
  by_cases hg : p.file = g
  · unfold surv; split
    · exact h
    · rename_i b hb
      have := kept_le hb
      have := hp hg
      simp only [List.getD_eq_getElem?_getD] at h ⊢
      rw [hg]
      rcases Nat.lt_or_ge g lasts.length with hl | hl
      · rw [List.getElem?_set_self hl, Option.getD_some, put_len]; omega
      · rw [List.getElem?_eq_none (by simpa using hl)]; simp
  · rw [surv_other hg]; exact h
theorem survs_le {g N : Nat} : ∀ (q : List Pd) (lasts : List Bytes) (ks : List Int), (lasts.getD g []).length ≤ N → (∀ p ∈ q, p.file = g → p.at_ + p.bytes.length ≤ N) → ((survs lasts q ks).getD g []).length ≤ N
  | [], _, _, h, _ => h
  | p :: q, lasts, ks, h, hq => survs_le q _ _ (surv_le h (hq p (by simp))) fun x hx => hq x (by simp [hx])

/-! ### DiskTurns -/
namespace Turns
def base (e : Bytes) : Dk := { Dk.new with lasts := Dk.new.lasts.set 3 e, files := Dk.new.files.set 3 e }
def two (e n : Bytes) : Dk := { Dk.new with lasts := (Dk.new.lasts.set 3 e).set 4 n, files := (Dk.new.files.set 3 e).set 4 n }
def pend (e n : Bytes) : Dk := { Dk.new with lasts := Dk.new.lasts.set 3 e, files := (Dk.new.files.set 3 e).set 4 n, queue := pieces 4 n.length 0 n }
variable {e n : Bytes}
theorem w1 (he : e.length ≤ 50000) : Dk.new.writeR 3 0 e = 0 := by
  rw [Dk.writeR_idle rfl]
  unfold Dk.writeE
  rw [show Dk.new.may [3] = 0 from rfl, if_neg (by simp), if_neg (by omega), if_neg (by omega)]
theorem r1 : (Dk.new.write 3 0 e).flushR 3 = 0 := by
  rw [Dk.write_idle rfl]
  unfold Dk.writeD
  split <;> rfl
theorem f1 (he : e.length ≤ 50000) : (Dk.new.write 3 0 e).flush 3 = base e := by
  have h0 : Dk.new.writeE 3 0 e = 0 := by rw [← Dk.writeR_idle rfl]; exact w1 he
  rw [Dk.write_idle rfl]
  unfold Dk.writeD
  by_cases hn : e = []
  · subst hn; rw [if_pos (.inr rfl)]; rfl
  · rw [if_neg (by simp [h0, hn])]
    have hf3 : Dk.new.file 3 = [] := rfl
    have hz : (0 : Int).toNat = 0 := rfl
    have h3 : (3 : Int).toNat = 3 := rfl
    rw [hz, h3, hf3, put_nil, Dk.flush_idle rfl, if_neg (fun h => h rfl), if_neg (by show ¬ 0 < 0; omega), h3]
    have hg : Dk.file { Dk.new with files := Dk.new.files.set 3 e, queue := Dk.new.queue ++ pieces 3 e.length 0 e } 3 = e := rfl
    rw [hg]
    simp only [Dk.settle, base]
    rw [List.set_set]
    congr 1
    exact pieces_filter
theorem w2 (hn : n.length ≤ 50000) : (base e).write 4 0 n = pend e n := by
  have h0 : (base e).writeE 4 0 n = 0 := by
    unfold Dk.writeE
    rw [show (base e).may [4] = 0 from rfl, if_neg (by simp), if_neg (by omega), if_neg (by omega)]
  rw [Dk.write_idle rfl]
  unfold Dk.writeD
  by_cases hn : n = []
  · subst hn; rw [if_pos (.inr rfl)]; rfl
  · rw [if_neg (by simp [h0, hn])]
    have h4 : (base e).file (4 : Int).toNat = [] := rfl
    have hz : (0 : Int).toNat = 0 := rfl
    rw [h4, hz, put_nil]; rfl
theorem f2 : (pend e n).flush 4 = two e n := by
  rw [Dk.flush_idle rfl, if_neg (fun h => h rfl), if_neg (by show ¬ 0 < 0; omega)]
  have hg : (pend e n).file (4 : Int).toNat = n := rfl
  rw [hg, show (4 : Int).toNat = 4 from rfl]
  simp only [Dk.settle, pend, two]
  rw [List.set_set]
  congr 1
  exact pieces_filter
theorem tr0 : (base e).turnR 3 4 = 0 := rfl
theorem t0 : (base e).turn 3 4 = Dk.new := by
  show ((base e).settle 3 ((base e).last 4)).settle 4 [] = _
  have : (base e).last 4 = [] := rfl
  rw [this]
  simp only [Dk.settle, base, List.set_set]; rfl
theorem pends : (pend e n).pends 4 = !decide (n = []) := by
  unfold Dk.pends
  show ((pieces 4 n.length 0 n).any fun p => decide ((p.file : Int) = 4)) = _
  by_cases hn : n = []
  · subst hn; rfl
  · have hq := pieces_ne (f := 4) (a := 0) hn (Nat.le_refl _)
    rw [show (!decide (n = [])) = true by simp [hn], List.any_eq_true]
    obtain ⟨p, q, hp⟩ := List.exists_cons_of_ne_nil hq
    refine ⟨p, by rw [hp]; simp, ?_⟩
    have := pieces_file 4 n.length 0 n p (by rw [hp]; simp)
    simp [this]
theorem tr1 : (pend e n).turnR 3 4 = if n = [] then 0 else 7 := by
  rw [Dk.turnR_idle rfl]
  rw [show (pend e n).may [3, 4] = 0 from rfl, if_neg (by simp), if_neg (by omega), pends]
  by_cases hn : n = [] <;> simp [hn]
theorem t1 (hn : n ≠ []) : (pend e n).turn 3 4 = pend e n := by
  rw [Dk.turn_idle rfl]
  rw [show (pend e n).may [3, 4] = 0 from rfl, if_neg (by simp), if_neg (by omega), pends, if_pos (by simp [hn])]
theorem pend_nil : pend e [] = base e := rfl
theorem tr2 : (two e n).turnR 3 4 = 0 := rfl
theorem t2 : (two e n).turn 3 4 = base n := by
  show ((two e n).settle 3 ((two e n).last 4)).settle 4 [] = _
  have : (two e n).last 4 = n := rfl
  rw [this]; rfl
/-- after the crash -/
theorem end_base (ks : List Int) : ((base e).crash ks).start = base e := rfl
theorem end_new (ks : List Int) : (Dk.new.crash ks).start = Dk.new := rfl
theorem end_pend (ks : List Int) : (((pend e n).crash ks).start).read 3 = e ∧ (((pend e n).crash ks).start).may [3] = 0 ∧ (((pend e n).crash ks).start).size 4 ≤ n.length := by
  have hd : (pend e n).down = false := rfl
  have e1 : ((pend e n).crash ks).start = ⟨survs (Dk.new.lasts.set 3 e) (pieces 4 n.length 0 n) ks, survs (Dk.new.lasts.set 3 e) (pieces 4 n.length 0 n) ks, [], 0, false, 0, []⟩ := rfl
  rw [e1]
  refine ⟨?_, rfl, ?_⟩
  · show (survs (Dk.new.lasts.set 3 e) (pieces 4 n.length 0 n) ks).getD 3 [] = e
    rw [survs_other _ _ _ fun p hp => by rw [pieces_file _ _ _ _ p hp]; omega]
    rfl
  · show ((survs (Dk.new.lasts.set 3 e) (pieces 4 n.length 0 n) ks).getD 4 []).length ≤ n.length
    refine survs_le _ _ _ (by show ([] : Bytes).length ≤ _; simp) fun p hp _ => ?_
    have := pieces_bound _ _ _ _ p hp; omega
end Turns
end Go.Proofs.Y

/- DO: the walk of Copy, and two disks side by side. -/
namespace Go.Proofs.Y
open Go Go.HL Go.Proofs

theorem St.frame {S : FP} {w w' w'' : World} {p : Nat} {d : Dk} {T : Nat → Prop} (h : St S w w' p d) (m : Mod T w' w'') (hd : ∀ k, h.foot.R k → ¬ T k) (hT : ∀ k, k < w.heap.size → T k → S.W k) : St S w w'' p d :=
  ⟨h.foot, h.dr.mod m hd, h.footR, h.footW, h.mod.trans m hT⟩

theorem St.join {S : FP} {w w0 w' w'' : World} {p : Nat} {d : Dk} {T : Nat → Prop} (m0 : Mod none' w w0) (h : St S w0 w' p d) (m : Mod T w' w'') (hd : ∀ k, h.foot.R k → ¬ T k) (hT : ∀ k, k < w.heap.size → T k → S.W k) : St S w w'' p d := by
  have hs := m0.size
  exact ⟨h.foot, h.dr.mod m hd, fun k hk => (h.footR k hk).imp id fun h => by omega, fun k hk => (h.footW k hk).imp id fun h => by omega, ((m0.mono (T := S.W) fun _ _ h => h.elim).trans h.mod fun _ _ h => h).trans m hT⟩

/-- what a copy shares -/
def FPc (S : FP) : FP := ⟨none', fun k => S.R k ∧ ¬ S.W k⟩

section
variable {w : World} {next : Value → World → Prop} {QP : List PanicEntry → World → Prop}

theorem sl_nil : Sl w (.slice none 0 0) 1 0 (ints []) := (Own.nil w 3 1).sl

theorem clonep_ {v : Value} {q : List Pd} {n : Nat} (hn' : q.length = n) (hl : Sl w v 3 n (rows Pd.cells q)) (hn : n ≤ 1000000000000) (k : ∀ v' w', Own w' v' 91 3 n (rows Pd.cells q) → Mod none' w w' → (∀ k, v'.ownBlock = some k → w.heap.size ≤ k) → next v' w') :
    callvK Try.prog (.func (.func 72) #[] #[]) [v] w next QP := by
  refine r72 rfl ?_
  obtain ⟨a, c, rfl, hc, hcell⟩ := hl.form
  unfold h72
  try simp only [go_sem, ↓reduceIte, Nat.reduceEqDiff, Nat.reduceAdd, Nat.reduceLT, List.length_cons, List.length_nil, List.getElem?_cons_zero, List.getElem?_cons_succ, Nat.mul_one, Bool.true_eq_false, Bool.false_eq_true, false_implies, true_implies, Bool.not_true, Bool.not_false, decide_true, decide_false, Int.reduceToNat, Int.cast_ofNat_Int, Int.reduceLT, Int.reduceLE, Int.reduceEq, Int.reduceNeg, eq_self, Option.isNone_some, Option.isNone_none, Bool.bne_false, Bool.bne_true]
  refine ⟨fun ha => ?_, fun ha => ?_⟩
  · have hn0 : n = 0 := by
      rcases Nat.eq_zero_or_pos n with h | h
      · exact h
      · obtain ⟨b, o, rfl, _⟩ := hcell h
        simp at ha
    subst hn0
    obtain rfl : q = [] := List.eq_nil_of_length_eq_zero hn'
    exact k _ _ (Own.nil _ _ _) (Mod.refl _ _) (fun k hk => by cases hk)
  · unfold h72_1
    try simp only [go_sem, ↓reduceIte, Nat.reduceEqDiff, Nat.reduceAdd, Nat.reduceLT, List.length_cons, List.length_nil, List.getElem?_cons_zero, List.getElem?_cons_succ, Nat.mul_one, Bool.true_eq_false, Bool.false_eq_true, false_implies, true_implies, Bool.not_true, Bool.not_false, decide_true, decide_false, Int.reduceToNat, Int.cast_ofNat_Int, Int.reduceLT, Int.reduceLE, Int.reduceEq, Int.reduceNeg, eq_self, Option.isNone_some, Option.isNone_none, Bool.bne_false, Bool.bne_true]
    refine bsl0 sl84 ?_
    intro b w1 hbb own1 m1 sz1
    try simp only [go_sem, ↓reduceIte, Nat.reduceEqDiff, Nat.reduceAdd, Nat.reduceLT, List.length_cons, List.length_nil, List.getElem?_cons_zero, List.getElem?_cons_succ, Nat.mul_one, Bool.true_eq_false, Bool.false_eq_true, false_implies, true_implies, Bool.not_true, Bool.not_false, decide_true, decide_false, Int.reduceToNat, Int.cast_ofNat_Int, Int.reduceLT, Int.reduceLE, Int.reduceEq, Int.reduceNeg, eq_self, Option.isNone_some, Option.isNone_none, Bool.bne_false, Bool.bne_true]
    refine append_ sl84 (n := 0) (m := n) own1 (hl.mod m1 fun k _ h => h) ?_ (by omega) (by unfold maxLen; omega) ?_
    · intro u hu
      simp only [rows, List.mem_flatMap] at hu
      obtain ⟨x, -, hx⟩ := hu
      simp [Pd.cells] at hx; rcases hx with rfl | rfl | rfl <;> rfl
    intro v' w2 own2 m2 hb2 _
    try simp only [go_sem, ↓reduceIte, Nat.reduceEqDiff, Nat.reduceAdd, Nat.reduceLT, List.length_cons, List.length_nil, List.getElem?_cons_zero, List.getElem?_cons_succ, Nat.mul_one, Bool.true_eq_false, Bool.false_eq_true, false_implies, true_implies, Bool.not_true, Bool.not_false, decide_true, decide_false, Int.reduceToNat, Int.cast_ofNat_Int, Int.reduceLT, Int.reduceLE, Int.reduceEq, Int.reduceNeg, eq_self, Option.isNone_some, Option.isNone_none, Bool.bne_false, Bool.bne_true]
    simp only [Nat.zero_add, List.nil_append] at own2
    refine k _ _ own2 (m1.trans m2 fun i hi hS => ?_) ?_
    · simp only [ownS, Value.ownBlock, Option.some.injEq] at hS; omega
    · intro k hk
      rcases hb2 k hk with h | h
      · simp only [Value.ownBlock, Option.some.injEq] at h; omega
      · omega

theorem copyd_ {p : Nat} {d : Dk} {S : FP} (h : DR w p d S) (hqn : d.queue.length ≤ 1000000000000) (k : ∀ p' w', St (FPc S) w w' p' d → next (ptr p') w') :
    callvK Try.prog (.func (.func 34) #[] #[]) [ptr p] w next QP := by
  refine r34 rfl ?_
  have ok := h.ok
  obtain ⟨qv, kv, hb, hq, hk, h1, h2, c24, c25, c26, c27, c28⟩ := h.parts
  have hld := hb.loadN (o := 0) (n := 29) (by rw [cells_len ok.nl ok.nf]; omega)
  have hsome := hb.some (o := 0) (n := 29) (by rw [cells_len ok.nl ok.nf]; omega)
  rw [List.drop_zero, List.take_of_length_le (by rw [cells_len ok.nl ok.nf]; omega)] at hld
  simp only [e_add, Nat.zero_add] at hsome
  unfold h34
  try simp only [go_sem, ↓reduceIte, Nat.reduceEqDiff, Nat.reduceAdd, Nat.reduceLT, List.length_cons, List.length_nil, List.getElem?_cons_zero, List.getElem?_cons_succ, Nat.mul_one, Bool.true_eq_false, Bool.false_eq_true, false_implies, true_implies, Bool.not_true, Bool.not_false, decide_true, decide_false, Int.reduceToNat, Int.cast_ofNat_Int, Int.reduceLT, Int.reduceLE, Int.reduceEq, Int.reduceNeg, eq_self, Option.isNone_some, Option.isNone_none, Bool.bne_false, Bool.bne_true, hld]
  refine ⟨hsome, ?_⟩
  refine alloc_ (z := .agg (Dk.new.cells (.slice none 0 0) (.slice none 0 0)).toArray) (cs := Dk.new.cells (.slice none 0 0) (.slice none 0 0)) (by kernel_rfl) rfl ?_
  intro p' w1 hp' hb1 m1 hsz1
  have hone : ∀ u ∈ d.cells qv kv, u.oneCell' = true := by
    obtain ⟨qa, qc, rfl, -⟩ := hq.form
    obtain ⟨ka, kc, rfl, -⟩ := hk.form
    intro u hu
    simp only [Dk.cells, List.mem_append, List.mem_map, List.mem_cons, List.not_mem_nil, or_false] at hu
    rcases hu with ⟨s, -, rfl⟩ | ⟨s, -, rfl⟩ | rfl | rfl | rfl | rfl | rfl <;> rfl
  refine storeN (n := 29) (by kernel_rfl) (cells_len ok.nl ok.nf) hb1 (by rw [cells_len rfl rfl]; omega) hone ?_
  intro w2 hb2 m2 hsz2
  have hd0 : (Dk.new.cells (.slice none 0 0) (.slice none 0 0)).drop (0 + 29) = [] := rfl
  rw [hd0, List.take_zero, List.nil_append, List.append_nil] at hb2
  have m12 : Mod none' w w2 := m1.trans m2 fun k hk (e : k = p') => by omega
  have c24' : w2.cell? ⟨p, 24, none⟩ = some qv := m12.cell c24 fun h => h
  try simp only [go_sem, ↓reduceIte, Nat.reduceEqDiff, Nat.reduceAdd, Nat.reduceLT, List.length_cons, List.length_nil, List.getElem?_cons_zero, List.getElem?_cons_succ, Nat.mul_one, Bool.true_eq_false, Bool.false_eq_true, false_implies, true_implies, Bool.not_true, Bool.not_false, decide_true, decide_false, Int.reduceToNat, Int.cast_ofNat_Int, Int.reduceLT, Int.reduceLE, Int.reduceEq, Int.reduceNeg, eq_self, Option.isNone_some, Option.isNone_none, Bool.bne_false, Bool.bne_true, c24']
  refine clonep_ rfl (hq.sl.mod m12 fun _ _ h => h) hqn ?_
  intro v' w3 own3 m3 hfr
  try simp only [go_sem, ↓reduceIte, Nat.reduceEqDiff, Nat.reduceAdd, Nat.reduceLT, List.length_cons, List.length_nil, List.getElem?_cons_zero, List.getElem?_cons_succ, Nat.mul_one, Bool.true_eq_false, Bool.false_eq_true, false_implies, true_implies, Bool.not_true, Bool.not_false, decide_true, decide_false, Int.reduceToNat, Int.cast_ofNat_Int, Int.reduceLT, Int.reduceLE, Int.reduceEq, Int.reduceNeg, eq_self, Option.isNone_some, Option.isNone_none, Bool.bne_false, Bool.bne_true]
  have hb3 := hb2.mod m3 fun h => h
  obtain ⟨av, cv, rfl, -⟩ := own3.form
  refine store1 sz84 hb3 (by rw [cells_len ok.nl ok.nf]; omega) rfl ?_
  intro w4 hb4 m4 hsz4
  have hcs : (d.cells qv kv).set 24 (.slice av d.queue.length cv) = d.cells (.slice av d.queue.length cv) kv := by
    rw [show 24 = 24 + 0 from rfl, cells_set_tail ok.nl ok.nf]; rfl
  rw [hcs] at hb4
  have s3 := m3.size
  have s4 := m4.size
  have s12 := m12.size
  have mm : Mod none' w w4 := (m12.trans' m3).trans m4 fun k hk (e : k = p') => by omega
  unfold h34_1
  try simp only [go_sem, ↓reduceIte, Nat.reduceEqDiff, Nat.reduceAdd, Nat.reduceLT, List.length_cons, List.length_nil, List.getElem?_cons_zero, List.getElem?_cons_succ, Nat.mul_one, Bool.true_eq_false, Bool.false_eq_true, false_implies, true_implies, Bool.not_true, Bool.not_false, decide_true, decide_false, Int.reduceToNat, Int.cast_ofNat_Int, Int.reduceLT, Int.reduceLE, Int.reduceEq, Int.reduceNeg, eq_self, Option.isNone_some, Option.isNone_none, Bool.bne_false, Bool.bne_true]
  have hlt := own3.lt
  refine k p' w4 ⟨⟨fun k => w.heap.size ≤ k ∧ k < w4.heap.size, fun k => (S.R k ∧ ¬ S.W k) ∨ (w.heap.size ≤ k ∧ k < w4.heap.size)⟩, ⟨ok, ⟨_, kv, hb4, own3.mod m4 fun k hk (e : k = p') => ?_, hk.mod' mm fun _ _ _ h => h, fun k hk => ⟨?_, ?_⟩, fun hn k hk => ⟨.inl (h2 hn k hk), fun hW => ?_⟩⟩, ⟨by omega, by omega⟩, fun k hk => .inr hk, ?_⟩, fun k hk => hk.imp id fun h => h.1, fun k hk => .inr hk.1, mm⟩
  · have := hfr k hk; omega
  · have := hfr k hk; omega
  · have := hlt k hk; omega
  · have := h.lt k (h2 hn k hk).1; omega
  · intro k hk
    rcases hk with hk | hk
    · have := h.lt k hk.1; have := mm.size; omega
    · exact hk.2
end
end Go.Proofs.Y

/- JE: the log in memory; Open. -/
namespace Go.Proofs.Y
open Go Go.HL Go.Proofs

structure Lg where
  rows : List Bytes
  sure : Nat
  end_ : Nat

structure LG (w : World) (q p f : Nat) (L : Lg) (S : Nat → Prop) : Prop where
  inv : ∃ rv, Blk w q 102 [ptr p, .int .i64 f, rv, .int .i64 L.sure, .int .i64 L.end_] ∧ Own w rv 9 1 L.rows.length (L.rows.map str) ∧ (∀ k, rv.ownBlock = some k → S k)
  self : S q
  lt : ∀ k, S k → k < w.heap.size
  bd : L.end_ ≤ 16777216
  rb : L.rows.length * 16 + 16 ≤ L.end_

theorem splitB_len : ∀ (n : Nat) (s : Bytes) (l : List Bytes), s.length ≤ n → splitB s = some l → l.length * 16 ≤ s.length
  | 0, s, l, hn, h => by
    obtain rfl : s = [] := List.eq_nil_of_length_eq_zero (by omega)
    rw [splitB] at h; simp at h; subst h; simp
  | n + 1, s, l, hn, h => by
    rw [splitB] at h
    by_cases h0 : s = []
    · rw [dif_pos h0] at h; simp at h; subst h; simp
    rw [dif_neg h0] at h
    by_cases h1 : s.length < 16
    · rw [dif_pos h1] at h; cases h
    rw [dif_neg h1] at h
    split at h
    · cases h
    split at h
    · cases h
    obtain ⟨l', h2, rfl⟩ := Option.map_eq_some_iff.1 h
    have := splitB_len n _ l' (by simp; omega) h2
    simp at this ⊢; omega

theorem LG.mod {w w' : World} {q p f : Nat} {L : Lg} {S T : Nat → Prop} (h : LG w q p f L S) (m : Mod T w w') (hd : ∀ k, S k → ¬ T k) : LG w' q p f L S := by
  obtain ⟨⟨rv, hb, ho, h1⟩, hs, hl, b1, b2⟩ := h
  exact ⟨⟨rv, hb.mod m (hd _ hs), ho.mod m fun k hk => hd _ (h1 k hk), h1⟩, hs, fun k hk => Nat.lt_of_lt_of_le (hl k hk) m.size, b1, b2⟩
theorem LG.mod0 {w w' : World} {q p f : Nat} {L : Lg} {S : Nat → Prop} (h : LG w q p f L S) (m : Mod none' w w') : LG w' q p f L S := h.mod m fun _ _ h => h
theorem LG.parts {w : World} {q p f : Nat} {L : Lg} {S : Nat → Prop} (h : LG w q p f L S) : ∃ rv, Blk w q 102 [ptr p, .int .i64 f, rv, .int .i64 L.sure, .int .i64 L.end_] ∧ Own w rv 9 1 L.rows.length (L.rows.map str) ∧ (∀ k, rv.ownBlock = some k → S k ∧ k ≠ q) ∧
    w.cell? ⟨q, 0, none⟩ = some (ptr p) ∧ w.cell? ⟨q, 1, none⟩ = some (.int .i64 f) ∧ w.cell? ⟨q, 2, none⟩ = some rv ∧ w.cell? ⟨q, 3, none⟩ = some (.int .i64 L.sure) ∧ w.cell? ⟨q, 4, none⟩ = some (.int .i64 L.end_) := by
  obtain ⟨⟨rv, hb, ho, h1⟩, hs, hl, -, -⟩ := h
  refine ⟨rv, hb, ho, fun k hk => ⟨h1 k hk, ?_⟩, hb.cell 0, hb.cell 1, hb.cell 2, hb.cell 3, hb.cell 4⟩
  rintro rfl; exact own_neb ho hb (by decide) hk

def openB (s : Bytes) : Option Lg :=
  if s.length < 16 ∨ val s = 0 then some ⟨[], 0, 16⟩
  else if val s < 16 ∨ (s.length : Int) < val s then none
  else match splitB ((s.take (val s).toNat).drop 16) with
    | none => none
    | some l => if (l.length : Int) = val (s.drop 8) then some ⟨l, l.length, (val s).toNat⟩ else none

def openE (d : Dk) (f : Int) : Int := if f < 0 ∨ 6 < f then 1 else if d.may [f] ≠ 0 then d.may [f] else if (openB (d.file f.toNat)).isNone then 2 else 0

theorem sz3' : szOf Try.prog 3 = some 1 := by kernel_rfl

section
variable {w : World} {next : Value → World → Prop} {QP : List PanicEntry → World → Prop}

theorem open_ {p : Nat} {d : Dk} {F : FP} (h : DR w p d F) {f : Int}
    (kn : ∀ w', Mod none' w w' → openE d f ≠ 0 → next (.tuple #[.pointer none, .int .i64 (openE d f)]) w')
    (ks : ∀ (g : Nat) (L : Lg), f = g → g ≤ 6 → d.may [f] = 0 → openB (d.file g) = some L → ∀ q w' S, LG w' q p g L S → (∀ k, S k → w.heap.size ≤ k) → Mod none' w w' → next (.tuple #[ptr q, .int .i64 0]) w') :
    callvK Try.prog (.func (.func 44) #[] #[]) [ptr p, .int .i64 f] w next QP := by
  refine r44 rfl ?_
  have ef : (if decide (f < 0) = true then true else decide (6 < f)) = decide (f < 0 ∨ 6 < f) := by by_cases h : f < 0 <;> simp [h]
  unfold h44
  try simp only [go_sem, ↓reduceIte, Nat.reduceEqDiff, Nat.reduceAdd, Nat.reduceLT, List.length_cons, List.length_nil, List.getElem?_cons_zero, List.getElem?_cons_succ, Nat.mul_one, Bool.true_eq_false, Bool.false_eq_true, false_implies, true_implies, Bool.not_true, Bool.not_false, decide_true, decide_false, Int.reduceToNat, Int.cast_ofNat_Int, Int.reduceLT, Int.reduceLE, Int.reduceEq, Int.reduceNeg, eq_self, Option.isNone_some, Option.isNone_none, Bool.bne_false, Bool.bne_true, ef]
  refine ⟨fun hf => ?_, fun hf => ?_⟩
  · have hf : f < 0 ∨ 6 < f := by simpa using hf
    have := kn w (Mod.refl _ _)
    simp only [openE, if_pos hf] at this
    exact this (by decide)
  have hf : ¬ (f < 0 ∨ 6 < f) := by simpa using hf
  obtain ⟨g, rfl⟩ := Int.eq_ofNat_of_zero_le (show 0 ≤ f by omega)
  unfold h44_1
  try simp only [go_sem, ↓reduceIte, Nat.reduceEqDiff, Nat.reduceAdd, Nat.reduceLT, List.length_cons, List.length_nil, List.getElem?_cons_zero, List.getElem?_cons_succ, Nat.mul_one, Bool.true_eq_false, Bool.false_eq_true, false_implies, true_implies, Bool.not_true, Bool.not_false, decide_true, decide_false, Int.reduceToNat, Int.cast_ofNat_Int, Int.reduceLT, Int.reduceLE, Int.reduceEq, Int.reduceNeg, eq_self, Option.isNone_some, Option.isNone_none, Bool.bne_false, Bool.bne_true]
  refine read_ h g ?_
  intro w1 h1 m1
  try simp only [go_sem, ↓reduceIte, Nat.reduceEqDiff, Nat.reduceAdd, Nat.reduceLT, List.length_cons, List.length_nil, List.getElem?_cons_zero, List.getElem?_cons_succ, Nat.mul_one, Bool.true_eq_false, Bool.false_eq_true, false_implies, true_implies, Bool.not_true, Bool.not_false, decide_true, decide_false, Int.reduceToNat, Int.cast_ofNat_Int, Int.reduceLT, Int.reduceLE, Int.reduceEq, Int.reduceNeg, eq_self, Option.isNone_some, Option.isNone_none, Bool.bne_false, Bool.bne_true]
  refine ⟨fun hm => ?_, fun hm => ?_⟩
  · have hm : ¬ d.may [(g : Int)] = 0 := by simpa using hm
    have := kn w1 m1
    simp only [openE, if_neg hf, if_pos hm] at this
    exact this hm
  have hm : d.may [(g : Int)] = 0 := by simpa using hm
  have hne : ¬ (d.may [(g : Int)] ≠ 0) := fun h => h hm
  have hr : d.read g = d.file g := by simp only [Dk.read, if_neg hne, Int.toNat_natCast]
  rw [hr]
  have kn' : ∀ w', Mod none' w w' → openB (d.file g) = none → next (.tuple #[.pointer none, .int .i64 2]) w' := by
    intro w' m hn
    have := kn w' m
    simp only [openE, if_neg hf, if_neg hne, Int.toNat_natCast, hn, Option.isNone_none, if_true] at this
    exact this (by decide)
  have hfl : (d.file g).length ≤ 16777216 := by
    by_cases hg : g < 12
    · have : d.file g = d.files[g]'(by rw [h.ok.nf]; exact hg) := by simp [Dk.file, h.ok.nf, hg]
      rw [this]; exact h.ok.bf _ (List.getElem_mem _)
    · omega
  have ks' := fun (L : Lg) => ks g L rfl (by omega) hm
  clear ks kn
  generalize hsd : d.file g = s at *
  unfold h44_2
  try simp only [go_sem, ↓reduceIte, Nat.reduceEqDiff, Nat.reduceAdd, Nat.reduceLT, List.length_cons, List.length_nil, List.getElem?_cons_zero, List.getElem?_cons_succ, Nat.mul_one, Bool.true_eq_false, Bool.false_eq_true, false_implies, true_implies, Bool.not_true, Bool.not_false, decide_true, decide_false, Int.reduceToNat, Int.cast_ofNat_Int, Int.reduceLT, Int.reduceLE, Int.reduceEq, Int.reduceNeg, eq_self, Option.isNone_some, Option.isNone_none, Bool.bne_false, Bool.bne_true]
  refine ⟨by omega, by simp, by simp, ?_⟩
  refine box_ (cs := [ptr p, .int .i64 g, .slice none 0 0, .int .i64 0, .int .i64 16]) rfl ?_
  intro q w2 hq blk2 m2 hs2
  have m12 := m1.trans' m2
  have hs12 := m1.size
  have fin0 : ∀ w', Mod none' w w' → Blk w' q 102 [ptr p, .int .i64 g, .slice none 0 0, .int .i64 0, .int .i64 16] → (s.length < 16 ∨ val s = 0) → next (.tuple #[ptr q, .int .i64 0]) w' := by
    intro w' m hb hc
    refine ks' ⟨[], 0, 16⟩ (by rw [openB, if_pos hc]) q w' (fun k => k = q) ⟨⟨_, hb, Own.nil _ _ _, fun k hk => (nomatch (hk : none = some k))⟩, rfl, fun k hk => hk ▸ hb.lt, by simp, by simp⟩ (fun k hk => by omega) m
  try simp only [go_sem, ↓reduceIte, Nat.reduceEqDiff, Nat.reduceAdd, Nat.reduceLT, List.length_cons, List.length_nil, List.getElem?_cons_zero, List.getElem?_cons_succ, Nat.mul_one, Bool.true_eq_false, Bool.false_eq_true, false_implies, true_implies, Bool.not_true, Bool.not_false, decide_true, decide_false, Int.reduceToNat, Int.cast_ofNat_Int, Int.reduceLT, Int.reduceLE, Int.reduceEq, Int.reduceNeg, eq_self, Option.isNone_some, Option.isNone_none, Bool.bne_false, Bool.bne_true]
  by_cases h16 : s.length < 16
  · have hd : decide ((s.length : Int) < 16) = true := by simpa using by omega
    try simp only [go_sem, ↓reduceIte, Nat.reduceEqDiff, Nat.reduceAdd, Nat.reduceLT, List.length_cons, List.length_nil, List.getElem?_cons_zero, List.getElem?_cons_succ, Nat.mul_one, Bool.true_eq_false, Bool.false_eq_true, false_implies, true_implies, Bool.not_true, Bool.not_false, decide_true, decide_false, Int.reduceToNat, Int.cast_ofNat_Int, Int.reduceLT, Int.reduceLE, Int.reduceEq, Int.reduceNeg, eq_self, Option.isNone_some, Option.isNone_none, Bool.bne_false, Bool.bne_true, hd]
    exact fin0 _ m12 blk2 (.inl h16)
  have hd : decide ((s.length : Int) < 16) = false := by simpa using by omega
  try simp only [go_sem, ↓reduceIte, Nat.reduceEqDiff, Nat.reduceAdd, Nat.reduceLT, List.length_cons, List.length_nil, List.getElem?_cons_zero, List.getElem?_cons_succ, Nat.mul_one, Bool.true_eq_false, Bool.false_eq_true, false_implies, true_implies, Bool.not_true, Bool.not_false, decide_true, decide_false, Int.reduceToNat, Int.cast_ofNat_Int, Int.reduceLT, Int.reduceLE, Int.reduceEq, Int.reduceNeg, eq_self, Option.isNone_some, Option.isNone_none, Bool.bne_false, Bool.bne_true, hd]
  refine value_ s (by omega) ?_
  try simp only [go_sem, ↓reduceIte, Nat.reduceEqDiff, Nat.reduceAdd, Nat.reduceLT, List.length_cons, List.length_nil, List.getElem?_cons_zero, List.getElem?_cons_succ, Nat.mul_one, Bool.true_eq_false, Bool.false_eq_true, false_implies, true_implies, Bool.not_true, Bool.not_false, decide_true, decide_false, Int.reduceToNat, Int.cast_ofNat_Int, Int.reduceLT, Int.reduceLE, Int.reduceEq, Int.reduceNeg, eq_self, Option.isNone_some, Option.isNone_none, Bool.bne_false, Bool.bne_true, hd]
  refine ⟨fun h0 => ?_, fun h0 => ?_⟩
  · have h0 : val s = 0 := by simpa using h0
    exact fin0 _ m12 blk2 (.inr h0)
  have h0 : ¬ val s = 0 := by simpa using h0
  have hob : openB s = if val s < 16 ∨ (s.length : Int) < val s then none
      else match splitB ((s.take (val s).toNat).drop 16) with
        | none => none
        | some l => if (l.length : Int) = val (s.drop 8) then some ⟨l, l.length, (val s).toNat⟩ else none := by
    rw [openB, if_neg (by omega)]
  unfold h44_3
  try simp only [go_sem, ↓reduceIte, Nat.reduceEqDiff, Nat.reduceAdd, Nat.reduceLT, List.length_cons, List.length_nil, List.getElem?_cons_zero, List.getElem?_cons_succ, Nat.mul_one, Bool.true_eq_false, Bool.false_eq_true, false_implies, true_implies, Bool.not_true, Bool.not_false, decide_true, decide_false, Int.reduceToNat, Int.cast_ofNat_Int, Int.reduceLT, Int.reduceLE, Int.reduceEq, Int.reduceNeg, eq_self, Option.isNone_some, Option.isNone_none, Bool.bne_false, Bool.bne_true]
  refine value_ s (by omega) ?_
  refine store1 sz3 blk2 (by simp) rfl ?_
  intro w3 blk3 m3 hs3
  have m13 : Mod none' w w3 := m12.trans m3 fun k hk (e : k = q) => by omega
  have blk3 : Blk w3 q 102 [ptr p, .int .i64 g, .slice none 0 0, .int .i64 0, .int .i64 (val s)] := by simpa using blk3
  have c4 : w3.cell? ⟨q, 4, none⟩ = some (.int .i64 (val s)) := blk3.cell 4
  have ec : (if decide (val s < 16) = true then true else decide ((s.length : Int) < val s)) = decide (val s < 16 ∨ (s.length : Int) < val s) := by
    by_cases h : val s < 16 <;> simp [h]
  try simp only [go_sem, ↓reduceIte, Nat.reduceEqDiff, Nat.reduceAdd, Nat.reduceLT, List.length_cons, List.length_nil, List.getElem?_cons_zero, List.getElem?_cons_succ, Nat.mul_one, Bool.true_eq_false, Bool.false_eq_true, false_implies, true_implies, Bool.not_true, Bool.not_false, decide_true, decide_false, Int.reduceToNat, Int.cast_ofNat_Int, Int.reduceLT, Int.reduceLE, Int.reduceEq, Int.reduceNeg, eq_self, Option.isNone_some, Option.isNone_none, Bool.bne_false, Bool.bne_true, c4, ec]
  refine ⟨fun hb => ?_, fun hb => ?_⟩
  · have hb : val s < 16 ∨ (s.length : Int) < val s := by simpa using hb
    exact kn' _ m13 (by rw [hob, if_pos hb])
  have hb : ¬ (val s < 16 ∨ (s.length : Int) < val s) := by simpa using hb
  rw [if_neg hb] at hob
  obtain ⟨x, hx⟩ := Int.eq_ofNat_of_zero_le (show 0 ≤ val s by omega)
  rw [hx] at hob hb c4 blk3
  simp only [Int.toNat_natCast] at hob
  have hxl : ((s.take x).drop 16).length = x - 16 := by rw [List.length_drop, List.length_take]; omega
  unfold h44_4
  try simp only [go_sem, ↓reduceIte, Nat.reduceEqDiff, Nat.reduceAdd, Nat.reduceLT, List.length_cons, List.length_nil, List.getElem?_cons_zero, List.getElem?_cons_succ, Nat.mul_one, Bool.true_eq_false, Bool.false_eq_true, false_implies, true_implies, Bool.not_true, Bool.not_false, decide_true, decide_false, Int.reduceToNat, Int.cast_ofNat_Int, Int.reduceLT, Int.reduceLE, Int.reduceEq, Int.reduceNeg, eq_self, Option.isNone_some, Option.isNone_none, Bool.bne_false, Bool.bne_true, c4, hx]
  have e16 : (16 : Int).toNat = 16 := rfl
  have edt : (s.drop 16).take (x - 16) = (s.take x).drop 16 := by rw [List.drop_take]
  rw [edt]
  refine ⟨⟨⟨by omega, by omega⟩, by omega⟩, ?_⟩
  refine split_ (by omega) (fun hn w4 m4 => ?_) (fun l hl v w4 m4 own4 hn4 => ?_)
  · try simp only [go_sem, ↓reduceIte, Nat.reduceEqDiff, Nat.reduceAdd, Nat.reduceLT, List.length_cons, List.length_nil, List.getElem?_cons_zero, List.getElem?_cons_succ, Nat.mul_one, Bool.true_eq_false, Bool.false_eq_true, false_implies, true_implies, Bool.not_true, Bool.not_false, decide_true, decide_false, Int.reduceToNat, Int.cast_ofNat_Int, Int.reduceLT, Int.reduceLE, Int.reduceEq, Int.reduceNeg, eq_self, Option.isNone_some, Option.isNone_none, Bool.bne_false, Bool.bne_true]
    refine kn' _ (m13.trans' m4) ?_
    rw [hob, hn]
  · obtain ⟨va, vc, rfl, -, -⟩ := own4.form
    rw [hl] at hob
    simp only at hob
    try simp only [go_sem, ↓reduceIte, Nat.reduceEqDiff, Nat.reduceAdd, Nat.reduceLT, List.length_cons, List.length_nil, List.getElem?_cons_zero, List.getElem?_cons_succ, Nat.mul_one, Bool.true_eq_false, Bool.false_eq_true, false_implies, true_implies, Bool.not_true, Bool.not_false, decide_true, decide_false, Int.reduceToNat, Int.cast_ofNat_Int, Int.reduceLT, Int.reduceLE, Int.reduceEq, Int.reduceNeg, eq_self, Option.isNone_some, Option.isNone_none, Bool.bne_false, Bool.bne_true]
    refine ⟨by omega, ?_⟩
    refine value_ (s.drop 8) (by rw [List.length_drop]; omega) ?_
    try simp only [go_sem, ↓reduceIte, Nat.reduceEqDiff, Nat.reduceAdd, Nat.reduceLT, List.length_cons, List.length_nil, List.getElem?_cons_zero, List.getElem?_cons_succ, Nat.mul_one, Bool.true_eq_false, Bool.false_eq_true, false_implies, true_implies, Bool.not_true, Bool.not_false, decide_true, decide_false, Int.reduceToNat, Int.cast_ofNat_Int, Int.reduceLT, Int.reduceLE, Int.reduceEq, Int.reduceNeg, eq_self, Option.isNone_some, Option.isNone_none, Bool.bne_false, Bool.bne_true]
    refine ⟨fun hc => ?_, fun hc => ?_⟩
    · have hc : ¬ (l.length : Int) = val (s.drop 8) := by simpa using hc
      exact kn' _ (m13.trans' m4) (by rw [hob, if_neg hc])
    · have hc : (l.length : Int) = val (s.drop 8) := by simpa using hc
      rw [if_pos hc] at hob
      unfold h44_5
      try simp only [go_sem, ↓reduceIte, Nat.reduceEqDiff, Nat.reduceAdd, Nat.reduceLT, List.length_cons, List.length_nil, List.getElem?_cons_zero, List.getElem?_cons_succ, Nat.mul_one, Bool.true_eq_false, Bool.false_eq_true, false_implies, true_implies, Bool.not_true, Bool.not_false, decide_true, decide_false, Int.reduceToNat, Int.cast_ofNat_Int, Int.reduceLT, Int.reduceLE, Int.reduceEq, Int.reduceNeg, eq_self, Option.isNone_some, Option.isNone_none, Bool.bne_false, Bool.bne_true]
      have blk4 := blk3.mod m4 fun h => h
      refine store1 sz40 blk4 (by simp) rfl ?_
      intro w5 blk5 m5 hs5
      try simp only [go_sem, ↓reduceIte, Nat.reduceEqDiff, Nat.reduceAdd, Nat.reduceLT, List.length_cons, List.length_nil, List.getElem?_cons_zero, List.getElem?_cons_succ, Nat.mul_one, Bool.true_eq_false, Bool.false_eq_true, false_implies, true_implies, Bool.not_true, Bool.not_false, decide_true, decide_false, Int.reduceToNat, Int.cast_ofNat_Int, Int.reduceLT, Int.reduceLE, Int.reduceEq, Int.reduceNeg, eq_self, Option.isNone_some, Option.isNone_none, Bool.bne_false, Bool.bne_true]
      refine store1 sz3 blk5 (by simp) rfl ?_
      intro w6 blk6 m6 hs6
      try simp only [go_sem, ↓reduceIte, Nat.reduceEqDiff, Nat.reduceAdd, Nat.reduceLT, List.length_cons, List.length_nil, List.getElem?_cons_zero, List.getElem?_cons_succ, Nat.mul_one, Bool.true_eq_false, Bool.false_eq_true, false_implies, true_implies, Bool.not_true, Bool.not_false, decide_true, decide_false, Int.reduceToNat, Int.cast_ofNat_Int, Int.reduceLT, Int.reduceLE, Int.reduceEq, Int.reduceNeg, eq_self, Option.isNone_some, Option.isNone_none, Bool.bne_false, Bool.bne_true]
      have m56 : Mod (fun k => k = q) w4 w6 := m5.trans' m6
      have m14 := m13.trans' m4
      have hs14 := m14.size
      have hs13 := m13.size
      have hvq : ∀ k, (Value.slice va l.length vc).ownBlock = some k → k ≠ q := by
        intro k hk e
        have := hn4 k hk
        have := blk3.lt
        omega
      refine ks' _ hob q w6 (fun k => k = q ∨ (Value.slice va l.length vc).ownBlock = some k) ⟨⟨.slice va l.length vc, by simpa using blk6, own4.mod m56 fun k hk (e : k = q) => hvq k hk e, fun k hk => .inr hk⟩, .inl rfl, ?_, by simp only; omega, by have := splitB_len _ _ _ (Nat.le_refl _) hl; simp only; omega⟩ ?_ (m14.trans m56 fun k hk (e : k = q) => by omega)
      · rintro k (rfl | hk)
        · exact blk6.lt
        · have := own4.lt k hk; omega
      · rintro k (rfl | hk)
        · omega
        · have := hn4 k hk; omega
end
end Go.Proofs.Y
