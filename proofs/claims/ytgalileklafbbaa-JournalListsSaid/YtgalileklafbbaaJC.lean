/- JC: the walks of the journal's codec. -/
import Derived.Test.YtgalileklafbbaaJA
import Derived.Test.YtgalileklafbbaaDJ
import Derived.Test.YtgalileklafbbaaYJ
import Derived.Test.YtgalileklafbbaaHLO
set_option linter.unusedSimpArgs false
set_option linter.unusedVariables false
set_option maxRecDepth 100000
namespace Go.Proofs.Y
open Go Go.HL Go.Proofs
theorem u36 : Try.prog.underlying 36 = some (.slice 5) := by kernel_rfl
theorem u9 : Try.prog.underlying 9 = some .string := by kernel_rfl
theorem u5 : Try.prog.underlying 5 = some (.int .u8) := by kernel_rfl
theorem sz5 : szOf Try.prog 5 = some 1 := by kernel_rfl
theorem sl40 : SlTy Try.prog 40 9 1 16 (str []) := ⟨by kernel_rfl, by kernel_rfl, rfl, by decide⟩

section
variable {w : World} {next : Value → World → Prop} {QP : List PanicEntry → World → Prop}

theorem shr1_32 {a : Nat} (ha : a < 4294967296) : ((a : Int).fdiv (2 ^ min 1 32)) = ((a / 2 : Nat) : Int) := by
  have : (2 : Int) ^ (min 1 32) = 2 := by decide
  rw [this, Int.fdiv_eq_ediv_of_nonneg _ (by decide)]; rfl

theorem crc_ (s : List UInt8) (hs : s.length ≤ 1000000000000) (k : next (.int .i64 (crc s : Nat)) w) : callvK Try.prog (.func (.func 106) #[] #[]) [str s] w next QP := by
  refine r106 rfl ?_
  unfold h106
  try simp only [go_sem, ↓reduceIte, Nat.reduceEqDiff, Nat.reduceAdd, Nat.reduceLT, List.length_cons, List.length_nil, List.getElem?_cons_zero, List.getElem?_cons_succ, Nat.mul_one, Bool.true_eq_false, Bool.false_eq_true, false_implies, true_implies, Bool.not_true, Bool.not_false, decide_true, decide_false, Int.reduceToNat, Int.cast_ofNat_Int, Int.reduceLT, Int.reduceLE, Int.reduceEq, Int.reduceNeg, eq_self, Option.isNone_some, Option.isNone_none, Bool.bne_false, Bool.bne_true]
  refine loopN s.length (fun i τ w' => w' = w ∧ τ 0 = str s ∧ τ 3 = .int .u32 (crcFold 4294967295 (s.take i) : Nat) ∧ τ 7 = .int .i64 s.length ∧ τ 8 = .int .i64 i) ⟨0, by omega, rfl, rfl, rfl, rfl, rfl⟩ ?_
  rintro i τ w1 hi ⟨rfl, t0, t3, t7, t8⟩
  unfold h106_1
  try simp only [go_sem, ↓reduceIte, Nat.reduceEqDiff, Nat.reduceAdd, Nat.reduceLT, List.length_cons, List.length_nil, List.getElem?_cons_zero, List.getElem?_cons_succ, Nat.mul_one, Bool.true_eq_false, Bool.false_eq_true, false_implies, true_implies, Bool.not_true, Bool.not_false, decide_true, decide_false, Int.reduceToNat, Int.cast_ofNat_Int, Int.reduceLT, Int.reduceLE, Int.reduceEq, Int.reduceNeg, eq_self, Option.isNone_some, Option.isNone_none, Bool.bne_false, Bool.bne_true, t0, t3, t7, t8]
  refine ⟨fun hlt => ?_, fun hge => ?_⟩
  · have hil : i < s.length := by
      have : (i : Int) < s.length := by simpa using hlt
      omega
    have hx := crcFold_lt (s.take i) 4294967295 (by decide)
    have hb := (s[i]).toNat_lt
    have hxb := xor_byte hx s[i]
    have hw1 : IntKind.u32.wrap ((s[i]).toNat : Int) = ((s[i]).toNat : Int) := by rw [wrap_u32]; omega
    unfold h106_2
    try simp only [go_sem, ↓reduceIte, Nat.reduceEqDiff, Nat.reduceAdd, Nat.reduceLT, List.length_cons, List.length_nil, List.getElem?_cons_zero, List.getElem?_cons_succ, Nat.mul_one, Bool.true_eq_false, Bool.false_eq_true, false_implies, true_implies, Bool.not_true, Bool.not_false, decide_true, decide_false, Int.reduceToNat, Int.cast_ofNat_Int, Int.reduceLT, Int.reduceLE, Int.reduceEq, Int.reduceNeg, eq_self, Option.isNone_some, Option.isNone_none, Bool.bne_false, Bool.bne_true, t0, t3, t7, t8]
    repeat refine ⟨⟨by omega, by omega⟩, ?_⟩
    have hidx : s[i]?.getD 0 = s[i] := by simp [hil]
    rw [hidx, hw1, xor32 hx (by omega)]
    try simp only [go_sem, ↓reduceIte, Nat.reduceEqDiff, Nat.reduceAdd, Nat.reduceLT, List.length_cons, List.length_nil, List.getElem?_cons_zero, List.getElem?_cons_succ, Nat.mul_one, Bool.true_eq_false, Bool.false_eq_true, false_implies, true_implies, Bool.not_true, Bool.not_false, decide_true, decide_false, Int.reduceToNat, Int.cast_ofNat_Int, Int.reduceLT, Int.reduceLE, Int.reduceEq, Int.reduceNeg, eq_self, Option.isNone_some, Option.isNone_none, Bool.bne_false, Bool.bne_true, t0, t3, t7, t8]
    refine loopN 8 (fun j τ w' => w' = w1 ∧ τ 0 = str s ∧ τ 3 = .int .u32 (crcIt j (crcFold 4294967295 (s.take i) ^^^ (s[i]).toNat) : Nat) ∧ τ 7 = .int .i64 s.length ∧ τ 8 = .int .i64 i ∧ τ 17 = .int .i64 j) ⟨0, by omega, rfl, t0, rfl, t7, t8, rfl⟩ ?_
    rintro j τ w2 hj ⟨rfl, t0, t3, t7, t8, t17⟩
    unfold h106_3
    try simp only [go_sem, ↓reduceIte, Nat.reduceEqDiff, Nat.reduceAdd, Nat.reduceLT, List.length_cons, List.length_nil, List.getElem?_cons_zero, List.getElem?_cons_succ, Nat.mul_one, Bool.true_eq_false, Bool.false_eq_true, false_implies, true_implies, Bool.not_true, Bool.not_false, decide_true, decide_false, Int.reduceToNat, Int.cast_ofNat_Int, Int.reduceLT, Int.reduceLE, Int.reduceEq, Int.reduceNeg, eq_self, Option.isNone_some, Option.isNone_none, Bool.bne_false, Bool.bne_true, t0, t3, t7, t8, t17]
    refine ⟨fun hlt8 => ?_, fun hge8 => ?_⟩
    · have hj8 : j < 8 := by
        have : (j : Int) < 8 := by simpa using hlt8
        omega
      have hy := crcIt_lt j _ hxb
      have hst := crcIt_succ j (crcFold 4294967295 (s.take i) ^^^ (s[i]).toNat)
      generalize hyd : crcIt j (crcFold 4294967295 (s.take i) ^^^ (s[i]).toNat) = y at *
      unfold h106_4
      try simp only [go_sem, ↓reduceIte, Nat.reduceEqDiff, Nat.reduceAdd, Nat.reduceLT, List.length_cons, List.length_nil, List.getElem?_cons_zero, List.getElem?_cons_succ, Nat.mul_one, Bool.true_eq_false, Bool.false_eq_true, false_implies, true_implies, Bool.not_true, Bool.not_false, decide_true, decide_false, Int.reduceToNat, Int.cast_ofNat_Int, Int.reduceLT, Int.reduceLE, Int.reduceEq, Int.reduceNeg, eq_self, Option.isNone_some, Option.isNone_none, Bool.bne_false, Bool.bne_true, t0, t3, t7, t8, t17, and1_32 hy, shr1_32 hy]
      refine ⟨fun ho => ?_, fun ho => ?_⟩
      · have ho : y % 2 = 1 := by
          have : ((y % 2 : Nat) : Int) = 1 := by simpa using ho
          omega
        have hs1 : crcStep y = (y / 2) ^^^ 3988292384 := by simp [crcStep, ho]
        have hx32 := xor32 (a := y / 2) (b := 3988292384) (by omega) (by omega)
        rw [show ((3988292384 : Nat) : Int) = 3988292384 from rfl] at hx32
        unfold h106_5
        try simp only [go_sem, ↓reduceIte, Nat.reduceEqDiff, Nat.reduceAdd, Nat.reduceLT, List.length_cons, List.length_nil, List.getElem?_cons_zero, List.getElem?_cons_succ, Nat.mul_one, Bool.true_eq_false, Bool.false_eq_true, false_implies, true_implies, Bool.not_true, Bool.not_false, decide_true, decide_false, Int.reduceToNat, Int.cast_ofNat_Int, Int.reduceLT, Int.reduceLE, Int.reduceEq, Int.reduceNeg, eq_self, Option.isNone_some, Option.isNone_none, Bool.bne_false, Bool.bne_true, t0, t3, t7, t8, t17, hx32]
        rw [w64 (by omega) (by omega)]
        exact ⟨j + 1, by omega, by omega, by rw [hst, hs1], rfl⟩
      · have ho : ¬ y % 2 = 1 := by
          have : ¬ ((y % 2 : Nat) : Int) = 1 := by simpa using ho
          omega
        have hs1 : crcStep y = y / 2 := by simp [crcStep, ho]
        unfold h106_5
        try simp only [go_sem, ↓reduceIte, Nat.reduceEqDiff, Nat.reduceAdd, Nat.reduceLT, List.length_cons, List.length_nil, List.getElem?_cons_zero, List.getElem?_cons_succ, Nat.mul_one, Bool.true_eq_false, Bool.false_eq_true, false_implies, true_implies, Bool.not_true, Bool.not_false, decide_true, decide_false, Int.reduceToNat, Int.cast_ofNat_Int, Int.reduceLT, Int.reduceLE, Int.reduceEq, Int.reduceNeg, eq_self, Option.isNone_some, Option.isNone_none, Bool.bne_false, Bool.bne_true, t0, t3, t7, t8, t17]
        rw [w64 (by omega) (by omega)]
        exact ⟨j + 1, by omega, by omega, by rw [hst, hs1], rfl⟩
    · have hj8 : j = 8 := by
        have : ¬ (j : Int) < 8 := by simpa using hge8
        omega
      subst hj8
      unfold h106_6
      try simp only [go_sem, ↓reduceIte, Nat.reduceEqDiff, Nat.reduceAdd, Nat.reduceLT, List.length_cons, List.length_nil, List.getElem?_cons_zero, List.getElem?_cons_succ, Nat.mul_one, Bool.true_eq_false, Bool.false_eq_true, false_implies, true_implies, Bool.not_true, Bool.not_false, decide_true, decide_false, Int.reduceToNat, Int.cast_ofNat_Int, Int.reduceLT, Int.reduceLE, Int.reduceEq, Int.reduceNeg, eq_self, Option.isNone_some, Option.isNone_none, Bool.bne_false, Bool.bne_true, t0, t3, t7, t8]
      rw [w64 (by omega) (by omega)]
      refine ⟨i + 1, by omega, by omega, ?_, rfl⟩
      rw [List.take_succ_eq_append_getElem hil]
      simp only [crcFold, List.foldl_append, List.foldl_cons, List.foldl_nil]
  · have hio : i = s.length := by
      have : ¬ (i : Int) < s.length := by simpa using hge
      omega
    subst hio
    rw [List.take_length] at t3
    have hl := crcFold_lt s 4294967295 (by decide)
    have hnot : v1 w1 .xor (.int .u32 (crcFold 4294967295 s : Nat)) = .int .u32 (crc s : Nat) := by
      have h1 : v1 w1 .xor (.int .u32 (crcFold 4294967295 s : Nat)) = .int .u32 (IntKind.u32.wrap (BitVec.ofInt 32 4294967295 ^^^ BitVec.ofInt 32 (crcFold 4294967295 s : Nat)).toNat) := rfl
      rw [h1]
      congr 1
      have h2 : (BitVec.ofInt 32 4294967295 ^^^ BitVec.ofInt 32 (crcFold 4294967295 s : Nat)).toNat = 4294967295 - crcFold 4294967295 s := by
        have h3 : BitVec.ofInt 32 4294967295 = BitVec.allOnes 32 := by decide
        rw [h3, BitVec.allOnes_xor, BitVec.toNat_not, bv_nat (show _ < 2 ^ 32 by omega)]
      rw [h2, wrap_u32]
      unfold crc; omega
    have hc := crc_lt s
    unfold h106_7
    try simp only [go_sem, ↓reduceIte, Nat.reduceEqDiff, Nat.reduceAdd, Nat.reduceLT, List.length_cons, List.length_nil, List.getElem?_cons_zero, List.getElem?_cons_succ, Nat.mul_one, Bool.true_eq_false, Bool.false_eq_true, false_implies, true_implies, Bool.not_true, Bool.not_false, decide_true, decide_false, Int.reduceToNat, Int.cast_ofNat_Int, Int.reduceLT, Int.reduceLE, Int.reduceEq, Int.reduceNeg, eq_self, Option.isNone_some, Option.isNone_none, Bool.bne_false, Bool.bne_true, t3, hnot]
    rw [w64 (by omega) (by omega)]
    exact ⟨trivial, k⟩

theorem shr_byte (n : Int) {i : Nat} (hi : i < 8) : IntKind.u8.wrap (n.fdiv (2 ^ (min (8 * i) 64))) = (byteOf n i).toNat := by
  rw [byteOf_nat, wrap_u8]
  have h1 : min (8 * i) 64 = 8 * i := by omega
  rw [h1, Int.fdiv_eq_ediv_of_nonneg _ (by exact Int.le_of_lt (Int.pow_pos (by decide))), Int.pow_mul]
  rfl

theorem number_ (n : Int) (k : ∀ w', Mod none' w w' → next (str (num n)) w') : callvK Try.prog (.func (.func 108) #[] #[]) [.int .i64 n] w next QP := by
  refine r108 rfl ?_
  unfold h108
  try simp only [go_sem, ↓reduceIte, Nat.reduceEqDiff, Nat.reduceAdd, Nat.reduceLT, List.length_cons, List.length_nil, List.getElem?_cons_zero, List.getElem?_cons_succ, Nat.mul_one, Bool.true_eq_false, Bool.false_eq_true, false_implies, true_implies, Bool.not_true, Bool.not_false, decide_true, decide_false, Int.reduceToNat, Int.cast_ofNat_Int, Int.reduceLT, Int.reduceLE, Int.reduceEq, Int.reduceNeg, eq_self, Option.isNone_some, Option.isNone_none, Bool.bne_false, Bool.bne_true]
  refine msl1 sl36 rfl 8 rfl (by omega) (by unfold maxLen; omega) ?_
  intro b w1 hb own1 blk1 m1 hs1
  try simp only [go_sem, ↓reduceIte, Nat.reduceEqDiff, Nat.reduceAdd, Nat.reduceLT, List.length_cons, List.length_nil, List.getElem?_cons_zero, List.getElem?_cons_succ, Nat.mul_one, Bool.true_eq_false, Bool.false_eq_true, false_implies, true_implies, Bool.not_true, Bool.not_false, decide_true, decide_false, Int.reduceToNat, Int.cast_ofNat_Int, Int.reduceLT, Int.reduceLE, Int.reduceEq, Int.reduceNeg, eq_self, Option.isNone_some, Option.isNone_none, Bool.bne_false, Bool.bne_true]
  refine loopN 8 (fun i τ w' => τ 0 = .int .i64 n ∧ τ 3 = .slice (some ⟨b, 0, none⟩) 8 8 ∧ τ 7 = .int .i64 8 ∧ τ 8 = .int .i64 i ∧ Mod none' w w' ∧ Blk w' b 5 (bys ((num n).take i ++ List.replicate (8 - i) 0))) ⟨0, by omega, rfl, rfl, rfl, rfl, m1, by simpa [bys] using blk1⟩ ?_
  rintro i τ w2 hi ⟨t0, t3, t7, t8, m2, blk2⟩
  unfold h108_1
  try simp only [go_sem, ↓reduceIte, Nat.reduceEqDiff, Nat.reduceAdd, Nat.reduceLT, List.length_cons, List.length_nil, List.getElem?_cons_zero, List.getElem?_cons_succ, Nat.mul_one, Bool.true_eq_false, Bool.false_eq_true, false_implies, true_implies, Bool.not_true, Bool.not_false, decide_true, decide_false, Int.reduceToNat, Int.cast_ofNat_Int, Int.reduceLT, Int.reduceLE, Int.reduceEq, Int.reduceNeg, eq_self, Option.isNone_some, Option.isNone_none, Bool.bne_false, Bool.bne_true, t0, t3, t7, t8]
  refine ⟨fun hlt => ?_, fun hge => ?_⟩
  · have hi8 : i < 8 := by
      have : (i : Int) < 8 := by simpa using hlt
      omega
    unfold h108_2
    try simp only [go_sem, ↓reduceIte, Nat.reduceEqDiff, Nat.reduceAdd, Nat.reduceLT, List.length_cons, List.length_nil, List.getElem?_cons_zero, List.getElem?_cons_succ, Nat.mul_one, Bool.true_eq_false, Bool.false_eq_true, false_implies, true_implies, Bool.not_true, Bool.not_false, decide_true, decide_false, Int.reduceToNat, Int.cast_ofNat_Int, Int.reduceLT, Int.reduceLE, Int.reduceEq, Int.reduceNeg, eq_self, Option.isNone_some, Option.isNone_none, Bool.bne_false, Bool.bne_true, t0, t3, t7, t8]
    have e1 : IntKind.i64.wrap (8 * (i : Int)) = ((8 * i : Nat) : Int) := by rw [w64 (by omega) (by omega)]; omega
    simp only [e1, Int.toNat_natCast, shr_byte n hi8]
    refine ⟨by omega, ⟨by omega, by omega⟩, ?_⟩
    have hl : (bys ((num n).take i ++ List.replicate (8 - i) 0)).length = 8 := by rw [bys_len, List.length_append, List.length_take, num_len, List.length_replicate]; omega
    refine store1 sz5 blk2 (by rw [hl]; omega) rfl ?_
    intro w3 blk3 m3 hs3
    unfold h108_3
    try simp only [go_sem, ↓reduceIte, Nat.reduceEqDiff, Nat.reduceAdd, Nat.reduceLT, List.length_cons, List.length_nil, List.getElem?_cons_zero, List.getElem?_cons_succ, Nat.mul_one, Bool.true_eq_false, Bool.false_eq_true, false_implies, true_implies, Bool.not_true, Bool.not_false, decide_true, decide_false, Int.reduceToNat, Int.cast_ofNat_Int, Int.reduceLT, Int.reduceLE, Int.reduceEq, Int.reduceNeg, eq_self, Option.isNone_some, Option.isNone_none, Bool.bne_false, Bool.bne_true, t0, t3, t7, t8]
    rw [w64 (by omega) (by omega)]
    refine ⟨i + 1, by omega, by omega, rfl, m2.trans m3 fun k hk (e : k = b) => by omega, ?_⟩
    have e2 : (num n).take (i + 1) = (num n).take i ++ [byteOf n i] := by
      rw [List.take_succ_eq_append_getElem (by rw [num_len]; exact hi8)]
      simp [num]
    have e3 : List.replicate (8 - i) (0 : UInt8) = 0 :: List.replicate (8 - (i + 1)) 0 := by
      rw [show 8 - i = (8 - (i + 1)) + 1 by omega, List.replicate_succ]
    have e4 : (bys ((num n).take i ++ List.replicate (8 - i) 0)).set i (.int .u8 (byteOf n i).toNat) = bys ((num n).take (i + 1) ++ List.replicate (8 - (i + 1)) 0) := by
      have hti : (bys ((num n).take i)).length = i := by rw [bys_len, List.length_take, num_len]; omega
      rw [e2, e3]
      simp only [bys, List.map_append, List.map_cons, List.map_nil] at hti ⊢
      rw [List.set_append_right _ _ (by omega), hti, Nat.sub_self, List.set_cons_zero]
      simp
    rw [← e4]; exact blk3
  · have hi8 : i = 8 := by
      have : ¬ (i : Int) < 8 := by simpa using hge
      omega
    subst hi8
    unfold h108_4
    try simp only [go_sem, ↓reduceIte, Nat.reduceEqDiff, Nat.reduceAdd, Nat.reduceLT, List.length_cons, List.length_nil, List.getElem?_cons_zero, List.getElem?_cons_succ, Nat.mul_one, Bool.true_eq_false, Bool.false_eq_true, false_implies, true_implies, Bool.not_true, Bool.not_false, decide_true, decide_false, Int.reduceToNat, Int.cast_ofNat_Int, Int.reduceLT, Int.reduceLE, Int.reduceEq, Int.reduceNeg, eq_self, Option.isNone_some, Option.isNone_none, Bool.bne_false, Bool.bne_true, t3]
    have e5 : (num n).take 8 ++ List.replicate (8 - 8) 0 = num n := by
      rw [List.take_of_length_le (by rw [num_len]; omega)]; simp
    rw [e5] at blk2
    refine b2s u36 u9 u5 (n := 8) (l := num n) ⟨by rw [bys_len, num_len], _, _, rfl, by omega, fun _ => ⟨b, 0, rfl, fun j hj => by rw [Nat.zero_add, blk2.cell]⟩⟩ ?_
    try simp only [go_sem, ↓reduceIte, Nat.reduceEqDiff, Nat.reduceAdd, Nat.reduceLT, List.length_cons, List.length_nil, List.getElem?_cons_zero, List.getElem?_cons_succ, Nat.mul_one, Bool.true_eq_false, Bool.false_eq_true, false_implies, true_implies, Bool.not_true, Bool.not_false, decide_true, decide_false, Int.reduceToNat, Int.cast_ofNat_Int, Int.reduceLT, Int.reduceLE, Int.reduceEq, Int.reduceNeg, eq_self, Option.isNone_some, Option.isNone_none, Bool.bne_false, Bool.bne_true]
    exact k _ m2

theorem value_ (s : List UInt8) (hs : 8 ≤ s.length) (k : next (.int .i64 (val s)) w) : callvK Try.prog (.func (.func 80) #[] #[]) [str s] w next QP := by
  refine r80 rfl ?_
  unfold h80
  try simp only [go_sem, ↓reduceIte, Nat.reduceEqDiff, Nat.reduceAdd, Nat.reduceLT, List.length_cons, List.length_nil, List.getElem?_cons_zero, List.getElem?_cons_succ, Nat.mul_one, Bool.true_eq_false, Bool.false_eq_true, false_implies, true_implies, Bool.not_true, Bool.not_false, decide_true, decide_false, Int.reduceToNat, Int.cast_ofNat_Int, Int.reduceLT, Int.reduceLE, Int.reduceEq, Int.reduceNeg, eq_self, Option.isNone_some, Option.isNone_none, Bool.bne_false, Bool.bne_true]
  refine loopN 8 (fun i τ w' => w' = w ∧ τ 0 = str s ∧ τ 3 = .int .i64 (valFrom s i) ∧ τ 4 = .int .i64 (7 - i)) ⟨0, by omega, rfl, rfl, rfl, rfl⟩ ?_
  rintro i τ w1 hi ⟨rfl, t0, t3, t4⟩
  unfold h80_1
  try simp only [go_sem, ↓reduceIte, Nat.reduceEqDiff, Nat.reduceAdd, Nat.reduceLT, List.length_cons, List.length_nil, List.getElem?_cons_zero, List.getElem?_cons_succ, Nat.mul_one, Bool.true_eq_false, Bool.false_eq_true, false_implies, true_implies, Bool.not_true, Bool.not_false, decide_true, decide_false, Int.reduceToNat, Int.cast_ofNat_Int, Int.reduceLT, Int.reduceLE, Int.reduceEq, Int.reduceNeg, eq_self, Option.isNone_some, Option.isNone_none, Bool.bne_false, Bool.bne_true, t0, t3, t4]
  refine ⟨fun hge => ?_, fun hlt => ?_⟩
  · have hi8 : i < 8 := by
      have : (0 : Int) ≤ 7 - i := by simpa using hge
      omega
    have e1 : (7 - (i : Int)) = ((7 - i : Nat) : Int) := by omega
    have hidx : s[7 - i]?.getD 0 = s[7 - i]'(by omega) := by rw [List.getElem?_eq_getElem (by omega)]; rfl
    have hb := (s[7 - i]'(by omega)).toNat_lt
    have hsh : (2 : Int) ^ (min 8 64) = 256 := by decide
    have hva : valAt s (7 - i) = (s[7 - i]'(by omega)).toNat := by simp only [valAt, hidx]
    unfold h80_2
    try simp only [go_sem, ↓reduceIte, Nat.reduceEqDiff, Nat.reduceAdd, Nat.reduceLT, List.length_cons, List.length_nil, List.getElem?_cons_zero, List.getElem?_cons_succ, Nat.mul_one, Bool.true_eq_false, Bool.false_eq_true, false_implies, true_implies, Bool.not_true, Bool.not_false, decide_true, decide_false, Int.reduceToNat, Int.cast_ofNat_Int, Int.reduceLT, Int.reduceLE, Int.reduceEq, Int.reduceNeg, eq_self, Option.isNone_some, Option.isNone_none, Bool.bne_false, Bool.bne_true, t0, t3, t4, e1, hidx, hsh]
    refine ⟨⟨by omega, by omega⟩, ?_⟩
    rw [w64 (x := ((s[7 - i]'(by omega)).toNat : Int)) (by omega) (by omega), or_byte _ _ (by omega)]
    have e9 : IntKind.i64.wrap (((7 - i : Nat) : Int) - 1) = 7 - ((i + 1 : Nat) : Int) := by rw [w64 (by omega) (by omega)]; omega
    unfold h80_3
    try simp only [go_sem, ↓reduceIte, Nat.reduceEqDiff, Nat.reduceAdd, Nat.reduceLT, List.length_cons, List.length_nil, List.getElem?_cons_zero, List.getElem?_cons_succ, Nat.mul_one, Bool.true_eq_false, Bool.false_eq_true, false_implies, true_implies, Bool.not_true, Bool.not_false, decide_true, decide_false, Int.reduceToNat, Int.cast_ofNat_Int, Int.reduceLT, Int.reduceLE, Int.reduceEq, Int.reduceNeg, eq_self, Option.isNone_some, Option.isNone_none, Bool.bne_false, Bool.bne_true, t0, t4, e1, e9]
    refine ⟨i + 1, by omega, by omega, ?_, rfl⟩
    show Value.int .i64 _ = Value.int .i64 (wr (valFrom s i * 256 + valAt s (7 - i)))
    rw [hva]; rfl
  · have hi8 : i = 8 := by
      have : ¬ (0 : Int) ≤ 7 - i := by simpa using hlt
      omega
    subst hi8
    unfold h80_4
    try simp only [go_sem, ↓reduceIte, Nat.reduceEqDiff, Nat.reduceAdd, Nat.reduceLT, List.length_cons, List.length_nil, List.getElem?_cons_zero, List.getElem?_cons_succ, Nat.mul_one, Bool.true_eq_false, Bool.false_eq_true, false_implies, true_implies, Bool.not_true, Bool.not_false, decide_true, decide_false, Int.reduceToNat, Int.cast_ofNat_Int, Int.reduceLT, Int.reduceLE, Int.reduceEq, Int.reduceNeg, eq_self, Option.isNone_some, Option.isNone_none, Bool.bne_false, Bool.bne_true, t3]
    exact k

def header (e m : Int) : List UInt8 := num e ++ num m
theorem header_len (e m : Int) : (header e m).length = 16 := by simp [header, num_len]
theorem header_ (e m : Int) (k : ∀ w', Mod none' w w' → next (str (header e m)) w') : callvK Try.prog (.func (.func 89) #[] #[]) [.int .i64 e, .int .i64 m] w next QP := by
  refine r89 rfl ?_
  unfold h89
  try simp only [go_sem, ↓reduceIte, Nat.reduceEqDiff, Nat.reduceAdd, Nat.reduceLT, List.length_cons, List.length_nil, List.getElem?_cons_zero, List.getElem?_cons_succ, Nat.mul_one, Bool.true_eq_false, Bool.false_eq_true, false_implies, true_implies, Bool.not_true, Bool.not_false, decide_true, decide_false, Int.reduceToNat, Int.cast_ofNat_Int, Int.reduceLT, Int.reduceLE, Int.reduceEq, Int.reduceNeg, eq_self, Option.isNone_some, Option.isNone_none, Bool.bne_false, Bool.bne_true]
  refine number_ e ?_
  intro w1 m1
  try simp only [go_sem, ↓reduceIte, Nat.reduceEqDiff, Nat.reduceAdd, Nat.reduceLT, List.length_cons, List.length_nil, List.getElem?_cons_zero, List.getElem?_cons_succ, Nat.mul_one, Bool.true_eq_false, Bool.false_eq_true, false_implies, true_implies, Bool.not_true, Bool.not_false, decide_true, decide_false, Int.reduceToNat, Int.cast_ofNat_Int, Int.reduceLT, Int.reduceLE, Int.reduceEq, Int.reduceNeg, eq_self, Option.isNone_some, Option.isNone_none, Bool.bne_false, Bool.bne_true]
  refine number_ m ?_
  intro w2 m2
  have h1 := num_len e
  have h2 := num_len m
  try simp only [go_sem, ↓reduceIte, Nat.reduceEqDiff, Nat.reduceAdd, Nat.reduceLT, List.length_cons, List.length_nil, List.getElem?_cons_zero, List.getElem?_cons_succ, Nat.mul_one, Bool.true_eq_false, Bool.false_eq_true, false_implies, true_implies, Bool.not_true, Bool.not_false, decide_true, decide_false, Int.reduceToNat, Int.cast_ofNat_Int, Int.reduceLT, Int.reduceLE, Int.reduceEq, Int.reduceNeg, eq_self, Option.isNone_some, Option.isNone_none, Bool.bne_false, Bool.bne_true]
  refine ⟨by omega, ?_⟩
  exact k _ (m1.trans' m2)

theorem sclone_ {v : Value} {l : List (List UInt8)} {n : Nat} (hl : Sl w v 1 n (l.map str)) (hn : n ≤ 1000000000000) (k : ∀ v' w', Own w' v' 9 1 n (l.map str) → Mod none' w w' → (∀ k, v'.ownBlock = some k → w.heap.size ≤ k) → next v' w') :
    callvK Try.prog (.func (.func 84) #[] #[]) [v] w next QP := by
  refine r84 rfl ?_
  obtain ⟨a, c, rfl, hc, hcell⟩ := hl.form
  unfold h84
  try simp only [go_sem, ↓reduceIte, Nat.reduceEqDiff, Nat.reduceAdd, Nat.reduceLT, List.length_cons, List.length_nil, List.getElem?_cons_zero, List.getElem?_cons_succ, Nat.mul_one, Bool.true_eq_false, Bool.false_eq_true, false_implies, true_implies, Bool.not_true, Bool.not_false, decide_true, decide_false, Int.reduceToNat, Int.cast_ofNat_Int, Int.reduceLT, Int.reduceLE, Int.reduceEq, Int.reduceNeg, eq_self, Option.isNone_some, Option.isNone_none, Bool.bne_false, Bool.bne_true]
  refine ⟨fun ha => ?_, fun ha => ?_⟩
  · have hn0 : n = 0 := by
      rcases Nat.eq_zero_or_pos n with h | h
      · exact h
      · obtain ⟨b, o, rfl, _⟩ := hcell h
        simp at ha
    subst hn0
    obtain rfl : l = [] := List.eq_nil_of_length_eq_zero (by have := hl.len; simpa using this)
    exact k _ _ (Own.nil _ _ _) (Mod.refl _ _) (fun k hk => by cases hk)
  · unfold h84_1
    try simp only [go_sem, ↓reduceIte, Nat.reduceEqDiff, Nat.reduceAdd, Nat.reduceLT, List.length_cons, List.length_nil, List.getElem?_cons_zero, List.getElem?_cons_succ, Nat.mul_one, Bool.true_eq_false, Bool.false_eq_true, false_implies, true_implies, Bool.not_true, Bool.not_false, decide_true, decide_false, Int.reduceToNat, Int.cast_ofNat_Int, Int.reduceLT, Int.reduceLE, Int.reduceEq, Int.reduceNeg, eq_self, Option.isNone_some, Option.isNone_none, Bool.bne_false, Bool.bne_true]
    refine bsl0 sl40 ?_
    intro b w1 hbb own1 m1 sz1
    try simp only [go_sem, ↓reduceIte, Nat.reduceEqDiff, Nat.reduceAdd, Nat.reduceLT, List.length_cons, List.length_nil, List.getElem?_cons_zero, List.getElem?_cons_succ, Nat.mul_one, Bool.true_eq_false, Bool.false_eq_true, false_implies, true_implies, Bool.not_true, Bool.not_false, decide_true, decide_false, Int.reduceToNat, Int.cast_ofNat_Int, Int.reduceLT, Int.reduceLE, Int.reduceEq, Int.reduceNeg, eq_self, Option.isNone_some, Option.isNone_none, Bool.bne_false, Bool.bne_true]
    refine append_ sl40 (n := 0) (m := n) own1 (hl.mod m1 fun k _ h => h) (by intro u hu; obtain ⟨x, -, rfl⟩ := List.mem_map.1 hu; rfl) (by omega) (by unfold maxLen; omega) ?_
    intro v' w2 own2 m2 hb2 _
    try simp only [go_sem, ↓reduceIte, Nat.reduceEqDiff, Nat.reduceAdd, Nat.reduceLT, List.length_cons, List.length_nil, List.getElem?_cons_zero, List.getElem?_cons_succ, Nat.mul_one, Bool.true_eq_false, Bool.false_eq_true, false_implies, true_implies, Bool.not_true, Bool.not_false, decide_true, decide_false, Int.reduceToNat, Int.cast_ofNat_Int, Int.reduceLT, Int.reduceLE, Int.reduceEq, Int.reduceNeg, eq_self, Option.isNone_some, Option.isNone_none, Bool.bne_false, Bool.bne_true]
    simp only [Nat.zero_add, List.nil_append] at own2
    refine k _ _ own2 (m1.trans m2 fun i hi hS => ?_) ?_
    · simp only [ownS, Value.ownBlock, Option.some.injEq] at hS; omega
    · intro k hk
      rcases hb2 k hk with h | h
      · simp only [Value.ownBlock, Option.some.injEq] at h; omega
      · omega
end
end Go.Proofs.Y
