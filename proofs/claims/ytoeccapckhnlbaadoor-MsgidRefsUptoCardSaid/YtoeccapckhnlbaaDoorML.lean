/- ML: msgid: digest.Sum. -/
import Derived.Test.YtoeccapckhnlbaaDoorHLN
import Derived.Test.YtoeccapckhnlbaaDoorHLT
import Derived.Test.YtoeccapckhnlbaaDoorHLO
import Derived.SliceStrings
import Derived.ChangeSlices
import Derived.WideShapes
set_option linter.unusedSimpArgs false
set_option linter.unusedVariables false
set_option maxRecDepth 100000
namespace Go.Proofs.Y
open Go Go.HL Go.Proofs

/-! ### numbers of 32 bits, as the model has them -/
def oI (a b : Int) : Int := IntKind.u32.wrap ((BitVec.ofInt 32 a ||| BitVec.ofInt 32 b).toNat)
def aI (a b : Int) : Int := IntKind.u32.wrap ((BitVec.ofInt 32 a &&& BitVec.ofInt 32 b).toNat)
def xI (a b : Int) : Int := IntKind.u32.wrap ((BitVec.ofInt 32 a ^^^ BitVec.ofInt 32 b).toNat)
def a64 (a b : Int) : Int := IntKind.u64.wrap ((BitVec.ofInt 64 a &&& BitVec.ofInt 64 b).toNat)
def nI (a : Int) : Int := IntKind.u32.wrap ((BitVec.ofInt 32 IntKind.u32.max ^^^ BitVec.ofInt 32 a).toNat)
theorem oV (a b : Int) : intV .or .u32 a b = .int .u32 (oI a b) := rfl
theorem aV (a b : Int) : intV .and .u32 a b = .int .u32 (aI a b) := rfl
theorem xV (a b : Int) : intV .xor .u32 a b = .int .u32 (xI a b) := rfl
theorem a64V (a b : Int) : intV .and .u64 a b = .int .u64 (a64 a b) := rfl
theorem nV (w : World) (a : Int) : v1 w .xor (.int .u32 a) = .int .u32 (nI a) := rfl
theorem nC (w : World) (a : Int) : c1 w .xor (.int .u32 a) = True := rfl
theorem a64_pos (a b : Int) : 0 ≤ a64 a b := by unfold a64; rw [wrap_u64]; omega
/-- x, turned -/
def rotI (x k : Int) : Int := oI (IntKind.u32.wrap (x * 2 ^ min (a64 (IntKind.u64.wrap k) 31).toNat 32)) (x.fdiv (2 ^ min (IntKind.u64.wrap (32 - a64 (IntKind.u64.wrap k) 31)).toNat 32))
abbrev u32 (x : Int) : Value := .int .u32 x

section
variable {w : World} {next : Value → World → Prop} {QP : List PanicEntry → World → Prop}
theorem rot_ (x k : Int) (kk : next (u32 (rotI x k)) w) : callvK Tryd.prog (.func (.func 62) #[] #[]) [u32 x, .int .i64 k] w next QP := by
  refine r62 rfl ?_
  unfold h62
  try simp only [go_sem, a64V, oV]
  have h := a64_pos (IntKind.u64.wrap k) 31
  exact ⟨h, kk⟩

/-! ### the schedule -/
def stepW (s : Bytes) (i k : Nat) (W : List Int) : List Int := W.set i (oI (IntKind.u32.wrap (W.getD i 0 * 2 ^ min 8 32)) (IntKind.u32.wrap (s[4 * i + k]?.getD 0).toNat))
def innW (s : Bytes) (i : Nat) : Nat → List Int → List Int
  | 0, W => W
  | k + 1, W => stepW s i k (innW s i k W)
def outW (s : Bytes) : Nat → List Int
  | 0 => List.replicate 64 0
  | i + 1 => innW s i 4 (outW s i)
def moreW (i : Nat) (W : List Int) : List Int :=
  W.set i (IntKind.u32.wrap (IntKind.u32.wrap (IntKind.u32.wrap (W.getD (i - 16) 0 + xI (xI (rotI (W.getD (i - 15) 0) (-7)) (rotI (W.getD (i - 15) 0) (-18))) ((W.getD (i - 15) 0).fdiv (2 ^ min 3 32))) + W.getD (i - 7) 0) +
    xI (xI (rotI (W.getD (i - 2) 0) (-17)) (rotI (W.getD (i - 2) 0) (-19))) ((W.getD (i - 2) 0).fdiv (2 ^ min 10 32))))
def schedN (s : Bytes) : Nat → List Int
  | 0 => outW s 16
  | j + 1 => moreW (16 + j) (schedN s j)
def schedB (s : Bytes) : List Int := schedN s 48
theorem stepW_len (s : Bytes) (i k : Nat) (W : List Int) : (stepW s i k W).length = W.length := by simp [stepW]
theorem innW_len (s : Bytes) (i : Nat) (W : List Int) : ∀ k, (innW s i k W).length = W.length
  | 0 => rfl
  | k + 1 => by rw [innW, stepW_len, innW_len s i W k]
theorem outW_len (s : Bytes) : ∀ i, (outW s i).length = 64
  | 0 => rfl
  | i + 1 => by rw [outW, innW_len, outW_len s i]
theorem schedN_len (s : Bytes) : ∀ j, (schedN s j).length = 64
  | 0 => outW_len s 16
  | j + 1 => by rw [schedN, moreW, List.length_set, schedN_len s j]

theorem wcell {b t : Nat} {W : List Int} (h : Blk w b t (W.map u32)) {i : Nat} (hi : i < W.length) : w.cell? ⟨b, i, none⟩ = some (u32 (W.getD i 0)) := by
  rw [h.cell i, List.getElem?_map, List.getD_eq_getElem?_getD, List.getElem?_eq_getElem hi]; rfl

theorem sz60 : szOf Tryd.prog 60 = some 1 := by kernel_rfl
theorem sz93 : szOf Tryd.prog 93 = some 64 := by kernel_rfl
theorem sz62 : szOf Tryd.prog 62 = some 8 := by kernel_rfl
theorem sched_ (s : Bytes) (hs : s.length = 64) (k : ∀ w', Mod none' w w' → next (.agg ((schedB s).map u32).toArray) w') : callvK Tryd.prog (.func (.func 61) #[] #[]) [str s] w next QP := by
  refine r61 rfl ?_
  unfold h61
  try simp only [go_sem]
  refine alloc_ (cs := List.replicate 64 (u32 0)) (z := .agg (List.replicate 64 (u32 0)).toArray) (by kernel_rfl) (by kernel_rfl) ?_
  intro b w1 hb blk1 m1 hs1
  try simp only [go_sem]
  refine loopN 16 (fun i τ w' => τ 0 = str s ∧ τ 2 = ptr b ∧ τ 10 = .int .i64 i ∧ Blk w' b 93 ((outW s i).map u32) ∧ Mod none' w w') ⟨0, by omega, rfl, rfl, rfl, by simpa [outW] using blk1, m1⟩ ?_
  rintro i τ w2 hi ⟨t0, t2, t10, blk2, m2⟩
  have s2 := m2.size
  unfold h61_1
  try simp only [go_sem, t0, t2, t10]
  refine ⟨fun hlt => ?_, fun hge => ?_⟩
  · have hil : i < 16 := by
      have : (i : Int) < 16 := by simpa using hlt
      omega
    unfold h61_2
    try simp only [go_sem, t0, t2, t10]
    refine loopN 4 (fun k τ w' => τ 0 = str s ∧ τ 2 = ptr b ∧ τ 3 = .int .i64 i ∧ τ 10 = .int .i64 i ∧ τ 13 = .int .i64 k ∧ Blk w' b 93 ((innW s i k (outW s i)).map u32) ∧ Mod none' w w') ⟨0, by omega, t0, t2, rfl, t10, rfl, blk2, m2⟩ ?_
    rintro k τ w3 hk ⟨t0, t2, t3, t10, t13, blk3, m3⟩
    unfold h61_3
    try simp only [go_sem, t0, t2, t3, t10, t13]
    refine ⟨fun hlt => ?_, fun hge => ?_⟩
    · have hkl : k < 4 := by
        have : (k : Int) < 4 := by simpa using hlt
        omega
      have hw3 : w3.drew.cell? ⟨b, i, none⟩ = _ := wcell blk3 (by rw [innW_len, outW_len]; omega)
      unfold h61_4
      try simp only [go_sem, t0, t2, t3, t10, t13, hw3]
      rw [w64 (x := 4 * (i : Int)) (by omega) (by omega), w64 (by omega) (by omega)]
      repeat refine ⟨⟨by omega, by omega⟩, ?_⟩
      rw [show (4 * (i : Int) + (k : Int)).toNat = 4 * i + k by omega, oV]
      refine store1 sz60 (blk3.drew) (by rw [List.length_map, innW_len, outW_len]; omega) rfl ?_
      intro w4 blk4 m4 hs4
      rw [← List.map_set] at blk4
      unfold h61_5
      try simp only [go_sem, t0, t2, t3, t10, t13]
      rw [w64 (by omega) (by omega)]
      exact ⟨k + 1, by omega, by omega, rfl, blk4, (m3.trans' (Mod.drew none' w3)).trans m4 fun q hq (h : q = b) => by omega⟩
    · have hio : k = 4 := by
        have : ¬ (k : Int) < 4 := by simpa using hge
        omega
      subst hio
      unfold h61_6
      try simp only [go_sem, t0, t2, t3, t10, t13]
      rw [w64 (by omega) (by omega)]
      exact ⟨i + 1, by omega, by omega, rfl, blk3, m3⟩
  · have hio : i = 16 := by
      have : ¬ (i : Int) < 16 := by simpa using hge
      omega
    subst hio
    unfold h61_7
    try simp only [go_sem, t0, t2, t10]
    refine loopN 48 (fun j τ w' => τ 2 = ptr b ∧ τ 5 = .int .i64 (16 + j : Nat) ∧ Blk w' b 93 ((schedN s j).map u32) ∧ Mod none' w w') ⟨0, by omega, t2, rfl, blk2, m2⟩ ?_
    clear blk2 m2 t0 t2 t10
    rintro j τ w3 hj ⟨t2, t5, blk3, m3⟩
    unfold h61_8
    try simp only [go_sem, t2, t5]
    refine ⟨fun hlt => ?_, fun hge => ?_⟩
    · have hjl : j < 48 := by
        have : (((16 + j : Nat) : Int)) < 64 := by simpa using hlt
        omega
      have hlen := schedN_len s j
      have hwc : ∀ q, q < 64 → w3.cell? ⟨b, q, none⟩ = some (u32 ((schedN s j).getD q 0)) := fun q hq => wcell blk3 (by rw [hlen]; exact hq)
      unfold h61_9
      try simp only [go_sem, t2, t5]
      rw [w64 (x := ((16 + j : Nat) : Int) - 15) (by omega) (by omega), w64 (x := ((16 + j : Nat) : Int) - 2) (by omega) (by omega)]
      rw [show ((((16 + j : Nat) : Int) - 15)).toNat = 16 + j - 15 by omega, show ((((16 + j : Nat) : Int) - 2)).toNat = 16 + j - 2 by omega, hwc _ (by omega), hwc _ (by omega)]
      try simp only [go_sem]
      repeat refine ⟨⟨by omega, by omega⟩, ?_⟩
      refine rot_ _ _ ?_
      try simp only [go_sem]
      refine rot_ _ _ ?_
      try simp only [go_sem, xV]
      refine rot_ _ _ ?_
      try simp only [go_sem]
      refine rot_ _ _ ?_
      try simp only [go_sem, xV]
      unfold h61_10
      try simp only [go_sem, t2, t5]
      rw [w64 (x := ((16 + j : Nat) : Int) - 16) (by omega) (by omega), w64 (x := ((16 + j : Nat) : Int) - 7) (by omega) (by omega)]
      rw [show ((((16 + j : Nat) : Int) - 16)).toNat = 16 + j - 16 by omega, show ((((16 + j : Nat) : Int) - 7)).toNat = 16 + j - 7 by omega, hwc _ (by omega), hwc _ (by omega)]
      try simp only [go_sem]
      repeat refine ⟨⟨by omega, by omega⟩, ?_⟩
      refine store1 sz60 (blk3.drew.drew) (by rw [List.length_map, hlen]; omega) rfl ?_
      intro w4 blk4 m4 hs4
      rw [← List.map_set] at blk4
      have s3 := m3.size
      unfold h61_11
      try simp only [go_sem, t2, t5]
      rw [w64 (by omega) (by omega)]
      refine ⟨j + 1, by omega, by omega, ?_, blk4, ((m3.trans' (Mod.drew none' w3)).trans' (Mod.drew none' _)).trans m4 fun q hq (h : q = b) => by omega⟩
      congr 1
    · have hio : j = 48 := by
        have : ¬ (((16 + j : Nat) : Int)) < 64 := by simpa using hge
        omega
      subst hio
      obtain ⟨H, hH⟩ : ∃ H, schedN s 48 = H := ⟨_, rfl⟩
      have hB : schedB s = H := hH
      have hl48 : H.length = 64 := by rw [← hH]; exact schedN_len s 48
      rw [hH] at blk3
      rw [hB] at k
      clear hH hB
      have e : loadN w3 ⟨b, 0, none⟩ 64 = (H.map u32).toArray := loadN_of (by rw [List.length_map]; exact hl48) fun j hj => by
        rw [e_add, Nat.zero_add]; exact blk3.cell j
      unfold h61_12
      try simp only [go_sem, t2, t5, e]
      refine ⟨fun i hi => by rw [wcell blk3 (by rw [hl48]; exact hi)]; rfl, ?_⟩
      refine storeN (n := 64) (vs := H.map u32) sz93 (by rw [List.length_map, hl48]) blk3 (by rw [List.length_map, hl48]; omega) (by intro v hv; obtain ⟨x, -, rfl⟩ := List.mem_map.1 hv; rfl) ?_
      intro w4 blk4 m4 hs4
      have e4 : (H.map u32).take 0 ++ H.map u32 ++ (H.map u32).drop (0 + 64) = H.map u32 := by
        rw [List.take_zero, List.nil_append, List.drop_of_length_le (by rw [List.length_map, hl48]; omega), List.append_nil]
      rw [e4] at blk4
      have e5 : loadN w4 ⟨b, 0, none⟩ 64 = (H.map u32).toArray := loadN_of (by rw [List.length_map]; exact hl48) fun j hj => by
        rw [e_add, Nat.zero_add]; exact blk4.cell j
      rw [e5]
      have s3 := m3.size
      exact ⟨⟨⟨_, rfl⟩, fun i hi => by rw [wcell blk4 (by rw [hl48]; exact hi)]; rfl⟩, k _ (m3.trans m4 fun q hq (h : q = b) => by omega)⟩

theorem sched_' (s : Bytes) (hs : s.length = 64) (k : ∀ W w', schedB s = W → Mod none' w w' → next (.agg (W.map u32).toArray) w') : callvK Tryd.prog (.func (.func 61) #[] #[]) [str s] w next QP :=
  sched_ s hs fun w' m => k _ w' rfl m
/-! ### a block -/
/-- one round on the eight numbers -/
def xOf (K W : List Int) (i : Nat) (T : List Int) : Int :=
  IntKind.u32.wrap (IntKind.u32.wrap (IntKind.u32.wrap (IntKind.u32.wrap (T.getD 7 0 + xI (xI (rotI (T.getD 4 0) (-6)) (rotI (T.getD 4 0) (-11))) (rotI (T.getD 4 0) (-25))) +
    xI (aI (T.getD 4 0) (T.getD 5 0)) (aI (nI (T.getD 4 0)) (T.getD 6 0))) + K.getD i 0) + W.getD i 0)
def yOf (T : List Int) : Int :=
  IntKind.u32.wrap (xI (xI (rotI (T.getD 0 0) (-2)) (rotI (T.getD 0 0) (-13))) (rotI (T.getD 0 0) (-22)) +
    xI (xI (aI (T.getD 0 0) (T.getD 1 0)) (aI (T.getD 0 0) (T.getD 2 0))) (aI (T.getD 1 0) (T.getD 2 0)))
theorem xOf_eq (K W : List Int) (i : Nat) (T : List Int) : IntKind.u32.wrap (IntKind.u32.wrap (IntKind.u32.wrap (IntKind.u32.wrap (T.getD 7 0 + xI (xI (rotI (T.getD 4 0) (-6)) (rotI (T.getD 4 0) (-11))) (rotI (T.getD 4 0) (-25))) +
    xI (aI (T.getD 4 0) (T.getD 5 0)) (aI (nI (T.getD 4 0)) (T.getD 6 0))) + K.getD i 0) + W.getD i 0) = xOf K W i T := rfl
theorem yOf_eq (T : List Int) : IntKind.u32.wrap (xI (xI (rotI (T.getD 0 0) (-2)) (rotI (T.getD 0 0) (-13))) (rotI (T.getD 0 0) (-22)) +
    xI (xI (aI (T.getD 0 0) (T.getD 1 0)) (aI (T.getD 0 0) (T.getD 2 0))) (aI (T.getD 1 0) (T.getD 2 0))) = yOf T := rfl
def rndB (K W : List Int) (i : Nat) (T : List Int) : List Int :=
  [IntKind.u32.wrap (xOf K W i T + yOf T), T.getD 0 0, T.getD 1 0, T.getD 2 0, IntKind.u32.wrap (T.getD 3 0 + xOf K W i T), T.getD 4 0, T.getD 5 0, T.getD 6 0]
def rndsB (K W H : List Int) : Nat → List Int
  | 0 => H
  | i + 1 => rndB K W i (rndsB K W H i)
def sumTo (H T : List Int) : Nat → List Int
  | 0 => H
  | i + 1 => (sumTo H T i).set i (IntKind.u32.wrap ((sumTo H T i).getD i 0 + T.getD i 0))
def procB (K : List Int) (s : Bytes) (H : List Int) : List Int := sumTo H (rndsB K (schedB s) H 64) 8
theorem rndsB_len {K W H : List Int} (h : H.length = 8) : ∀ i, (rndsB K W H i).length = 8
  | 0 => h
  | i + 1 => rfl
theorem sumTo_len (H T : List Int) : ∀ i, (sumTo H T i).length = H.length
  | 0 => rfl
  | i + 1 => by rw [sumTo, List.length_set, sumTo_len H T i]

/-- the constants lie where they were laid -/
def Kd (w : World) (K : List Int) : Prop := ∀ i, i < 64 → w.cell? ⟨0, i, none⟩ = some (u32 (K.getD i 0))

set_option maxHeartbeats 1000000 in
theorem proc_ {K H : List Int} {b : Nat} {s : Bytes} (hK : Kd w K) (hb : Blk w b 62 (H.map u32)) (hb0 : b ≠ 0) (hl : H.length = 8) (hs : s.length = 64)
    (k : ∀ w', Blk w' b 62 ((procB K s H).map u32) → Mod (fun q => q = b) w w' → next (.tuple #[]) w') : callvK Tryd.prog (.func (.func 41) #[] #[]) [ptr b, str s] w next QP := by
  refine r41 rfl ?_
  have h0 : 0 < w.heap.size := World.block_lt_of_cell? w _ (hK 0 (by omega))
  unfold h41
  try simp only [go_sem]
  refine sched_' s hs ?_
  intro W w1 hW m1
  have hWl : W.length = 64 := by rw [← hW]; exact schedN_len s 48
  have hpB : procB K s H = sumTo H (rndsB K W H 64) 8 := by unfold procB; rw [hW]
  rw [hpB] at k
  clear hpB hW
  try simp only [go_sem]
  refine alloc_ (cs := List.replicate 64 (u32 0)) (z := .agg (List.replicate 64 (u32 0)).toArray) (by kernel_rfl) (by kernel_rfl) ?_
  intro b4 w2 hb4 blk4 m2 hs2
  try simp only [go_sem]
  refine storeN (n := 64) (vs := W.map u32) sz93 (by rw [List.length_map, hWl]) blk4 (by simp) (by intro v hv; obtain ⟨x, -, rfl⟩ := List.mem_map.1 hv; rfl) ?_
  intro w3 blk3 m3 hs3
  have e3 : (List.replicate 64 (u32 0)).take 0 ++ W.map u32 ++ (List.replicate 64 (u32 0)).drop (0 + 64) = W.map u32 := by simp
  rw [e3] at blk3
  have s1 := m1.size
  have hbl := hb.lt
  have m03 : Mod none' w w3 := (m1.trans' m2).trans m3 fun q hq (h : q = b4) => by omega
  have hb3 := hb.mod m03 fun h => h
  have e4 : loadN w3 ⟨b, 0, none⟩ 8 = (H.map u32).toArray := loadN_of (by rw [List.length_map]; exact hl) fun j hj => by
    rw [e_add, Nat.zero_add]; exact hb3.cell j
  try simp only [go_sem, e4]
  refine ⟨fun i hi => by rw [wcell hb3 (by rw [hl]; exact hi)]; rfl, ?_⟩
  refine alloc_ (cs := List.replicate 8 (u32 0)) (z := .agg (List.replicate 8 (u32 0)).toArray) (by kernel_rfl) (by kernel_rfl) ?_
  intro b5 w4 hb5 blk5 m4 hs4
  try simp only [go_sem]
  refine storeN (n := 8) (vs := H.map u32) sz62 (by rw [List.length_map, hl]) blk5 (by simp) (by intro v hv; obtain ⟨x, -, rfl⟩ := List.mem_map.1 hv; rfl) ?_
  intro w5 blk6 m5 hs5
  have e6 : (List.replicate 8 (u32 0)).take 0 ++ H.map u32 ++ (List.replicate 8 (u32 0)).drop (0 + 8) = H.map u32 := by simp
  rw [e6] at blk6
  have m05 : Mod none' w w5 := (m03.trans' m4).trans m5 fun q hq (h : q = b5) => by omega
  have s5 := m05.size
  have blkW := (blk3.mod m4 fun h => h).mod m5 fun h => by omega
  unfold h41_1
  try simp only [go_sem]
  refine loopN 64 (fun i τ w' => τ 0 = ptr b ∧ τ 4 = ptr b4 ∧ τ 5 = ptr b5 ∧ τ 21 = .int .i64 i ∧ Blk w' b4 93 (W.map u32) ∧ Blk w' b5 62 ((rndsB K W H i).map u32) ∧ Mod none' w w') ⟨0, by omega, rfl, rfl, rfl, rfl, blkW, blk6, m05⟩ ?_
  rintro i τ w6 hi ⟨t0, t4, t5, t21, bW, bT, m6⟩
  have s6 := m6.size
  unfold h41_2
  try simp only [go_sem, t0, t4, t5, t21]
  refine ⟨fun hlt => ?_, fun hge => ?_⟩
  · have hil : i < 64 := by
      have : (i : Int) < 64 := by simpa using hlt
      omega
    obtain ⟨T, hT⟩ : ∃ T, rndsB K W H i = T := ⟨_, rfl⟩
    have hTl : T.length = 8 := by rw [← hT]; exact rndsB_len hl i
    rw [hT] at bT
    have cT : ∀ q, q < 8 → w6.cell? ⟨b5, q, none⟩ = some (u32 (T.getD q 0)) := fun q hq => wcell bT (by rw [hTl]; exact hq)
    have cT0 := cT 0 (by omega)
    have cT1 := cT 1 (by omega)
    have cT2 := cT 2 (by omega)
    have cT3 := cT 3 (by omega)
    have cT4 := cT 4 (by omega)
    have cT5 := cT 5 (by omega)
    have cT6 := cT 6 (by omega)
    have cT7 := cT 7 (by omega)
    have cW : w6.cell? ⟨b4, i, none⟩ = some (u32 (W.getD i 0)) := wcell bW (by rw [hWl]; exact hil)
    have cK : w6.cell? ⟨0, i, none⟩ = some (u32 (K.getD i 0)) := m6.cell (hK i hil) fun h => h
    unfold h41_3
    try simp only [go_sem, t0, t4, t5, t21, cT0, cT1, cT2, cT3, cT4, cT5, cT6, cT7, cW, cK, nV, nC, xV, aV]
    repeat refine ⟨⟨by omega, by omega⟩, ?_⟩
    refine rot_ _ _ ?_
    try simp only [go_sem, cT0, cT1, cT2, cT3, cT4, cT5, cT6, cT7, cW, cK, nV, nC, xV, aV]
    refine rot_ _ _ ?_
    try simp only [go_sem, cT0, cT1, cT2, cT3, cT4, cT5, cT6, cT7, cW, cK, nV, nC, xV, aV]
    refine rot_ _ _ ?_
    try simp only [go_sem, cT0, cT1, cT2, cT3, cT4, cT5, cT6, cT7, cW, cK, nV, nC, xV, aV]
    refine rot_ _ _ ?_
    try simp only [go_sem, cT0, cT1, cT2, cT3, cT4, cT5, cT6, cT7, cW, cK, nV, nC, xV, aV]
    refine rot_ _ _ ?_
    try simp only [go_sem, cT0, cT1, cT2, cT3, cT4, cT5, cT6, cT7, cW, cK, nV, nC, xV, aV]
    refine rot_ _ _ ?_
    try simp only [go_sem, cT0, cT1, cT2, cT3, cT4, cT5, cT6, cT7, cW, cK, nV, nC, xV, aV]
    rw [xOf_eq, yOf_eq]
    unfold h41_4
    try simp only [go_sem, t0, t4, t5, t21, cT0, cT1, cT2, cT3, cT4, cT5, cT6, cT7, cW, cK, nV, nC, xV, aV, List.set_cons_zero, List.set_cons_succ, List.length_cons, List.length_nil, Nat.reduceAdd, Nat.reduceLeDiff]
    refine storeN (n := 8) (vs := (rndB K W i T).map u32) sz62 rfl bT.drew.drew (by rw [List.length_map, hTl]; omega) (by intro v hv; obtain ⟨x, -, rfl⟩ := List.mem_map.1 hv; rfl) ?_
    intro w7 blk7 m7 hs7
    have e7 : (T.map u32).take 0 ++ (rndB K W i T).map u32 ++ (T.map u32).drop (0 + 8) = (rndsB K W H (i + 1)).map u32 := by
      rw [List.take_zero, List.nil_append, List.drop_of_length_le (by rw [List.length_map, hTl]; omega), List.append_nil, rndsB, hT]
    rw [e7] at blk7
    unfold h41_5
    try simp only [go_sem, t0, t4, t5, t21]
    rw [w64 (by omega) (by omega)]
    exact ⟨i + 1, by omega, by omega, rfl, (bW.drew.drew).mod m7 fun h => by omega, blk7, ((m6.trans' (Mod.drew none' w6)).trans' (Mod.drew none' _)).trans m7 fun q hq (h : q = b5) => by omega⟩
  · have hio : i = 64 := by
      have : ¬ (i : Int) < 64 := by simpa using hge
      omega
    subst hio
    obtain ⟨T, hT⟩ : ∃ T, rndsB K W H 64 = T := ⟨_, rfl⟩
    have hTl : T.length = 8 := by rw [← hT]; exact rndsB_len hl 64
    rw [hT] at bT k
    have bH := hb.mod m6 fun h => h
    unfold h41_6
    try simp only [go_sem]
    refine loopN 8 (fun j τ w' => τ 0 = ptr b ∧ τ 5 = ptr b5 ∧ τ 99 = .int .i64 j ∧ Blk w' b 62 ((sumTo H T j).map u32) ∧ Blk w' b5 62 (T.map u32) ∧ Mod (fun q => q = b) w w') ⟨0, by omega, t0, t5, rfl, bH, bT, m6.mono fun _ _ h => h.elim⟩ ?_
    clear t0 t4 t5 t21
    rintro j τ w8 hj ⟨t0, t5, t99, b8, bT8, m8⟩
    have s8 := m8.size
    have hSl := sumTo_len H T j
    unfold h41_7
    try simp only [go_sem, t0, t5, t99]
    refine ⟨fun hlt => ?_, fun hge => ?_⟩
    · have hjl : j < 8 := by
        have : (j : Int) < 8 := by simpa using hlt
        omega
      have c8 : w8.cell? ⟨b, j, none⟩ = some (u32 ((sumTo H T j).getD j 0)) := wcell b8 (by rw [hSl, hl]; exact hjl)
      have cT : w8.cell? ⟨b5, j, none⟩ = some (u32 (T.getD j 0)) := wcell bT8 (by rw [hTl]; exact hjl)
      unfold h41_8
      try simp only [go_sem, t0, t5, t99, c8, cT]
      repeat refine ⟨⟨by omega, by omega⟩, ?_⟩
      refine store1 sz60 b8.drew (by rw [List.length_map, hSl, hl]; exact hjl) rfl ?_
      intro w9 blk9 m9 hs9
      rw [← List.map_set] at blk9
      unfold h41_9
      try simp only [go_sem, t0, t5, t99]
      rw [w64 (by omega) (by omega)]
      exact ⟨j + 1, by omega, by omega, rfl, blk9, (bT8.drew).mod m9 fun h => by omega, (m8.trans' (Mod.drew _ w8)).trans' m9⟩
    · have hio : j = 8 := by
        have : ¬ (j : Int) < 8 := by simpa using hge
        omega
      subst hio
      exact k _ b8 m8
end
end Go.Proofs.Y

/- MM: msgid: digest.Sum, whole. -/
namespace Go.Proofs.Y
open Go Go.HL Go.Proofs

def H0 : List Int := [1779033703, 3144134277, 1013904242, 2773480762, 1359893119, 2600822924, 528734635, 1541459225]
def procsB (K : List Int) : Nat → Bytes → List Int → List Int
  | 0, _, H => H
  | n + 1, s, H => procsB K n (s.drop 64) (procB K (s.take 64) H)
def byteI (x : Int) : UInt8 := UInt8.ofNat (IntKind.u8.wrap x).toNat
theorem byteI_nat (x : Int) : ((byteI x).toNat : Int) = IntKind.u8.wrap x := by
  have h : 0 ≤ IntKind.u8.wrap x ∧ IntKind.u8.wrap x < 256 := by rw [wrap_u8]; omega
  simp only [byteI, UInt8.toNat_ofNat']
  omega
def be8 (n : Int) : Bytes := (List.range 8).map fun (i : Nat) => byteI (n.fdiv (2 ^ min (8 * (7 - i)) 64))
def padB (r : Bytes) (n : Int) : Bytes := r ++ [128] ++ List.replicate ((119 - r.length) % 64) 0 ++ be8 n
def be4 (x : Int) : Bytes := [byteI (x.fdiv (2 ^ min 24 32)), byteI (x.fdiv (2 ^ min 16 32)), byteI (x.fdiv (2 ^ min 8 32)), byteI x]
def bitsN (s : Bytes) : Int := IntKind.u64.wrap (IntKind.u64.wrap s.length * 8)
def lastH (K : List Int) (r : Bytes) (n : Int) (H : List Int) : List Int := procsB K ((padB r n).length / 64) (padB r n) H
def digB (K : List Int) (s : Bytes) : List Int := lastH K (s.drop (64 * (s.length / 64))) (bitsN s) (procsB K (s.length / 64) s H0)
def sumB (K : List Int) (s : Bytes) : Bytes := (digB K s).flatMap be4
theorem procB_len {K : List Int} {s : Bytes} {H : List Int} (h : H.length = 8) : (procB K s H).length = 8 := by unfold procB; rw [sumTo_len, h]
theorem procsB_len {K : List Int} : ∀ (n : Nat) {s : Bytes} {H : List Int}, H.length = 8 → (procsB K n s H).length = 8
  | 0, _, _, h => h
  | n + 1, _, _, h => procsB_len n (procB_len h)
theorem procsB_snoc {K : List Int} : ∀ (n : Nat) (s : Bytes) (H : List Int), procsB K (n + 1) s H = procB K ((s.drop (64 * n)).take 64) (procsB K n s H)
  | 0, s, H => by simp [procsB]
  | n + 1, s, H => by
    rw [procsB, procsB_snoc n, List.drop_drop, show 64 + 64 * n = 64 * (n + 1) by omega]
    rfl
theorem padB_len (r : Bytes) (n : Int) (h : r.length < 64) : (padB r n).length % 64 = 0 := by
  unfold padB be8
  simp only [List.length_append, List.length_replicate, List.length_map, List.length_range, List.length_singleton]
  omega
theorem digB_len (K : List Int) (s : Bytes) : (digB K s).length = 8 := procsB_len _ (procsB_len _ rfl)

section
variable {w : World} {next : Value → World → Prop} {QP : List PanicEntry → World → Prop}
theorem Sl.takeV {oa : Option Addr} {n c m : Nat} {xs : List Value} (h : Sl w (.slice oa n c) 1 n xs) (hm : m ≤ n) : Sl w (.slice oa m c) 1 m (xs.take m) := by
  obtain ⟨hl, a, c', e, hc, hcell⟩ := h
  simp only [Value.slice.injEq] at e
  obtain ⟨rfl, -, rfl⟩ := e
  refine ⟨by simp; omega, oa, c, rfl, by omega, fun h => ?_⟩
  obtain ⟨b, o, e, h2⟩ := hcell (by omega)
  refine ⟨b, o, e, fun j hj => ?_⟩
  rw [h2 j (by omega), List.getElem?_take_of_lt (by omega)]
theorem Sl.dropV {oa : Option Addr} {n c m : Nat} {xs : List Value} (h : Sl w (.slice oa n c) 1 n xs) (hm : m ≤ n) : Sl w (.slice (if c = m then oa else oa.map (·.add m)) (n - m) (c - m)) 1 (n - m) (xs.drop m) := by
  obtain ⟨hl, a, c', e, hc, hcell⟩ := h
  simp only [Value.slice.injEq] at e
  obtain ⟨rfl, -, rfl⟩ := e
  refine ⟨by simp; omega, _, c - m, rfl, by omega, fun h => ?_⟩
  obtain ⟨b, o, rfl, h2⟩ := hcell (by omega)
  rw [if_neg (by omega)]
  refine ⟨b, o + m, by simp [Addr.add], fun j hj => ?_⟩
  rw [Nat.add_assoc, h2 (m + j) (by omega), List.getElem?_drop]

theorem app8_ {vo : Value} {l : Bytes} {c : UInt8} {x : Int} {B : Nat} {next2 : Value → Value → World → Prop} (hx : x = c.toNat) (own : HL.Own w vo 5 1 l.length (bys l)) (hf : ∀ k, vo.ownBlock = some k → B ≤ k) (hB : B ≤ w.heap.size) (hl : l.length ≤ 1000000000)
    (k : ∀ v0 v' w', HL.Own w' v' 5 1 (l ++ [c]).length (bys (l ++ [c])) → (∀ k, v'.ownBlock = some k → B ≤ k) → Mod (fun k => B ≤ k) w w' → next2 v0 v' w') : bslK Tryd.prog 45 1 [(0, .int .u8 x)] w (fun v w' => appK Tryd.prog #[45, 45] 45 vo v w' (fun v1 w'' => next2 v v1 w'') QP) QP := by
  subst hx
  refine bsl1 sl45 (cs := [.int .u8 c.toNat]) rfl rfl (by omega) ?_
  intro b3 w3 hb3 own3 _ m3 hs3
  refine append_ sl45 (own.mod m3 fun _ _ h => h) own3.sl (by intro u hu; rw [List.mem_singleton.1 hu]; rfl) (by omega) (by unfold maxLen; omega) ?_
  intro v4 w4 own4 m4 hf4 _
  have s3 := m3.size
  have e1 : l.length + 1 = (l ++ [c]).length := by simp
  have e2 : bys l ++ [.int .u8 c.toNat] = bys (l ++ [c]) := by simp [bys]
  rw [e1, e2] at own4
  refine k _ _ _ own4 (fun q hq => ?_) ((m3.mono fun _ _ h => h.elim).trans' (m4.mono fun q _ h => hf q h))
  rcases hf4 q hq with h | h
  · exact hf q h
  · omega
theorem begin_ (k : ∀ w', Mod none' w w' → next (.agg (H0.map u32).toArray) w') : callvK Tryd.prog (.func (.func 40) #[] #[]) [] w next QP := by
  refine r40 rfl ?_
  unfold h40
  try simp only [go_sem]
  refine alloc_ (cs := List.replicate 8 (u32 0)) (z := .agg (List.replicate 8 (u32 0)).toArray) (by kernel_rfl) (by kernel_rfl) ?_
  intro b w1 hb blk1 m1 hs1
  try simp only [go_sem, List.set_cons_zero, List.set_cons_succ, List.length_cons, List.length_nil, Nat.reduceAdd, Nat.reduceLeDiff]
  refine storeN (n := 8) (vs := H0.map u32) sz62 rfl blk1 (by simp) (by intro v hv; obtain ⟨x, -, rfl⟩ := List.mem_map.1 hv; rfl) ?_
  intro w2 blk2 m2 hs2
  have e2 : (List.replicate 8 (u32 0)).take 0 ++ H0.map u32 ++ (List.replicate 8 (u32 0)).drop (0 + 8) = H0.map u32 := by simp
  rw [e2] at blk2
  have e5 : loadN w2 ⟨b, 0, none⟩ 8 = (H0.map u32).toArray := loadN_of rfl fun j hj => by
    rw [e_add, Nat.zero_add]; exact blk2.cell j
  try simp only [go_sem, e5]
  exact ⟨⟨⟨_, rfl⟩, fun i hi => by rw [wcell blk2 hi]; rfl⟩, k _ (m1.trans m2 fun q hq (h : q = b) => by omega)⟩

theorem sum_ {K : List Int} {s : Bytes} (hK : Kd w K) (hs : s.length ≤ 1000000000) (k : ∀ w', Mod none' w w' → next (str (sumB K s)) w') : callvK Tryd.prog (.func (.func 24) #[] #[]) [str s] w next QP := by
  refine r24 rfl ?_
  have h0 : 0 < w.heap.size := World.block_lt_of_cell? w _ (hK 0 (by omega))
  unfold h24
  try simp only [go_sem]
  refine begin_ ?_
  intro w1 m1
  try simp only [go_sem]
  refine alloc_ (cs := List.replicate 8 (u32 0)) (z := .agg (List.replicate 8 (u32 0)).toArray) (by kernel_rfl) (by kernel_rfl) ?_
  intro b w2 hb blk2 m2 hs2
  try simp only [go_sem]
  refine storeN (n := 8) (vs := H0.map u32) sz62 rfl blk2 (by simp) (by intro v hv; obtain ⟨x, -, rfl⟩ := List.mem_map.1 hv; rfl) ?_
  intro w3 blk3 m3 hs3
  have e3 : (List.replicate 8 (u32 0)).take 0 ++ H0.map u32 ++ (List.replicate 8 (u32 0)).drop (0 + 8) = H0.map u32 := by simp
  rw [e3] at blk3
  have s1 := m1.size
  have m03 : Mod none' w w3 := (m1.trans' m2).trans m3 fun q hq (h : q = b) => by omega
  obtain ⟨N, hN⟩ : ∃ N, bitsN s = N := ⟨_, rfl⟩
  have hN' : IntKind.u64.wrap (IntKind.u64.wrap s.length * 8) = N := hN
  try simp only [go_sem, hN']
  refine loopN (s.length / 64) (fun i τ w' => τ 0 = str (s.drop (64 * i)) ∧ τ 3 = ptr b ∧ τ 4 = .int .u64 N ∧ Blk w' b 62 ((procsB K i s H0).map u32) ∧ Mod none' w w') ⟨0, by omega, rfl, rfl, rfl, blk3, m03⟩ ?_
  rintro i τ w4 hi ⟨t0, t3, t4, blk4, m4⟩
  have s4 := m4.size
  have hdl : (s.drop (64 * i)).length = s.length - 64 * i := List.length_drop
  unfold h24_1
  try simp only [go_sem, t0, t3, t4]
  refine ⟨fun hge => ?_, fun hlt => ?_⟩
  · have hil : 64 ≤ s.length - 64 * i := by
      have : (64 : Int) ≤ ((s.drop (64 * i)).length : Int) := by simpa using hge
      omega
    unfold h24_2
    try simp only [go_sem, t0, t3, t4]
    have hK4 : Kd w4 K := fun q hq => m4.cell (hK q hq) fun h => h
    refine ⟨by omega, ?_⟩
    refine proc_ hK4 blk4 (by omega) (procsB_len i rfl) (by rw [List.length_take, hdl]; omega) ?_
    intro w5 blk5 m5
    unfold h24_3
    try simp only [go_sem, t0, t3, t4]
    refine ⟨by omega, ?_⟩
    rw [← procsB_snoc] at blk5
    refine ⟨i + 1, by omega, by omega, ?_, blk5, m4.trans m5 fun q hq (h : q = b) => by omega⟩
    rw [List.drop_drop]
    rfl
  have hio : i = s.length / 64 := by
    have : ¬ (64 : Int) ≤ ((s.drop (64 * i)).length : Int) := by simpa using hlt
    omega
  subst hio
  obtain ⟨R, hR⟩ : ∃ R, s.drop (64 * (s.length / 64)) = R := ⟨_, rfl⟩
  obtain ⟨H1, hH1⟩ : ∃ H1, procsB K (s.length / 64) s H0 = H1 := ⟨_, rfl⟩
  have hRl : R.length < 64 := by rw [← hR, hdl]; omega
  have hH1l : H1.length = 8 := by rw [← hH1]; exact procsB_len _ rfl
  have hsum : sumB K s = (lastH K R N H1).flatMap be4 := by unfold sumB digB; rw [hR, hH1, hN]
  rw [hR] at t0
  rw [hH1] at blk4
  rw [hsum] at k
  clear hsum hH1 hR hN hN' hdl hlt hs
  unfold h24_4
  try simp only [go_sem, t0, t3, t4]
  refine s2b u9 (by kernel_rfl) u5 (by unfold maxLen; omega) ?_
  intro b5 c5 w5 hb5 own5 m5 hs5
  try simp only [go_sem]
  refine bsl1 sl45 (cs := [.int .u8 128]) rfl rfl (by omega) ?_
  intro b6 w6 hb6 own6 _ m6 hs6
  try simp only [go_sem]
  refine append_ sl45 (own5.mod m6 fun _ _ h => h) own6.sl (by intro u hu; rw [List.mem_singleton.1 hu]; rfl) (by omega) (by unfold maxLen; omega) ?_
  intro v7 w7 own7 m7 hf7 _
  have s5 := m5.size
  have s6 := m6.size
  have hv7 : ∀ q, v7.ownBlock = some q → w4.heap.size ≤ q := fun q hq => by
    rcases hf7 q hq with h | h
    · have h : some b5 = some q := h
      cases h
      omega
    · omega
  have e7 : bys R ++ [.int .u8 128] = bys (R ++ [128]) := by simp [bys]
  have e8 : R.length + 1 = (R ++ [128]).length := by simp
  rw [e7, e8] at own7
  have m47 : Mod none' w4 w7 := (m5.trans' m6).trans m7 fun q hq h => by
    have h : some b5 = some q := h
    cases h
    omega
  have blt := blk4.lt
  try simp only [go_sem, t0, t3, t4]
  refine loopN ((119 - R.length) % 64) (fun i τ w' => ∃ v, τ 3 = ptr b ∧ τ 4 = .int .u64 N ∧ τ 5 = v ∧ HL.Own w' v 5 1 (R ++ [128] ++ List.replicate i 0).length (bys (R ++ [128] ++ List.replicate i 0)) ∧ (∀ q, v.ownBlock = some q → w4.heap.size ≤ q) ∧ Mod none' w4 w') ⟨0, by omega, v7, t3, t4, rfl, by simpa using own7, hv7, m47⟩ ?_
  clear t0 t3 t4
  rintro i τ w8 hi ⟨v8, t3, t4, t5, own8, hv8, m48⟩
  have s48 := m48.size
  have hl8 : (R ++ [128] ++ List.replicate i (0 : UInt8)).length = R.length + 1 + i := by simp; omega
  obtain ⟨o8, c8, rfl, -⟩ := own8.form
  unfold h24_5
  try simp only [go_sem, t3, t4, t5]
  refine ⟨by decide, ?_⟩
  have etm : ((R ++ [128] ++ List.replicate i (0 : UInt8)).length : Int).tmod 64 = (((R.length + 1 + i) % 64 : Nat) : Int) := by
    rw [hl8, Int.tmod_eq_emod_of_nonneg (by omega)]
    omega
  rw [etm]
  refine ⟨fun hne => ?_, fun he => ?_⟩
  · have hne : (R.length + 1 + i) % 64 ≠ 56 := by
      have : ¬ (((R.length + 1 + i) % 64 : Nat) : Int) = 56 := by simpa using hne
      omega
    unfold h24_6
    try simp only [go_sem, t3, t4, t5]
    refine app8_ (c := 0) rfl own8 hv8 s48 (by omega) ?_
    intro v9 v10 w10 own10 hv10 m10
    have e10 : R ++ [128] ++ List.replicate i (0 : UInt8) ++ [0] = R ++ [128] ++ List.replicate (i + 1) 0 := by
      rw [List.append_assoc _ (List.replicate i (0 : UInt8)), ← List.replicate_succ']
    rw [e10] at own10
    try simp only [go_sem, t3, t4]
    exact ⟨i + 1, by omega, by omega, v10, rfl, own10, hv10, m48.trans m10 fun q hq h => by omega⟩
  have he : (R.length + 1 + i) % 64 = 56 := by
    have : (((R.length + 1 + i) % 64 : Nat) : Int) = 56 := by simpa using he
    omega
  have hio : i = (119 - R.length) % 64 := by omega
  unfold h24_7
  try simp only [go_sem, t3, t4, t5]
  obtain ⟨P, hP⟩ : ∃ P, R ++ [128] ++ List.replicate i (0 : UInt8) = P := ⟨_, rfl⟩
  rw [hP] at own8 hl8
  have hpad : ∀ (n : Int), padB R n = P ++ be8 n := by intro n; unfold padB; rw [← hio, hP]
  refine loopN 8 (fun j τ w' => ∃ v, τ 3 = ptr b ∧ τ 4 = .int .u64 N ∧ τ 5 = v ∧ τ 34 = .int .i64 j ∧ HL.Own w' v 5 1 (P ++ (be8 N).take j).length (bys (P ++ (be8 N).take j)) ∧ (∀ q, v.ownBlock = some q → w4.heap.size ≤ q) ∧ Mod none' w4 w') ⟨0, by omega, _, t3, t4, t5, rfl, by rw [hP]; simpa using own8, hv8, m48⟩ ?_
  clear t3 t4 t5 own8 hv8 s48 m48
  rintro j τ w9 hj ⟨v9, t3, t4, t5, t34, own9, hv9, m49⟩
  have s49 := m49.size
  have hb8 : (be8 N).length = 8 := by simp [be8]
  have hl9 : (P ++ (be8 N).take j).length = P.length + j := by rw [List.length_append, List.length_take]; omega
  unfold h24_8
  try simp only [go_sem, t3, t4, t5, t34]
  refine ⟨fun hlt => ?_, fun hge => ?_⟩
  · have hjl : j < 8 := by
      have : (j : Int) < 8 := by simpa using hlt
      omega
    unfold h24_9
    try simp only [go_sem, t3, t4, t5, t34]
    have e1 : IntKind.i64.wrap (8 * IntKind.i64.wrap (7 - (j : Int))) = ((8 * (7 - j) : Nat) : Int) := by
      rw [w64 (x := 7 - (j : Int)) (by omega) (by omega), w64 (by omega) (by omega)]
      omega
    have e2 : (be8 N)[j]'(by omega) = byteI (N.fdiv (2 ^ min (8 * (7 - j)) 64)) := by simp [be8]
    rw [e1, Int.toNat_natCast]
    refine ⟨by omega, ?_⟩
    refine app8_ (c := (be8 N)[j]'(by omega)) (by rw [e2, byteI_nat]) own9 hv9 s49 (by omega) ?_
    intro v0 v10 w10 own10 hv10 m10
    rw [List.append_assoc, ← List.take_succ_eq_append_getElem] at own10
    unfold h24_10
    try simp only [go_sem, t3, t4, t5, t34]
    rw [w64 (by omega) (by omega)]
    exact ⟨j + 1, by omega, by omega, v10, rfl, rfl, own10, hv10, m49.trans m10 fun q hq h => by omega⟩
  have hj8 : j = 8 := by
    have : ¬ (j : Int) < 8 := by simpa using hge
    omega
  subst hj8
  rw [List.take_of_length_le (by omega), ← hpad] at own9
  have hzl := padB_len R N hRl
  obtain ⟨Z, hZ⟩ : ∃ Z, padB R N = Z := ⟨_, rfl⟩
  have hZl : Z.length ≤ 1000 := by rw [← hZ, hpad, List.length_append, hl8, hb8]; omega
  have hlast : lastH K R N H1 = procsB K (Z.length / 64) Z H1 := by unfold lastH; rw [hZ]
  rw [hlast] at k
  rw [hZ] at own9 hzl
  clear hpad hlast hZ hl9 hl8 hP e7 e8 hge etm
  unfold h24_11
  try simp only [go_sem, t3, t4, t5]
  refine loopN (Z.length / 64) (fun i τ w' => ∃ v, τ 3 = ptr b ∧ τ 5 = v ∧ Sl w' v 1 (Z.drop (64 * i)).length (bys (Z.drop (64 * i))) ∧ (∀ q, v.ownBlock = some q → w4.heap.size ≤ q) ∧ Blk w' b 62 ((procsB K i Z H1).map u32) ∧ Mod (fun q => q = b) w4 w') ⟨0, by omega, v9, t3, t5, own9.sl, hv9, blk4.mod m49 fun h => h, m49.mono fun _ _ h => h.elim⟩ ?_
  clear t3 t4 t5 t34 own9 hv9 s49 m49
  rintro j τ w10 hj ⟨v10, t3, t5, sl10, hv10, blk10, m10⟩
  have s10 := m10.size
  have hdl : (Z.drop (64 * j)).length = Z.length - 64 * j := List.length_drop
  obtain ⟨a10, c10, rfl, hc10, -⟩ := sl10.form
  unfold h24_12
  try simp only [go_sem, t3, t5]
  refine ⟨fun hgt => ?_, fun hle => ?_⟩
  · have hjl : 0 < Z.length - 64 * j := by
      have : (0 : Int) < ((Z.drop (64 * j)).length : Int) := by simpa using hgt
      omega
    unfold h24_13
    try simp only [go_sem, t3, t5]
    refine ⟨by omega, ?_⟩
    have hge : 64 ≤ (Z.drop (64 * j)).length := by omega
    have slt := Sl.takeV (m := 64) sl10 hge
    have ebt : (bys (Z.drop (64 * j))).take 64 = bys ((Z.drop (64 * j)).take 64) := by unfold bys; rw [List.map_take]
    rw [ebt] at slt
    refine b2s (by kernel_rfl) u9 u5 slt ?_
    try simp only [go_sem]
    have hK10 : Kd w10 K := fun q hq => m10.cell (m4.cell (hK q hq) fun h => h) fun (h : (0 : Nat) = b) => by omega
    refine proc_ hK10 blk10 (by omega) (procsB_len j hH1l) (by rw [List.length_take]; omega) ?_
    intro w11 blk11 m11
    rw [← procsB_snoc] at blk11
    unfold h24_14
    try simp only [go_sem, t3, t5]
    refine ⟨by omega, ?_⟩
    have sld := Sl.dropV (m := 64) (sl10.mod m11 fun q hq (h : q = b) => by have := hv10 q hq; omega) hge
    have ebd : (bys (Z.drop (64 * j))).drop 64 = bys (Z.drop (64 * (j + 1))) := by unfold bys; rw [← List.map_drop, List.drop_drop]; rfl
    have eld : (Z.drop (64 * j)).length - 64 = (Z.drop (64 * (j + 1))).length := by rw [List.length_drop, List.length_drop]; omega
    rw [ebd, eld] at sld
    rw [eld]
    refine ⟨j + 1, by omega, by omega, _, rfl, sld, fun q hq => hv10 q ?_, blk11, m10.trans' m11⟩
    have hc : c10 ≠ 64 ∨ c10 = 64 := by omega
    cases a10 with
    | none => split at hq <;> cases hq
    | some ad => split at hq <;> simpa [Value.ownBlock, Addr.add] using hq
  have hjz : j = Z.length / 64 := by
    have : ¬ (0 : Int) < ((Z.drop (64 * j)).length : Int) := by simpa using hle
    omega
  subst hjz
  obtain ⟨H, hH⟩ : ∃ H, procsB K (Z.length / 64) Z H1 = H := ⟨_, rfl⟩
  have hHl : H.length = 8 := by rw [← hH]; exact procsB_len _ hH1l
  rw [hH] at blk10 k
  clear hH
  have e5 : loadN w10 ⟨b, 0, none⟩ 8 = (H.map u32).toArray := loadN_of (by rw [List.length_map]; exact hHl) fun j hj => by
    rw [e_add, Nat.zero_add]; exact blk10.cell j
  unfold h24_15
  try simp only [go_sem, t3, t5]
  refine alloc_ (z := .agg #[.pointer none, .slice none 0 0]) (cs := [.pointer none, .slice none 0 0]) (by kernel_rfl) rfl ?_
  intro b12 w12 hb12 blk12 m12 hs12
  have blk12' := blk10.mod m12 fun h => h
  have e6 : loadN w12 ⟨b, 0, none⟩ 8 = (H.map u32).toArray := loadN_of (by rw [List.length_map]; exact hHl) fun j hj => by
    rw [e_add, Nat.zero_add]; exact blk12'.cell j
  have m012 : Mod none' w w12 := (m4.trans m10 fun q hq (h : q = b) => by omega).trans' m12
  try simp only [go_sem, t3, e6]
  refine ⟨fun i hi => by rw [wcell blk12' (by rw [hHl]; exact hi)]; rfl, ?_⟩
  have s12 := m012.size
  refine loopN 8 (fun i τ w' => τ 7 = ptr b12 ∧ τ 56 = .agg (H.map u32).toArray ∧ τ 57 = .int .i64 i ∧ BR w w' b12 ((H.take i).flatMap be4)) ⟨0, by omega, rfl, rfl, rfl, BR.new m012 blk12 (by omega)⟩ ?_
  rintro i τ w13 hi8 ⟨t7, t56, t57, br⟩
  have hfl : ∀ q, ((H.take q).flatMap be4).length ≤ 4 * 8 := by
    intro q
    have : ∀ l : List Int, (l.flatMap be4).length = 4 * l.length := by
      intro l
      induction l with
      | nil => rfl
      | cons x l ih => rw [List.flatMap_cons, List.length_append, ih]; simp [be4]; omega
    rw [this, List.length_take]; omega
  unfold h24_16
  try simp only [go_sem, t7, t56, t57]
  refine ⟨fun hlt => ?_, fun hge => ?_⟩
  · have hil : i < 8 := by
      have : (i : Int) < 8 := by simpa using hlt
      omega
    unfold h24_17
    try simp only [go_sem, t7, t56, t57]
    have ei : ((H.map u32)[i]?).getD undef = u32 H[i] := by
      rw [List.getElem?_map, List.getElem?_eq_getElem (by omega)]; rfl
    rw [ei]
    try simp only [go_sem]
    refine ⟨⟨by omega, by omega, by rw [List.length_map]; omega⟩, ?_⟩
    rw [← byteI_nat, ← byteI_nat, ← byteI_nat, ← byteI_nat]
    refine bsl4 sl45 rfl rfl rfl rfl ?_
    intro b14 w14 hb14 own14 _ m14 hs14
    have s13 := br.m.size
    have br14 : BR w w14 b12 ((H.take i).flatMap be4) := by
      obtain ⟨⟨pv, bv, h1, h2, h3, h4⟩, h5, h6⟩ := br
      exact ⟨⟨pv, bv, h1.mod m14 fun h => h, h2, h3.mod m14 fun _ _ h => h, h4⟩, h5, h6.trans' m14⟩
    have hblt : b12 < w13.heap.size := by
      obtain ⟨⟨pv, bv, h1, -⟩, -, -⟩ := br
      exact h1.lt
    refine wr_ (s := be4 H[i]) br14 own14.sl (by
      intro h
      have h : some b14 = some b12 := h
      cases h
      omega) (by have := hfl i; have h4 : (be4 H[i]).length = 4 := rfl; omega) ?_
    intro w15 v15 br15
    have ef : (H.take i).flatMap be4 ++ be4 H[i] = (H.take (i + 1)).flatMap be4 := by
      rw [List.take_succ_eq_append_getElem (by omega), List.flatMap_append]; simp
    rw [ef] at br15
    unfold h24_18
    try simp only [go_sem, t7, t56, t57]
    rw [w64 (by omega) (by omega)]
    exact ⟨i + 1, by omega, by omega, rfl, br15⟩
  have hi8' : i = 8 := by
    have : ¬ (i : Int) < 8 := by simpa using hge
    omega
  subst hi8'
  have := hfl 8
  rw [List.take_of_length_le (by omega)] at br this
  unfold h24_19
  try simp only [go_sem, t7]
  refine bstr_ br (by omega) ?_
  intro w16 m16
  try simp only [go_sem]
  exact k _ m16
end
end Go.Proofs.Y

/- the functions of the program as code over named slots, printed by hl.py -/
set_option maxRecDepth 100000
namespace Go.Proofs.Y
open Go Go.HL Go.Proofs
/- missive/missivelaw12.MsgidTells -/
def l3_3 : List HS :=
  .need (.gif (.n3 .pick (.n3 .pick (.n3 .pick (.n3 .pick (.n2 (.sbin .neq) (.slot 6) (.slot 8)) (.lit (.bool true)) (.n2 (.beq true) (.slot 7) (.slot 9))) (.lit (.bool true)) (.n2 (.sbin .neq) (.slot 10) (.slot 12))) (.lit (.bool true)) (.n2 (.beq true) (.slot 11) (.slot 13))) (.lit (.bool true)) (.n2 (.beq true) (.slot 64) (.slot 66))) false (.n2 (.sbin .neq) (.slot 71) (.slot 73))) ::
  .need (.n3 .pick (.n3 .pick (.n3 .pick (.n3 .pick (.n3 .pick (.n2 (.sbin .neq) (.slot 6) (.slot 8)) (.lit (.bool true)) (.n2 (.beq true) (.slot 7) (.slot 9))) (.lit (.bool true)) (.n2 (.sbin .neq) (.slot 10) (.slot 12))) (.lit (.bool true)) (.n2 (.beq true) (.slot 11) (.slot 13))) (.lit (.bool true)) (.n2 (.beq true) (.slot 64) (.slot 66))) (.lit (.bool true)) (.n2 (.sbin .neq) (.slot 71) (.slot 73))) ::
  .asg 75 (.n3 .pick (.n3 .pick (.n3 .pick (.n3 .pick (.n3 .pick (.n2 (.sbin .neq) (.slot 6) (.slot 8)) (.lit (.bool true)) (.n2 (.beq true) (.slot 7) (.slot 9))) (.lit (.bool true)) (.n2 (.sbin .neq) (.slot 10) (.slot 12))) (.lit (.bool true)) (.n2 (.beq true) (.slot 11) (.slot 13))) (.lit (.bool true)) (.n2 (.beq true) (.slot 64) (.slot 66))) (.lit (.bool true)) (.n2 (.sbin .neq) (.slot 71) (.slot 73))) ::
  []
def l3_4 : List HS :=
  .eff (some 73) (.call { callee := .value (.func 16), args := #[.tmp 72], argTypes := #[9] }) 9 [(72, .slot 0)] (some (.n3 .pick (.n3 .pick (.n3 .pick (.n3 .pick (.n2 (.sbin .neq) (.slot 6) (.slot 8)) (.lit (.bool true)) (.n2 (.beq true) (.slot 7) (.slot 9))) (.lit (.bool true)) (.n2 (.sbin .neq) (.slot 10) (.slot 12))) (.lit (.bool true)) (.n2 (.beq true) (.slot 11) (.slot 13))) (.lit (.bool true)) (.n2 (.beq true) (.slot 64) (.slot 66)), false)) [] ::
  l3_3
def l3_5 : List HS :=
  .need (.gif (.n3 .pick (.n3 .pick (.n3 .pick (.n2 (.sbin .neq) (.slot 6) (.slot 8)) (.lit (.bool true)) (.n2 (.beq true) (.slot 7) (.slot 9))) (.lit (.bool true)) (.n2 (.sbin .neq) (.slot 10) (.slot 12))) (.lit (.bool true)) (.n2 (.beq true) (.slot 11) (.slot 13))) false (.n2 (.beq true) (.slot 64) (.slot 66))) ::
  .need (.n3 .pick (.n3 .pick (.n3 .pick (.n3 .pick (.n2 (.sbin .neq) (.slot 6) (.slot 8)) (.lit (.bool true)) (.n2 (.beq true) (.slot 7) (.slot 9))) (.lit (.bool true)) (.n2 (.sbin .neq) (.slot 10) (.slot 12))) (.lit (.bool true)) (.n2 (.beq true) (.slot 11) (.slot 13))) (.lit (.bool true)) (.n2 (.beq true) (.slot 64) (.slot 66))) ::
  .eff (some 71) (.call { callee := .value (.func 15), args := #[.tmp 70], argTypes := #[9] }) 9 [(70, .slot 0)] (some (.n3 .pick (.n3 .pick (.n3 .pick (.n3 .pick (.n2 (.sbin .neq) (.slot 6) (.slot 8)) (.lit (.bool true)) (.n2 (.beq true) (.slot 7) (.slot 9))) (.lit (.bool true)) (.n2 (.sbin .neq) (.slot 10) (.slot 12))) (.lit (.bool true)) (.n2 (.beq true) (.slot 11) (.slot 13))) (.lit (.bool true)) (.n2 (.beq true) (.slot 64) (.slot 66)), false)) [] ::
  l3_4
def l3_6 : List HS :=
  .eff (some 66) (.call { callee := .value (.func 14), args := #[.tmp 65], argTypes := #[9] }) 4 [(65, .slot 0)] (some (.n3 .pick (.n3 .pick (.n3 .pick (.n2 (.sbin .neq) (.slot 6) (.slot 8)) (.lit (.bool true)) (.n2 (.beq true) (.slot 7) (.slot 9))) (.lit (.bool true)) (.n2 (.sbin .neq) (.slot 10) (.slot 12))) (.lit (.bool true)) (.n2 (.beq true) (.slot 11) (.slot 13)), false)) [] ::
  l3_5
def h3_7 : HC :=
  (.cond (.slot 75)
    (.seq
    (.reg [.asg 4 (.lit (.bool false))])
    .ret)
    .skip)
def l3_9 : List HS :=
  .need (.n3 .pick (.n3 .pick (.slot 5) (.slot 82) (.lit (.bool false))) (.slot 89) (.lit (.bool false))) ::
  .asg 4 (.n3 .pick (.n3 .pick (.slot 5) (.slot 82) (.lit (.bool false))) (.slot 89) (.lit (.bool false))) ::
  []
def l3_10 : List HS :=
  .eff (some 89) (.call { callee := .value (.func 17), args := #[.tmp 86, .tmp 88], argTypes := #[31, 31] }) 4 [(86, .slot 86), (88, .slot 88)] (some (.n3 .pick (.slot 5) (.slot 82) (.lit (.bool false)), true)) [] ::
  l3_9
def l3_11 : List HS :=
  .eff (some 88) (.call { callee := .value (.func 21), args := #[.tmp 87], argTypes := #[22] }) 31 [(87, .slot 1)] (some (.n3 .pick (.slot 5) (.slot 82) (.lit (.bool false)), true)) [] ::
  l3_10
def l3_12 : List HS :=
  .need (.n3 .pick (.slot 5) (.slot 82) (.lit (.bool false))) ::
  .eff (some 86) (.call { callee := .value (.func 20), args := #[.tmp 85], argTypes := #[22] }) 31 [(85, .slot 1)] (some (.n3 .pick (.slot 5) (.slot 82) (.lit (.bool false)), true)) [] ::
  l3_11
def l3_13 : List HS :=
  .eff (some 82) (.call { callee := .value (.func 17), args := #[.tmp 79, .tmp 81], argTypes := #[31, 31] }) 4 [(79, .slot 79), (81, .slot 81)] (some (.slot 5, true)) [] ::
  l3_12
def l3_14 : List HS :=
  .eff (some 81) (.call { callee := .value (.func 19), args := #[.tmp 80], argTypes := #[9] }) 31 [(80, .slot 0)] (some (.slot 5, true)) [] ::
  l3_13
def h3_8 : HC :=
  (.seq
  (.reg (.eff (some 79) (.call { callee := .value (.func 18), args := #[.tmp 78], argTypes := #[9] }) 31 [(78, .slot 0)] (some (.slot 5, true)) [] ::
    l3_14))
  .ret)
def h3_2 : HC :=
  (.seq
  (.seq
  (.reg (.need (.n2 (.sbin .neq) (.slot 6) (.slot 8)) ::
    .need (.gif (.n2 (.sbin .neq) (.slot 6) (.slot 8)) false (.n2 (.beq true) (.slot 7) (.slot 9))) ::
    .need (.n3 .pick (.n2 (.sbin .neq) (.slot 6) (.slot 8)) (.lit (.bool true)) (.n2 (.beq true) (.slot 7) (.slot 9))) ::
    .need (.gif (.n3 .pick (.n2 (.sbin .neq) (.slot 6) (.slot 8)) (.lit (.bool true)) (.n2 (.beq true) (.slot 7) (.slot 9))) false (.n2 (.sbin .neq) (.slot 10) (.slot 12))) ::
    .need (.n3 .pick (.n3 .pick (.n2 (.sbin .neq) (.slot 6) (.slot 8)) (.lit (.bool true)) (.n2 (.beq true) (.slot 7) (.slot 9))) (.lit (.bool true)) (.n2 (.sbin .neq) (.slot 10) (.slot 12))) ::
    .need (.gif (.n3 .pick (.n3 .pick (.n2 (.sbin .neq) (.slot 6) (.slot 8)) (.lit (.bool true)) (.n2 (.beq true) (.slot 7) (.slot 9))) (.lit (.bool true)) (.n2 (.sbin .neq) (.slot 10) (.slot 12))) false (.n2 (.beq true) (.slot 11) (.slot 13))) ::
    .need (.n3 .pick (.n3 .pick (.n3 .pick (.n2 (.sbin .neq) (.slot 6) (.slot 8)) (.lit (.bool true)) (.n2 (.beq true) (.slot 7) (.slot 9))) (.lit (.bool true)) (.n2 (.sbin .neq) (.slot 10) (.slot 12))) (.lit (.bool true)) (.n2 (.beq true) (.slot 11) (.slot 13))) ::
    .eff (some 64) (.call { callee := .value (.func 13), args := #[.tmp 63], argTypes := #[9] }) 4 [(63, .slot 0)] (some (.n3 .pick (.n3 .pick (.n3 .pick (.n2 (.sbin .neq) (.slot 6) (.slot 8)) (.lit (.bool true)) (.n2 (.beq true) (.slot 7) (.slot 9))) (.lit (.bool true)) (.n2 (.sbin .neq) (.slot 10) (.slot 12))) (.lit (.bool true)) (.n2 (.beq true) (.slot 11) (.slot 13)), false)) [] ::
    l3_6))
  h3_7)
  h3_8)
def h3_1 : HC :=
  (.seq
  (.reg [.eff (some 26) (.call { callee := .value (.func 9), args := #[.tmp 25], argTypes := #[9] }) 25 [(25, .slot 0)] none [],
    .need (.n1 (.ext 0) (.slot 26)),
    .need (.n1 (.ext 1) (.slot 26)),
    .asg 6 (.n1 (.ext 0) (.slot 26)),
    .asg 7 (.n1 (.ext 1) (.slot 26))])
  (.seq
  (.reg [.eff (some 31) (.call { callee := .value (.func 10), args := #[.tmp 30], argTypes := #[9] }) 25 [(30, .slot 0)] none [],
    .need (.n1 (.ext 0) (.slot 31)),
    .need (.n1 (.ext 1) (.slot 31)),
    .asg 8 (.n1 (.ext 0) (.slot 31)),
    .asg 9 (.n1 (.ext 1) (.slot 31))])
  (.seq
  (.reg [.eff (some 36) (.call { callee := .value (.func 11), args := #[.tmp 35], argTypes := #[22] }) 25 [(35, .slot 1)] none [],
    .need (.n1 (.ext 0) (.slot 36)),
    .need (.n1 (.ext 1) (.slot 36)),
    .asg 10 (.n1 (.ext 0) (.slot 36)),
    .asg 11 (.n1 (.ext 1) (.slot 36))])
  (.seq
  (.reg [.eff (some 41) (.call { callee := .value (.func 12), args := #[.tmp 40], argTypes := #[22] }) 25 [(40, .slot 1)] none [],
    .need (.n1 (.ext 0) (.slot 41)),
    .need (.n1 (.ext 1) (.slot 41)),
    .asg 12 (.n1 (.ext 0) (.slot 41)),
    .asg 13 (.n1 (.ext 1) (.slot 41))])
  h3_2))))
def h3 : HC :=
  (.seq
  (.reg [.asg 4 (.lit (.bool false))])
  (.seq
  (.reg [.eff (some 14) (.call { callee := .value (.func 7), args := #[], argTypes := #[] }) 4 [] none [],
    .asg 5 (.slot 14)])
  (.seq
  (.seq
  (.reg [.need (.n1 .lens (.slot 0)),
    .need (.n2 (.bin .gtr) (.n1 .lens (.slot 0)) (.lit (.int .i64 1000))),
    .eff (some 20) (.call { callee := .value (.func 8), args := #[.tmp 19], argTypes := #[22] }) 4 [(19, .slot 1)] (some (.n2 (.bin .gtr) (.n1 .lens (.slot 0)) (.lit (.int .i64 1000)), false)) [],
    .need (.gif (.n2 (.bin .gtr) (.n1 .lens (.slot 0)) (.lit (.int .i64 1000))) false (.n1 .bnot (.slot 20))),
    .need (.n3 .pick (.n2 (.bin .gtr) (.n1 .lens (.slot 0)) (.lit (.int .i64 1000))) (.lit (.bool true)) (.n1 .bnot (.slot 20))),
    .asg 22 (.n3 .pick (.n2 (.bin .gtr) (.n1 .lens (.slot 0)) (.lit (.int .i64 1000))) (.lit (.bool true)) (.n1 .bnot (.slot 20)))])
  (.cond (.slot 22)
    (.seq
    (.reg [.asg 4 (.slot 5)])
    .ret)
    .skip))
  h3_1)))
theorem k3 : fnOK Tryd.prog 1013733976828659332776230899 [] [.tmp 4] 2 Tryd.f3 = some h3 := by kernel_rfl
theorem c3 : callable Tryd.prog 3 = true := by kernel_rfl
theorem q3 {args : List Value} (ha : args.length = 2) {w : World} {next : Value → World → Prop} {QP : List PanicEntry → World → Prop} (H : hw Tryd.prog noPanic h3 (endV [.tmp 4] next) (σ0 args) w) : callK Tryd.prog 3 args w next QP := fn_rule Tryd.func3 mixed k3 ha H
theorem r3 {args : List Value} (ha : args.length = 2) {w : World} {next : Value → World → Prop} {QP : List PanicEntry → World → Prop} (H : hw Tryd.prog noPanic h3 (endV [.tmp 4] next) (σ0 args) w) : callvK Tryd.prog (.func (.func 3) #[] #[]) args w next QP := callf c3 (q3 ha H)

/- missive/missivelaw12.MsgidIds -/
def h4_7 : HC :=
  (.reg [.need (.n2 (.bin .add) (.slot 10) (.lit (.int .i64 1))),
    .asg 10 (.n2 (.bin .add) (.slot 10) (.lit (.int .i64 1)))])
def h4_6 : HC :=
  (.seq
  (.block 3
    (.seq
    (.reg [.need (.n2 (.iaddr 1) (.slot 1) (.slot 9)),
      .need (.n1 .ld (.n2 (.iaddr 1) (.slot 1) (.slot 9))),
      .need (.n2 .idxs (.n1 .ld (.n2 (.iaddr 1) (.slot 1) (.slot 9))) (.slot 10)),
      .need (.n2 (.bin .eql) (.n2 .idxs (.n1 .ld (.n2 (.iaddr 1) (.slot 1) (.slot 9))) (.slot 10)) (.lit (.int .u8 60))),
      .need (.gif (.n2 (.bin .eql) (.n2 .idxs (.n1 .ld (.n2 (.iaddr 1) (.slot 1) (.slot 9))) (.slot 10)) (.lit (.int .u8 60))) false (.n2 (.iaddr 1) (.slot 1) (.slot 9))),
      .need (.gif (.n2 (.bin .eql) (.n2 .idxs (.n1 .ld (.n2 (.iaddr 1) (.slot 1) (.slot 9))) (.slot 10)) (.lit (.int .u8 60))) false (.n1 .ld (.n2 (.iaddr 1) (.slot 1) (.slot 9)))),
      .need (.gif (.n2 (.bin .eql) (.n2 .idxs (.n1 .ld (.n2 (.iaddr 1) (.slot 1) (.slot 9))) (.slot 10)) (.lit (.int .u8 60))) false (.n2 .idxs (.n1 .ld (.n2 (.iaddr 1) (.slot 1) (.slot 9))) (.slot 10))),
      .need (.gif (.n2 (.bin .eql) (.n2 .idxs (.n1 .ld (.n2 (.iaddr 1) (.slot 1) (.slot 9))) (.slot 10)) (.lit (.int .u8 60))) false (.n2 (.bin .eql) (.n2 .idxs (.n1 .ld (.n2 (.iaddr 1) (.slot 1) (.slot 9))) (.slot 10)) (.lit (.int .u8 62)))),
      .need (.n3 .pick (.n2 (.bin .eql) (.n2 .idxs (.n1 .ld (.n2 (.iaddr 1) (.slot 1) (.slot 9))) (.slot 10)) (.lit (.int .u8 60))) (.lit (.bool true)) (.n2 (.bin .eql) (.n2 .idxs (.n1 .ld (.n2 (.iaddr 1) (.slot 1) (.slot 9))) (.slot 10)) (.lit (.int .u8 62)))),
      .asg 77 (.n3 .pick (.n2 (.bin .eql) (.n2 .idxs (.n1 .ld (.n2 (.iaddr 1) (.slot 1) (.slot 9))) (.slot 10)) (.lit (.int .u8 60))) (.lit (.bool true)) (.n2 (.bin .eql) (.n2 .idxs (.n1 .ld (.n2 (.iaddr 1) (.slot 1) (.slot 9))) (.slot 10)) (.lit (.int .u8 62))))])
    (.cond (.slot 77)
      (.seq
      (.reg [.asg 6 (.slot 7)])
      .ret)
      .skip)))
  h4_7)
def h4_5 : HC :=
  (.seq
  (.seq
  (.reg [.need (.n2 (.iaddr 1) (.slot 1) (.slot 9)),
    .need (.n1 .ld (.n2 (.iaddr 1) (.slot 1) (.slot 9))),
    .need (.n1 .lens (.n1 .ld (.n2 (.iaddr 1) (.slot 1) (.slot 9)))),
    .need (.n2 (.bin .lss) (.slot 10) (.n1 .lens (.n1 .ld (.n2 (.iaddr 1) (.slot 1) (.slot 9))))),
    .asg 59 (.n2 (.bin .lss) (.slot 10) (.n1 .lens (.n1 .ld (.n2 (.iaddr 1) (.slot 1) (.slot 9)))))])
  (.cond (.slot 59)
    .skip
    (.exit 2)))
  h4_6)
def h4_8 : HC :=
  (.draw [.need (.n2 (.iaddr 1) (.slot 1) (.slot 9)),
    .need (.n1 .ld (.n2 (.iaddr 1) (.slot 1) (.slot 9))),
    .need (.n2 (.sbin .add) (.slot 8) (.n1 .ld (.n2 (.iaddr 1) (.slot 1) (.slot 9)))),
    .need (.n2 (.sbin .add) (.n2 (.sbin .add) (.slot 8) (.n1 .ld (.n2 (.iaddr 1) (.slot 1) (.slot 9)))) (.lit (str [60]))),
    .need (.n2 (.iaddr 1) (.slot 0) (.slot 9)),
    .need (.n1 .ld (.n2 (.iaddr 1) (.slot 0) (.slot 9))),
    .need (.n2 (.sbin .add) (.n2 (.sbin .add) (.n2 (.sbin .add) (.slot 8) (.n1 .ld (.n2 (.iaddr 1) (.slot 1) (.slot 9)))) (.lit (str [60]))) (.n1 .ld (.n2 (.iaddr 1) (.slot 0) (.slot 9)))),
    .need (.n2 (.sbin .add) (.n2 (.sbin .add) (.n2 (.sbin .add) (.n2 (.sbin .add) (.slot 8) (.n1 .ld (.n2 (.iaddr 1) (.slot 1) (.slot 9)))) (.lit (str [60]))) (.n1 .ld (.n2 (.iaddr 1) (.slot 0) (.slot 9)))) (.lit (str [62]))),
    .asg 8 (.n2 (.sbin .add) (.n2 (.sbin .add) (.n2 (.sbin .add) (.n2 (.sbin .add) (.slot 8) (.n1 .ld (.n2 (.iaddr 1) (.slot 1) (.slot 9)))) (.lit (str [60]))) (.n1 .ld (.n2 (.iaddr 1) (.slot 0) (.slot 9)))) (.lit (str [62])))])
def h4_4 : HC :=
  (.seq
  (.seq
  (.reg [.asg 10 (.lit (.int .i64 0))])
  (.block 2
    (.loop
      h4_5)))
  h4_8)
def h4_9 : HC :=
  (.reg [.need (.n2 (.bin .add) (.slot 9) (.lit (.int .i64 1))),
    .asg 9 (.n2 (.bin .add) (.slot 9) (.lit (.int .i64 1)))])
def h4_3 : HC :=
  (.seq
  (.block 1
    (.seq
    (.seq
    (.reg [.need (.n2 (.iaddr 1) (.slot 0) (.slot 9)),
      .need (.n1 .ld (.n2 (.iaddr 1) (.slot 0) (.slot 9))),
      .eff (some 42) (.call { callee := .value (.func 13), args := #[.tmp 41], argTypes := #[9] }) 4 [(41, .n1 .ld (.n2 (.iaddr 1) (.slot 0) (.slot 9)))] none [],
      .need (.n1 .bnot (.slot 42)),
      .need (.gif (.n1 .bnot (.slot 42)) false (.n2 (.iaddr 1) (.slot 1) (.slot 9))),
      .need (.gif (.n1 .bnot (.slot 42)) false (.n1 .ld (.n2 (.iaddr 1) (.slot 1) (.slot 9)))),
      .need (.gif (.n1 .bnot (.slot 42)) false (.n1 .lens (.n1 .ld (.n2 (.iaddr 1) (.slot 1) (.slot 9))))),
      .need (.gif (.n1 .bnot (.slot 42)) false (.n2 (.bin .gtr) (.n1 .lens (.n1 .ld (.n2 (.iaddr 1) (.slot 1) (.slot 9)))) (.lit (.int .i64 100)))),
      .need (.n3 .pick (.n1 .bnot (.slot 42)) (.lit (.bool true)) (.n2 (.bin .gtr) (.n1 .lens (.n1 .ld (.n2 (.iaddr 1) (.slot 1) (.slot 9)))) (.lit (.int .i64 100)))),
      .asg 51 (.n3 .pick (.n1 .bnot (.slot 42)) (.lit (.bool true)) (.n2 (.bin .gtr) (.n1 .lens (.n1 .ld (.n2 (.iaddr 1) (.slot 1) (.slot 9)))) (.lit (.int .i64 100))))])
    (.cond (.slot 51)
      (.seq
      (.reg [.asg 6 (.slot 7)])
      .ret)
      .skip))
    h4_4))
  h4_9)
def h4_2 : HC :=
  (.seq
  (.seq
  (.reg [.need (.n1 .lensl (.slot 0)),
    .need (.n2 (.bin .lss) (.slot 9) (.n1 .lensl (.slot 0))),
    .asg 35 (.n2 (.bin .lss) (.slot 9) (.n1 .lensl (.slot 0)))])
  (.cond (.slot 35)
    .skip
    (.exit 0)))
  h4_3)
def h4_13 : HC :=
  (.reg [.need (.n2 (.bin .add) (.slot 12) (.lit (.int .i64 1))),
    .asg 12 (.n2 (.bin .add) (.slot 12) (.lit (.int .i64 1)))])
def h4_12 : HC :=
  (.seq
  (.block 5
    (.seq
    (.reg [.need (.n2 (.iaddr 1) (.slot 11) (.slot 12)),
      .need (.n1 .ld (.n2 (.iaddr 1) (.slot 11) (.slot 12))),
      .eff (some 104) (.call { callee := .value (.func 13), args := #[.tmp 103], argTypes := #[9] }) 4 [(103, .n1 .ld (.n2 (.iaddr 1) (.slot 11) (.slot 12)))] none [],
      .need (.n1 .bnot (.slot 104)),
      .asg 105 (.n1 .bnot (.slot 104))])
    (.cond (.slot 105)
      (.seq
      (.reg [.asg 6 (.lit (.bool false))])
      .ret)
      .skip)))
  h4_13)
def h4_11 : HC :=
  (.seq
  (.seq
  (.reg [.need (.n1 .lensl (.slot 11)),
    .need (.n2 (.bin .lss) (.slot 12) (.n1 .lensl (.slot 11))),
    .asg 97 (.n2 (.bin .lss) (.slot 12) (.n1 .lensl (.slot 11)))])
  (.cond (.slot 97)
    .skip
    (.exit 4)))
  h4_12)
def l4_15 : List HS :=
  .need (.n3 .pick (.slot 7) (.slot 116) (.lit (.bool false))) ::
  .need (.gif (.n3 .pick (.slot 7) (.slot 116) (.lit (.bool false))) true (.n1 .lensl (.slot 0))) ::
  .need (.gif (.n3 .pick (.slot 7) (.slot 116) (.lit (.bool false))) true (.n2 (.bin .gtr) (.n1 .lensl (.slot 0)) (.lit (.int .i64 0)))) ::
  .need (.gif (.n3 .pick (.slot 7) (.slot 116) (.lit (.bool false))) true (.n2 (.beq false) (.slot 14) (.n2 (.bin .gtr) (.n1 .lensl (.slot 0)) (.lit (.int .i64 0))))) ::
  .need (.n3 .pick (.n3 .pick (.slot 7) (.slot 116) (.lit (.bool false))) (.n2 (.beq false) (.slot 14) (.n2 (.bin .gtr) (.n1 .lensl (.slot 0)) (.lit (.int .i64 0)))) (.lit (.bool false))) ::
  .need (.gif (.n3 .pick (.n3 .pick (.slot 7) (.slot 116) (.lit (.bool false))) (.n2 (.beq false) (.slot 14) (.n2 (.bin .gtr) (.n1 .lensl (.slot 0)) (.lit (.int .i64 0)))) (.lit (.bool false))) true (.n1 .bnot (.slot 14))) ::
  .need (.gif (.gif (.n3 .pick (.n3 .pick (.slot 7) (.slot 116) (.lit (.bool false))) (.n2 (.beq false) (.slot 14) (.n2 (.bin .gtr) (.n1 .lensl (.slot 0)) (.lit (.int .i64 0)))) (.lit (.bool false))) true (.n1 .bnot (.slot 14))) false (.n2 (.iaddr 1) (.slot 0) (.lit (.int .i64 0)))) ::
  .need (.gif (.gif (.n3 .pick (.n3 .pick (.slot 7) (.slot 116) (.lit (.bool false))) (.n2 (.beq false) (.slot 14) (.n2 (.bin .gtr) (.n1 .lensl (.slot 0)) (.lit (.int .i64 0)))) (.lit (.bool false))) true (.n1 .bnot (.slot 14))) false (.n1 .ld (.n2 (.iaddr 1) (.slot 0) (.lit (.int .i64 0))))) ::
  .need (.gif (.gif (.n3 .pick (.n3 .pick (.slot 7) (.slot 116) (.lit (.bool false))) (.n2 (.beq false) (.slot 14) (.n2 (.bin .gtr) (.n1 .lensl (.slot 0)) (.lit (.int .i64 0)))) (.lit (.bool false))) true (.n1 .bnot (.slot 14))) false (.n2 (.sbin .eql) (.slot 13) (.n1 .ld (.n2 (.iaddr 1) (.slot 0) (.lit (.int .i64 0)))))) ::
  .need (.gif (.n3 .pick (.n3 .pick (.slot 7) (.slot 116) (.lit (.bool false))) (.n2 (.beq false) (.slot 14) (.n2 (.bin .gtr) (.n1 .lensl (.slot 0)) (.lit (.int .i64 0)))) (.lit (.bool false))) true (.n3 .pick (.n1 .bnot (.slot 14)) (.lit (.bool true)) (.n2 (.sbin .eql) (.slot 13) (.n1 .ld (.n2 (.iaddr 1) (.slot 0) (.lit (.int .i64 0))))))) ::
  .need (.n3 .pick (.n3 .pick (.n3 .pick (.slot 7) (.slot 116) (.lit (.bool false))) (.n2 (.beq false) (.slot 14) (.n2 (.bin .gtr) (.n1 .lensl (.slot 0)) (.lit (.int .i64 0)))) (.lit (.bool false))) (.n3 .pick (.n1 .bnot (.slot 14)) (.lit (.bool true)) (.n2 (.sbin .eql) (.slot 13) (.n1 .ld (.n2 (.iaddr 1) (.slot 0) (.lit (.int .i64 0)))))) (.lit (.bool false))) ::
  .asg 6 (.n3 .pick (.n3 .pick (.n3 .pick (.slot 7) (.slot 116) (.lit (.bool false))) (.n2 (.beq false) (.slot 14) (.n2 (.bin .gtr) (.n1 .lensl (.slot 0)) (.lit (.int .i64 0)))) (.lit (.bool false))) (.n3 .pick (.n1 .bnot (.slot 14)) (.lit (.bool true)) (.n2 (.sbin .eql) (.slot 13) (.n1 .ld (.n2 (.iaddr 1) (.slot 0) (.lit (.int .i64 0)))))) (.lit (.bool false))) ::
  []
def l4_16 : List HS :=
  .eff (some 116) (.call { callee := .value (.func 17), args := #[.tmp 114, .tmp 115], argTypes := #[31, 31] }) 4 [(114, .slot 114), (115, .slot 0)] (some (.slot 7, true)) [] ::
  l4_15
def h4_14 : HC :=
  (.seq
  (.reg [.eff (some 108) (.call { callee := .value (.func 9), args := #[.tmp 107], argTypes := #[9] }) 25 [(107, .slot 8)] none [],
    .need (.n1 (.ext 0) (.slot 108)),
    .need (.n1 (.ext 1) (.slot 108)),
    .asg 13 (.n1 (.ext 0) (.slot 108)),
    .asg 14 (.n1 (.ext 1) (.slot 108))])
  (.seq
  (.reg (.eff (some 114) (.call { callee := .value (.func 18), args := #[.tmp 113], argTypes := #[9] }) 31 [(113, .slot 8)] (some (.slot 7, true)) [] ::
    l4_16))
  .ret))
def h4_10 : HC :=
  (.seq
  (.reg [.eff (some 93) (.call { callee := .value (.func 18), args := #[.tmp 92], argTypes := #[9] }) 31 [(92, .slot 2)] none [],
    .asg 11 (.slot 93)])
  (.seq
  (.seq
  (.reg [.asg 12 (.lit (.int .i64 0))])
  (.block 4
    (.loop
      h4_11)))
  h4_14))
def h4_1 : HC :=
  (.seq
  (.reg [.asg 8 (.lit (str []))])
  (.seq
  (.seq
  (.reg [.asg 9 (.lit (.int .i64 0))])
  (.block 0
    (.loop
      h4_2)))
  h4_10))
def h4 : HC :=
  (.seq
  (.reg [.asg 6 (.lit (.bool false))])
  (.seq
  (.reg [.eff (some 15) (.call { callee := .value (.func 7), args := #[], argTypes := #[] }) 4 [] none [],
    .asg 7 (.slot 15)])
  (.seq
  (.seq
  (.reg [.need (.n1 .lensl (.slot 0)),
    .need (.n2 (.bin .gtr) (.n1 .lensl (.slot 0)) (.lit (.int .i64 30))),
    .need (.gif (.n2 (.bin .gtr) (.n1 .lensl (.slot 0)) (.lit (.int .i64 30))) false (.n1 .lensl (.slot 1))),
    .need (.gif (.n2 (.bin .gtr) (.n1 .lensl (.slot 0)) (.lit (.int .i64 30))) false (.n1 .lensl (.slot 0))),
    .need (.gif (.n2 (.bin .gtr) (.n1 .lensl (.slot 0)) (.lit (.int .i64 30))) false (.n2 (.bin .lss) (.n1 .lensl (.slot 1)) (.n1 .lensl (.slot 0)))),
    .need (.n3 .pick (.n2 (.bin .gtr) (.n1 .lensl (.slot 0)) (.lit (.int .i64 30))) (.lit (.bool true)) (.n2 (.bin .lss) (.n1 .lensl (.slot 1)) (.n1 .lensl (.slot 0)))),
    .need (.gif (.n3 .pick (.n2 (.bin .gtr) (.n1 .lensl (.slot 0)) (.lit (.int .i64 30))) (.lit (.bool true)) (.n2 (.bin .lss) (.n1 .lensl (.slot 1)) (.n1 .lensl (.slot 0)))) false (.n1 .lens (.slot 2))),
    .need (.gif (.n3 .pick (.n2 (.bin .gtr) (.n1 .lensl (.slot 0)) (.lit (.int .i64 30))) (.lit (.bool true)) (.n2 (.bin .lss) (.n1 .lensl (.slot 1)) (.n1 .lensl (.slot 0)))) false (.n2 (.bin .gtr) (.n1 .lens (.slot 2)) (.lit (.int .i64 1000)))),
    .need (.n3 .pick (.n3 .pick (.n2 (.bin .gtr) (.n1 .lensl (.slot 0)) (.lit (.int .i64 30))) (.lit (.bool true)) (.n2 (.bin .lss) (.n1 .lensl (.slot 1)) (.n1 .lensl (.slot 0)))) (.lit (.bool true)) (.n2 (.bin .gtr) (.n1 .lens (.slot 2)) (.lit (.int .i64 1000)))),
    .asg 30 (.n3 .pick (.n3 .pick (.n2 (.bin .gtr) (.n1 .lensl (.slot 0)) (.lit (.int .i64 30))) (.lit (.bool true)) (.n2 (.bin .lss) (.n1 .lensl (.slot 1)) (.n1 .lensl (.slot 0)))) (.lit (.bool true)) (.n2 (.bin .gtr) (.n1 .lens (.slot 2)) (.lit (.int .i64 1000))))])
  (.cond (.slot 30)
    (.seq
    (.reg [.asg 6 (.slot 7)])
    .ret)
    .skip))
  h4_1)))
theorem k4 : fnOK Tryd.prog 104231471313162393426551124883734471 [⟨15, [0, 0, 0, 6, 14, 31, 63, 0, 0, 384, 896, 2047, 4095, 8191], [(0, []), (1, []), (2, []), (3, []), (4, []), (5, []), (6, []), (7, []), (8, []), (9, []), (10, []), (11, []), (12, []), (13, [])], none⟩] [.tmp 6] 3 Tryd.f4 = some h4 := by kernel_rfl
theorem c4 : callable Tryd.prog 4 = true := by kernel_rfl
theorem q4 {args : List Value} (ha : args.length = 3) {w : World} {next : Value → World → Prop} {QP : List PanicEntry → World → Prop} (H : hw Tryd.prog noPanic h4 (endV [.tmp 6] next) (σ0 args) w) : callK Tryd.prog 4 args w next QP := fn_rule Tryd.func4 mixed k4 ha H
theorem r4 {args : List Value} (ha : args.length = 3) {w : World} {next : Value → World → Prop} {QP : List PanicEntry → World → Prop} (H : hw Tryd.prog noPanic h4 (endV [.tmp 6] next) (σ0 args) w) : callvK Tryd.prog (.func (.func 4) #[] #[]) args w next QP := callf c4 (q4 ha H)

/- missive/missivelaw12.MsgidRefs -/
def l5_5 : List HS :=
  .need (.gif (.gif (.n3 .pick (.n1 .bnot (.slot 52)) (.lit (.bool true)) (.slot 62)) false (.n1 .bnot (.slot 70))) true (.n1 .bnot (.slot 78))) ::
  .need (.gif (.n3 .pick (.n1 .bnot (.slot 52)) (.lit (.bool true)) (.slot 62)) false (.n3 .pick (.n1 .bnot (.slot 70)) (.n1 .bnot (.slot 78)) (.lit (.bool false)))) ::
  .need (.n3 .pick (.n3 .pick (.n1 .bnot (.slot 52)) (.lit (.bool true)) (.slot 62)) (.lit (.bool true)) (.n3 .pick (.n1 .bnot (.slot 70)) (.n1 .bnot (.slot 78)) (.lit (.bool false)))) ::
  .asg 81 (.n3 .pick (.n3 .pick (.n1 .bnot (.slot 52)) (.lit (.bool true)) (.slot 62)) (.lit (.bool true)) (.n3 .pick (.n1 .bnot (.slot 70)) (.n1 .bnot (.slot 78)) (.lit (.bool false)))) ::
  []
def l5_6 : List HS :=
  .need (.gif (.n3 .pick (.n1 .bnot (.slot 52)) (.lit (.bool true)) (.slot 62)) false (.n1 .bnot (.slot 70))) ::
  .need (.gif (.gif (.n3 .pick (.n1 .bnot (.slot 52)) (.lit (.bool true)) (.slot 62)) false (.n1 .bnot (.slot 70))) true (.n2 (.iaddr 1) (.slot 12) (.slot 13))) ::
  .need (.gif (.gif (.n3 .pick (.n1 .bnot (.slot 52)) (.lit (.bool true)) (.slot 62)) false (.n1 .bnot (.slot 70))) true (.n1 .ld (.n2 (.iaddr 1) (.slot 12) (.slot 13)))) ::
  .eff (some 78) (.call { callee := .value (.func 23), args := #[.tmp 73, .tmp 77], argTypes := #[31, 9] }) 4 [(73, .slot 11), (77, .n1 .ld (.n2 (.iaddr 1) (.slot 12) (.slot 13)))] (some (.gif (.n3 .pick (.n1 .bnot (.slot 52)) (.lit (.bool true)) (.slot 62)) false (.n1 .bnot (.slot 70)), true)) [] ::
  l5_5
def l5_7 : List HS :=
  .need (.n3 .pick (.n1 .bnot (.slot 52)) (.lit (.bool true)) (.slot 62)) ::
  .need (.gif (.n3 .pick (.n1 .bnot (.slot 52)) (.lit (.bool true)) (.slot 62)) false (.n2 (.iaddr 1) (.slot 12) (.slot 13))) ::
  .need (.gif (.n3 .pick (.n1 .bnot (.slot 52)) (.lit (.bool true)) (.slot 62)) false (.n1 .ld (.n2 (.iaddr 1) (.slot 12) (.slot 13)))) ::
  .eff (some 70) (.call { callee := .value (.func 23), args := #[.tmp 65, .tmp 69], argTypes := #[31, 9] }) 4 [(65, .slot 10), (69, .n1 .ld (.n2 (.iaddr 1) (.slot 12) (.slot 13)))] (some (.n3 .pick (.n1 .bnot (.slot 52)) (.lit (.bool true)) (.slot 62), false)) [] ::
  l5_6
def h5_8 : HC :=
  (.cond (.slot 81)
    (.seq
    (.reg [.asg 4 (.lit (.bool false))])
    .ret)
    .skip)
def h5_9 : HC :=
  (.reg [.need (.n2 (.bin .add) (.slot 13) (.lit (.int .i64 1))),
    .asg 13 (.n2 (.bin .add) (.slot 13) (.lit (.int .i64 1)))])
def h5_4 : HC :=
  (.seq
  (.block 1
    (.seq
    (.draw (.need (.n2 (.iaddr 1) (.slot 12) (.slot 13)) ::
      .need (.n1 .ld (.n2 (.iaddr 1) (.slot 12) (.slot 13))) ::
      .eff (some 52) (.call { callee := .value (.func 13), args := #[.tmp 51], argTypes := #[9] }) 4 [(51, .n1 .ld (.n2 (.iaddr 1) (.slot 12) (.slot 13)))] none [] ::
      .need (.n1 .bnot (.slot 52)) ::
      .need (.gif (.n1 .bnot (.slot 52)) false (.n3 (.slv 1 false true) (.slot 12) (.lit (.tuple #[])) (.slot 13))) ::
      .need (.gif (.n1 .bnot (.slot 52)) false (.n2 (.iaddr 1) (.slot 12) (.slot 13))) ::
      .need (.gif (.n1 .bnot (.slot 52)) false (.n1 .ld (.n2 (.iaddr 1) (.slot 12) (.slot 13)))) ::
      .eff (some 62) (.call { callee := .value (.func 23), args := #[.tmp 57, .tmp 61], argTypes := #[31, 9] }) 4 [(57, .n3 (.slv 1 false true) (.slot 12) (.lit (.tuple #[])) (.slot 13)), (61, .n1 .ld (.n2 (.iaddr 1) (.slot 12) (.slot 13)))] (some (.n1 .bnot (.slot 52), false)) [] ::
      l5_7))
    h5_8))
  h5_9)
def h5_3 : HC :=
  (.seq
  (.seq
  (.reg [.need (.n1 .lensl (.slot 12)),
    .need (.n2 (.bin .lss) (.slot 13) (.n1 .lensl (.slot 12))),
    .asg 45 (.n2 (.bin .lss) (.slot 13) (.n1 .lensl (.slot 12)))])
  (.cond (.slot 45)
    .skip
    (.exit 0)))
  h5_4)
def h5_15 : HC :=
  (.reg [.need (.n2 (.bin .add) (.slot 15) (.lit (.int .i64 1))),
    .asg 15 (.n2 (.bin .add) (.slot 15) (.lit (.int .i64 1)))])
def h5_14 : HC :=
  (.seq
  (.block 3
    (.seq
    (.reg [.need (.n2 (.iaddr 1) (.slot 14) (.slot 15)),
      .need (.n1 .ld (.n2 (.iaddr 1) (.slot 14) (.slot 15))),
      .eff (some 164) (.call { callee := .value (.func 23), args := #[.tmp 159, .tmp 163], argTypes := #[31, 9] }) 4 [(159, .slot 12), (163, .n1 .ld (.n2 (.iaddr 1) (.slot 14) (.slot 15)))] none [],
      .need (.n1 .bnot (.slot 164)),
      .asg 165 (.n1 .bnot (.slot 164))])
    (.cond (.slot 165)
      (.seq
      (.reg [.asg 4 (.lit (.bool false))])
      .ret)
      .skip)))
  h5_15)
def h5_13 : HC :=
  (.seq
  (.seq
  (.reg [.need (.n1 .lensl (.slot 14)),
    .need (.n2 (.bin .lss) (.slot 15) (.n1 .lensl (.slot 14))),
    .need (.gif (.n2 (.bin .lss) (.slot 15) (.n1 .lensl (.slot 14))) true (.n1 .lensl (.slot 12))),
    .need (.gif (.n2 (.bin .lss) (.slot 15) (.n1 .lensl (.slot 14))) true (.n2 (.bin .lss) (.n1 .lensl (.slot 12)) (.lit (.int .i64 100)))),
    .need (.n3 .pick (.n2 (.bin .lss) (.slot 15) (.n1 .lensl (.slot 14))) (.n2 (.bin .lss) (.n1 .lensl (.slot 12)) (.lit (.int .i64 100))) (.lit (.bool false))),
    .asg 156 (.n3 .pick (.n2 (.bin .lss) (.slot 15) (.n1 .lensl (.slot 14))) (.n2 (.bin .lss) (.n1 .lensl (.slot 12)) (.lit (.int .i64 100))) (.lit (.bool false)))])
  (.cond (.slot 156)
    .skip
    (.exit 2)))
  h5_14)
def t5_18 : HT :=
  (.run [.eff (some 168) (.call { callee := .builtin .append, args := #[.tmp 166, .tmp 167], argTypes := #[22, 22] }) 22 [(166, .slot 166), (167, .slot 0)] none [⟨none, (.ldn 2), .slot 3⟩],
    .eff (some 170) (.buildSlice 22 1 #[(0, .tmp 169)]) 22 [(169, .slot 169)] none [],
    .eff (some 171) (.call { callee := .builtin .append, args := #[.tmp 168, .tmp 170], argTypes := #[22, 22] }) 22 [(168, .slot 168), (170, .slot 170)] none [],
    .eff (some 172) (.call { callee := .value (.func 20), args := #[.tmp 171], argTypes := #[22] }) 31 [(171, .slot 171)] none [],
    .asg 16 (.slot 172)]
  .fin)
def t5_19 : HT :=
  (.run [.eff (some 170) (.buildSlice 22 1 #[(0, .tmp 169)]) 22 [(169, .slot 169)] none [⟨none, (.ldn 2), .slot 3⟩],
    .eff (some 168) (.call { callee := .builtin .append, args := #[.tmp 166, .tmp 167], argTypes := #[22, 22] }) 22 [(166, .slot 166), (167, .slot 0)] none [⟨none, (.ldn 2), .slot 3⟩],
    .eff (some 171) (.call { callee := .builtin .append, args := #[.tmp 168, .tmp 170], argTypes := #[22, 22] }) 22 [(168, .slot 168), (170, .slot 170)] none [],
    .eff (some 172) (.call { callee := .value (.func 20), args := #[.tmp 171], argTypes := #[22] }) 31 [(171, .slot 171)] none [],
    .asg 16 (.slot 172)]
  .fin)
def t5_17 : HT :=
  (.run [.eff (some 166) (.buildSlice 22 0 #[]) 22 [] none [⟨none, (.ldn 2), .slot 3⟩]]
  (.fork
    t5_18
    t5_19))
def t5_20 : HT :=
  (.run [.eff (some 170) (.buildSlice 22 1 #[(0, .tmp 169)]) 22 [(169, .slot 169)] none [⟨none, (.ldn 2), .slot 3⟩],
    .eff (some 166) (.buildSlice 22 0 #[]) 22 [] none [⟨none, (.ldn 2), .slot 3⟩],
    .eff (some 168) (.call { callee := .builtin .append, args := #[.tmp 166, .tmp 167], argTypes := #[22, 22] }) 22 [(166, .slot 166), (167, .slot 0)] none [⟨none, (.ldn 2), .slot 3⟩],
    .eff (some 171) (.call { callee := .builtin .append, args := #[.tmp 168, .tmp 170], argTypes := #[22, 22] }) 22 [(168, .slot 168), (170, .slot 170)] none [],
    .eff (some 172) (.call { callee := .value (.func 20), args := #[.tmp 171], argTypes := #[22] }) 31 [(171, .slot 171)] none [],
    .asg 16 (.slot 172)]
  .fin)
def h5_21 : HC :=
  (.seq
  (.reg [.eff (some 175) (.call { callee := .value (.func 22), args := #[.tmp 174, .const (str [82, 101, 102, 101, 114, 101, 110, 99, 101, 115])], argTypes := #[22, 9] }) 25 [(174, .slot 0)] none [],
    .need (.n1 (.ext 0) (.slot 175)),
    .need (.n1 (.ext 1) (.slot 175)),
    .asg 18 (.n1 (.ext 1) (.slot 175))])
  (.seq
  (.reg [.eff (some 180) (.call { callee := .value (.func 22), args := #[.tmp 179, .const (str [73, 110, 45, 82, 101, 112, 108, 121, 45, 84, 111])], argTypes := #[22, 9] }) 25 [(179, .slot 0)] none [],
    .need (.n1 (.ext 0) (.slot 180)),
    .need (.n1 (.ext 1) (.slot 180)),
    .asg 20 (.n1 (.ext 1) (.slot 180))])
  (.seq
  (.reg [.need (.gif (.slot 5) true (.n1 .bnot (.slot 18))),
    .need (.gif (.gif (.slot 5) true (.n1 .bnot (.slot 18))) false (.n1 .bnot (.slot 20))),
    .need (.gif (.slot 5) true (.n3 .pick (.n1 .bnot (.slot 18)) (.lit (.bool true)) (.n1 .bnot (.slot 20)))),
    .eff (some 194) (.call { callee := .value (.func 17), args := #[.tmp 192, .tmp 193], argTypes := #[31, 31] }) 4 [(192, .slot 12), (193, .slot 16)] (some (.gif (.slot 5) true (.n3 .pick (.n1 .bnot (.slot 18)) (.lit (.bool true)) (.n1 .bnot (.slot 20))), false)) [],
    .need (.gif (.slot 5) true (.n3 .pick (.n3 .pick (.n1 .bnot (.slot 18)) (.lit (.bool true)) (.n1 .bnot (.slot 20))) (.lit (.bool true)) (.slot 194))),
    .need (.n3 .pick (.slot 5) (.n3 .pick (.n3 .pick (.n1 .bnot (.slot 18)) (.lit (.bool true)) (.n1 .bnot (.slot 20))) (.lit (.bool true)) (.slot 194)) (.lit (.bool false))),
    .asg 4 (.n3 .pick (.slot 5) (.n3 .pick (.n3 .pick (.n1 .bnot (.slot 18)) (.lit (.bool true)) (.n1 .bnot (.slot 20))) (.lit (.bool true)) (.slot 194)) (.lit (.bool false)))])
  .ret)))
def h5_16 : HC :=
  (.seq
  (.drawT
    (.run [.need (.n1 (.ldn 2) (.slot 3)),
      .asg 169 (.n1 (.ldn 2) (.slot 3))]
    (.fork
      t5_17
      t5_20)))
  h5_21)
def h5_12 : HC :=
  (.seq
  (.reg [.eff (some 143) (.buildSlice 31 0 #[]) 31 [] none [],
    .eff (some 145) (.call { callee := .builtin .append, args := #[.tmp 143, .tmp 144], argTypes := #[31, 31] }) 31 [(143, .slot 143), (144, .slot 10)] none [],
    .eff (some 147) (.call { callee := .builtin .append, args := #[.tmp 145, .tmp 146], argTypes := #[31, 31] }) 31 [(145, .slot 145), (146, .slot 11)] none [],
    .asg 14 (.slot 147)])
  (.seq
  (.seq
  (.reg [.asg 15 (.lit (.int .i64 0))])
  (.block 2
    (.loop
      h5_13)))
  h5_16))
def h5_11 : HC :=
  (.seq
  (.seq
  (.draw [.need (.n1 .lensl (.slot 12)),
    .need (.n2 (.bin .gtr) (.n1 .lensl (.slot 12)) (.lit (.int .i64 0))),
    .need (.gif (.n2 (.bin .gtr) (.n1 .lensl (.slot 12)) (.lit (.int .i64 0))) true (.n1 .lensl (.slot 10))),
    .need (.gif (.n2 (.bin .gtr) (.n1 .lensl (.slot 12)) (.lit (.int .i64 0))) true (.n2 (.bin .gtr) (.n1 .lensl (.slot 10)) (.lit (.int .i64 0)))),
    .need (.gif (.gif (.n2 (.bin .gtr) (.n1 .lensl (.slot 12)) (.lit (.int .i64 0))) true (.n2 (.bin .gtr) (.n1 .lensl (.slot 10)) (.lit (.int .i64 0)))) true (.n1 .lensl (.slot 12))),
    .need (.gif (.gif (.n2 (.bin .gtr) (.n1 .lensl (.slot 12)) (.lit (.int .i64 0))) true (.n2 (.bin .gtr) (.n1 .lensl (.slot 10)) (.lit (.int .i64 0)))) true (.n2 (.bin .sub) (.n1 .lensl (.slot 12)) (.lit (.int .i64 1)))),
    .need (.gif (.gif (.n2 (.bin .gtr) (.n1 .lensl (.slot 12)) (.lit (.int .i64 0))) true (.n2 (.bin .gtr) (.n1 .lensl (.slot 10)) (.lit (.int .i64 0)))) true (.n2 (.iaddr 1) (.slot 12) (.n2 (.bin .sub) (.n1 .lensl (.slot 12)) (.lit (.int .i64 1))))),
    .need (.gif (.gif (.n2 (.bin .gtr) (.n1 .lensl (.slot 12)) (.lit (.int .i64 0))) true (.n2 (.bin .gtr) (.n1 .lensl (.slot 10)) (.lit (.int .i64 0)))) true (.n1 .ld (.n2 (.iaddr 1) (.slot 12) (.n2 (.bin .sub) (.n1 .lensl (.slot 12)) (.lit (.int .i64 1)))))),
    .need (.gif (.gif (.n2 (.bin .gtr) (.n1 .lensl (.slot 12)) (.lit (.int .i64 0))) true (.n2 (.bin .gtr) (.n1 .lensl (.slot 10)) (.lit (.int .i64 0)))) true (.n1 .lensl (.slot 10))),
    .need (.gif (.gif (.n2 (.bin .gtr) (.n1 .lensl (.slot 12)) (.lit (.int .i64 0))) true (.n2 (.bin .gtr) (.n1 .lensl (.slot 10)) (.lit (.int .i64 0)))) true (.n2 (.bin .sub) (.n1 .lensl (.slot 10)) (.lit (.int .i64 1)))),
    .need (.gif (.gif (.n2 (.bin .gtr) (.n1 .lensl (.slot 12)) (.lit (.int .i64 0))) true (.n2 (.bin .gtr) (.n1 .lensl (.slot 10)) (.lit (.int .i64 0)))) true (.n2 .mx (.n2 (.bin .sub) (.n1 .lensl (.slot 10)) (.lit (.int .i64 1))) (.lit (.int .i64 0)))),
    .need (.gif (.gif (.n2 (.bin .gtr) (.n1 .lensl (.slot 12)) (.lit (.int .i64 0))) true (.n2 (.bin .gtr) (.n1 .lensl (.slot 10)) (.lit (.int .i64 0)))) true (.n2 (.iaddr 1) (.slot 10) (.n2 .mx (.n2 (.bin .sub) (.n1 .lensl (.slot 10)) (.lit (.int .i64 1))) (.lit (.int .i64 0))))),
    .need (.gif (.gif (.n2 (.bin .gtr) (.n1 .lensl (.slot 12)) (.lit (.int .i64 0))) true (.n2 (.bin .gtr) (.n1 .lensl (.slot 10)) (.lit (.int .i64 0)))) true (.n1 .ld (.n2 (.iaddr 1) (.slot 10) (.n2 .mx (.n2 (.bin .sub) (.n1 .lensl (.slot 10)) (.lit (.int .i64 1))) (.lit (.int .i64 0)))))),
    .need (.gif (.gif (.n2 (.bin .gtr) (.n1 .lensl (.slot 12)) (.lit (.int .i64 0))) true (.n2 (.bin .gtr) (.n1 .lensl (.slot 10)) (.lit (.int .i64 0)))) true (.n2 (.sbin .neq) (.n1 .ld (.n2 (.iaddr 1) (.slot 12) (.n2 (.bin .sub) (.n1 .lensl (.slot 12)) (.lit (.int .i64 1))))) (.n1 .ld (.n2 (.iaddr 1) (.slot 10) (.n2 .mx (.n2 (.bin .sub) (.n1 .lensl (.slot 10)) (.lit (.int .i64 1))) (.lit (.int .i64 0))))))),
    .need (.gif (.n2 (.bin .gtr) (.n1 .lensl (.slot 12)) (.lit (.int .i64 0))) true (.n3 .pick (.n2 (.bin .gtr) (.n1 .lensl (.slot 10)) (.lit (.int .i64 0))) (.n2 (.sbin .neq) (.n1 .ld (.n2 (.iaddr 1) (.slot 12) (.n2 (.bin .sub) (.n1 .lensl (.slot 12)) (.lit (.int .i64 1))))) (.n1 .ld (.n2 (.iaddr 1) (.slot 10) (.n2 .mx (.n2 (.bin .sub) (.n1 .lensl (.slot 10)) (.lit (.int .i64 1))) (.lit (.int .i64 0)))))) (.lit (.bool false)))),
    .need (.gif (.gif (.n2 (.bin .gtr) (.n1 .lensl (.slot 12)) (.lit (.int .i64 0))) true (.n3 .pick (.n2 (.bin .gtr) (.n1 .lensl (.slot 10)) (.lit (.int .i64 0))) (.n2 (.sbin .neq) (.n1 .ld (.n2 (.iaddr 1) (.slot 12) (.n2 (.bin .sub) (.n1 .lensl (.slot 12)) (.lit (.int .i64 1))))) (.n1 .ld (.n2 (.iaddr 1) (.slot 10) (.n2 .mx (.n2 (.bin .sub) (.n1 .lensl (.slot 10)) (.lit (.int .i64 1))) (.lit (.int .i64 0)))))) (.lit (.bool false)))) false (.n1 .lensl (.slot 10))),
    .need (.gif (.gif (.n2 (.bin .gtr) (.n1 .lensl (.slot 12)) (.lit (.int .i64 0))) true (.n3 .pick (.n2 (.bin .gtr) (.n1 .lensl (.slot 10)) (.lit (.int .i64 0))) (.n2 (.sbin .neq) (.n1 .ld (.n2 (.iaddr 1) (.slot 12) (.n2 (.bin .sub) (.n1 .lensl (.slot 12)) (.lit (.int .i64 1))))) (.n1 .ld (.n2 (.iaddr 1) (.slot 10) (.n2 .mx (.n2 (.bin .sub) (.n1 .lensl (.slot 10)) (.lit (.int .i64 1))) (.lit (.int .i64 0)))))) (.lit (.bool false)))) false (.n2 (.bin .eql) (.n1 .lensl (.slot 10)) (.lit (.int .i64 0)))),
    .need (.gif (.gif (.gif (.n2 (.bin .gtr) (.n1 .lensl (.slot 12)) (.lit (.int .i64 0))) true (.n3 .pick (.n2 (.bin .gtr) (.n1 .lensl (.slot 10)) (.lit (.int .i64 0))) (.n2 (.sbin .neq) (.n1 .ld (.n2 (.iaddr 1) (.slot 12) (.n2 (.bin .sub) (.n1 .lensl (.slot 12)) (.lit (.int .i64 1))))) (.n1 .ld (.n2 (.iaddr 1) (.slot 10) (.n2 .mx (.n2 (.bin .sub) (.n1 .lensl (.slot 10)) (.lit (.int .i64 1))) (.lit (.int .i64 0)))))) (.lit (.bool false)))) false (.n2 (.bin .eql) (.n1 .lensl (.slot 10)) (.lit (.int .i64 0)))) true (.n1 .lensl (.slot 12))),
    .need (.gif (.gif (.gif (.n2 (.bin .gtr) (.n1 .lensl (.slot 12)) (.lit (.int .i64 0))) true (.n3 .pick (.n2 (.bin .gtr) (.n1 .lensl (.slot 10)) (.lit (.int .i64 0))) (.n2 (.sbin .neq) (.n1 .ld (.n2 (.iaddr 1) (.slot 12) (.n2 (.bin .sub) (.n1 .lensl (.slot 12)) (.lit (.int .i64 1))))) (.n1 .ld (.n2 (.iaddr 1) (.slot 10) (.n2 .mx (.n2 (.bin .sub) (.n1 .lensl (.slot 10)) (.lit (.int .i64 1))) (.lit (.int .i64 0)))))) (.lit (.bool false)))) false (.n2 (.bin .eql) (.n1 .lensl (.slot 10)) (.lit (.int .i64 0)))) true (.n2 (.bin .sub) (.n1 .lensl (.slot 12)) (.lit (.int .i64 1)))),
    .need (.gif (.gif (.gif (.n2 (.bin .gtr) (.n1 .lensl (.slot 12)) (.lit (.int .i64 0))) true (.n3 .pick (.n2 (.bin .gtr) (.n1 .lensl (.slot 10)) (.lit (.int .i64 0))) (.n2 (.sbin .neq) (.n1 .ld (.n2 (.iaddr 1) (.slot 12) (.n2 (.bin .sub) (.n1 .lensl (.slot 12)) (.lit (.int .i64 1))))) (.n1 .ld (.n2 (.iaddr 1) (.slot 10) (.n2 .mx (.n2 (.bin .sub) (.n1 .lensl (.slot 10)) (.lit (.int .i64 1))) (.lit (.int .i64 0)))))) (.lit (.bool false)))) false (.n2 (.bin .eql) (.n1 .lensl (.slot 10)) (.lit (.int .i64 0)))) true (.n2 (.iaddr 1) (.slot 12) (.n2 (.bin .sub) (.n1 .lensl (.slot 12)) (.lit (.int .i64 1))))),
    .need (.gif (.gif (.gif (.n2 (.bin .gtr) (.n1 .lensl (.slot 12)) (.lit (.int .i64 0))) true (.n3 .pick (.n2 (.bin .gtr) (.n1 .lensl (.slot 10)) (.lit (.int .i64 0))) (.n2 (.sbin .neq) (.n1 .ld (.n2 (.iaddr 1) (.slot 12) (.n2 (.bin .sub) (.n1 .lensl (.slot 12)) (.lit (.int .i64 1))))) (.n1 .ld (.n2 (.iaddr 1) (.slot 10) (.n2 .mx (.n2 (.bin .sub) (.n1 .lensl (.slot 10)) (.lit (.int .i64 1))) (.lit (.int .i64 0)))))) (.lit (.bool false)))) false (.n2 (.bin .eql) (.n1 .lensl (.slot 10)) (.lit (.int .i64 0)))) true (.n1 .ld (.n2 (.iaddr 1) (.slot 12) (.n2 (.bin .sub) (.n1 .lensl (.slot 12)) (.lit (.int .i64 1)))))),
    .need (.gif (.gif (.gif (.n2 (.bin .gtr) (.n1 .lensl (.slot 12)) (.lit (.int .i64 0))) true (.n3 .pick (.n2 (.bin .gtr) (.n1 .lensl (.slot 10)) (.lit (.int .i64 0))) (.n2 (.sbin .neq) (.n1 .ld (.n2 (.iaddr 1) (.slot 12) (.n2 (.bin .sub) (.n1 .lensl (.slot 12)) (.lit (.int .i64 1))))) (.n1 .ld (.n2 (.iaddr 1) (.slot 10) (.n2 .mx (.n2 (.bin .sub) (.n1 .lensl (.slot 10)) (.lit (.int .i64 1))) (.lit (.int .i64 0)))))) (.lit (.bool false)))) false (.n2 (.bin .eql) (.n1 .lensl (.slot 10)) (.lit (.int .i64 0)))) true (.n1 .lensl (.slot 11))),
    .need (.gif (.gif (.gif (.n2 (.bin .gtr) (.n1 .lensl (.slot 12)) (.lit (.int .i64 0))) true (.n3 .pick (.n2 (.bin .gtr) (.n1 .lensl (.slot 10)) (.lit (.int .i64 0))) (.n2 (.sbin .neq) (.n1 .ld (.n2 (.iaddr 1) (.slot 12) (.n2 (.bin .sub) (.n1 .lensl (.slot 12)) (.lit (.int .i64 1))))) (.n1 .ld (.n2 (.iaddr 1) (.slot 10) (.n2 .mx (.n2 (.bin .sub) (.n1 .lensl (.slot 10)) (.lit (.int .i64 1))) (.lit (.int .i64 0)))))) (.lit (.bool false)))) false (.n2 (.bin .eql) (.n1 .lensl (.slot 10)) (.lit (.int .i64 0)))) true (.n2 (.bin .sub) (.n1 .lensl (.slot 11)) (.lit (.int .i64 1)))),
    .need (.gif (.gif (.gif (.n2 (.bin .gtr) (.n1 .lensl (.slot 12)) (.lit (.int .i64 0))) true (.n3 .pick (.n2 (.bin .gtr) (.n1 .lensl (.slot 10)) (.lit (.int .i64 0))) (.n2 (.sbin .neq) (.n1 .ld (.n2 (.iaddr 1) (.slot 12) (.n2 (.bin .sub) (.n1 .lensl (.slot 12)) (.lit (.int .i64 1))))) (.n1 .ld (.n2 (.iaddr 1) (.slot 10) (.n2 .mx (.n2 (.bin .sub) (.n1 .lensl (.slot 10)) (.lit (.int .i64 1))) (.lit (.int .i64 0)))))) (.lit (.bool false)))) false (.n2 (.bin .eql) (.n1 .lensl (.slot 10)) (.lit (.int .i64 0)))) true (.n2 .mx (.n2 (.bin .sub) (.n1 .lensl (.slot 11)) (.lit (.int .i64 1))) (.lit (.int .i64 0)))),
    .need (.gif (.gif (.gif (.n2 (.bin .gtr) (.n1 .lensl (.slot 12)) (.lit (.int .i64 0))) true (.n3 .pick (.n2 (.bin .gtr) (.n1 .lensl (.slot 10)) (.lit (.int .i64 0))) (.n2 (.sbin .neq) (.n1 .ld (.n2 (.iaddr 1) (.slot 12) (.n2 (.bin .sub) (.n1 .lensl (.slot 12)) (.lit (.int .i64 1))))) (.n1 .ld (.n2 (.iaddr 1) (.slot 10) (.n2 .mx (.n2 (.bin .sub) (.n1 .lensl (.slot 10)) (.lit (.int .i64 1))) (.lit (.int .i64 0)))))) (.lit (.bool false)))) false (.n2 (.bin .eql) (.n1 .lensl (.slot 10)) (.lit (.int .i64 0)))) true (.n2 (.iaddr 1) (.slot 11) (.n2 .mx (.n2 (.bin .sub) (.n1 .lensl (.slot 11)) (.lit (.int .i64 1))) (.lit (.int .i64 0))))),
    .need (.gif (.gif (.gif (.n2 (.bin .gtr) (.n1 .lensl (.slot 12)) (.lit (.int .i64 0))) true (.n3 .pick (.n2 (.bin .gtr) (.n1 .lensl (.slot 10)) (.lit (.int .i64 0))) (.n2 (.sbin .neq) (.n1 .ld (.n2 (.iaddr 1) (.slot 12) (.n2 (.bin .sub) (.n1 .lensl (.slot 12)) (.lit (.int .i64 1))))) (.n1 .ld (.n2 (.iaddr 1) (.slot 10) (.n2 .mx (.n2 (.bin .sub) (.n1 .lensl (.slot 10)) (.lit (.int .i64 1))) (.lit (.int .i64 0)))))) (.lit (.bool false)))) false (.n2 (.bin .eql) (.n1 .lensl (.slot 10)) (.lit (.int .i64 0)))) true (.n1 .ld (.n2 (.iaddr 1) (.slot 11) (.n2 .mx (.n2 (.bin .sub) (.n1 .lensl (.slot 11)) (.lit (.int .i64 1))) (.lit (.int .i64 0)))))),
    .need (.gif (.gif (.gif (.n2 (.bin .gtr) (.n1 .lensl (.slot 12)) (.lit (.int .i64 0))) true (.n3 .pick (.n2 (.bin .gtr) (.n1 .lensl (.slot 10)) (.lit (.int .i64 0))) (.n2 (.sbin .neq) (.n1 .ld (.n2 (.iaddr 1) (.slot 12) (.n2 (.bin .sub) (.n1 .lensl (.slot 12)) (.lit (.int .i64 1))))) (.n1 .ld (.n2 (.iaddr 1) (.slot 10) (.n2 .mx (.n2 (.bin .sub) (.n1 .lensl (.slot 10)) (.lit (.int .i64 1))) (.lit (.int .i64 0)))))) (.lit (.bool false)))) false (.n2 (.bin .eql) (.n1 .lensl (.slot 10)) (.lit (.int .i64 0)))) true (.n2 (.sbin .neq) (.n1 .ld (.n2 (.iaddr 1) (.slot 12) (.n2 (.bin .sub) (.n1 .lensl (.slot 12)) (.lit (.int .i64 1))))) (.n1 .ld (.n2 (.iaddr 1) (.slot 11) (.n2 .mx (.n2 (.bin .sub) (.n1 .lensl (.slot 11)) (.lit (.int .i64 1))) (.lit (.int .i64 0))))))),
    .need (.gif (.gif (.n2 (.bin .gtr) (.n1 .lensl (.slot 12)) (.lit (.int .i64 0))) true (.n3 .pick (.n2 (.bin .gtr) (.n1 .lensl (.slot 10)) (.lit (.int .i64 0))) (.n2 (.sbin .neq) (.n1 .ld (.n2 (.iaddr 1) (.slot 12) (.n2 (.bin .sub) (.n1 .lensl (.slot 12)) (.lit (.int .i64 1))))) (.n1 .ld (.n2 (.iaddr 1) (.slot 10) (.n2 .mx (.n2 (.bin .sub) (.n1 .lensl (.slot 10)) (.lit (.int .i64 1))) (.lit (.int .i64 0)))))) (.lit (.bool false)))) false (.n3 .pick (.n2 (.bin .eql) (.n1 .lensl (.slot 10)) (.lit (.int .i64 0))) (.n2 (.sbin .neq) (.n1 .ld (.n2 (.iaddr 1) (.slot 12) (.n2 (.bin .sub) (.n1 .lensl (.slot 12)) (.lit (.int .i64 1))))) (.n1 .ld (.n2 (.iaddr 1) (.slot 11) (.n2 .mx (.n2 (.bin .sub) (.n1 .lensl (.slot 11)) (.lit (.int .i64 1))) (.lit (.int .i64 0)))))) (.lit (.bool false)))),
    .need (.gif (.n2 (.bin .gtr) (.n1 .lensl (.slot 12)) (.lit (.int .i64 0))) true (.n3 .pick (.n3 .pick (.n2 (.bin .gtr) (.n1 .lensl (.slot 10)) (.lit (.int .i64 0))) (.n2 (.sbin .neq) (.n1 .ld (.n2 (.iaddr 1) (.slot 12) (.n2 (.bin .sub) (.n1 .lensl (.slot 12)) (.lit (.int .i64 1))))) (.n1 .ld (.n2 (.iaddr 1) (.slot 10) (.n2 .mx (.n2 (.bin .sub) (.n1 .lensl (.slot 10)) (.lit (.int .i64 1))) (.lit (.int .i64 0)))))) (.lit (.bool false))) (.lit (.bool true)) (.n3 .pick (.n2 (.bin .eql) (.n1 .lensl (.slot 10)) (.lit (.int .i64 0))) (.n2 (.sbin .neq) (.n1 .ld (.n2 (.iaddr 1) (.slot 12) (.n2 (.bin .sub) (.n1 .lensl (.slot 12)) (.lit (.int .i64 1))))) (.n1 .ld (.n2 (.iaddr 1) (.slot 11) (.n2 .mx (.n2 (.bin .sub) (.n1 .lensl (.slot 11)) (.lit (.int .i64 1))) (.lit (.int .i64 0)))))) (.lit (.bool false))))),
    .need (.n3 .pick (.n2 (.bin .gtr) (.n1 .lensl (.slot 12)) (.lit (.int .i64 0))) (.n3 .pick (.n3 .pick (.n2 (.bin .gtr) (.n1 .lensl (.slot 10)) (.lit (.int .i64 0))) (.n2 (.sbin .neq) (.n1 .ld (.n2 (.iaddr 1) (.slot 12) (.n2 (.bin .sub) (.n1 .lensl (.slot 12)) (.lit (.int .i64 1))))) (.n1 .ld (.n2 (.iaddr 1) (.slot 10) (.n2 .mx (.n2 (.bin .sub) (.n1 .lensl (.slot 10)) (.lit (.int .i64 1))) (.lit (.int .i64 0)))))) (.lit (.bool false))) (.lit (.bool true)) (.n3 .pick (.n2 (.bin .eql) (.n1 .lensl (.slot 10)) (.lit (.int .i64 0))) (.n2 (.sbin .neq) (.n1 .ld (.n2 (.iaddr 1) (.slot 12) (.n2 (.bin .sub) (.n1 .lensl (.slot 12)) (.lit (.int .i64 1))))) (.n1 .ld (.n2 (.iaddr 1) (.slot 11) (.n2 .mx (.n2 (.bin .sub) (.n1 .lensl (.slot 11)) (.lit (.int .i64 1))) (.lit (.int .i64 0)))))) (.lit (.bool false)))) (.lit (.bool false))),
    .asg 142 (.n3 .pick (.n2 (.bin .gtr) (.n1 .lensl (.slot 12)) (.lit (.int .i64 0))) (.n3 .pick (.n3 .pick (.n2 (.bin .gtr) (.n1 .lensl (.slot 10)) (.lit (.int .i64 0))) (.n2 (.sbin .neq) (.n1 .ld (.n2 (.iaddr 1) (.slot 12) (.n2 (.bin .sub) (.n1 .lensl (.slot 12)) (.lit (.int .i64 1))))) (.n1 .ld (.n2 (.iaddr 1) (.slot 10) (.n2 .mx (.n2 (.bin .sub) (.n1 .lensl (.slot 10)) (.lit (.int .i64 1))) (.lit (.int .i64 0)))))) (.lit (.bool false))) (.lit (.bool true)) (.n3 .pick (.n2 (.bin .eql) (.n1 .lensl (.slot 10)) (.lit (.int .i64 0))) (.n2 (.sbin .neq) (.n1 .ld (.n2 (.iaddr 1) (.slot 12) (.n2 (.bin .sub) (.n1 .lensl (.slot 12)) (.lit (.int .i64 1))))) (.n1 .ld (.n2 (.iaddr 1) (.slot 11) (.n2 .mx (.n2 (.bin .sub) (.n1 .lensl (.slot 11)) (.lit (.int .i64 1))) (.lit (.int .i64 0)))))) (.lit (.bool false)))) (.lit (.bool false)))])
  (.cond (.slot 142)
    (.seq
    (.reg [.asg 4 (.lit (.bool false))])
    .ret)
    .skip))
  h5_12)
def h5_10 : HC :=
  (.seq
  (.seq
  (.reg [.need (.n1 .lensl (.slot 12)),
    .need (.n2 (.bin .gtr) (.n1 .lensl (.slot 12)) (.lit (.int .i64 100))),
    .need (.gif (.n2 (.bin .gtr) (.n1 .lensl (.slot 12)) (.lit (.int .i64 100))) false (.n1 .lensl (.slot 12))),
    .need (.gif (.n2 (.bin .gtr) (.n1 .lensl (.slot 12)) (.lit (.int .i64 100))) false (.n2 (.bin .eql) (.n1 .lensl (.slot 12)) (.lit (.int .i64 0)))),
    .need (.gif (.gif (.n2 (.bin .gtr) (.n1 .lensl (.slot 12)) (.lit (.int .i64 100))) false (.n2 (.bin .eql) (.n1 .lensl (.slot 12)) (.lit (.int .i64 0)))) true (.n1 .lensl (.slot 10))),
    .need (.gif (.gif (.n2 (.bin .gtr) (.n1 .lensl (.slot 12)) (.lit (.int .i64 100))) false (.n2 (.bin .eql) (.n1 .lensl (.slot 12)) (.lit (.int .i64 0)))) true (.n1 .lensl (.slot 11))),
    .need (.gif (.gif (.n2 (.bin .gtr) (.n1 .lensl (.slot 12)) (.lit (.int .i64 100))) false (.n2 (.bin .eql) (.n1 .lensl (.slot 12)) (.lit (.int .i64 0)))) true (.n2 (.bin .add) (.n1 .lensl (.slot 10)) (.n1 .lensl (.slot 11)))),
    .need (.gif (.gif (.n2 (.bin .gtr) (.n1 .lensl (.slot 12)) (.lit (.int .i64 100))) false (.n2 (.bin .eql) (.n1 .lensl (.slot 12)) (.lit (.int .i64 0)))) true (.n2 (.bin .gtr) (.n2 (.bin .add) (.n1 .lensl (.slot 10)) (.n1 .lensl (.slot 11))) (.lit (.int .i64 0)))),
    .need (.gif (.n2 (.bin .gtr) (.n1 .lensl (.slot 12)) (.lit (.int .i64 100))) false (.n3 .pick (.n2 (.bin .eql) (.n1 .lensl (.slot 12)) (.lit (.int .i64 0))) (.n2 (.bin .gtr) (.n2 (.bin .add) (.n1 .lensl (.slot 10)) (.n1 .lensl (.slot 11))) (.lit (.int .i64 0))) (.lit (.bool false)))),
    .need (.n3 .pick (.n2 (.bin .gtr) (.n1 .lensl (.slot 12)) (.lit (.int .i64 100))) (.lit (.bool true)) (.n3 .pick (.n2 (.bin .eql) (.n1 .lensl (.slot 12)) (.lit (.int .i64 0))) (.n2 (.bin .gtr) (.n2 (.bin .add) (.n1 .lensl (.slot 10)) (.n1 .lensl (.slot 11))) (.lit (.int .i64 0))) (.lit (.bool false)))),
    .asg 97 (.n3 .pick (.n2 (.bin .gtr) (.n1 .lensl (.slot 12)) (.lit (.int .i64 100))) (.lit (.bool true)) (.n3 .pick (.n2 (.bin .eql) (.n1 .lensl (.slot 12)) (.lit (.int .i64 0))) (.n2 (.bin .gtr) (.n2 (.bin .add) (.n1 .lensl (.slot 10)) (.n1 .lensl (.slot 11))) (.lit (.int .i64 0))) (.lit (.bool false))))])
  (.cond (.slot 97)
    (.seq
    (.reg [.asg 4 (.lit (.bool false))])
    .ret)
    .skip))
  h5_11)
def h5_2 : HC :=
  (.seq
  (.reg [.eff (some 41) (.call { callee := .value (.func 20), args := #[.tmp 40], argTypes := #[22] }) 31 [(40, .slot 0)] none [],
    .asg 12 (.slot 41)])
  (.seq
  (.seq
  (.reg [.asg 13 (.lit (.int .i64 0))])
  (.block 0
    (.loop
      h5_3)))
  h5_10))
def h5_1 : HC :=
  (.seq
  (.reg [.eff (some 28) (.call { callee := .value (.func 22), args := #[.tmp 27, .const (str [82, 101, 102, 101, 114, 101, 110, 99, 101, 115])], argTypes := #[22, 9] }) 25 [(27, .slot 0)] none [],
    .need (.n1 (.ext 0) (.slot 28)),
    .need (.n1 (.ext 1) (.slot 28)),
    .asg 6 (.n1 (.ext 0) (.slot 28))])
  (.seq
  (.reg [.eff (some 33) (.call { callee := .value (.func 22), args := #[.tmp 32, .const (str [73, 110, 45, 82, 101, 112, 108, 121, 45, 84, 111])], argTypes := #[22, 9] }) 25 [(32, .slot 0)] none [],
    .need (.n1 (.ext 0) (.slot 33)),
    .need (.n1 (.ext 1) (.slot 33)),
    .asg 8 (.n1 (.ext 0) (.slot 33))])
  (.seq
  (.reg [.eff (some 37) (.call { callee := .value (.func 18), args := #[.tmp 36], argTypes := #[9] }) 31 [(36, .slot 6)] none [],
    .asg 10 (.slot 37)])
  (.seq
  (.reg [.eff (some 39) (.call { callee := .value (.func 18), args := #[.tmp 38], argTypes := #[9] }) 31 [(38, .slot 8)] none [],
    .asg 11 (.slot 39)])
  h5_2))))
def h5 : HC :=
  (.seq
  (.reg [.eff (some 3) (.box 37 (.tmp 1)) 0 [(1, .slot 1)] none [],
    .asg 4 (.lit (.bool false))])
  (.seq
  (.reg [.eff (some 21) (.call { callee := .value (.func 7), args := #[], argTypes := #[] }) 4 [] none [],
    .asg 5 (.slot 21)])
  (.seq
  (.seq
  (.reg [.eff (some 23) (.call { callee := .value (.func 8), args := #[.tmp 22], argTypes := #[22] }) 4 [(22, .slot 0)] none [],
    .need (.n1 .bnot (.slot 23)),
    .asg 24 (.n1 .bnot (.slot 23))])
  (.cond (.slot 24)
    (.seq
    (.reg [.asg 4 (.slot 5)])
    .ret)
    .skip))
  h5_1)))
theorem k5 : fnOK Tryd.prog 25109999089830001827679091078202908978713800108653355072891 [⟨12, [0, 0, 3, 7, 15, 31, 63, 127, 127, 511, 127, 127, 3199, 7295, 16383, 32767, 65535, 131071, 131071, 131071, 917503, 1966079, 4194303, 8388607, 16777215, 33554431, 33554431, 33554431, 234881023, 503316479, 1073741823, 2147483647, 4294967295, 8589934591], [(0, []), (1, []), (2, []), (3, []), (4, []), (5, []), (6, []), (7, []), (8, []), (9, []), (10, []), (11, []), (12, []), (13, []), (14, []), (15, []), (16, []), (17, []), (18, []), (19, []), (20, []), (21, []), (22, []), (23, []), (24, []), (25, []), (26, []), (27, []), (28, []), (29, []), (30, []), (31, []), (32, []), (33, [])], none⟩, ⟨16, [0, 1, 3, 7, 15, 31, 63, 127, 255, 255, 767, 1791, 4095, 8191, 255, 255, 33023, 98559, 229631, 508159, 1032447, 2097151, 4194303, 8388607, 16777215, 33554431, 67108863, 134217727, 268435455, 268435455, 805306367, 1879048191, 4294967295, 8589934591, 268435455, 268435455, 34628173823, 103347650559, 240786604031, 532844380159, 1082600194047, 2199023255551, 4398046511103, 8796093022207, 17592186044415], [(0, []), (1, []), (2, []), (3, []), (4, []), (5, []), (6, []), (7, []), (8, []), (9, []), (10, []), (11, []), (12, []), (13, []), (14, []), (15, []), (16, []), (17, []), (18, []), (19, []), (20, []), (21, []), (22, []), (23, []), (24, []), (25, []), (26, []), (27, []), (28, []), (29, []), (30, []), (31, []), (32, []), (33, []), (34, []), (35, []), (36, []), (37, []), (38, []), (39, []), (40, []), (41, []), (42, []), (43, []), (44, [])], none⟩, ⟨24, [0, 0, 3, 0, 8, 31, 63, 127], [], (some (.op 1 [] (.op 3 [] (.fork (.op 0 [3] (.fork (.op 2 [3] (.op 4 [] (.op 5 [] (.op 6 [] (.op 7 [] .nil))))) (.op 4 [3] (.op 2 [3] (.op 5 [] (.op 6 [] (.op 7 [] .nil))))))) (.op 4 [3] (.op 0 [3] (.op 2 [3] (.op 5 [] (.op 6 [] (.op 7 [] .nil))))))))))⟩] [.tmp 4] 2 Tryd.f5 = some h5 := by kernel_rfl
theorem c5 : callable Tryd.prog 5 = true := by kernel_rfl
theorem q5 {args : List Value} (ha : args.length = 2) {w : World} {next : Value → World → Prop} {QP : List PanicEntry → World → Prop} (H : hw Tryd.prog noPanic h5 (endV [.tmp 4] next) (σ0 args) w) : callK Tryd.prog 5 args w next QP := fn_rule Tryd.func5 mixed k5 ha H
theorem r5 {args : List Value} (ha : args.length = 2) {w : World} {next : Value → World → Prop} {QP : List PanicEntry → World → Prop} (H : hw Tryd.prog noPanic h5 (endV [.tmp 4] next) (σ0 args) w) : callvK Tryd.prog (.func (.func 5) #[] #[]) args w next QP := callf c5 (q5 ha H)

/- missive/missivelaw12.MsgidReplies -/
def h6_4 : HC :=
  (.reg [.need (.n2 (.bin .add) (.slot 9) (.lit (.int .i64 1))),
    .asg 9 (.n2 (.bin .add) (.slot 9) (.lit (.int .i64 1)))])
def h6_3 : HC :=
  (.seq
  (.block 1
    (.seq
    (.reg [.need (.n2 (.sbin .add) (.slot 7) (.lit (str [60]))),
      .need (.n2 (.iaddr 1) (.slot 6) (.slot 9)),
      .need (.n1 .ld (.n2 (.iaddr 1) (.slot 6) (.slot 9))),
      .need (.n2 (.sbin .add) (.n2 (.sbin .add) (.slot 7) (.lit (str [60]))) (.n1 .ld (.n2 (.iaddr 1) (.slot 6) (.slot 9)))),
      .need (.n2 (.sbin .add) (.n2 (.sbin .add) (.n2 (.sbin .add) (.slot 7) (.lit (str [60]))) (.n1 .ld (.n2 (.iaddr 1) (.slot 6) (.slot 9)))) (.lit (str [62, 32]))),
      .asg 7 (.n2 (.sbin .add) (.n2 (.sbin .add) (.n2 (.sbin .add) (.slot 7) (.lit (str [60]))) (.n1 .ld (.n2 (.iaddr 1) (.slot 6) (.slot 9)))) (.lit (str [62, 32])))])
    (.seq
    (.reg [.need (.n2 (.iaddr 1) (.slot 6) (.slot 9)),
      .need (.n1 .ld (.n2 (.iaddr 1) (.slot 6) (.slot 9))),
      .need (.n2 (.sbin .neq) (.n1 .ld (.n2 (.iaddr 1) (.slot 6) (.slot 9))) (.slot 1)),
      .asg 42 (.n2 (.sbin .neq) (.n1 .ld (.n2 (.iaddr 1) (.slot 6) (.slot 9))) (.slot 1))])
    (.cond (.slot 42)
      (.reg [.need (.n2 (.iaddr 1) (.slot 6) (.slot 9)),
        .need (.n1 .ld (.n2 (.iaddr 1) (.slot 6) (.slot 9))),
        .eff (some 48) (.buildSlice 31 1 #[(0, .tmp 47)]) 31 [(47, .n1 .ld (.n2 (.iaddr 1) (.slot 6) (.slot 9)))] none [],
        .eff (some 49) (.call { callee := .builtin .append, args := #[.tmp 43, .tmp 48], argTypes := #[31, 31] }) 31 [(43, .slot 8), (48, .slot 48)] none [],
        .asg 8 (.slot 49)])
      .skip))))
  h6_4)
def h6_2 : HC :=
  (.seq
  (.seq
  (.reg [.need (.n1 .lensl (.slot 6)),
    .need (.n2 (.bin .lss) (.slot 9) (.n1 .lensl (.slot 6))),
    .asg 26 (.n2 (.bin .lss) (.slot 9) (.n1 .lensl (.slot 6)))])
  (.cond (.slot 26)
    .skip
    (.exit 0)))
  h6_3)
def l6_7 : List HS :=
  .need (.n3 .pick (.slot 5) (.slot 79) (.lit (.bool false))) ::
  .asg 4 (.n3 .pick (.slot 5) (.slot 79) (.lit (.bool false))) ::
  []
def l6_8 : List HS :=
  .eff (some 79) (.call { callee := .value (.func 17), args := #[.tmp 77, .tmp 78], argTypes := #[31, 31] }) 4 [(77, .slot 77), (78, .slot 8)] (some (.slot 5, true)) [] ::
  l6_7
def h6_6 : HC :=
  (.seq
  (.reg [.eff (some 61) (.buildSlice 31 1 #[(0, .tmp 60)]) 31 [(60, .slot 1)] none [],
    .eff (some 62) (.call { callee := .builtin .append, args := #[.tmp 59, .tmp 61], argTypes := #[31, 31] }) 31 [(59, .slot 8), (61, .slot 61)] none [],
    .asg 8 (.slot 62)])
  (.seq
  (.reg [.need (.n2 (.sbin .add) (.lit (str [60])) (.slot 1)),
    .need (.n2 (.sbin .add) (.n2 (.sbin .add) (.lit (str [60])) (.slot 1)) (.lit (str [62]))),
    .need (.n2 (.put 0 1) (.lit (.agg #[(str []), (str [])])) (.lit (str [73, 110, 45, 82, 101, 112, 108, 121, 45, 84, 111]))),
    .need (.n2 (.put 1 1) (.n2 (.put 0 1) (.lit (.agg #[(str []), (str [])])) (.lit (str [73, 110, 45, 82, 101, 112, 108, 121, 45, 84, 111]))) (.n2 (.sbin .add) (.n2 (.sbin .add) (.lit (str [60])) (.slot 1)) (.lit (str [62])))),
    .need (.n2 (.sbin .add) (.slot 7) (.lit (str [60]))),
    .need (.n2 (.sbin .add) (.n2 (.sbin .add) (.slot 7) (.lit (str [60]))) (.slot 1)),
    .need (.n2 (.sbin .add) (.n2 (.sbin .add) (.n2 (.sbin .add) (.slot 7) (.lit (str [60]))) (.slot 1)) (.lit (str [62]))),
    .need (.n2 (.put 0 1) (.lit (.agg #[(str []), (str [])])) (.lit (str [82, 101, 102, 101, 114, 101, 110, 99, 101, 115]))),
    .need (.n2 (.put 1 1) (.n2 (.put 0 1) (.lit (.agg #[(str []), (str [])])) (.lit (str [82, 101, 102, 101, 114, 101, 110, 99, 101, 115]))) (.n2 (.sbin .add) (.n2 (.sbin .add) (.n2 (.sbin .add) (.slot 7) (.lit (str [60]))) (.slot 1)) (.lit (str [62])))),
    .eff (some 73) (.buildSlice 22 2 #[(0, .tmp 66), (1, .tmp 72)]) 22 [(66, .n2 (.put 1 1) (.n2 (.put 0 1) (.lit (.agg #[(str []), (str [])])) (.lit (str [73, 110, 45, 82, 101, 112, 108, 121, 45, 84, 111]))) (.n2 (.sbin .add) (.n2 (.sbin .add) (.lit (str [60])) (.slot 1)) (.lit (str [62])))), (72, .n2 (.put 1 1) (.n2 (.put 0 1) (.lit (.agg #[(str []), (str [])])) (.lit (str [82, 101, 102, 101, 114, 101, 110, 99, 101, 115]))) (.n2 (.sbin .add) (.n2 (.sbin .add) (.n2 (.sbin .add) (.slot 7) (.lit (str [60]))) (.slot 1)) (.lit (str [62]))))] none [],
    .asg 10 (.slot 73)])
  (.seq
  (.reg (.eff (some 77) (.call { callee := .value (.func 20), args := #[.tmp 76], argTypes := #[22] }) 31 [(76, .slot 10)] (some (.slot 5, true)) [] ::
    l6_8))
  .ret)))
def h6_5 : HC :=
  (.seq
  (.seq
  (.reg [.need (.n1 .lensl (.slot 8)),
    .need (.n2 (.bin .gtr) (.n1 .lensl (.slot 8)) (.lit (.int .i64 99))),
    .asg 52 (.n2 (.bin .gtr) (.n1 .lensl (.slot 8)) (.lit (.int .i64 99)))])
  (.cond (.slot 52)
    (.reg [.need (.n1 .lensl (.slot 8)),
      .need (.n2 (.bin .sub) (.n1 .lensl (.slot 8)) (.lit (.int .i64 100))),
      .need (.n2 (.bin .add) (.n2 (.bin .sub) (.n1 .lensl (.slot 8)) (.lit (.int .i64 100))) (.lit (.int .i64 1))),
      .need (.n3 (.slv 1 true false) (.slot 8) (.n2 (.bin .add) (.n2 (.bin .sub) (.n1 .lensl (.slot 8)) (.lit (.int .i64 100))) (.lit (.int .i64 1))) (.lit (.tuple #[]))),
      .asg 8 (.n3 (.slv 1 true false) (.slot 8) (.n2 (.bin .add) (.n2 (.bin .sub) (.n1 .lensl (.slot 8)) (.lit (.int .i64 100))) (.lit (.int .i64 1))) (.lit (.tuple #[])))])
    .skip))
  h6_6)
def h6_1 : HC :=
  (.seq
  (.reg [.eff (some 22) (.call { callee := .value (.func 20), args := #[.tmp 21], argTypes := #[22] }) 31 [(21, .slot 0)] none [],
    .asg 6 (.slot 22)])
  (.seq
  (.reg [.asg 7 (.lit (str []))])
  (.seq
  (.reg [.asg 8 (.lit (.slice none 0 0))])
  (.seq
  (.seq
  (.reg [.asg 9 (.lit (.int .i64 0))])
  (.block 0
    (.loop
      h6_2)))
  h6_5))))
def h6 : HC :=
  (.seq
  (.reg [.asg 4 (.lit (.bool false))])
  (.seq
  (.reg [.eff (some 11) (.call { callee := .value (.func 7), args := #[], argTypes := #[] }) 4 [] none [],
    .asg 5 (.slot 11)])
  (.seq
  (.seq
  (.reg [.eff (some 13) (.call { callee := .value (.func 8), args := #[.tmp 12], argTypes := #[22] }) 4 [(12, .slot 0)] none [],
    .need (.n1 .bnot (.slot 13)),
    .eff (some 17) (.call { callee := .value (.func 13), args := #[.tmp 16], argTypes := #[9] }) 4 [(16, .slot 1)] (some (.n1 .bnot (.slot 13), false)) [],
    .need (.gif (.n1 .bnot (.slot 13)) false (.n1 .bnot (.slot 17))),
    .need (.n3 .pick (.n1 .bnot (.slot 13)) (.lit (.bool true)) (.n1 .bnot (.slot 17))),
    .asg 19 (.n3 .pick (.n1 .bnot (.slot 13)) (.lit (.bool true)) (.n1 .bnot (.slot 17)))])
  (.cond (.slot 19)
    (.seq
    (.reg [.asg 4 (.slot 5)])
    .ret)
    .skip))
  h6_1)))
theorem k6 : fnOK Tryd.prog 765030293106332841684979 [] [.tmp 4] 2 Tryd.f6 = some h6 := by kernel_rfl
theorem c6 : callable Tryd.prog 6 = true := by kernel_rfl
theorem q6 {args : List Value} (ha : args.length = 2) {w : World} {next : Value → World → Prop} {QP : List PanicEntry → World → Prop} (H : hw Tryd.prog noPanic h6 (endV [.tmp 4] next) (σ0 args) w) : callK Tryd.prog 6 args w next QP := fn_rule Tryd.func6 mixed k6 ha H
theorem r6 {args : List Value} (ha : args.length = 2) {w : World} {next : Value → World → Prop} {QP : List PanicEntry → World → Prop} (H : hw Tryd.prog noPanic h6 (endV [.tmp 4] next) (σ0 args) w) : callvK Tryd.prog (.func (.func 6) #[] #[]) args w next QP := callf c6 (q6 ha H)

/- missive/missivelaw12.small -/
def l7_2 : List HS :=
  .need (.gif (.n3 .pick (.n3 .pick (.n3 .pick (.n3 .pick (.n3 .pick (.slot 22) (.slot 26) (.lit (.bool false))) (.slot 31) (.lit (.bool false))) (.slot 5) (.lit (.bool false))) (.n2 (.sbin .eql) (.slot 4) (.lit (str [121, 64, 122]))) (.lit (.bool false))) (.n2 (.sbin .eql) (.slot 42) (.lit (str [98, 97, 55, 56, 49, 54, 98, 102, 56, 102, 48, 49, 99, 102, 101, 97, 52, 49, 52, 49, 64, 108, 105, 115, 116, 115, 46, 101, 120, 97, 109, 112, 108, 101]))) (.lit (.bool false))) true (.n1 .bnot (.slot 46))) ::
  .need (.n3 .pick (.n3 .pick (.n3 .pick (.n3 .pick (.n3 .pick (.n3 .pick (.slot 22) (.slot 26) (.lit (.bool false))) (.slot 31) (.lit (.bool false))) (.slot 5) (.lit (.bool false))) (.n2 (.sbin .eql) (.slot 4) (.lit (str [121, 64, 122]))) (.lit (.bool false))) (.n2 (.sbin .eql) (.slot 42) (.lit (str [98, 97, 55, 56, 49, 54, 98, 102, 56, 102, 48, 49, 99, 102, 101, 97, 52, 49, 52, 49, 64, 108, 105, 115, 116, 115, 46, 101, 120, 97, 109, 112, 108, 101]))) (.lit (.bool false))) (.n1 .bnot (.slot 46)) (.lit (.bool false))) ::
  .asg 0 (.n3 .pick (.n3 .pick (.n3 .pick (.n3 .pick (.n3 .pick (.n3 .pick (.slot 22) (.slot 26) (.lit (.bool false))) (.slot 31) (.lit (.bool false))) (.slot 5) (.lit (.bool false))) (.n2 (.sbin .eql) (.slot 4) (.lit (str [121, 64, 122]))) (.lit (.bool false))) (.n2 (.sbin .eql) (.slot 42) (.lit (str [98, 97, 55, 56, 49, 54, 98, 102, 56, 102, 48, 49, 99, 102, 101, 97, 52, 49, 52, 49, 64, 108, 105, 115, 116, 115, 46, 101, 120, 97, 109, 112, 108, 101]))) (.lit (.bool false))) (.n1 .bnot (.slot 46)) (.lit (.bool false))) ::
  []
def l7_3 : List HS :=
  .need (.gif (.n3 .pick (.n3 .pick (.n3 .pick (.n3 .pick (.slot 22) (.slot 26) (.lit (.bool false))) (.slot 31) (.lit (.bool false))) (.slot 5) (.lit (.bool false))) (.n2 (.sbin .eql) (.slot 4) (.lit (str [121, 64, 122]))) (.lit (.bool false))) true (.n2 (.sbin .eql) (.slot 42) (.lit (str [98, 97, 55, 56, 49, 54, 98, 102, 56, 102, 48, 49, 99, 102, 101, 97, 52, 49, 52, 49, 64, 108, 105, 115, 116, 115, 46, 101, 120, 97, 109, 112, 108, 101])))) ::
  .need (.n3 .pick (.n3 .pick (.n3 .pick (.n3 .pick (.n3 .pick (.slot 22) (.slot 26) (.lit (.bool false))) (.slot 31) (.lit (.bool false))) (.slot 5) (.lit (.bool false))) (.n2 (.sbin .eql) (.slot 4) (.lit (str [121, 64, 122]))) (.lit (.bool false))) (.n2 (.sbin .eql) (.slot 42) (.lit (str [98, 97, 55, 56, 49, 54, 98, 102, 56, 102, 48, 49, 99, 102, 101, 97, 52, 49, 52, 49, 64, 108, 105, 115, 116, 115, 46, 101, 120, 97, 109, 112, 108, 101]))) (.lit (.bool false))) ::
  .eff (some 46) (.call { callee := .value (.func 13), args := #[.const (str [97, 64, 98, 64, 99])], argTypes := #[9] }) 4 [] (some (.n3 .pick (.n3 .pick (.n3 .pick (.n3 .pick (.n3 .pick (.slot 22) (.slot 26) (.lit (.bool false))) (.slot 31) (.lit (.bool false))) (.slot 5) (.lit (.bool false))) (.n2 (.sbin .eql) (.slot 4) (.lit (str [121, 64, 122]))) (.lit (.bool false))) (.n2 (.sbin .eql) (.slot 42) (.lit (str [98, 97, 55, 56, 49, 54, 98, 102, 56, 102, 48, 49, 99, 102, 101, 97, 52, 49, 52, 49, 64, 108, 105, 115, 116, 115, 46, 101, 120, 97, 109, 112, 108, 101]))) (.lit (.bool false)), true)) [] ::
  l7_2
def l7_4 : List HS :=
  .eff (some 42) (.call { callee := .value (.func 15), args := #[.tmp 41], argTypes := #[9] }) 9 [(41, .slot 41)] (some (.n3 .pick (.n3 .pick (.n3 .pick (.n3 .pick (.slot 22) (.slot 26) (.lit (.bool false))) (.slot 31) (.lit (.bool false))) (.slot 5) (.lit (.bool false))) (.n2 (.sbin .eql) (.slot 4) (.lit (str [121, 64, 122]))) (.lit (.bool false)), true)) [] ::
  l7_3
def l7_5 : List HS :=
  .need (.n3 .pick (.n3 .pick (.slot 22) (.slot 26) (.lit (.bool false))) (.slot 31) (.lit (.bool false))) ::
  .need (.n3 .pick (.n3 .pick (.n3 .pick (.slot 22) (.slot 26) (.lit (.bool false))) (.slot 31) (.lit (.bool false))) (.slot 5) (.lit (.bool false))) ::
  .need (.gif (.n3 .pick (.n3 .pick (.n3 .pick (.slot 22) (.slot 26) (.lit (.bool false))) (.slot 31) (.lit (.bool false))) (.slot 5) (.lit (.bool false))) true (.n2 (.sbin .eql) (.slot 4) (.lit (str [121, 64, 122])))) ::
  .need (.n3 .pick (.n3 .pick (.n3 .pick (.n3 .pick (.slot 22) (.slot 26) (.lit (.bool false))) (.slot 31) (.lit (.bool false))) (.slot 5) (.lit (.bool false))) (.n2 (.sbin .eql) (.slot 4) (.lit (str [121, 64, 122]))) (.lit (.bool false))) ::
  .eff (some 41) (.call { callee := .value (.func 24), args := #[.const (str [97, 98, 99])], argTypes := #[9] }) 9 [] (some (.n3 .pick (.n3 .pick (.n3 .pick (.n3 .pick (.slot 22) (.slot 26) (.lit (.bool false))) (.slot 31) (.lit (.bool false))) (.slot 5) (.lit (.bool false))) (.n2 (.sbin .eql) (.slot 4) (.lit (str [121, 64, 122]))) (.lit (.bool false)), true)) [] ::
  l7_4
def l7_6 : List HS :=
  .eff (some 31) (.call { callee := .value (.func 17), args := #[.tmp 29, .tmp 30], argTypes := #[31, 31] }) 4 [(29, .slot 3), (30, .slot 30)] (some (.n3 .pick (.slot 22) (.slot 26) (.lit (.bool false)), true)) [] ::
  l7_5
def l7_7 : List HS :=
  .need (.n3 .pick (.slot 22) (.slot 26) (.lit (.bool false))) ::
  .eff (some 30) (.buildSlice 31 1 #[(0, .const (str [51, 64, 120]))]) 31 [] (some (.n3 .pick (.slot 22) (.slot 26) (.lit (.bool false)), true)) [] ::
  l7_6
def l7_8 : List HS :=
  .eff (some 26) (.call { callee := .value (.func 17), args := #[.tmp 24, .tmp 25], argTypes := #[31, 31] }) 4 [(24, .slot 2), (25, .slot 25)] (some (.slot 22, true)) [] ::
  l7_7
def h7_1 : HC :=
  (.seq
  (.reg [.need (.n2 (.put 0 1) (.lit (.agg #[(str []), (str [])])) (.lit (str [77, 101, 115, 115, 97, 103, 101, 45, 73, 100]))),
    .need (.n2 (.put 1 1) (.n2 (.put 0 1) (.lit (.agg #[(str []), (str [])])) (.lit (str [77, 101, 115, 115, 97, 103, 101, 45, 73, 100]))) (.lit (str [32, 120, 32, 60, 121, 64, 122, 62, 32]))),
    .eff (some 16) (.buildSlice 22 1 #[(0, .tmp 15)]) 22 [(15, .n2 (.put 1 1) (.n2 (.put 0 1) (.lit (.agg #[(str []), (str [])])) (.lit (str [77, 101, 115, 115, 97, 103, 101, 45, 73, 100]))) (.lit (str [32, 120, 32, 60, 121, 64, 122, 62, 32])))] none [],
    .eff (some 17) (.call { callee := .value (.func 11), args := #[.tmp 16], argTypes := #[22] }) 25 [(16, .slot 16)] none [],
    .need (.n1 (.ext 0) (.slot 17)),
    .need (.n1 (.ext 1) (.slot 17)),
    .asg 4 (.n1 (.ext 0) (.slot 17)),
    .asg 5 (.n1 (.ext 1) (.slot 17))])
  (.seq
  (.reg (.eff (some 21) (.buildSlice 31 2 #[(0, .const (str [97, 64, 98])), (1, .const (str [100, 64, 101]))]) 31 [] none [] ::
    .eff (some 22) (.call { callee := .value (.func 17), args := #[.tmp 20, .tmp 21], argTypes := #[31, 31] }) 4 [(20, .slot 1), (21, .slot 21)] none [] ::
    .eff (some 25) (.buildSlice 31 3 #[(0, .const (str [49, 64, 120])), (1, .const (str [51, 64, 120])), (2, .const (str [50, 64, 120]))]) 31 [] (some (.slot 22, true)) [] ::
    l7_8))
  .ret))
def h7 : HC :=
  (.seq
  (.reg [.asg 0 (.lit (.bool false))])
  (.seq
  (.reg [.eff (some 6) (.call { callee := .value (.func 18), args := #[.const (str [60, 97, 64, 98, 62, 32, 40, 120, 41, 32, 60, 99, 62, 32, 60, 60, 100, 64, 101, 62])], argTypes := #[9] }) 31 [] none [],
    .asg 1 (.slot 6)])
  (.seq
  (.reg [.need (.n2 (.put 0 1) (.lit (.agg #[(str []), (str [])])) (.lit (str [114, 101, 102, 101, 114, 101, 110, 99, 101, 115]))),
    .need (.n2 (.put 1 1) (.n2 (.put 0 1) (.lit (.agg #[(str []), (str [])])) (.lit (str [114, 101, 102, 101, 114, 101, 110, 99, 101, 115]))) (.lit (str [60, 49, 64, 120, 62, 32, 60, 50, 64, 120, 62]))),
    .need (.n2 (.put 0 1) (.lit (.agg #[(str []), (str [])])) (.lit (str [73, 110, 45, 82, 101, 112, 108, 121, 45, 84, 111]))),
    .need (.n2 (.put 1 1) (.n2 (.put 0 1) (.lit (.agg #[(str []), (str [])])) (.lit (str [73, 110, 45, 82, 101, 112, 108, 121, 45, 84, 111]))) (.lit (str [60, 51, 64, 120, 62]))),
    .eff (some 9) (.buildSlice 22 2 #[(0, .tmp 7), (1, .tmp 8)]) 22 [(7, .n2 (.put 1 1) (.n2 (.put 0 1) (.lit (.agg #[(str []), (str [])])) (.lit (str [114, 101, 102, 101, 114, 101, 110, 99, 101, 115]))) (.lit (str [60, 49, 64, 120, 62, 32, 60, 50, 64, 120, 62]))), (8, .n2 (.put 1 1) (.n2 (.put 0 1) (.lit (.agg #[(str []), (str [])])) (.lit (str [73, 110, 45, 82, 101, 112, 108, 121, 45, 84, 111]))) (.lit (str [60, 51, 64, 120, 62])))] none [],
    .eff (some 10) (.call { callee := .value (.func 20), args := #[.tmp 9], argTypes := #[22] }) 31 [(9, .slot 9)] none [],
    .asg 2 (.slot 10)])
  (.seq
  (.reg [.need (.n2 (.put 0 1) (.lit (.agg #[(str []), (str [])])) (.lit (str [73, 110, 45, 82, 101, 112, 108, 121, 45, 84, 111]))),
    .need (.n2 (.put 1 1) (.n2 (.put 0 1) (.lit (.agg #[(str []), (str [])])) (.lit (str [73, 110, 45, 82, 101, 112, 108, 121, 45, 84, 111]))) (.lit (str [60, 51, 64, 120, 62, 32, 60, 51, 64, 120, 62]))),
    .eff (some 12) (.buildSlice 22 1 #[(0, .tmp 11)]) 22 [(11, .n2 (.put 1 1) (.n2 (.put 0 1) (.lit (.agg #[(str []), (str [])])) (.lit (str [73, 110, 45, 82, 101, 112, 108, 121, 45, 84, 111]))) (.lit (str [60, 51, 64, 120, 62, 32, 60, 51, 64, 120, 62])))] none [],
    .eff (some 13) (.call { callee := .value (.func 20), args := #[.tmp 12], argTypes := #[22] }) 31 [(12, .slot 12)] none [],
    .asg 3 (.slot 13)])
  h7_1))))
theorem k7 : fnOK Tryd.prog 76969142335103 [] [.tmp 0] 0 Tryd.f7 = some h7 := by kernel_rfl
theorem c7 : callable Tryd.prog 7 = true := by kernel_rfl
theorem q7 {args : List Value} (ha : args.length = 0) {w : World} {next : Value → World → Prop} {QP : List PanicEntry → World → Prop} (H : hw Tryd.prog noPanic h7 (endV [.tmp 0] next) (σ0 args) w) : callK Tryd.prog 7 args w next QP := fn_rule Tryd.func7 mixed k7 ha H
theorem r7 {args : List Value} (ha : args.length = 0) {w : World} {next : Value → World → Prop} {QP : List PanicEntry → World → Prop} (H : hw Tryd.prog noPanic h7 (endV [.tmp 0] next) (σ0 args) w) : callvK Tryd.prog (.func (.func 7) #[] #[]) args w next QP := callf c7 (q7 ha H)

/- missive/missivelaw12.few -/
def h8_3 : HC :=
  (.draw [.need (.n2 (.iaddr 2) (.slot 0) (.slot 4)),
    .need (.n1 (.faddr 0) (.n2 (.iaddr 2) (.slot 0) (.slot 4))),
    .need (.n1 .ld (.n1 (.faddr 0) (.n2 (.iaddr 2) (.slot 0) (.slot 4)))),
    .need (.n1 .lens (.n1 .ld (.n1 (.faddr 0) (.n2 (.iaddr 2) (.slot 0) (.slot 4))))),
    .need (.n2 (.bin .add) (.slot 3) (.n1 .lens (.n1 .ld (.n1 (.faddr 0) (.n2 (.iaddr 2) (.slot 0) (.slot 4)))))),
    .need (.n2 (.iaddr 2) (.slot 0) (.slot 4)),
    .need (.n1 (.faddr 1) (.n2 (.iaddr 2) (.slot 0) (.slot 4))),
    .need (.n1 .ld (.n1 (.faddr 1) (.n2 (.iaddr 2) (.slot 0) (.slot 4)))),
    .need (.n1 .lens (.n1 .ld (.n1 (.faddr 1) (.n2 (.iaddr 2) (.slot 0) (.slot 4))))),
    .need (.n2 (.bin .add) (.n2 (.bin .add) (.slot 3) (.n1 .lens (.n1 .ld (.n1 (.faddr 0) (.n2 (.iaddr 2) (.slot 0) (.slot 4)))))) (.n1 .lens (.n1 .ld (.n1 (.faddr 1) (.n2 (.iaddr 2) (.slot 0) (.slot 4)))))),
    .asg 3 (.n2 (.bin .add) (.n2 (.bin .add) (.slot 3) (.n1 .lens (.n1 .ld (.n1 (.faddr 0) (.n2 (.iaddr 2) (.slot 0) (.slot 4)))))) (.n1 .lens (.n1 .ld (.n1 (.faddr 1) (.n2 (.iaddr 2) (.slot 0) (.slot 4))))))])
def h8_4 : HC :=
  (.reg [.need (.n2 (.bin .add) (.slot 4) (.lit (.int .i64 1))),
    .asg 4 (.n2 (.bin .add) (.slot 4) (.lit (.int .i64 1)))])
def h8_2 : HC :=
  (.seq
  (.block 1
    (.seq
    (.seq
    (.reg [.need (.n2 (.iaddr 2) (.slot 0) (.slot 4)),
      .need (.n1 (.faddr 0) (.n2 (.iaddr 2) (.slot 0) (.slot 4))),
      .need (.n1 .ld (.n1 (.faddr 0) (.n2 (.iaddr 2) (.slot 0) (.slot 4)))),
      .need (.n1 .lens (.n1 .ld (.n1 (.faddr 0) (.n2 (.iaddr 2) (.slot 0) (.slot 4))))),
      .need (.n2 (.bin .gtr) (.n1 .lens (.n1 .ld (.n1 (.faddr 0) (.n2 (.iaddr 2) (.slot 0) (.slot 4))))) (.lit (.int .i64 6000))),
      .need (.gif (.n2 (.bin .gtr) (.n1 .lens (.n1 .ld (.n1 (.faddr 0) (.n2 (.iaddr 2) (.slot 0) (.slot 4))))) (.lit (.int .i64 6000))) false (.n2 (.iaddr 2) (.slot 0) (.slot 4))),
      .need (.gif (.n2 (.bin .gtr) (.n1 .lens (.n1 .ld (.n1 (.faddr 0) (.n2 (.iaddr 2) (.slot 0) (.slot 4))))) (.lit (.int .i64 6000))) false (.n1 (.faddr 1) (.n2 (.iaddr 2) (.slot 0) (.slot 4)))),
      .need (.gif (.n2 (.bin .gtr) (.n1 .lens (.n1 .ld (.n1 (.faddr 0) (.n2 (.iaddr 2) (.slot 0) (.slot 4))))) (.lit (.int .i64 6000))) false (.n1 .ld (.n1 (.faddr 1) (.n2 (.iaddr 2) (.slot 0) (.slot 4))))),
      .need (.gif (.n2 (.bin .gtr) (.n1 .lens (.n1 .ld (.n1 (.faddr 0) (.n2 (.iaddr 2) (.slot 0) (.slot 4))))) (.lit (.int .i64 6000))) false (.n1 .lens (.n1 .ld (.n1 (.faddr 1) (.n2 (.iaddr 2) (.slot 0) (.slot 4)))))),
      .need (.gif (.n2 (.bin .gtr) (.n1 .lens (.n1 .ld (.n1 (.faddr 0) (.n2 (.iaddr 2) (.slot 0) (.slot 4))))) (.lit (.int .i64 6000))) false (.n2 (.bin .gtr) (.n1 .lens (.n1 .ld (.n1 (.faddr 1) (.n2 (.iaddr 2) (.slot 0) (.slot 4))))) (.lit (.int .i64 6000)))),
      .need (.n3 .pick (.n2 (.bin .gtr) (.n1 .lens (.n1 .ld (.n1 (.faddr 0) (.n2 (.iaddr 2) (.slot 0) (.slot 4))))) (.lit (.int .i64 6000))) (.lit (.bool true)) (.n2 (.bin .gtr) (.n1 .lens (.n1 .ld (.n1 (.faddr 1) (.n2 (.iaddr 2) (.slot 0) (.slot 4))))) (.lit (.int .i64 6000)))),
      .asg 26 (.n3 .pick (.n2 (.bin .gtr) (.n1 .lens (.n1 .ld (.n1 (.faddr 0) (.n2 (.iaddr 2) (.slot 0) (.slot 4))))) (.lit (.int .i64 6000))) (.lit (.bool true)) (.n2 (.bin .gtr) (.n1 .lens (.n1 .ld (.n1 (.faddr 1) (.n2 (.iaddr 2) (.slot 0) (.slot 4))))) (.lit (.int .i64 6000))))])
    (.cond (.slot 26)
      (.seq
      (.reg [.asg 2 (.lit (.bool false))])
      .ret)
      .skip))
    h8_3))
  h8_4)
def h8_1 : HC :=
  (.seq
  (.seq
  (.reg [.need (.n1 .lensl (.slot 0)),
    .need (.n2 (.bin .lss) (.slot 4) (.n1 .lensl (.slot 0))),
    .asg 8 (.n2 (.bin .lss) (.slot 4) (.n1 .lensl (.slot 0)))])
  (.cond (.slot 8)
    .skip
    (.exit 0)))
  h8_2)
def h8_5 : HC :=
  (.seq
  (.reg [.need (.n1 .lensl (.slot 0)),
    .need (.n2 (.bin .leq) (.n1 .lensl (.slot 0)) (.lit (.int .i64 20))),
    .need (.gif (.n2 (.bin .leq) (.n1 .lensl (.slot 0)) (.lit (.int .i64 20))) true (.n2 (.bin .leq) (.slot 3) (.lit (.int .i64 6000)))),
    .need (.n3 .pick (.n2 (.bin .leq) (.n1 .lensl (.slot 0)) (.lit (.int .i64 20))) (.n2 (.bin .leq) (.slot 3) (.lit (.int .i64 6000))) (.lit (.bool false))),
    .asg 2 (.n3 .pick (.n2 (.bin .leq) (.n1 .lensl (.slot 0)) (.lit (.int .i64 20))) (.n2 (.bin .leq) (.slot 3) (.lit (.int .i64 6000))) (.lit (.bool false)))])
  .ret)
def h8 : HC :=
  (.seq
  (.reg [.asg 2 (.lit (.bool false))])
  (.seq
  (.reg [.asg 3 (.lit (.int .i64 0))])
  (.seq
  (.seq
  (.reg [.asg 4 (.lit (.int .i64 0))])
  (.block 0
    (.loop
      h8_1)))
  h8_5)))
theorem k8 : fnOK Tryd.prog 67109149 [⟨7, [0, 0, 0, 6, 14, 30, 62, 127, 0, 0, 768, 1792, 3840, 7936, 16383, 32767], [(0, []), (1, []), (2, []), (3, []), (4, []), (5, []), (6, []), (7, []), (8, []), (9, []), (10, []), (11, []), (12, []), (13, []), (14, []), (15, [])], none⟩] [.tmp 2] 1 Tryd.f8 = some h8 := by kernel_rfl
theorem c8 : callable Tryd.prog 8 = true := by kernel_rfl
theorem q8 {args : List Value} (ha : args.length = 1) {w : World} {next : Value → World → Prop} {QP : List PanicEntry → World → Prop} (H : hw Tryd.prog noPanic h8 (endV [.tmp 2] next) (σ0 args) w) : callK Tryd.prog 8 args w next QP := fn_rule Tryd.func8 mixed k8 ha H
theorem r8 {args : List Value} (ha : args.length = 1) {w : World} {next : Value → World → Prop} {QP : List PanicEntry → World → Prop} (H : hw Tryd.prog noPanic h8 (endV [.tmp 2] next) (σ0 args) w) : callvK Tryd.prog (.func (.func 8) #[] #[]) args w next QP := callf c8 (q8 ha H)

end Go.Proofs.Y

/- MN: msgid: the small cases, and the bounds. -/
namespace Go.Proofs.Y
open Go Go.HL Go.Proofs

def K0 : List Int := [1116352408, 1899447441, 3049323471, 3921009573, 961987163, 1508970993, 2453635748, 2870763221, 3624381080, 310598401, 607225278, 1426881987, 1925078388, 2162078206, 2614888103, 3248222580, 3835390401, 4022224774, 264347078, 604807628, 770255983, 1249150122, 1555081692, 1996064986, 2554220882, 2821834349, 2952996808, 3210313671, 3336571891, 3584528711, 113926993, 338241895, 666307205, 773529912, 1294757372, 1396182291, 1695183700, 1986661051, 2177026350, 2456956037, 2730485921, 2820302411, 3259730800, 3345764771, 3516065817, 3600352804, 4094571909, 275423344, 430227734, 506948616, 659060556, 883997877, 958139571, 1322822218, 1537002063, 1747873779, 1955562222, 2024104815, 2227730452, 2361852424, 2428436474, 2756734187, 3204031479, 3329325298]
theorem sum_abc : sumB K0 [97, 98, 99] = [186, 120, 22, 191, 143, 1, 207, 234, 65, 65, 64, 222, 93, 174, 34, 35, 176, 3, 97, 163, 150, 23, 122, 156, 180, 16, 255, 97, 242, 0, 21, 173] := by decide +kernel

section
variable {w : World} {next : Value → World → Prop} {QP : List PanicEntry → World → Prop}
theorem fill_rec {place : Nat → Option (Nat × Nat)} {cells : Array Value} {i o n : Nat} {v : Value} {cs : List Value} {rest : List (Nat × Value)} (hp : place i = some (o, n)) (hv : v.cells = cs.toArray) (hl : cs.length = n) (ho : o + n ≤ cells.size) :
    Instr.fill place cells ((i, v) :: rest) = Instr.fill place (cells.toList.take o ++ cs ++ cells.toList.drop (o + n)).toArray rest := by
  rw [Instr.fill, hp]
  simp only [hv, List.size_toArray, hl]
  rw [if_neg (by simp; omega)]
  congr 1
  rw [← Array.foldl_toList]
  simp only [Array.toList_zipIdx, List.toList_toArray]
  have key : ∀ (l : List Value) (k : Nat) (Z : Array Value), o + k + l.length ≤ Z.size → (l.zipIdx k).foldl (fun cs (x : Value × Nat) => cs.setIfInBounds (o + x.2) x.1) Z = (Z.toList.take (o + k) ++ l ++ Z.toList.drop (o + k + l.length)).toArray := by
    intro l
    induction l with
    | nil => intro k Z hk; simp
    | cons x r ih =>
      intro k Z hk
      rw [List.zipIdx_cons, List.foldl_cons, ih _ _ (by simp at hk ⊢; omega)]
      apply Array.toList_inj.1
      apply List.ext_getElem?
      intro j
      simp only [List.length_cons] at hk
      simp only [Array.toList_setIfInBounds, List.append_assoc, List.getElem?_append, List.length_take, List.length_set, Array.length_toList, List.getElem?_take, List.getElem?_set, List.getElem?_drop, List.length_cons, List.getElem?_cons]
      repeat' split
      all_goals first
        | rfl
        | (exfalso; omega)
        | (congr 1; omega)
        | (exfalso; simp_all; omega)
  have := key cs 0 cells (by omega)
  simpa [hl] using this

abbrev Fd.v (f : Fd) : Value := .agg #[str f.name, str f.value]
theorem bslF1 {a : Fd} (k : ∀ q w', w.heap.size = q → HL.Own w' (.slice (some ⟨q, 0, none⟩) 1 1) 37 2 1 (rows Fd.cells [a]) → Mod none' w w' → next (.slice (some ⟨q, 0, none⟩) 1 1) w') :
    bslK Tryd.prog 22 1 [(0, a.v)] w next QP := by
  refine bsl1 sl22 (cs := a.cells) rfl rfl (by omega) ?_
  intro q w' hq own _ m _
  exact k q w' hq (by simpa [rows] using own) m
theorem bslF2 {a b : Fd} (k : ∀ q w', w.heap.size = q → HL.Own w' (.slice (some ⟨q, 0, none⟩) 2 2) 37 2 2 (rows Fd.cells [a, b]) → Mod none' w w' → next (.slice (some ⟨q, 0, none⟩) 2 2) w') :
    bslK Tryd.prog 22 2 [(0, a.v), (1, b.v)] w next QP := by
  refine bsl_ sl22 (cs := rows Fd.cells [a, b]) rfl (by omega) ?_ ?_
  · have f1 := fill_rec (place := fun i => some (i * 2, 2)) (cells := (Array.range (2 * 2)).map ((Value.agg #[str [], str []]).cells[· % (Value.agg #[str [], str []]).cells.size]!)) (i := 0) (o := 0) (n := 2) (v := a.v) (cs := a.cells) (rest := [(1, b.v)]) rfl rfl rfl (by simp)
    rw [f1, fill_rec (i := 1) (o := 2) (n := 2) (cs := b.cells) rfl rfl rfl (by simp [Fd.cells]), Instr.fill]
    congr 1
    apply Array.toList_inj.1
    simp [rows, Fd.cells]
  intro q w' hq own _ m _
  exact k q w' hq own m

/-! ### the bounds -/
def totB (fs : List Fd) : Nat := (fs.map fun f => f.name.length + f.value.length).sum
theorem totB_le {fs : List Fd} {f : Fd} (h : f ∈ fs) : f.name.length + f.value.length ≤ totB fs := by
  unfold totB
  induction fs with
  | nil => cases h
  | cons g fs ih =>
    rw [List.map_cons, List.sum_cons]
    rcases List.mem_cons.1 h with rfl | h
    · omega
    · have := ih h; omega
def fewP (fs : List Fd) : Prop := fs.length ≤ 20 ∧ totB fs ≤ 6000
theorem fewP.g {fs : List Fd} (h : fewP fs) : szG fs := fun f hf => by
  have := totB_le hf
  have := h.2
  exact ⟨by omega, by omega⟩
theorem totB_take {fs : List Fd} {i : Nat} (h : i < fs.length) : totB (fs.take (i + 1)) = totB (fs.take i) + (fs[i].name.length + fs[i].value.length) := by
  unfold totB; rw [List.take_succ_eq_append_getElem h, List.map_append, List.sum_append]; simp

theorem totB_all : ∀ {l : List Fd}, (∀ f ∈ l, f.name.length ≤ 6000 ∧ f.value.length ≤ 6000) → totB l ≤ 12000 * l.length
  | [], _ => by simp [totB]
  | g :: l, h => by
    have h1 := totB_all (l := l) fun f hf => h f (by simp [hf])
    have h2 := h g (by simp)
    unfold totB at h1 ⊢
    rw [List.map_cons, List.sum_cons, List.length_cons]
    omega
theorem few_ {v : Value} {fs : List Fd} (hv : Sl w v 2 fs.length (rows Fd.cells fs)) (hfn : fs.length ≤ 9223372036854775807) (k : ∀ b w', (b = true → fewP fs) → Mod none' w w' → next (.bool b) w') : callvK Tryd.prog (.func (.func 8) #[] #[]) [v] w next QP := by
  refine r8 rfl ?_
  obtain ⟨va, vc, rfl, -⟩ := hv.form
  unfold h8
  try simp only [go_sem]
  refine loopN fs.length (fun i τ w' => τ 0 = .slice va fs.length vc ∧ (∃ n : Int, τ 3 = .int .i64 n ∧ (i ≤ 20 → n = totB (fs.take i))) ∧ τ 4 = .int .i64 i ∧ Mod none' w w' ∧ ∀ f ∈ fs.take i, f.name.length ≤ 6000 ∧ f.value.length ≤ 6000) ⟨0, by omega, rfl, ⟨0, rfl, fun _ => rfl⟩, rfl, Mod.refl _ _, by simp⟩ ?_
  rintro i τ w2 hi ⟨t0, ⟨n, t3, hn⟩, t4, m2, hno⟩
  have hT : totB (fs.take i) ≤ 12000 * i := by
    have := totB_all hno
    rw [List.length_take, Nat.min_eq_left hi] at this
    exact this
  unfold h8_1
  try simp only [go_sem, t0, t3, t4]
  refine ⟨fun hlt => ?_, fun hge => ?_⟩
  · have hil : i < fs.length := by
      have : (i : Int) < fs.length := by simpa using hlt
      omega
    obtain ⟨g, o, c, e, hA⟩ := fd_at hv hil
    simp only [Value.slice.injEq] at e
    obtain ⟨rfl, -, rfl⟩ := e
    obtain ⟨y0, y1, y2, y3⟩ := hA w2 m2
    unfold h8_2
    try simp only [go_sem, t0, t3, t4, y0, y1]
    refine ⟨⟨by omega, by omega⟩, fun _ => ⟨by omega, by omega⟩, fun hy => ?_, fun hy => ?_⟩
    · refine k false w2 (fun h => by cases h) m2
    · have hy : fs[i].name.length ≤ 6000 ∧ fs[i].value.length ≤ 6000 := by
        by_cases h1 : (6000 : Int) < (fs[i].name.length : Int)
        · rw [if_pos (by simpa using h1)] at hy; cases hy
        · rw [if_neg (by simpa using h1)] at hy
          have : ¬ (6000 : Int) < (fs[i].value.length : Int) := by simpa using hy
          omega
      have y0' : w2.drew.cell? ⟨g, o + i * 2, none⟩ = some (str fs[i].name) := y0
      unfold h8_3
      try simp only [go_sem, t0, t3, t4, y0, y1]
      repeat refine ⟨⟨by omega, by omega⟩, ?_⟩
      have hTt := totB_take hil
      unfold h8_4
      try simp only [go_sem, t0, t3, t4]
      rw [w64 (x := (i : Int) + 1) (by omega) (by omega)]
      refine ⟨i + 1, by omega, by omega, ⟨_, rfl, fun hi20 => ?_⟩, rfl, m2.trans' (Mod.drew none' w2), ?_⟩
      · have hn := hn (by omega)
        subst hn
        rw [w64 (x := ((totB (fs.take i) : Nat) : Int) + (fs[i].name.length : Int)) (by omega) (by omega), w64 (by omega) (by omega), hTt]
        omega
      · rw [List.take_succ_eq_append_getElem hil]
        intro f hf
        rcases List.mem_append.1 hf with h | h
        · exact hno f h
        · rw [List.mem_singleton.1 h]; exact hy
  · have hio : i = fs.length := by
      have : ¬ (i : Int) < fs.length := by simpa using hge
      omega
    subst hio
    rw [List.take_length] at hn
    unfold h8_5
    try simp only [go_sem, t0, t3, t4]
    refine k _ w2 (fun hb => ?_) m2
    by_cases h1 : (fs.length : Int) ≤ 20
    · rw [if_pos (by simpa using h1)] at hb
      have hn := hn (by omega)
      subst hn
      have : ((totB fs : Nat) : Int) ≤ 6000 := by simpa using hb
      exact ⟨by omega, by omega⟩
    · rw [if_neg (by simpa using h1)] at hb; cases hb

/-! ### the small cases -/
def sV1 : Bytes := [60, 97, 64, 98, 62, 32, 40, 120, 41, 32, 60, 99, 62, 32, 60, 60, 100, 64, 101, 62]
def sF1 : List Fd := [⟨[114, 101, 102, 101, 114, 101, 110, 99, 101, 115], [60, 49, 64, 120, 62, 32, 60, 50, 64, 120, 62]⟩, ⟨[73, 110, 45, 82, 101, 112, 108, 121, 45, 84, 111], [60, 51, 64, 120, 62]⟩]
def sF2 : List Fd := [⟨[73, 110, 45, 82, 101, 112, 108, 121, 45, 84, 111], [60, 51, 64, 120, 62, 32, 60, 51, 64, 120, 62]⟩]
def sF3 : List Fd := [⟨[77, 101, 115, 115, 97, 103, 101, 45, 73, 100], [32, 120, 32, 60, 121, 64, 122, 62, 32]⟩]
theorem s_ids : idsB sV1 = [[97, 64, 98], [100, 64, 101]] := by decide +kernel
theorem s_refs1 : refsB sF1 = [[49, 64, 120], [51, 64, 120], [50, 64, 120]] := by decide +kernel
theorem s_refs2 : refsB sF2 = [[51, 64, 120]] := by decide +kernel
theorem s_own : idsB ((getB sF3 msgId).getD []) = [[121, 64, 122]] := by decide +kernel
theorem s_make : makeB (sumB K0 [97, 98, 99]) = [98, 97, 55, 56, 49, 54, 98, 102, 56, 102, 48, 49, 99, 102, 101, 97, 52, 49, 52, 49, 64, 108, 105, 115, 116, 115, 46, 101, 120, 97, 109, 112, 108, 101] := by rw [sum_abc]; decide +kernel
theorem s_valid : validB [97, 64, 98, 64, 99] = false := by decide +kernel
theorem szG_of {fs : List Fd} (h : fs.all (fun f => decide (f.name.length ≤ 1000) && decide (f.value.length ≤ 1000)) = true) : szG fs := fun f hf => by
  have := List.all_eq_true.1 h f hf
  simp only [Bool.and_eq_true, decide_eq_true_eq] at this
  exact ⟨by omega, by omega⟩
theorem small_ (hK : Kd w K0) (k : ∀ w', Mod none' w w' → next (.bool true) w') : callvK Tryd.prog (.func (.func 7) #[] #[]) [] w next QP := by
  refine r7 rfl ?_
  unfold h7
  try simp only [go_sem]
  refine ids_ sV1 (by decide) ?_
  intro v1 w1 own1 _ m1
  rw [s_ids] at own1
  try simp only [go_sem, List.set_cons_zero, List.set_cons_succ, List.length_cons, List.length_nil, Nat.reduceAdd, Nat.reduceLeDiff]
  refine bslF2 (a := ⟨[114, 101, 102, 101, 114, 101, 110, 99, 101, 115], [60, 49, 64, 120, 62, 32, 60, 50, 64, 120, 62]⟩) (b := ⟨[73, 110, 45, 82, 101, 112, 108, 121, 45, 84, 111], [60, 51, 64, 120, 62]⟩) ?_
  intro q2 w2 hq2 own2 m2
  refine refs_ (fs := sF1) own2.sl (szG_of (by decide)) (by decide) ?_
  intro v3 w3 own3 _ m3
  rw [s_refs1] at own3
  try simp only [go_sem]
  refine bslF1 (a := ⟨[73, 110, 45, 82, 101, 112, 108, 121, 45, 84, 111], [60, 51, 64, 120, 62, 32, 60, 51, 64, 120, 62]⟩) ?_
  intro q4 w4 hq4 own4 m4
  refine refs_ (fs := sF2) own4.sl (szG_of (by decide)) (by decide) ?_
  intro v5 w5 own5 _ m5
  rw [s_refs2] at own5
  unfold h7_1
  try simp only [go_sem, List.set_cons_zero, List.set_cons_succ, List.length_cons, List.length_nil, Nat.reduceAdd, Nat.reduceLeDiff]
  refine bslF1 (a := ⟨[77, 101, 115, 115, 97, 103, 101, 45, 73, 100], [32, 120, 32, 60, 121, 64, 122, 62, 32]⟩) ?_
  intro q6 w6 hq6 own6 m6
  refine own_ (fs := sF3) own6.sl (szG_of (fs := sF3) (by decide)).f (by decide) ?_
  intro w7 m7
  unfold ownB firstB
  rw [s_own]
  try simp only [go_sem, List.head?_cons]
  refine bsl2 sl31 rfl rfl ?_
  intro q8 w8 hq8 own8 _ m8 _
  have own8' : HL.Own w8 (.slice (some ⟨q8, 0, none⟩) 2 2) 9 1 2 (([[97, 64, 98], [100, 64, 101]] : List Bytes).map str) := own8
  have m18 : Mod none' w1 w8 := (((((m2.trans' m3).trans' m4).trans' m5).trans' m6).trans' m7).trans' m8
  refine texts_ (own1.mod m18 fun _ _ h => h).sl own8'.sl (by decide) ?_
  intro w9 m9
  try simp only [go_sem, decide_true]
  refine bsl3 sl31 rfl rfl rfl ?_
  intro q10 w10 hq10 own10 _ m10 _
  have own10' : HL.Own w10 (.slice (some ⟨q10, 0, none⟩) 3 3) 9 1 3 (([[49, 64, 120], [51, 64, 120], [50, 64, 120]] : List Bytes).map str) := own10
  have m310 : Mod none' w3 w10 := ((((((m4.trans' m5).trans' m6).trans' m7).trans' m8).trans' m9)).trans' m10
  unfold l7_8
  try simp only [go_sem]
  refine texts_ (own3.mod m310 fun _ _ h => h).sl own10'.sl (by decide) ?_
  intro w11 m11
  unfold l7_7
  try simp only [go_sem, decide_true]
  refine bsl1 sl31 (cs := [str [51, 64, 120]]) rfl rfl (by omega) ?_
  intro q12 w12 hq12 own12 _ m12 _
  have own12' : HL.Own w12 (.slice (some ⟨q12, 0, none⟩) 1 1) 9 1 1 (([[51, 64, 120]] : List Bytes).map str) := own12
  have m512 : Mod none' w5 w12 := (((((m6.trans' m7).trans' m8).trans' m9).trans' m10).trans' m11).trans' m12
  unfold l7_6
  try simp only [go_sem]
  refine texts_ (own5.mod m512 fun _ _ h => h).sl own12'.sl (by decide) ?_
  intro w13 m13
  unfold l7_5
  try simp only [go_sem, decide_true]
  have m013 : Mod none' w w13 := ((((m1.trans' m2).trans' m3).trans' m4).trans' m5).trans' (((((((m6.trans' m7).trans' m8).trans' m9).trans' m10).trans' m11).trans' m12).trans' m13)
  refine sum_ (K := K0) (fun q hq => m013.cell (hK q hq) fun h => h) (by decide) ?_
  intro w14 m14
  unfold l7_4
  try simp only [go_sem]
  refine make_ _ (by rw [sum_abc]; decide) ?_
  intro w15 m15
  rw [s_make]
  unfold l7_3
  try simp only [go_sem, decide_true]
  refine valid_ _ ?_
  intro w16 m16
  rw [s_valid]
  unfold l7_2
  try simp only [go_sem, decide_true]
  exact k _ (((m013.trans' m14).trans' m15).trans' m16)
end
end Go.Proofs.Y

/- HLV: what came in with a call, out of the form's reading of it. -/
namespace Go.HL
open Go Go.ChangeShapes Go.WideShapes
section
variable {H : Type} {enc : TypeId × Value → H} {P : Program} {w : World}

theorem str_list (s : ByteArray) : Value.string s = str s.data.toList := rfl

theorem sl_of_cells {a : Addr} {len cap : Nat} {xs : List Value} (hx : len ≤ xs.length) (hlc : len ≤ cap) (hc : ∀ i, i < xs.length → w.cell? (a.add i) = xs[i]?) : Sl w (.slice (some a) len cap) 1 len (xs.take len) := by
  refine ⟨by rw [List.length_take]; omega, some a, cap, rfl, hlc, fun h0 => ?_⟩
  have hs : a.spot = none := by
    have := hc 0 (by omega)
    have e : a.add 0 = a := rfl
    rw [e, List.getElem?_eq_getElem (by omega)] at this
    exact World.cell?_spot this
  obtain ⟨b, o, s⟩ := a
  simp only at hs
  subst hs
  refine ⟨b, o, rfl, fun j hj => ?_⟩
  have := hc j (by omega)
  rw [e_add] at this
  rw [this, List.getElem?_take_of_lt (by omega)]

/-- a slice of strings that came in -/
theorem strs_in {t e : TypeId} {v : Value} {d : DataW H} {ps : List MemPlace} (ht : P.underlying t = some (.slice e)) (he : P.underlying e = some .string) (hc : P.cellsOf e = 1) (hv : ∃ a len cap, v = .slice a len cap)
    (h : DataW.Trod enc P w 0 (fun _ => true) true t v d ps) :
    ∃ ls : List (List UInt8), Sl w v 1 ls.length (ls.map str) ∧ (ls = [] ∨ ∃ spare, d = .slice (ls.map fun s => .lit (.string s)) spare) := by
  obtain ⟨a, len, cap, rfl⟩ := hv
  obtain ⟨fuel, hf⟩ := h
  rcases open_strings ht he hc hf with ⟨hcs, -⟩ | ⟨x, l, c, ss, hcs, -, hl, -, hz, hx, hcell, -⟩
  · simp [Value.cells] at hcs
    obtain ⟨rfl, rfl, rfl⟩ := hcs
    exact ⟨[], (Own.nil w 0 1).sl, .inl rfl⟩
  · simp [Value.cells] at hcs
    obtain ⟨rfl, rfl, rfl⟩ := hcs
    have hz : ss.length = cap := by simpa using hz
    refine ⟨(ss.take len).map fun s => s.data.toList, ?_, .inr ⟨strs (ss.drop len), ?_⟩⟩
    · have := sl_of_cells (w := w) (a := x) (len := len) (cap := cap) (xs := ss.map fun s => .string s) (by simp; omega) hl (by
        intro i hi
        simp only [List.length_map] at hi
        rw [hcell i hi]
        simp [List.getElem?_eq_getElem hi])
      have hlen : ((ss.take len).map fun s => s.data.toList).length = len := by simp; omega
      rw [hlen]
      have e : ((ss.take len).map fun s => s.data.toList).map str = (ss.map fun s => Value.string s).take len := by
        rw [List.map_map, ← List.map_take]; rfl
      rw [e]; exact this
    · have := congrArg Prod.fst hx
      simp only at this
      rw [this, strs, List.map_map]; rfl

/-- a slice of integers that came in -/
theorem ints_in {t e : TypeId} {k : IntKind} {v : Value} {d : DataW H} {ps : List MemPlace} (ht : P.underlying t = some (.slice e)) (he : P.underlying e = some (.int k)) (hc : P.cellsOf e = 1) (hv : ∃ a len cap, v = .slice a len cap)
    (h : DataW.Trod enc P w 0 (fun _ => true) true t v d ps) :
    ∃ zs : List Int, Sl w v 1 zs.length (zs.map fun n => .int k n) ∧ (∀ n ∈ zs, (Lit.int k n).wf = true) ∧ (zs = [] ∨ ∃ spare, d = .slice (zs.map fun n => .lit (.int k n)) spare) := by
  obtain ⟨a, len, cap, rfl⟩ := hv
  obtain ⟨fuel, hf⟩ := h
  rcases open_ints ht he hc hf with ⟨hcs, -⟩ | ⟨x, l, c, ss, hcs, -, hl, -, hz, hx, hcell, hw⟩
  · simp [Value.cells] at hcs
    obtain ⟨rfl, rfl, rfl⟩ := hcs
    exact ⟨[], (Own.nil w 0 1).sl, fun n hn => (nomatch hn), .inl rfl⟩
  · simp [Value.cells] at hcs
    obtain ⟨rfl, rfl, rfl⟩ := hcs
    have hz : ss.length = cap := by simpa using hz
    refine ⟨ss.take len, ?_, fun n hn => hw n (List.mem_of_mem_take hn), .inr ⟨lits k (ss.drop len), ?_⟩⟩
    · have := sl_of_cells (w := w) (a := x) (len := len) (cap := cap) (xs := ss.map fun n => .int k n) (by simp; omega) hl (by
        intro i hi
        simp only [List.length_map] at hi
        rw [hcell i hi]
        simp [List.getElem?_eq_getElem hi])
      have hlen : (ss.take len).length = len := by simp; omega
      rw [hlen, List.map_take]; exact this
    · have := congrArg Prod.fst hx
      simp only at this
      rw [this]; rfl
end
end Go.HL
