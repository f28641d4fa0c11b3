/- JC: the walks of the journal's codec. -/
import Derived.Test.YtgalileklafbbaaDD
import Derived.Test.YtgalileklafbbaaYJ
import Derived.Test.YtgalileklafbbaaHLT
set_option linter.unusedSimpArgs false
set_option linter.unusedVariables false
set_option maxRecDepth 100000
namespace Go.Proofs.Y
open Go Go.HL Go.Proofs

section
variable {w : World} {next : Value → World → Prop} {QP : List PanicEntry → World → Prop}

theorem shr1_32 {a : Nat} (ha : a < 4294967296) : ((a : Int).fdiv (2 ^ min 1 32)) = ((a / 2 : Nat) : Int) := by
  have : (2 : Int) ^ (min 1 32) = 2 := by decide
  rw [this, Int.fdiv_eq_ediv_of_nonneg _ (by decide)]; rfl

theorem crc_ (s : List UInt8) (hs : s.length ≤ 1000000000000) (k : next (.int .i64 (crc s : Nat)) w) : callvK Try.prog (.func (.func 106) #[] #[]) [str s] w next QP := by
  refine r106 rfl ?_
  unfold h106
  try simp only [go_sem]
  refine loopN s.length (fun i τ w' => w' = w ∧ τ 0 = str s ∧ τ 3 = .int .u32 (crcFold 4294967295 (s.take i) : Nat) ∧ τ 7 = .int .i64 s.length ∧ τ 8 = .int .i64 i) ⟨0, by omega, rfl, rfl, rfl, rfl, rfl⟩ ?_
  rintro i τ w1 hi ⟨rfl, t0, t3, t7, t8⟩
  unfold h106_1
  try simp only [go_sem, t0, t3, t7, t8]
  refine ⟨fun hlt => ?_, fun hge => ?_⟩
  · have hil : i < s.length := by
      have : (i : Int) < s.length := by simpa using hlt
      omega
    have hx := crcFold_lt (s.take i) 4294967295 (by decide)
    have hb := (s[i]).toNat_lt
    have hxb := xor_byte hx s[i]
    have hw1 : IntKind.u32.wrap ((s[i]).toNat : Int) = ((s[i]).toNat : Int) := by rw [wrap_u32]; omega
    unfold h106_2
    try simp only [go_sem, t0, t3, t7, t8]
    repeat refine ⟨⟨by omega, by omega⟩, ?_⟩
    have hidx : s[i]?.getD 0 = s[i] := by simp [hil]
    rw [hidx, hw1, xor32 hx (by omega)]
    try simp only [go_sem, t0, t3, t7, t8]
    refine loopN 8 (fun j τ w' => w' = w1 ∧ τ 0 = str s ∧ τ 3 = .int .u32 (crcIt j (crcFold 4294967295 (s.take i) ^^^ (s[i]).toNat) : Nat) ∧ τ 7 = .int .i64 s.length ∧ τ 8 = .int .i64 i ∧ τ 17 = .int .i64 j) ⟨0, by omega, rfl, t0, rfl, t7, t8, rfl⟩ ?_
    rintro j τ w2 hj ⟨rfl, t0, t3, t7, t8, t17⟩
    unfold h106_3
    try simp only [go_sem, t0, t3, t7, t8, t17]
    refine ⟨fun hlt8 => ?_, fun hge8 => ?_⟩
    · have hj8 : j < 8 := by
        have : (j : Int) < 8 := by simpa using hlt8
        omega
      have hy := crcIt_lt j _ hxb
      have hst := crcIt_succ j (crcFold 4294967295 (s.take i) ^^^ (s[i]).toNat)
      generalize hyd : crcIt j (crcFold 4294967295 (s.take i) ^^^ (s[i]).toNat) = y at *
      unfold h106_4
      try simp only [go_sem, t0, t3, t7, t8, t17, and1_32 hy, shr1_32 hy]
      refine ⟨fun ho => ?_, fun ho => ?_⟩
      · have ho : y % 2 = 1 := by
          have : ((y % 2 : Nat) : Int) = 1 := by simpa using ho
          omega
        have hs1 : crcStep y = (y / 2) ^^^ 3988292384 := by simp [crcStep, ho]
        have hx32 := xor32 (a := y / 2) (b := 3988292384) (by omega) (by omega)
        rw [show ((3988292384 : Nat) : Int) = 3988292384 from rfl] at hx32
        unfold h106_5
        try simp only [go_sem, t0, t3, t7, t8, t17, hx32]
        rw [w64 (by omega) (by omega)]
        exact ⟨j + 1, by omega, by omega, by rw [hst, hs1], rfl⟩
      · have ho : ¬ y % 2 = 1 := by
          have : ¬ ((y % 2 : Nat) : Int) = 1 := by simpa using ho
          omega
        have hs1 : crcStep y = y / 2 := by simp [crcStep, ho]
        unfold h106_5
        try simp only [go_sem, t0, t3, t7, t8, t17]
        rw [w64 (by omega) (by omega)]
        exact ⟨j + 1, by omega, by omega, by rw [hst, hs1], rfl⟩
    · have hj8 : j = 8 := by
        have : ¬ (j : Int) < 8 := by simpa using hge8
        omega
      subst hj8
      unfold h106_6
      try simp only [go_sem, t0, t3, t7, t8]
      rw [w64 (by omega) (by omega)]
      refine ⟨i + 1, by omega, by omega, ?_, rfl⟩
      rw [List.take_succ_eq_append_getElem hil]
      simp only [crcFold, List.foldl_append, List.foldl_cons, List.foldl_nil]
  · have hio : i = s.length := by
      have : ¬ (i : Int) < s.length := by simpa using hge
      omega
    subst hio
    rw [List.take_length] at t3
    have hl := crcFold_lt s 4294967295 (by decide)
    have hnot : v1 w1 .xor (.int .u32 (crcFold 4294967295 s : Nat)) = .int .u32 (crc s : Nat) := by
      have h1 : v1 w1 .xor (.int .u32 (crcFold 4294967295 s : Nat)) = .int .u32 (IntKind.u32.wrap (BitVec.ofInt 32 4294967295 ^^^ BitVec.ofInt 32 (crcFold 4294967295 s : Nat)).toNat) := rfl
      rw [h1]
      congr 1
      have h2 : (BitVec.ofInt 32 4294967295 ^^^ BitVec.ofInt 32 (crcFold 4294967295 s : Nat)).toNat = 4294967295 - crcFold 4294967295 s := by
        have h3 : BitVec.ofInt 32 4294967295 = BitVec.allOnes 32 := by decide
        rw [h3, BitVec.allOnes_xor, BitVec.toNat_not, bv_nat (show _ < 2 ^ 32 by omega)]
      rw [h2, wrap_u32]
      unfold crc; omega
    have hc := crc_lt s
    unfold h106_7
    try simp only [go_sem, t3, hnot]
    rw [w64 (by omega) (by omega)]
    exact ⟨trivial, k⟩

theorem shr_byte (n : Int) {i : Nat} (hi : i < 8) : IntKind.u8.wrap (n.fdiv (2 ^ (min (8 * i) 64))) = (byteOf n i).toNat := by
  rw [byteOf_nat, wrap_u8]
  have h1 : min (8 * i) 64 = 8 * i := by omega
  rw [h1, Int.fdiv_eq_ediv_of_nonneg _ (by exact Int.le_of_lt (Int.pow_pos (by decide))), Int.pow_mul]
  rfl

theorem number_ (n : Int) (k : ∀ w', Mod none' w w' → next (str (num n)) w') : callvK Try.prog (.func (.func 108) #[] #[]) [.int .i64 n] w next QP := by
  refine r108 rfl ?_
  unfold h108
  try simp only [go_sem]
  refine msl1 sl36 rfl 8 rfl (by omega) (by unfold maxLen; omega) ?_
  intro b w1 hb own1 blk1 m1 hs1
  try simp only [go_sem]
  refine loopN 8 (fun i τ w' => τ 0 = .int .i64 n ∧ τ 3 = .slice (some ⟨b, 0, none⟩) 8 8 ∧ τ 7 = .int .i64 8 ∧ τ 8 = .int .i64 i ∧ Mod none' w w' ∧ Blk w' b 5 (bys ((num n).take i ++ List.replicate (8 - i) 0))) ⟨0, by omega, rfl, rfl, rfl, rfl, m1, by simpa [bys] using blk1⟩ ?_
  rintro i τ w2 hi ⟨t0, t3, t7, t8, m2, blk2⟩
  unfold h108_1
  try simp only [go_sem, t0, t3, t7, t8]
  refine ⟨fun hlt => ?_, fun hge => ?_⟩
  · have hi8 : i < 8 := by
      have : (i : Int) < 8 := by simpa using hlt
      omega
    unfold h108_2
    try simp only [go_sem, t0, t3, t7, t8]
    have e1 : IntKind.i64.wrap (8 * (i : Int)) = ((8 * i : Nat) : Int) := by rw [w64 (by omega) (by omega)]; omega
    simp only [e1, Int.toNat_natCast, shr_byte n hi8]
    refine ⟨by omega, ⟨by omega, by omega⟩, ?_⟩
    have hl : (bys ((num n).take i ++ List.replicate (8 - i) 0)).length = 8 := by rw [bys_len, List.length_append, List.length_take, num_len, List.length_replicate]; omega
    refine store1 sz5 blk2 (by rw [hl]; omega) rfl ?_
    intro w3 blk3 m3 hs3
    unfold h108_3
    try simp only [go_sem, t0, t3, t7, t8]
    rw [w64 (by omega) (by omega)]
    refine ⟨i + 1, by omega, by omega, rfl, m2.trans m3 fun k hk (e : k = b) => by omega, ?_⟩
    have e2 : (num n).take (i + 1) = (num n).take i ++ [byteOf n i] := by
      rw [List.take_succ_eq_append_getElem (by rw [num_len]; exact hi8)]
      simp [num]
    have e3 : List.replicate (8 - i) (0 : UInt8) = 0 :: List.replicate (8 - (i + 1)) 0 := by
      rw [show 8 - i = (8 - (i + 1)) + 1 by omega, List.replicate_succ]
    have e4 : (bys ((num n).take i ++ List.replicate (8 - i) 0)).set i (.int .u8 (byteOf n i).toNat) = bys ((num n).take (i + 1) ++ List.replicate (8 - (i + 1)) 0) := by
      have hti : (bys ((num n).take i)).length = i := by rw [bys_len, List.length_take, num_len]; omega
      rw [e2, e3]
      simp only [bys, List.map_append, List.map_cons, List.map_nil] at hti ⊢
      rw [List.set_append_right _ _ (by omega), hti, Nat.sub_self, List.set_cons_zero]
      simp
    rw [← e4]; exact blk3
  · have hi8 : i = 8 := by
      have : ¬ (i : Int) < 8 := by simpa using hge
      omega
    subst hi8
    unfold h108_4
    try simp only [go_sem, t3]
    have e5 : (num n).take 8 ++ List.replicate (8 - 8) 0 = num n := by
      rw [List.take_of_length_le (by rw [num_len]; omega)]; simp
    rw [e5] at blk2
    refine b2s u36 u9 u5 (n := 8) (l := num n) ⟨by rw [bys_len, num_len], _, _, rfl, by omega, fun _ => ⟨b, 0, rfl, fun j hj => by rw [Nat.zero_add, blk2.cell]⟩⟩ ?_
    try simp only [go_sem]
    exact k _ m2

theorem value_ (s : List UInt8) (hs : 8 ≤ s.length) (k : next (.int .i64 (val s)) w) : callvK Try.prog (.func (.func 80) #[] #[]) [str s] w next QP := by
  refine r80 rfl ?_
  unfold h80
  try simp only [go_sem]
  refine loopN 8 (fun i τ w' => w' = w ∧ τ 0 = str s ∧ τ 3 = .int .i64 (valFrom s i) ∧ τ 4 = .int .i64 (7 - i)) ⟨0, by omega, rfl, rfl, rfl, rfl⟩ ?_
  rintro i τ w1 hi ⟨rfl, t0, t3, t4⟩
  unfold h80_1
  try simp only [go_sem, t0, t3, t4]
  refine ⟨fun hge => ?_, fun hlt => ?_⟩
  · have hi8 : i < 8 := by
      have : (0 : Int) ≤ 7 - i := by simpa using hge
      omega
    have e1 : (7 - (i : Int)) = ((7 - i : Nat) : Int) := by omega
    have hidx : s[7 - i]?.getD 0 = s[7 - i]'(by omega) := by rw [List.getElem?_eq_getElem (by omega)]; rfl
    have hb := (s[7 - i]'(by omega)).toNat_lt
    have hsh : (2 : Int) ^ (min 8 64) = 256 := by decide
    have hva : valAt s (7 - i) = (s[7 - i]'(by omega)).toNat := by simp only [valAt, hidx]
    unfold h80_2
    try simp only [go_sem, t0, t3, t4, e1, hidx, hsh]
    refine ⟨⟨by omega, by omega⟩, ?_⟩
    rw [w64 (x := ((s[7 - i]'(by omega)).toNat : Int)) (by omega) (by omega), or_byte _ _ (by omega)]
    have e9 : IntKind.i64.wrap (((7 - i : Nat) : Int) - 1) = 7 - ((i + 1 : Nat) : Int) := by rw [w64 (by omega) (by omega)]; omega
    unfold h80_3
    try simp only [go_sem, t0, t4, e1, e9]
    refine ⟨i + 1, by omega, by omega, ?_, rfl⟩
    show Value.int .i64 _ = Value.int .i64 (wr (valFrom s i * 256 + valAt s (7 - i)))
    rw [hva]; rfl
  · have hi8 : i = 8 := by
      have : ¬ (0 : Int) ≤ 7 - i := by simpa using hlt
      omega
    subst hi8
    unfold h80_4
    try simp only [go_sem, t3]
    exact k

def header (e m : Int) : List UInt8 := num e ++ num m
theorem header_len (e m : Int) : (header e m).length = 16 := by simp [header, num_len]
theorem header_ (e m : Int) (k : ∀ w', Mod none' w w' → next (str (header e m)) w') : callvK Try.prog (.func (.func 89) #[] #[]) [.int .i64 e, .int .i64 m] w next QP := by
  refine r89 rfl ?_
  unfold h89
  try simp only [go_sem]
  refine number_ e ?_
  intro w1 m1
  try simp only [go_sem]
  refine number_ m ?_
  intro w2 m2
  have h1 := num_len e
  have h2 := num_len m
  try simp only [go_sem]
  refine ⟨by omega, ?_⟩
  exact k _ (m1.trans' m2)

theorem sclone_ {v : Value} {l : List (List UInt8)} {n : Nat} (hl : Sl w v 1 n (l.map str)) (hn : n ≤ 1000000000000) (k : ∀ v' w', Own w' v' 9 1 n (l.map str) → Mod none' w w' → (∀ k, v'.ownBlock = some k → w.heap.size ≤ k) → next v' w') :
    callvK Try.prog (.func (.func 84) #[] #[]) [v] w next QP := by
  refine r84 rfl ?_
  obtain ⟨a, c, rfl, hc, hcell⟩ := hl.form
  unfold h84
  try simp only [go_sem]
  refine ⟨fun ha => ?_, fun ha => ?_⟩
  · have hn0 : n = 0 := by
      rcases Nat.eq_zero_or_pos n with h | h
      · exact h
      · obtain ⟨b, o, rfl, _⟩ := hcell h
        simp at ha
    subst hn0
    obtain rfl : l = [] := List.eq_nil_of_length_eq_zero (by have := hl.len; simpa using this)
    exact k _ _ (Own.nil _ _ _) (Mod.refl _ _) (fun k hk => by cases hk)
  · unfold h84_1
    try simp only [go_sem]
    refine bsl0 sl40 ?_
    intro b w1 hbb own1 m1 sz1
    try simp only [go_sem]
    refine append_ sl40 (n := 0) (m := n) own1 (hl.mod m1 fun k _ h => h) (by intro u hu; obtain ⟨x, -, rfl⟩ := List.mem_map.1 hu; rfl) (by omega) (by unfold maxLen; omega) ?_
    intro v' w2 own2 m2 hb2 _
    try simp only [go_sem]
    simp only [Nat.zero_add, List.nil_append] at own2
    refine k _ _ own2 (m1.trans m2 fun i hi hS => ?_) ?_
    · simp only [ownS, Value.ownBlock, Option.some.injEq] at hS; omega
    · intro k hk
      rcases hb2 k hk with h | h
      · simp only [Value.ownBlock, Option.some.injEq] at h; omega
      · omega
end
end Go.Proofs.Y

/- JD: strings.Builder, the forms of rows, and their reading. -/
namespace Go.Proofs.Y
open Go Go.HL Go.Proofs

structure BR (w0 w : World) (b : Nat) (l : List UInt8) : Prop where
  inv : ∃ pv bv, Blk w b 122 [pv, bv] ∧ (pv = .pointer none ∨ pv = ptr b) ∧ Own w bv 5 1 l.length (bys l) ∧ (∀ k, bv.ownBlock = some k → w0.heap.size ≤ k)
  fb : w0.heap.size ≤ b
  m : Mod none' w0 w

theorem sz120 : szOf Try.prog 120 = some 1 := by kernel_rfl
theorem sz36 : szOf Try.prog 36 = some 1 := by kernel_rfl
theorem ext112a : Extern.findNext Try.f112 = none := by kernel_rfl
theorem ext112b : Extern.find Try.f112 = some Extern.AbiNoEscape.same := by kernel_rfl

section
variable {w : World} {next : Value → World → Prop} {QP : List PanicEntry → World → Prop}

theorem copycheck_ {b : Nat} {pv bv : Value} (h : Blk w b 122 [pv, bv]) (hp : pv = .pointer none ∨ pv = ptr b) (k : ∀ w', Blk w' b 122 [ptr b, bv] → Mod (fun k => k = b) w w' → next (.tuple #[]) w') :
    callvK Try.prog (.func (.func 111) #[] #[]) [ptr b] w next QP := by
  refine r111 rfl ?_
  have c0 := h.cell 0
  have c0 : w.cell? ⟨b, 0, none⟩ = some pv := c0
  unfold h111
  rcases hp with rfl | rfl
  · try simp only [go_sem, c0]
    refine conv_up (t := 122) (by kernel_rfl) (by kernel_rfl) (by kernel_rfl) h (by simp) ?_
    try simp only [go_sem]
    refine same_ Try.func112 (by kernel_rfl) (by kernel_rfl) ext112a ext112b ?_
    try simp only [go_sem]
    refine conv_dn (u := 122) (by kernel_rfl) (by kernel_rfl) (by kernel_rfl) h (by kernel_rfl) ?_
    try simp only [go_sem]
    refine store1 sz120 h (by simp) rfl ?_
    intro w1 h1 m1 _
    try simp only [go_sem]
    exact k _ h1 m1
  · try simp only [go_sem, c0]
    exact k _ h (Mod.refl _ _)

theorem wstr_ {w0 : World} {b : Nat} {l s : List UInt8} (h : BR w0 w b l) (hm : l.length + s.length ≤ 140737488355328) (k : ∀ w' v, BR w0 w' b (l ++ s) → next v w') : callvK Try.prog (.func (.func 107) #[] #[]) [ptr b, str s] w next QP := by
  refine r107 rfl ?_
  obtain ⟨⟨pv, bv, hb, hp, ho, hf⟩, hfb, m⟩ := h
  have hbb : bv.ownBlock ≠ some b := fun e => own_neb ho hb (by decide) e
  unfold h107
  try simp only [go_sem]
  refine copycheck_ hb hp ?_
  intro w1 hb1 m1
  have ho1 := ho.mod m1 fun k hk (e : k = b) => hbb (e ▸ hk)
  have c1 : w1.cell? ⟨b, 1, none⟩ = some bv := hb1.cell 1
  try simp only [go_sem, c1]
  refine appS_ sl36 u9 ho1 hm ?_
  intro v2 w2 own2 m2 hb2
  obtain ⟨ua, uc, rfl, -, -⟩ := own2.form
  have hb2' := hb1.mod m2 fun hS => hbb hS
  refine store1 sz36 hb2' (by simp) rfl ?_
  intro w3 hb3 m3 _
  try simp only [go_sem]
  have hs := m.size
  have hs1 := m1.size
  have hnew : ∀ k, (Value.slice ua (l.length + s.length) uc).ownBlock = some k → w0.heap.size ≤ k ∧ k ≠ b := by
    intro k hk
    rcases hb2 k hk with h' | h'
    · exact ⟨hf k h', fun e => hbb (e ▸ h')⟩
    · have := hb1.lt; exact ⟨by omega, by omega⟩
  refine k _ _ ⟨⟨_, _, by simpa using hb3, .inr rfl, ?_, fun k hk => (hnew k hk).1⟩, hfb, ((m.trans m1 fun k hk (e : k = b) => by omega).trans m2 fun k hk hS => ?_).trans m3 fun k hk (e : k = b) => by omega⟩
  · have := own2.mod m3 fun k hk (e : k = b) => (hnew k hk).2 e
    simpa [bys] using this
  · have := hf k hS; omega

theorem bstr_ {w0 : World} {b : Nat} {l : List UInt8} (h : BR w0 w b l) (hm : l.length ≤ 9223372036854775807) (k : ∀ w', Mod none' w0 w' → next (str l) w') : callvK Try.prog (.func (.func 109) #[] #[]) [ptr b] w next QP := by
  refine r109 rfl ?_
  obtain ⟨⟨pv, bv, hb, hp, ho, hf⟩, hfb, m⟩ := h
  have c1 : w.cell? ⟨b, 1, none⟩ = some bv := hb.cell 1
  obtain ⟨ua, uc, rfl, -, -⟩ := ho.form
  unfold h109
  try simp only [go_sem, c1]
  refine usd_ (e := 5) (by kernel_rfl) (ho.mod (Mod.drew none' w) fun _ _ h => h) ?_
  intro p w1 m1 hpv
  have c1' := (m1.cell (show w.drew.cell? ⟨b, 1, none⟩ = _ from c1) fun h => h)
  try simp only [go_sem, c1']
  refine us_ (e := 5) (by kernel_rfl) (by kernel_rfl) (ho.mod ((Mod.drew none' w).trans' m1) fun _ _ h => h) hpv hm ?_
  intro w2 m2
  try simp only [go_sem]
  refine k _ (((m.trans' (Mod.drew none' w)).trans' m1).trans m2 fun k hk hS => ?_)
  have := hf k hS; omega

def formB (r : List UInt8) : List UInt8 := num r.length ++ num (crc r : Nat) ++ r
def formsB (l : List (List UInt8)) : List UInt8 := l.flatMap formB
theorem formB_len (r : List UInt8) : (formB r).length = 16 + r.length := by simp [formB, num_len]; omega
theorem formsB_app (l m : List (List UInt8)) : formsB (l ++ m) = formsB l ++ formsB m := by simp [formsB]
theorem formsB_take {l : List (List UInt8)} {i : Nat} (h : i < l.length) : formsB (l.take (i + 1)) = formsB (l.take i) ++ formB l[i] := by
  rw [List.take_succ_eq_append_getElem h, formsB_app]; simp [formsB]
theorem formsB_le {l : List (List UInt8)} {i : Nat} : (formsB (l.take i)).length ≤ (formsB l).length := by
  have : formsB l = formsB (l.take i) ++ formsB (l.drop i) := by rw [← formsB_app, List.take_append_drop]
  rw [this, List.length_append]; omega

theorem forms_ {v : Value} {l : List (List UInt8)} {n : Nat} (hl : Sl w v 1 n (l.map str)) (hm : (formsB l).length ≤ 1000000000000) (k : ∀ w', Mod none' w w' → next (str (formsB l)) w') :
    callvK Try.prog (.func (.func 85) #[] #[]) [v] w next QP := by
  refine r85 rfl ?_
  have hln : l.length = n := by have := hl.len; simpa using this
  obtain ⟨a, c, rfl, hc, hcell⟩ := hl.form
  unfold h85
  try simp only [go_sem]
  refine alloc_ (z := .agg #[.pointer none, .slice none 0 0]) (cs := [.pointer none, .slice none 0 0]) (by kernel_rfl) rfl ?_
  intro b w1 hb blk1 m1 hs1
  have hbr : BR w w1 b [] := ⟨⟨_, _, blk1, .inl rfl, Own.nil _ _ _, fun k hk => (nomatch (hk : none = some k))⟩, by omega, m1⟩
  try simp only [go_sem]
  refine loopN n (fun i τ w' => τ 3 = ptr b ∧ τ 6 = .slice a n c ∧ τ 7 = .int .i64 n ∧ τ 8 = .int .i64 i ∧ BR w w' b (formsB (l.take i))) ⟨0, by omega, rfl, rfl, rfl, rfl, hbr⟩ ?_
  rintro i τ w2 hi ⟨t3, t6, t7, t8, hbr⟩
  have hle := formsB_le (l := l) (i := i)
  have hnb : n ≤ 1000000000000 := by
    have : ∀ l : List (List UInt8), l.length ≤ (formsB l).length := by
      intro l
      induction l with
      | nil => simp
      | cons x l ih => simp only [formsB, List.flatMap_cons, List.length_append, List.length_cons, formB_len] at ih ⊢; omega
    have := this l; omega
  unfold h85_1
  try simp only [go_sem, t3, t6, t7, t8]
  refine ⟨fun hlt => ?_, fun hge => ?_⟩
  · have hin : i < n := by
      have : (i : Int) < n := by simpa using hlt
      omega
    obtain ⟨g, o, rfl, hcl⟩ := hcell (by omega)
    have hci : w2.cell? ⟨g, o + i, none⟩ = some (str (l[i]'(by omega))) := by
      have h1 := hcl i (by omega)
      rw [List.getElem?_map, List.getElem?_eq_getElem (by omega)] at h1
      exact hbr.m.cell h1 fun h => h
    have hfs := formsB_take (l := l) (i := i) (by omega)
    have hle1 := formsB_le (l := l) (i := i + 1)
    have hfl := formB_len (l[i]'(by omega))
    have hlen1 := congrArg List.length hfs
    rw [List.length_append] at hlen1
    unfold h85_2
    try simp only [go_sem, t3, t6, t7, t8, hci]
    repeat refine ⟨⟨by omega, by omega⟩, ?_⟩
    refine number_ _ ?_
    intro w3 m3
    try simp only [go_sem, t3, t6, t7, t8]
    refine crc_ _ (by omega) ?_
    try simp only [go_sem, t3, t6, t7, t8]
    refine number_ _ ?_
    intro w4 m4
    have hn1 := num_len ((l[i]'(by omega)).length : Nat)
    have hn2 := num_len (crc (l[i]'(by omega)) : Nat)
    try simp only [go_sem, t3, t6, t7, t8]
    simp only [List.length_append]
    refine ⟨by omega, by omega, ?_⟩
    have hbr4 : BR w w4 b (formsB (l.take i)) := by
      obtain ⟨⟨pv, bv, hb, hp, ho, hf⟩, hfb, m⟩ := hbr
      have m34 := m3.trans' m4
      exact ⟨⟨pv, bv, hb.mod m34 fun h => h, hp, ho.mod m34 fun _ _ h => h, hf⟩, hfb, m.trans' m34⟩
    refine wstr_ hbr4 (by rw [List.length_append, List.length_append]; omega) ?_
    intro w5 v5 hbr5
    unfold h85_3
    try simp only [go_sem, t3, t6, t7, t8]
    rw [w64 (by omega) (by omega)]
    refine ⟨i + 1, by omega, by omega, rfl, ?_⟩
    rw [hfs]; exact hbr5
  · have hio : i = n := by
      have : ¬ (i : Int) < n := by simpa using hge
      omega
    subst hio
    rw [List.take_of_length_le (by omega)] at hbr
    unfold h85_4
    try simp only [go_sem, t3]
    refine bstr_ hbr (by omega) ?_
    intro w3 m3
    try simp only [go_sem]
    exact k _ m3

/-! ### the reading of forms -/
def splitB (s : List UInt8) : Option (List (List UInt8)) :=
  if h0 : s = [] then some []
  else if h : s.length < 16 then none
  else if val s < 0 ∨ ((s.drop 16).length : Int) < val s then none
  else if (crc ((s.drop 16).take (val s).toNat) : Int) ≠ val (s.drop 8) then none
  else (splitB ((s.drop 16).drop (val s).toNat)).map fun l => (s.drop 16).take (val s).toNat :: l
termination_by s.length
decreasing_by
  have := List.length_pos_iff.2 h0
  simp; omega

theorem split_ {s : List UInt8} (hs : s.length ≤ 1000000000000) (kn : splitB s = none → ∀ w', Mod none' w w' → next (.tuple #[.slice none 0 0, .bool false]) w')
    (ks : ∀ l, splitB s = some l → ∀ v w', Mod none' w w' → Own w' v 9 1 l.length (l.map str) → (∀ k, v.ownBlock = some k → w.heap.size ≤ k) → next (.tuple #[v, .bool true]) w') :
    callvK Try.prog (.func (.func 81) #[] #[]) [str s] w next QP := by
  refine r81 rfl ?_
  unfold h81
  try simp only [go_sem]
  refine loopN s.length (fun i τ w' => Mod none' w w' ∧ ∃ (r : List UInt8) (l : List (List UInt8)) (v : Value), τ 0 = str r ∧ τ 2 = v ∧ r.length = s.length - i ∧ l.length ≤ i ∧ splitB s = (splitB r).map (fun m => l ++ m) ∧ Own w' v 9 1 l.length (l.map str) ∧ (∀ k, v.ownBlock = some k → w.heap.size ≤ k))
    ⟨0, by omega, Mod.refl _ _, s, [], .slice none 0 0, rfl, rfl, rfl, Nat.le_refl _, by simp, Own.nil _ _ _, fun k hk => (nomatch (hk : none = some k))⟩ ?_
  rintro i τ w1 hi ⟨m1, r, l, v, t0, t2, hr, hli, hsp, hv, hvn⟩
  unfold h81_1
  try simp only [go_sem, t0, t2]
  refine ⟨fun hgt => ?_, fun hle => ?_⟩
  · have hr0 : 0 < r.length := by
      have : (0 : Int) < r.length := by simpa using hgt
      omega
    have hrne : r ≠ [] := List.length_pos_iff.1 hr0
    unfold h81_2
    try simp only [go_sem, t0, t2]
    refine ⟨fun h16 => ?_, fun h16 => ?_⟩
    · have h16 : r.length < 16 := by
        have : (r.length : Int) < 16 := by simpa using h16
        omega
      refine kn ?_ w1 m1
      rw [hsp, splitB]; simp [hrne, h16]
    · have h16 : ¬ r.length < 16 := by
        have : ¬ (r.length : Int) < 16 := by simpa using h16
        omega
      unfold h81_3
      try simp only [go_sem, t0, t2]
      refine ⟨by omega, ?_⟩
      refine value_ r (by omega) ?_
      have hd8 : (r.drop 8).length = r.length - 8 := List.length_drop
      have hd16 : (r.drop 16).length = r.length - 16 := List.length_drop
      try simp only [go_sem, t0, t2]
      refine value_ (r.drop 8) (by omega) ?_
      have eb : (if decide (val r < 0) = true then true else decide (((r.drop 16).length : Int) < val r)) = decide (val r < 0 ∨ ((r.drop 16).length : Int) < val r) := by
        by_cases h : val r < 0 <;> simp [h]
      have m1d := m1.trans' (Mod.drew none' w1)
      by_cases hbad : val r < 0 ∨ ((r.drop 16).length : Int) < val r
      · have hd := decide_eq_true hbad
        try simp only [go_sem, eb, hd]
        refine ⟨by omega, ?_⟩
        refine kn ?_ _ m1d
        rw [hsp, splitB]; simp only [hrne, dif_neg, not_false_eq_true, h16, if_pos hbad, Option.map_none]
      · have hd := decide_eq_false hbad
        obtain ⟨x, hx⟩ := Int.eq_ofNat_of_zero_le (show 0 ≤ val r by omega)
        have hsx : splitB r = if (crc ((r.drop 16).take x) : Int) ≠ val (r.drop 8) then none else (splitB ((r.drop 16).drop x)).map fun l => (r.drop 16).take x :: l := by
          rw [splitB]; simp only [hrne, dif_neg, not_false_eq_true, h16, if_neg hbad]; simp only [hx, Int.toNat_natCast]
        rw [hx] at eb hd
        try simp only [go_sem, hx, eb, hd]
        refine ⟨by omega, ⟨by omega, by omega⟩, ?_⟩
        refine crc_ _ (by rw [List.length_take]; omega) ?_
        try simp only [go_sem, hx, eb, hd]
        refine ⟨fun hc => ?_, fun hc => ?_⟩
        · have hc : ¬ (crc ((r.drop 16).take x) : Int) = val (r.drop 8) := by simpa using hc
          refine kn ?_ _ m1d
          rw [hsp, hsx, if_pos hc]; rfl
        · have hc : (crc ((r.drop 16).take x) : Int) = val (r.drop 8) := by simpa using hc
          rw [if_neg (fun h => h hc)] at hsx
          have hdx : ((r.drop 16).drop x).length = r.length - 16 - x := by rw [List.length_drop, hd16]
          unfold h81_4
          try simp only [go_sem, t0, t2, hx]
          repeat refine ⟨⟨by omega, by omega⟩, ?_⟩
          refine bsl1 sl40 (cs := [str ((r.drop 16).take x)]) rfl rfl (by omega) ?_
          intro b2 w2 hb2 own2 _ m2 _
          refine append_ sl40 ((hv.mod (Mod.drew none' w1) fun _ _ h => h).mod ((Mod.drew none' _).trans' m2) fun _ _ h => h) own2.sl (by intro u hu; rw [List.mem_singleton.1 hu]; rfl) (by omega) (by unfold maxLen; omega) ?_
          intro v3 w3 own3 m3 hb3 _
          try simp only [go_sem, t0, t2, hx]
          repeat refine ⟨⟨by omega, by omega⟩, ?_⟩
          have m2' : Mod none' w w2 := (m1d.trans' (Mod.drew none' _)).trans' m2
          refine ⟨s.length - ((r.drop 16).drop x).length, by omega, by omega, m2'.trans m3 fun k hk hS => ?_, (r.drop 16).drop x, l ++ [(r.drop 16).take x], v3, rfl, rfl, by omega, by simp; omega, ?_, ?_, ?_⟩
          · have := hvn k hS; omega
          · rw [hsp, hsx, Option.map_map]; congr 1; funext m; simp
          · have : (l ++ [(r.drop 16).take x]).map str = l.map str ++ [str ((r.drop 16).take x)] := by simp
            rw [this, List.length_append]; exact own3
          · intro k hk
            rcases hb3 k hk with h' | h'
            · exact hvn k h'
            · have := m2'.size; omega
  · have hr0 : r = [] := by
      have : ¬ (0 : Int) < r.length := by simpa using hle
      exact List.eq_nil_of_length_eq_zero (by omega)
    subst hr0
    have hsn : splitB s = some l := by rw [hsp, splitB]; simp
    unfold h81_5
    try simp only [go_sem, t2]
    exact ks l hsn v w1 m1 hv hvn
end
end Go.Proofs.Y

/- DK: plain laws of the disk. -/
namespace Go.Proofs.Y
open Go Go.HL
namespace Dk
variable {d : Dk}
theorem tick_idle (h : d.armed = 0) : d.tick = d := by simp [tick, h]
theorem ends_idle (h : d.armed = 0) : d.ends = false := by simp [ends, h]
theorem pre_idle (h : d.armed = 0) : d.pre = d := by simp [pre, endW, ends_idle h, tick_idle h]
theorem write_idle (h : d.armed = 0) (f a : Int) (s : Bytes) : d.write f a s = d.writeD f a s := by simp [write, endW, ends_idle h, tick_idle h]
theorem writeR_idle (h : d.armed = 0) (f a : Int) (s : Bytes) : d.writeR f a s = d.writeE f a s := by simp [writeR, ends_idle h, tick_idle h]
theorem flush_idle (h : d.armed = 0) (f : Int) : d.flush f = if d.may [f] ≠ 0 then d else if 0 < d.lost then { d with lost := d.lost - 1 } else d.settle f.toNat (d.file f.toNat) := by simp only [flush, pre_idle h]
theorem flushR_idle (h : d.armed = 0) (f : Int) : d.flushR f = if d.may [f] ≠ 0 then d.may [f] else if 0 < d.lost then 9 else 0 := by simp only [flushR, pre_idle h]
theorem turn_idle (h : d.armed = 0) (f g : Int) : d.turn f g = if d.may [f, g] ≠ 0 then d else if f = g then d else if d.pends g then d else (d.settle f.toNat (d.last g.toNat)).settle g.toNat [] := by simp only [turn, pre_idle h]
theorem turnR_idle (h : d.armed = 0) (f g : Int) : d.turnR f g = if d.may [f, g] ≠ 0 then d.may [f, g] else if f = g then 1 else if d.pends g then 7 else 0 := by simp only [turnR, pre_idle h]
theorem cut_idle (h : d.armed = 0) (f n : Int) : d.cut f n = if d.may [f] ≠ 0 then d else if n < 0 ∨ d.size f < n then d else d.settle f.toNat ((d.file f.toNat).take n.toNat) := by simp only [cut, pre_idle h]
theorem cutR_idle (h : d.armed = 0) (f n : Int) : d.cutR f n = if d.may [f] ≠ 0 then d.may [f] else if n < 0 ∨ d.size f < n then 1 else 0 := by simp only [cutR, pre_idle h]
end Dk

theorem put_nil (t : Bytes) : put [] 0 t = t := by simp [put, lay]

theorem pieces_file (f : Nat) : ∀ (n a : Nat) (s : Bytes), ∀ p ∈ pieces f n a s, p.file = f
  | 0, _, _, p, h => by simp [pieces] at h
  | n + 1, a, s, p, h => by
    simp only [pieces] at h
    split at h
    · cases h
    · rcases List.mem_cons.1 h with rfl | h
      · rfl
      · exact pieces_file f n _ _ p h
theorem pieces_bound (f : Nat) : ∀ (n a : Nat) (s : Bytes), ∀ p ∈ pieces f n a s, a ≤ p.at_ ∧ p.at_ + p.bytes.length ≤ a + s.length
  | 0, _, _, p, h => by simp [pieces] at h
  | n + 1, a, s, p, h => by
    simp only [pieces] at h
    split at h
    · cases h
    · have := piece_le (n := s.length) (a := a)
      rcases List.mem_cons.1 h with rfl | h
      · simp; omega
      · have := pieces_bound f n _ _ p h
        simp at this; omega
theorem pieces_ne {f n a : Nat} {s : Bytes} (h : s ≠ []) (hn : s.length ≤ n) : pieces f n a s ≠ [] := by
  cases n with
  | zero => exact absurd (List.eq_nil_of_length_eq_zero (by omega)) h
  | succ n => simp [pieces, h]
theorem pieces_none {f n a : Nat} : pieces f n a [] = [] := by cases n <;> simp [pieces]
theorem pieces_filter {f n a : Nat} {s : Bytes} : (pieces f n a s).filter (fun p => !decide (p.file = f)) = [] := by
  rw [List.filter_eq_nil_iff]; intro p hp; simp [pieces_file f n a s p hp]

/-- a file that nothing is pending for survives as it was -/
theorem surv_other {lasts : List Bytes} {p : Pd} {k : Option Int} {g : Nat} (h : p.file ≠ g) : (surv lasts p k).getD g [] = lasts.getD g [] := by
  unfold surv; split
  · rfl
  · simp only [List.getD_eq_getElem?_getD]; rw [List.getElem?_set_ne h]
theorem survs_other {g : Nat} : ∀ (q : List Pd) (lasts : List Bytes) (ks : List Int), (∀ p ∈ q, p.file ≠ g) → (survs lasts q ks).getD g [] = lasts.getD g []
  | [], _, _, _ => rfl
  | p :: q, lasts, ks, h => by
    rw [survs, survs_other q _ _ fun x hx => h x (by simp [hx]), surv_other (h p (by simp))]
theorem kept_le {k : Option Int} {b c : Bytes} (h : kept k b = some c) : c.length ≤ b.length := by
  unfold kept at h
  split at h
  · cases h
  · split at h
    · cases h; exact Nat.le_refl _
    · split at h
      · cases h; simp; omega
      · cases h
theorem surv_le {lasts : List Bytes} {p : Pd} {k : Option Int} {g N : Nat} (h : (lasts.getD g []).length ≤ N) (hp : p.file = g → p.at_ + p.bytes.length ≤ N) : ((surv lasts p k).getD g []).length ≤ N := by
  by_cases hg : p.file = g
  · unfold surv; split
    · exact h
    · rename_i b hb
      have := kept_le hb
      have := hp hg
      simp only [List.getD_eq_getElem?_getD] at h ⊢
      rw [hg]
      rcases Nat.lt_or_ge g lasts.length with hl | hl
      · rw [List.getElem?_set_self hl, Option.getD_some, put_len]; omega
      · rw [List.getElem?_eq_none (by simpa using hl)]; simp
  · rw [surv_other hg]; exact h
theorem survs_le {g N : Nat} : ∀ (q : List Pd) (lasts : List Bytes) (ks : List Int), (lasts.getD g []).length ≤ N → (∀ p ∈ q, p.file = g → p.at_ + p.bytes.length ≤ N) → ((survs lasts q ks).getD g []).length ≤ N
  | [], _, _, h, _ => h
  | p :: q, lasts, ks, h, hq => survs_le q _ _ (surv_le h (hq p (by simp))) fun x hx => hq x (by simp [hx])

/-! ### DiskTurns -/
namespace Turns
def base (e : Bytes) : Dk := { Dk.new with lasts := Dk.new.lasts.set 3 e, files := Dk.new.files.set 3 e }
def two (e n : Bytes) : Dk := { Dk.new with lasts := (Dk.new.lasts.set 3 e).set 4 n, files := (Dk.new.files.set 3 e).set 4 n }
def pend (e n : Bytes) : Dk := { Dk.new with lasts := Dk.new.lasts.set 3 e, files := (Dk.new.files.set 3 e).set 4 n, queue := pieces 4 n.length 0 n }
variable {e n : Bytes}
theorem w1 (he : e.length ≤ 50000) : Dk.new.writeR 3 0 e = 0 := by
  rw [Dk.writeR_idle rfl]
  unfold Dk.writeE
  rw [show Dk.new.may [3] = 0 from rfl, if_neg (by simp), if_neg (by omega), if_neg (by omega)]
theorem r1 : (Dk.new.write 3 0 e).flushR 3 = 0 := by
  rw [Dk.write_idle rfl]
  unfold Dk.writeD
  split <;> rfl
theorem f1 (he : e.length ≤ 50000) : (Dk.new.write 3 0 e).flush 3 = base e := by
  have h0 : Dk.new.writeE 3 0 e = 0 := by rw [← Dk.writeR_idle rfl]; exact w1 he
  rw [Dk.write_idle rfl]
  unfold Dk.writeD
  by_cases hn : e = []
  · subst hn; rw [if_pos (.inr rfl)]; rfl
  · rw [if_neg (by simp [h0, hn])]
    have hf3 : Dk.new.file 3 = [] := rfl
    have hz : (0 : Int).toNat = 0 := rfl
    have h3 : (3 : Int).toNat = 3 := rfl
    rw [hz, h3, hf3, put_nil, Dk.flush_idle rfl, if_neg (fun h => h rfl), if_neg (by show ¬ 0 < 0; omega), h3]
    have hg : Dk.file { Dk.new with files := Dk.new.files.set 3 e, queue := Dk.new.queue ++ pieces 3 e.length 0 e } 3 = e := rfl
    rw [hg]
    simp only [Dk.settle, base]
    rw [List.set_set]
    congr 1
    exact pieces_filter
theorem w2 (hn : n.length ≤ 50000) : (base e).write 4 0 n = pend e n := by
  have h0 : (base e).writeE 4 0 n = 0 := by
    unfold Dk.writeE
    rw [show (base e).may [4] = 0 from rfl, if_neg (by simp), if_neg (by omega), if_neg (by omega)]
  rw [Dk.write_idle rfl]
  unfold Dk.writeD
  by_cases hn : n = []
  · subst hn; rw [if_pos (.inr rfl)]; rfl
  · rw [if_neg (by simp [h0, hn])]
    have h4 : (base e).file (4 : Int).toNat = [] := rfl
    have hz : (0 : Int).toNat = 0 := rfl
    rw [h4, hz, put_nil]; rfl
theorem f2 : (pend e n).flush 4 = two e n := by
  rw [Dk.flush_idle rfl, if_neg (fun h => h rfl), if_neg (by show ¬ 0 < 0; omega)]
  have hg : (pend e n).file (4 : Int).toNat = n := rfl
  rw [hg, show (4 : Int).toNat = 4 from rfl]
  simp only [Dk.settle, pend, two]
  rw [List.set_set]
  congr 1
  exact pieces_filter
theorem tr0 : (base e).turnR 3 4 = 0 := rfl
theorem t0 : (base e).turn 3 4 = Dk.new := by
  show ((base e).settle 3 ((base e).last 4)).settle 4 [] = _
  have : (base e).last 4 = [] := rfl
  rw [this]
  simp only [Dk.settle, base, List.set_set]; rfl
theorem pends : (pend e n).pends 4 = !decide (n = []) := by
  unfold Dk.pends
  show ((pieces 4 n.length 0 n).any fun p => decide ((p.file : Int) = 4)) = _
  by_cases hn : n = []
  · subst hn; rfl
  · have hq := pieces_ne (f := 4) (a := 0) hn (Nat.le_refl _)
    rw [show (!decide (n = [])) = true by simp [hn], List.any_eq_true]
    obtain ⟨p, q, hp⟩ := List.exists_cons_of_ne_nil hq
    refine ⟨p, by rw [hp]; simp, ?_⟩
    have := pieces_file 4 n.length 0 n p (by rw [hp]; simp)
    simp [this]
theorem tr1 : (pend e n).turnR 3 4 = if n = [] then 0 else 7 := by
  rw [Dk.turnR_idle rfl]
  rw [show (pend e n).may [3, 4] = 0 from rfl, if_neg (by simp), if_neg (by omega), pends]
  by_cases hn : n = [] <;> simp [hn]
theorem t1 (hn : n ≠ []) : (pend e n).turn 3 4 = pend e n := by
  rw [Dk.turn_idle rfl]
  rw [show (pend e n).may [3, 4] = 0 from rfl, if_neg (by simp), if_neg (by omega), pends, if_pos (by simp [hn])]
theorem pend_nil : pend e [] = base e := rfl
theorem tr2 : (two e n).turnR 3 4 = 0 := rfl
theorem t2 : (two e n).turn 3 4 = base n := by
  show ((two e n).settle 3 ((two e n).last 4)).settle 4 [] = _
  have : (two e n).last 4 = n := rfl
  rw [this]; rfl
/-- after the crash -/
theorem end_base (ks : List Int) : ((base e).crash ks).start = base e := rfl
theorem end_new (ks : List Int) : (Dk.new.crash ks).start = Dk.new := rfl
theorem end_pend (ks : List Int) : (((pend e n).crash ks).start).read 3 = e ∧ (((pend e n).crash ks).start).may [3] = 0 ∧ (((pend e n).crash ks).start).size 4 ≤ n.length := by
  have hd : (pend e n).down = false := rfl
  have e1 : ((pend e n).crash ks).start = ⟨survs (Dk.new.lasts.set 3 e) (pieces 4 n.length 0 n) ks, survs (Dk.new.lasts.set 3 e) (pieces 4 n.length 0 n) ks, [], 0, false, 0, []⟩ := rfl
  rw [e1]
  refine ⟨?_, rfl, ?_⟩
  · show (survs (Dk.new.lasts.set 3 e) (pieces 4 n.length 0 n) ks).getD 3 [] = e
    rw [survs_other _ _ _ fun p hp => by rw [pieces_file _ _ _ _ p hp]; omega]
    rfl
  · show ((survs (Dk.new.lasts.set 3 e) (pieces 4 n.length 0 n) ks).getD 4 []).length ≤ n.length
    refine survs_le _ _ _ (by show ([] : Bytes).length ≤ _; simp) fun p hp _ => ?_
    have := pieces_bound _ _ _ _ p hp; omega
end Turns
end Go.Proofs.Y

/- DO: the walk of Copy, and two disks side by side. -/
namespace Go.Proofs.Y
open Go Go.HL Go.Proofs

theorem St.frame {S : FP} {w w' w'' : World} {p : Nat} {d : Dk} {T : Nat → Prop} (h : St S w w' p d) (m : Mod T w' w'') (hd : ∀ k, h.foot.R k → ¬ T k) (hT : ∀ k, k < w.heap.size → T k → S.W k) : St S w w'' p d :=
  ⟨h.foot, h.dr.mod m hd, h.footR, h.footW, h.mod.trans m hT⟩

theorem St.join {S : FP} {w w0 w' w'' : World} {p : Nat} {d : Dk} {T : Nat → Prop} (m0 : Mod none' w w0) (h : St S w0 w' p d) (m : Mod T w' w'') (hd : ∀ k, h.foot.R k → ¬ T k) (hT : ∀ k, k < w.heap.size → T k → S.W k) : St S w w'' p d := by
  have hs := m0.size
  exact ⟨h.foot, h.dr.mod m hd, fun k hk => (h.footR k hk).imp id fun h => by omega, fun k hk => (h.footW k hk).imp id fun h => by omega, ((m0.mono (T := S.W) fun _ _ h => h.elim).trans h.mod fun _ _ h => h).trans m hT⟩

/-- what a copy shares -/
def FPc (S : FP) : FP := ⟨none', fun k => S.R k ∧ ¬ S.W k⟩

section
variable {w : World} {next : Value → World → Prop} {QP : List PanicEntry → World → Prop}

theorem sl_nil : Sl w (.slice none 0 0) 1 0 (ints []) := (Own.nil w 3 1).sl

theorem clonep_ {v : Value} {q : List Pd} {n : Nat} (hn' : q.length = n) (hl : Sl w v 3 n (rows Pd.cells q)) (hn : n ≤ 1000000000000) (k : ∀ v' w', Own w' v' 91 3 n (rows Pd.cells q) → Mod none' w w' → (∀ k, v'.ownBlock = some k → w.heap.size ≤ k) → next v' w') :
    callvK Try.prog (.func (.func 72) #[] #[]) [v] w next QP := by
  refine r72 rfl ?_
  obtain ⟨a, c, rfl, hc, hcell⟩ := hl.form
  unfold h72
  try simp only [go_sem]
  refine ⟨fun ha => ?_, fun ha => ?_⟩
  · have hn0 : n = 0 := by
      rcases Nat.eq_zero_or_pos n with h | h
      · exact h
      · obtain ⟨b, o, rfl, _⟩ := hcell h
        simp at ha
    subst hn0
    obtain rfl : q = [] := List.eq_nil_of_length_eq_zero hn'
    exact k _ _ (Own.nil _ _ _) (Mod.refl _ _) (fun k hk => by cases hk)
  · unfold h72_1
    try simp only [go_sem]
    refine bsl0 sl84 ?_
    intro b w1 hbb own1 m1 sz1
    try simp only [go_sem]
    refine append_ sl84 (n := 0) (m := n) own1 (hl.mod m1 fun k _ h => h) ?_ (by omega) (by unfold maxLen; omega) ?_
    · intro u hu
      simp only [rows, List.mem_flatMap] at hu
      obtain ⟨x, -, hx⟩ := hu
      simp [Pd.cells] at hx; rcases hx with rfl | rfl | rfl <;> rfl
    intro v' w2 own2 m2 hb2 _
    try simp only [go_sem]
    simp only [Nat.zero_add, List.nil_append] at own2
    refine k _ _ own2 (m1.trans m2 fun i hi hS => ?_) ?_
    · simp only [ownS, Value.ownBlock, Option.some.injEq] at hS; omega
    · intro k hk
      rcases hb2 k hk with h | h
      · simp only [Value.ownBlock, Option.some.injEq] at h; omega
      · omega

theorem copyd_ {p : Nat} {d : Dk} {S : FP} (h : DR w p d S) (hqn : d.queue.length ≤ 1000000000000) (k : ∀ p' w', St (FPc S) w w' p' d → next (ptr p') w') :
    callvK Try.prog (.func (.func 34) #[] #[]) [ptr p] w next QP := by
  refine r34 rfl ?_
  have ok := h.ok
  obtain ⟨qv, kv, hb, hq, hk, h1, h2, c24, c25, c26, c27, c28⟩ := h.parts
  have hld := hb.loadN (o := 0) (n := 29) (by rw [cells_len ok.nl ok.nf]; omega)
  have hsome := hb.some (o := 0) (n := 29) (by rw [cells_len ok.nl ok.nf]; omega)
  rw [List.drop_zero, List.take_of_length_le (by rw [cells_len ok.nl ok.nf]; omega)] at hld
  simp only [e_add, Nat.zero_add] at hsome
  unfold h34
  try simp only [go_sem, hld]
  refine ⟨hsome, ?_⟩
  refine alloc_ (z := .agg (Dk.new.cells (.slice none 0 0) (.slice none 0 0)).toArray) (cs := Dk.new.cells (.slice none 0 0) (.slice none 0 0)) (by kernel_rfl) rfl ?_
  intro p' w1 hp' hb1 m1 hsz1
  have hone : ∀ u ∈ d.cells qv kv, u.oneCell' = true := by
    obtain ⟨qa, qc, rfl, -⟩ := hq.form
    obtain ⟨ka, kc, rfl, -⟩ := hk.form
    intro u hu
    simp only [Dk.cells, List.mem_append, List.mem_map, List.mem_cons, List.not_mem_nil, or_false] at hu
    rcases hu with ⟨s, -, rfl⟩ | ⟨s, -, rfl⟩ | rfl | rfl | rfl | rfl | rfl <;> rfl
  refine storeN (n := 29) (by kernel_rfl) (cells_len ok.nl ok.nf) hb1 (by rw [cells_len rfl rfl]; omega) hone ?_
  intro w2 hb2 m2 hsz2
  have hd0 : (Dk.new.cells (.slice none 0 0) (.slice none 0 0)).drop (0 + 29) = [] := rfl
  rw [hd0, List.take_zero, List.nil_append, List.append_nil] at hb2
  have m12 : Mod none' w w2 := m1.trans m2 fun k hk (e : k = p') => by omega
  have c24' : w2.cell? ⟨p, 24, none⟩ = some qv := m12.cell c24 fun h => h
  try simp only [go_sem, c24']
  refine clonep_ rfl (hq.sl.mod m12 fun _ _ h => h) hqn ?_
  intro v' w3 own3 m3 hfr
  try simp only [go_sem]
  have hb3 := hb2.mod m3 fun h => h
  obtain ⟨av, cv, rfl, -⟩ := own3.form
  refine store1 sz84 hb3 (by rw [cells_len ok.nl ok.nf]; omega) rfl ?_
  intro w4 hb4 m4 hsz4
  have hcs : (d.cells qv kv).set 24 (.slice av d.queue.length cv) = d.cells (.slice av d.queue.length cv) kv := by
    rw [show 24 = 24 + 0 from rfl, cells_set_tail ok.nl ok.nf]; rfl
  rw [hcs] at hb4
  have s3 := m3.size
  have s4 := m4.size
  have s12 := m12.size
  have mm : Mod none' w w4 := (m12.trans' m3).trans m4 fun k hk (e : k = p') => by omega
  unfold h34_1
  try simp only [go_sem]
  have hlt := own3.lt
  refine k p' w4 ⟨⟨fun k => w.heap.size ≤ k ∧ k < w4.heap.size, fun k => (S.R k ∧ ¬ S.W k) ∨ (w.heap.size ≤ k ∧ k < w4.heap.size)⟩, ⟨ok, ⟨_, kv, hb4, own3.mod m4 fun k hk (e : k = p') => ?_, hk.mod' mm fun _ _ _ h => h, fun k hk => ⟨?_, ?_⟩, fun hn k hk => ⟨.inl (h2 hn k hk), fun hW => ?_⟩⟩, ⟨by omega, by omega⟩, fun k hk => .inr hk, ?_⟩, fun k hk => hk.imp id fun h => h.1, fun k hk => .inr hk.1, mm⟩
  · have := hfr k hk; omega
  · have := hfr k hk; omega
  · have := hlt k hk; omega
  · have := h.lt k (h2 hn k hk).1; omega
  · intro k hk
    rcases hk with hk | hk
    · have := h.lt k hk.1; have := mm.size; omega
    · exact hk.2
end
end Go.Proofs.Y

/- JE: the log in memory; Open. -/
namespace Go.Proofs.Y
open Go Go.HL Go.Proofs

structure Lg where
  rows : List Bytes
  sure : Nat
  end_ : Nat

structure LG (w : World) (q p f : Nat) (L : Lg) (S : Nat → Prop) : Prop where
  inv : ∃ rv, Blk w q 102 [ptr p, .int .i64 f, rv, .int .i64 L.sure, .int .i64 L.end_] ∧ Own w rv 9 1 L.rows.length (L.rows.map str) ∧ (∀ k, rv.ownBlock = some k → S k)
  self : S q
  lt : ∀ k, S k → k < w.heap.size
  bd : L.end_ ≤ 16777216
  rb : L.rows.length * 16 + 16 ≤ L.end_

theorem splitB_len : ∀ (n : Nat) (s : Bytes) (l : List Bytes), s.length ≤ n → splitB s = some l → l.length * 16 ≤ s.length
  | 0, s, l, hn, h => by
    obtain rfl : s = [] := List.eq_nil_of_length_eq_zero (by omega)
    rw [splitB] at h; simp at h; subst h; simp
  | n + 1, s, l, hn, h => by
    rw [splitB] at h
    by_cases h0 : s = []
    · rw [dif_pos h0] at h; simp at h; subst h; simp
    rw [dif_neg h0] at h
    by_cases h1 : s.length < 16
    · rw [dif_pos h1] at h; cases h
    rw [dif_neg h1] at h
    split at h
    · cases h
    split at h
    · cases h
    obtain ⟨l', h2, rfl⟩ := Option.map_eq_some_iff.1 h
    have := splitB_len n _ l' (by simp; omega) h2
    simp at this ⊢; omega

theorem LG.mod {w w' : World} {q p f : Nat} {L : Lg} {S T : Nat → Prop} (h : LG w q p f L S) (m : Mod T w w') (hd : ∀ k, S k → ¬ T k) : LG w' q p f L S := by
  obtain ⟨⟨rv, hb, ho, h1⟩, hs, hl, b1, b2⟩ := h
  exact ⟨⟨rv, hb.mod m (hd _ hs), ho.mod m fun k hk => hd _ (h1 k hk), h1⟩, hs, fun k hk => Nat.lt_of_lt_of_le (hl k hk) m.size, b1, b2⟩
theorem LG.mod0 {w w' : World} {q p f : Nat} {L : Lg} {S : Nat → Prop} (h : LG w q p f L S) (m : Mod none' w w') : LG w' q p f L S := h.mod m fun _ _ h => h
theorem LG.parts {w : World} {q p f : Nat} {L : Lg} {S : Nat → Prop} (h : LG w q p f L S) : ∃ rv, Blk w q 102 [ptr p, .int .i64 f, rv, .int .i64 L.sure, .int .i64 L.end_] ∧ Own w rv 9 1 L.rows.length (L.rows.map str) ∧ (∀ k, rv.ownBlock = some k → S k ∧ k ≠ q) ∧
    w.cell? ⟨q, 0, none⟩ = some (ptr p) ∧ w.cell? ⟨q, 1, none⟩ = some (.int .i64 f) ∧ w.cell? ⟨q, 2, none⟩ = some rv ∧ w.cell? ⟨q, 3, none⟩ = some (.int .i64 L.sure) ∧ w.cell? ⟨q, 4, none⟩ = some (.int .i64 L.end_) := by
  obtain ⟨⟨rv, hb, ho, h1⟩, hs, hl, -, -⟩ := h
  refine ⟨rv, hb, ho, fun k hk => ⟨h1 k hk, ?_⟩, hb.cell 0, hb.cell 1, hb.cell 2, hb.cell 3, hb.cell 4⟩
  rintro rfl; exact own_neb ho hb (by decide) hk

def openB (s : Bytes) : Option Lg :=
  if s.length < 16 ∨ val s = 0 then some ⟨[], 0, 16⟩
  else if val s < 16 ∨ (s.length : Int) < val s then none
  else match splitB ((s.take (val s).toNat).drop 16) with
    | none => none
    | some l => if (l.length : Int) = val (s.drop 8) then some ⟨l, l.length, (val s).toNat⟩ else none

def openE (d : Dk) (f : Int) : Int := if f < 0 ∨ 6 < f then 1 else if d.may [f] ≠ 0 then d.may [f] else if (openB (d.file f.toNat)).isNone then 2 else 0

theorem sz3' : szOf Try.prog 3 = some 1 := by kernel_rfl

section
variable {w : World} {next : Value → World → Prop} {QP : List PanicEntry → World → Prop}

theorem open_ {p : Nat} {d : Dk} {F : FP} (h : DR w p d F) {f : Int}
    (kn : ∀ w', Mod none' w w' → openE d f ≠ 0 → next (.tuple #[.pointer none, .int .i64 (openE d f)]) w')
    (ks : ∀ (g : Nat) (L : Lg), f = g → g ≤ 6 → d.may [f] = 0 → openB (d.file g) = some L → ∀ q w' S, LG w' q p g L S → (∀ k, S k → w.heap.size ≤ k) → Mod none' w w' → next (.tuple #[ptr q, .int .i64 0]) w') :
    callvK Try.prog (.func (.func 44) #[] #[]) [ptr p, .int .i64 f] w next QP := by
  refine r44 rfl ?_
  have ef : (if decide (f < 0) = true then true else decide (6 < f)) = decide (f < 0 ∨ 6 < f) := by by_cases h : f < 0 <;> simp [h]
  unfold h44
  try simp only [go_sem, ef]
  refine ⟨fun hf => ?_, fun hf => ?_⟩
  · have hf : f < 0 ∨ 6 < f := by simpa using hf
    have := kn w (Mod.refl _ _)
    simp only [openE, if_pos hf] at this
    exact this (by decide)
  have hf : ¬ (f < 0 ∨ 6 < f) := by simpa using hf
  obtain ⟨g, rfl⟩ := Int.eq_ofNat_of_zero_le (show 0 ≤ f by omega)
  unfold h44_1
  try simp only [go_sem]
  refine read_ h g ?_
  intro w1 h1 m1
  try simp only [go_sem]
  refine ⟨fun hm => ?_, fun hm => ?_⟩
  · have hm : ¬ d.may [(g : Int)] = 0 := by simpa using hm
    have := kn w1 m1
    simp only [openE, if_neg hf, if_pos hm] at this
    exact this hm
  have hm : d.may [(g : Int)] = 0 := by simpa using hm
  have hne : ¬ (d.may [(g : Int)] ≠ 0) := fun h => h hm
  have hr : d.read g = d.file g := by simp only [Dk.read, if_neg hne, Int.toNat_natCast]
  rw [hr]
  have kn' : ∀ w', Mod none' w w' → openB (d.file g) = none → next (.tuple #[.pointer none, .int .i64 2]) w' := by
    intro w' m hn
    have := kn w' m
    simp only [openE, if_neg hf, if_neg hne, Int.toNat_natCast, hn, Option.isNone_none, if_true] at this
    exact this (by decide)
  have hfl : (d.file g).length ≤ 16777216 := by
    by_cases hg : g < 12
    · have : d.file g = d.files[g]'(by rw [h.ok.nf]; exact hg) := by simp [Dk.file, h.ok.nf, hg]
      rw [this]; exact h.ok.bf _ (List.getElem_mem _)
    · omega
  have ks' := fun (L : Lg) => ks g L rfl (by omega) hm
  clear ks kn
  generalize hsd : d.file g = s at *
  unfold h44_2
  try simp only [go_sem]
  refine ⟨by omega, by simp, by simp, ?_⟩
  refine box_ (cs := [ptr p, .int .i64 g, .slice none 0 0, .int .i64 0, .int .i64 16]) rfl ?_
  intro q w2 hq blk2 m2 hs2
  have m12 := m1.trans' m2
  have hs12 := m1.size
  have fin0 : ∀ w', Mod none' w w' → Blk w' q 102 [ptr p, .int .i64 g, .slice none 0 0, .int .i64 0, .int .i64 16] → (s.length < 16 ∨ val s = 0) → next (.tuple #[ptr q, .int .i64 0]) w' := by
    intro w' m hb hc
    refine ks' ⟨[], 0, 16⟩ (by rw [openB, if_pos hc]) q w' (fun k => k = q) ⟨⟨_, hb, Own.nil _ _ _, fun k hk => (nomatch (hk : none = some k))⟩, rfl, fun k hk => hk ▸ hb.lt, by simp, by simp⟩ (fun k hk => by omega) m
  try simp only [go_sem]
  by_cases h16 : s.length < 16
  · have hd : decide ((s.length : Int) < 16) = true := by simpa using by omega
    try simp only [go_sem, hd]
    exact fin0 _ m12 blk2 (.inl h16)
  have hd : decide ((s.length : Int) < 16) = false := by simpa using by omega
  try simp only [go_sem, hd]
  refine value_ s (by omega) ?_
  try simp only [go_sem, hd]
  refine ⟨fun h0 => ?_, fun h0 => ?_⟩
  · have h0 : val s = 0 := by simpa using h0
    exact fin0 _ m12 blk2 (.inr h0)
  have h0 : ¬ val s = 0 := by simpa using h0
  have hob : openB s = if val s < 16 ∨ (s.length : Int) < val s then none
      else match splitB ((s.take (val s).toNat).drop 16) with
        | none => none
        | some l => if (l.length : Int) = val (s.drop 8) then some ⟨l, l.length, (val s).toNat⟩ else none := by
    rw [openB, if_neg (by omega)]
  unfold h44_3
  try simp only [go_sem]
  refine value_ s (by omega) ?_
  refine store1 sz3 blk2 (by simp) rfl ?_
  intro w3 blk3 m3 hs3
  have m13 : Mod none' w w3 := m12.trans m3 fun k hk (e : k = q) => by omega
  have blk3 : Blk w3 q 102 [ptr p, .int .i64 g, .slice none 0 0, .int .i64 0, .int .i64 (val s)] := by simpa using blk3
  have c4 : w3.cell? ⟨q, 4, none⟩ = some (.int .i64 (val s)) := blk3.cell 4
  have ec : (if decide (val s < 16) = true then true else decide ((s.length : Int) < val s)) = decide (val s < 16 ∨ (s.length : Int) < val s) := by
    by_cases h : val s < 16 <;> simp [h]
  try simp only [go_sem, c4, ec]
  refine ⟨fun hb => ?_, fun hb => ?_⟩
  · have hb : val s < 16 ∨ (s.length : Int) < val s := by simpa using hb
    exact kn' _ m13 (by rw [hob, if_pos hb])
  have hb : ¬ (val s < 16 ∨ (s.length : Int) < val s) := by simpa using hb
  rw [if_neg hb] at hob
  obtain ⟨x, hx⟩ := Int.eq_ofNat_of_zero_le (show 0 ≤ val s by omega)
  rw [hx] at hob hb c4 blk3
  simp only [Int.toNat_natCast] at hob
  have hxl : ((s.take x).drop 16).length = x - 16 := by rw [List.length_drop, List.length_take]; omega
  unfold h44_4
  try simp only [go_sem, c4, hx]
  have e16 : (16 : Int).toNat = 16 := rfl
  have edt : (s.drop 16).take (x - 16) = (s.take x).drop 16 := by rw [List.drop_take]
  rw [edt]
  refine ⟨⟨⟨by omega, by omega⟩, by omega⟩, ?_⟩
  refine split_ (by omega) (fun hn w4 m4 => ?_) (fun l hl v w4 m4 own4 hn4 => ?_)
  · try simp only [go_sem]
    refine kn' _ (m13.trans' m4) ?_
    rw [hob, hn]
  · obtain ⟨va, vc, rfl, -, -⟩ := own4.form
    rw [hl] at hob
    simp only at hob
    try simp only [go_sem]
    refine ⟨by omega, ?_⟩
    refine value_ (s.drop 8) (by rw [List.length_drop]; omega) ?_
    try simp only [go_sem]
    refine ⟨fun hc => ?_, fun hc => ?_⟩
    · have hc : ¬ (l.length : Int) = val (s.drop 8) := by simpa using hc
      exact kn' _ (m13.trans' m4) (by rw [hob, if_neg hc])
    · have hc : (l.length : Int) = val (s.drop 8) := by simpa using hc
      rw [if_pos hc] at hob
      unfold h44_5
      try simp only [go_sem]
      have blk4 := blk3.mod m4 fun h => h
      refine store1 sz40 blk4 (by simp) rfl ?_
      intro w5 blk5 m5 hs5
      try simp only [go_sem]
      refine store1 sz3 blk5 (by simp) rfl ?_
      intro w6 blk6 m6 hs6
      try simp only [go_sem]
      have m56 : Mod (fun k => k = q) w4 w6 := m5.trans' m6
      have m14 := m13.trans' m4
      have hs14 := m14.size
      have hs13 := m13.size
      have hvq : ∀ k, (Value.slice va l.length vc).ownBlock = some k → k ≠ q := by
        intro k hk e
        have := hn4 k hk
        have := blk3.lt
        omega
      refine ks' _ hob q w6 (fun k => k = q ∨ (Value.slice va l.length vc).ownBlock = some k) ⟨⟨.slice va l.length vc, by simpa using blk6, own4.mod m56 fun k hk (e : k = q) => hvq k hk e, fun k hk => .inr hk⟩, .inl rfl, ?_, by simp only; omega, by have := splitB_len _ _ _ (Nat.le_refl _) hl; simp only; omega⟩ ?_ (m14.trans m56 fun k hk (e : k = q) => by omega)
      · rintro k (rfl | hk)
        · exact blk6.lt
        · have := own4.lt k hk; omega
      · rintro k (rfl | hk)
        · omega
        · have := hn4 k hk; omega
end
end Go.Proofs.Y

/- JF: the log's operations: add, Append. -/
namespace Go.Proofs.Y
open Go Go.HL Go.Proofs

/-- a world that was, and blocks of it that are to be left alone -/
structure Base where
  w : World
  A : Nat → Prop
  lt : ∀ k, A k → k < w.heap.size
structure GS (w0 : Base) (w : World) (p q f : Nat) (d : Dk) (L : Lg) (F : FP) (S : Nat → Prop) : Prop where
  dr : DR w p d F
  lg : LG w q p f L S
  ap : ∀ k, F.R k → ¬ S k
  f0 : ∀ k, F.R k → ¬ w0.A k
  s0 : ∀ k, S k → ¬ w0.A k
  m : Mod (fun k => ¬ w0.A k) w0.w w

section
variable {w0 : Base} {w w' : World} {p q f : Nat} {d d' : Dk} {L L' : Lg} {F : FP} {S : Nat → Prop}
theorem GS.disk (h : GS w0 w p q f d L F S) (st : St F w w' p d') : GS w0 w' p q f d' L st.foot S := by
  have hs := h.m.size
  refine ⟨st.dr, h.lg.mod st.mod fun k hk hW => h.ap k (h.dr.sub k hW) hk, fun k hk hS => ?_, fun k hk => ?_, h.s0, h.m.trans st.mod fun k hk hW => h.f0 k (h.dr.sub k hW)⟩
  · rcases st.footR k hk with h' | h'
    · exact h.ap k h' hS
    · have := h.lg.lt k hS; omega
  · rcases st.footR k hk with h' | h'
    · exact h.f0 k h'
    · intro hA; have := w0.lt k hA; omega
theorem GS.log (h : GS w0 w p q f d L F S) {S' : Nat → Prop} (lg : LG w' q p f L' S') (hS : ∀ k, S' k → S k ∨ w.heap.size ≤ k) (m : Mod S w w') : GS w0 w' p q f d L' F S' := by
  have hs := h.m.size
  refine ⟨h.dr.mod m fun k hk hS => h.ap k hk hS, lg, fun k hk hS' => ?_, h.f0, fun k hk => ?_, h.m.trans m fun k hk hS => h.s0 k hS⟩
  · rcases hS k hS' with h' | h'
    · exact h.ap k hk h'
    · have := h.dr.lt k hk; omega
  · rcases hS k hk with h' | h'
    · exact h.s0 k h'
    · intro hA; have := w0.lt k hA; omega
theorem GS.mod0 (h : GS w0 w p q f d L F S) (m : Mod none' w w') : GS w0 w' p q f d L F S := ⟨h.dr.mod0 m, h.lg.mod0 m, h.ap, h.f0, h.s0, h.m.trans m fun _ _ h => h.elim⟩
end

/-- a step of disk and log together -/
def GT (w0 : Base) (w' : World) (p q f : Nat) (d : Dk) (L : Lg) : Prop := ∃ F S, GS w0 w' p q f d L F S
theorem GS.jt {w0 : Base} {w' : World} {p q f : Nat} {d : Dk} {L : Lg} {F : FP} {S : Nat → Prop} (h : GS w0 w' p q f d L F S) : GT w0 w' p q f d L := ⟨F, S, h⟩

/-! ### what the operations do -/
/-- rows added -/
def addE (d : Dk) (L : Lg) (f : Nat) (rows : List Bytes) : Int := d.writeR f L.end_ (formsB rows)
def addD' (d : Dk) (L : Lg) (f : Nat) (rows : List Bytes) : Dk := d.write f L.end_ (formsB rows)
def Lg.add (L : Lg) (rows : List Bytes) : Lg := ⟨L.rows ++ rows, L.sure, L.end_ + (formsB rows).length⟩

theorem formsB_rows : ∀ l : List Bytes, l.length * 16 ≤ (formsB l).length
  | [] => by simp
  | x :: l => by
    have := formsB_rows l
    simp only [formsB, List.flatMap_cons, List.length_append, List.length_cons, formB_len] at this ⊢
    omega

theorem writeR_fit {d : Dk} {f a : Int} {s : Bytes} (h : d.writeR f a s = 0) : a + s.length ≤ 16777216 := by
  unfold Dk.writeR at h
  split at h
  · omega
  · unfold Dk.writeE at h
    split at h
    · rename_i h1; exact absurd h h1
    · split at h
      · omega
      · split at h
        · omega
        · omega

section
variable {w : World} {next : Value → World → Prop} {QP : List PanicEntry → World → Prop}

theorem gadd_ {w0 : Base} {p q f : Nat} {d : Dk} {L : Lg} {F : FP} {S : Nat → Prop} (h : GS w0 w p q f d L F S) {v : Value} {rows : List Bytes} {n : Nat} (hv : Sl w v 1 n (rows.map str)) (hvd : 0 < n → ∀ k, v.ownBlock = some k → ¬ F.R k) (hqn : d.queue.length + (formsB rows).length ≤ 1000000000)
    (k : ∀ w', GT w0 w' p q f (addD' d L f rows) (if addE d L f rows = 0 then L.add rows else L) → next (.int .i64 (addE d L f rows)) w') :
    callvK Try.prog (.func (.func 94) #[] #[]) [ptr q, v] w next QP := by
  refine r94 rfl ?_
  unfold h94
  try simp only [go_sem]
  refine forms_ hv (by omega) ?_
  intro w1 m1
  have h1 := h.mod0 m1
  have hbd := h.lg.bd
  have hrb := h.lg.rb
  obtain ⟨rv, hb, ho, ho1, c0, c1, c2, c3, c4⟩ := h1.lg.parts
  try simp only [go_sem, c0, c1, c4]
  have h2 := h1.mod0 (Mod.drew none' w1)
  refine write_ h2.dr (by omega) (by omega) (by omega) ?_
  intro w2 st2
  have h3 := h2.disk st2
  have hv3 : Sl w2 v 1 n (rows.map str) := (hv.mod (m1.trans' (Mod.drew none' w1)) fun _ _ h => h).mod' st2.mod fun hn k hk hW => hvd hn k hk (h.dr.sub k hW)
  have hE : d.writeR f L.end_ (formsB rows) = addE d L f rows := rfl
  rw [hE]
  try simp only [go_sem]
  refine ⟨fun he => ?_, fun he => ?_⟩
  · have he : ¬ addE d L f rows = 0 := by simpa using he
    have := k w2
    rw [if_neg he] at this
    exact this h3.jt
  · have he : addE d L f rows = 0 := by simpa using he
    have hfit := writeR_fit (show d.writeR f L.end_ (formsB rows) = 0 from he)
    have hfr := formsB_rows rows
    have hrn : rows.length = n := by have := hv.len; simpa using this
    obtain ⟨rv, hb, ho, ho1, c0, c1, c2, c3, c4⟩ := h3.lg.parts
    unfold h94_1
    try simp only [go_sem, c2]
    refine append_ sl40 ho hv3 (by intro u hu; obtain ⟨x, -, rfl⟩ := List.mem_map.1 hu; rfl) (by omega) (by unfold maxLen; omega) ?_
    intro v4 w4 own4 m4 hb4 _
    obtain ⟨ua, uc, rfl, -, -⟩ := own4.form
    have hbb4 := hb.mod m4 fun hS => (ho1 q hS).2 rfl
    refine store1 sz40 hbb4 (by simp) rfl ?_
    intro w5 hb5 m5 hs5
    have c4' : w5.cell? ⟨q, 4, none⟩ = some (.int .i64 L.end_) := hb5.cell 4
    try simp only [go_sem, c4']
    rw [w64 (by omega) (by omega)]
    refine store1 sz3 hb5 (by simp) rfl ?_
    intro w6 hb6 m6 hs6
    try simp only [go_sem]
    have m56 : Mod (fun k => k = q) w4 w6 := m5.trans' m6
    have hs4 := m4.size
    have hnew : ∀ k, (Value.slice ua (L.rows.length + n) uc).ownBlock = some k → (S k ∨ w2.heap.size ≤ k) ∧ k ≠ q := by
      intro k hk
      rcases hb4 k hk with h' | h'
      · exact ⟨.inl (ho1 k h').1, (ho1 k h').2⟩
      · have := hb.lt; exact ⟨.inr h', by omega⟩
    have hself := h.lg.self
    have hlen : (L.rows ++ rows).length = L.rows.length + n := by rw [List.length_append, hrn]
    have := k w6
    rw [if_pos he, he] at this
    refine this (GS.jt (S := fun k => S k ∨ (w2.heap.size ≤ k ∧ k < w6.heap.size)) (h3.log (w' := w6) (L' := L.add rows) ⟨⟨.slice ua (L.rows.length + n) uc, ?_, ?_, fun k hk => ?_⟩, .inl hself, fun k hk => ?_, ?_, ?_⟩ (fun k hk => hk.imp id fun h => h.1) ?_))
    · have e : ((L.end_ + (formsB rows).length : Nat) : Int) = (L.end_ : Int) + (formsB rows).length := by omega
      simp only [Lg.add, e]
      simpa using hb6
    · simp only [Lg.add, hlen, List.map_append]
      exact own4.mod m56 fun k hk (e : k = q) => (hnew k hk).2 e
    · rcases (hnew k hk).1 with h' | h'
      · exact .inl h'
      · have := own4.lt k hk; have := m56.size; exact .inr ⟨h', by omega⟩
    · rcases hk with h' | h'
      · have := h3.lg.lt k h'; have := m56.size; omega
      · exact h'.2
    · simp only [Lg.add]; omega
    · simp only [Lg.add, hlen]; omega
    · refine m4.mono (T := S) (fun k hk hS => (ho1 k hS).1) |>.trans m56 fun k hk (e : k = q) => e ▸ hself

theorem gappend1_ {w0 : Base} {p q f : Nat} {d : Dk} {L : Lg} {F : FP} {S : Nat → Prop} (h : GS w0 w p q f d L F S) {row : Bytes} (hqn : d.queue.length + (formsB [row]).length ≤ 1000000000)
    (k : ∀ w', GT w0 w' p q f (addD' d L f [row]) (if addE d L f [row] = 0 then L.add [row] else L) → next (.int .i64 (addE d L f [row])) w') :
    callvK Try.prog (.func (.func 53) #[] #[]) [ptr q, str row] w next QP := by
  refine r53 rfl ?_
  unfold h53
  try simp only [go_sem]
  refine bsl1 sl40 (cs := [str row]) rfl rfl (by omega) ?_
  intro b1 w1 hb1 own1 _ m1 hs1
  try simp only [go_sem]
  refine gadd_ (rows := [row]) (h.mod0 m1) (by simpa using own1.sl) (fun _ k hk hR => ?_) hqn ?_
  · have := h.dr.lt k hR
    simp [Value.ownBlock] at hk; omega
  intro w2 jt
  try simp only [go_sem]
  exact k _ jt
end
end Go.Proofs.Y

/- JG: the log's operations: all, Flush, Batch. -/
namespace Go.Proofs.Y
open Go Go.HL Go.Proofs

theorem flush_queue (d : Dk) (f : Int) : (d.flush f).queue.length ≤ d.queue.length := by
  have hp := pre_queue d
  unfold Dk.flush; dsimp only
  split
  · omega
  · split
    · show d.pre.queue.length ≤ _; omega
    · exact Nat.le_trans (List.length_filter_le _ _) (by omega)
theorem write_queue (d : Dk) (f a : Int) (s : Bytes) : (d.write f a s).queue.length ≤ d.queue.length + s.length := by
  unfold Dk.write Dk.endW
  have := writeD_queue d.tick f a s
  rw [tick_queue] at this
  split
  · exact Nat.le_trans (crash_queue _ _) this
  · exact this
theorem cut_queue (d : Dk) (f n : Int) : (d.cut f n).queue.length ≤ d.queue.length := by
  have hp := pre_queue d
  unfold Dk.cut; dsimp only
  split
  · omega
  · split
    · omega
    · exact Nat.le_trans (List.length_filter_le _ _) (by omega)
theorem turn_queue (d : Dk) (f g : Int) : (d.turn f g).queue.length ≤ d.queue.length := by
  have hp := pre_queue d
  unfold Dk.turn; dsimp only
  split
  · omega
  · split
    · omega
    · split
      · omega
      · exact Nat.le_trans (List.length_filter_le _ _) (Nat.le_trans (List.length_filter_le _ _) (by omega))

/-- steps one behind the other, up to the first that fails -/
def allK (S : Nat → Prop) (w0 : World) : List Value → World → (Int → World → Prop) → Prop
  | [], w, K => K 0 w
  | g :: gs, w, K => callvK Try.prog g [] w (fun v w' => ∃ e : Int, v = .int .i64 e ∧ Mod S w0 w' ∧ (e = 0 → allK S w0 gs w' K) ∧ (e ≠ 0 → K e w')) noPanic

section
variable {w : World} {next : Value → World → Prop} {QP : List PanicEntry → World → Prop}

theorem all_ {S : Nat → Prop} {v : Value} {n : Nat} {gs : List Value} {K : Int → World → Prop} (hv : Sl w v 1 n gs) (hd : 0 < n → ∀ k, v.ownBlock = some k → ¬ S k) (hn : n ≤ 1000) (h : allK S w gs w K) (k : ∀ e w', K e w' → next (.int .i64 e) w') :
    callvK Try.prog (.func (.func 86) #[] #[]) [v] w next QP := by
  refine r86 rfl ?_
  have hgl : gs.length = n := by have := hv.len; omega
  obtain ⟨va, vc, rfl, hvc, -⟩ := hv.form
  unfold h86
  try simp only [go_sem]
  refine loopN n (fun i τ w' => τ 6 = .slice va n vc ∧ τ 7 = .int .i64 n ∧ τ 8 = .int .i64 i ∧ Mod S w w' ∧ allK S w (gs.drop i) w' K) ⟨0, by omega, rfl, rfl, rfl, Mod.refl _ _, h⟩ ?_
  rintro i τ w1 hi ⟨t6, t7, t8, m1, hK⟩
  unfold h86_1
  try simp only [go_sem, t6, t7, t8]
  refine ⟨fun hlt => ?_, fun hge => ?_⟩
  · have hin : i < n := by
      have : (i : Int) < n := by simpa using hlt
      omega
    obtain ⟨-, a', c', e', -, hcell⟩ := hv.mod' m1 hd
    simp only [Value.slice.injEq] at e'
    obtain ⟨rfl, -, rfl⟩ := e'
    obtain ⟨gb, o, rfl, hc⟩ := hcell (by omega)
    have hci : w1.cell? ⟨gb, o + i, none⟩ = some (gs[i]'(by omega)) := by rw [hc i (by omega), List.getElem?_eq_getElem (by omega)]
    rw [List.drop_eq_getElem_cons (by omega)] at hK
    simp only [allK] at hK
    unfold h86_2
    try simp only [go_sem, t6, t7, t8, hci]
    repeat refine ⟨⟨by omega, by omega⟩, ?_⟩
    refine callvK_mono hK ?_
    rintro v w2 ⟨e, rfl, m2, h0, h1⟩
    try simp only [go_sem, t6, t7, t8]
    refine ⟨fun he => ?_, fun he => ?_⟩
    · have he : ¬ e = 0 := by simpa using he
      exact k e w2 (h1 he)
    · have he : e = 0 := by simpa using he
      unfold h86_3
      try simp only [go_sem, t6, t7, t8]
      rw [w64 (by omega) (by omega)]
      exact ⟨i + 1, by omega, by omega, rfl, m2, h0 he⟩
  · have hio : i = n := by
      have : ¬ (i : Int) < n := by simpa using hge
      omega
    subst hio
    rw [List.drop_of_length_le (by omega)] at hK
    unfold h86_4
    try simp only [go_sem]
    exact k 0 w1 hK

/-- what Flush asks of the disk: the end's error and the disk behind it -/
def flush3 (d : Dk) (L : Lg) (f : Nat) : Dk × Int :=
  if d.flushR f ≠ 0 then (d.flush f, d.flushR f)
  else if (d.flush f).writeR f 0 (header L.end_ L.rows.length) ≠ 0 then ((d.flush f).write f 0 (header L.end_ L.rows.length), (d.flush f).writeR f 0 (header L.end_ L.rows.length))
  else (((d.flush f).write f 0 (header L.end_ L.rows.length)).flush f, ((d.flush f).write f 0 (header L.end_ L.rows.length)).flushR f)
def flushJ (d : Dk) (L : Lg) (f : Nat) : Dk × Lg × Int :=
  if L.sure = L.rows.length then (d, L, if d.down = true then 8 else 0)
  else ((flush3 d L f).1, if (flush3 d L f).2 = 0 then ⟨L.rows, L.rows.length, L.end_⟩ else L, (flush3 d L f).2)

theorem fl92_ {w0 : Base} {p q f : Nat} {d : Dk} {L : Lg} {F : FP} {S : Nat → Prop} (h : GS w0 w p q f d L F S) (hqn : d.queue.length ≤ 1000000000) (k : ∀ w', St F w w' p (d.flush f) → next (.int .i64 (d.flushR f)) w') :
    callvK Try.prog (.func (.func 92) #[ptr q] #[]) [] w next QP := by
  refine callv (first := [ptr q]) (caps := []) c92 (q92 rfl ?_)
  simp only [List.nil_append, List.append_nil, List.cons_append]
  obtain ⟨rv, hb, ho, ho1, c0, c1, c2, c3, c4⟩ := h.lg.parts
  unfold h92
  try simp only [go_sem, c0, c1]
  refine flush_ (h.dr.mod0 (Mod.drew none' w)) (by omega) ?_
  intro w' st
  try simp only [go_sem]
  exact k w' (st.after (Mod.drew none' w))

theorem fl93_ {w0 : Base} {p q f b : Nat} {d : Dk} {L : Lg} {F : FP} {S : Nat → Prop} (h : GS w0 w p q f d L F S) (hb : Blk w b 55 [ptr q]) (hqn : d.queue.length ≤ 1000000000) (k : ∀ w', St F w w' p (d.write f 0 (header L.end_ L.rows.length)) → next (.int .i64 (d.writeR f 0 (header L.end_ L.rows.length))) w') :
    callvK Try.prog (.func (.func 93) #[] #[ptr b]) [] w next QP := by
  refine callv (first := []) (caps := [ptr b]) c93 (q93 rfl ?_)
  simp only [List.nil_append, List.append_nil, List.cons_append]
  obtain ⟨rv, hbl, ho, ho1, c0, c1, c2, c3, c4⟩ := h.lg.parts
  obtain ⟨ra, rc, rfl, -, -⟩ := ho.form
  have b0 : w.cell? ⟨b, 0, none⟩ = some (ptr q) := hb.cell 0
  unfold h93
  try simp only [go_sem, b0, c0, c1, c2, c4]
  refine header_ _ _ ?_
  intro w1 m1
  have b0' := m1.cell (show w.drew.cell? ⟨b, 0, none⟩ = _ from b0) fun h => h
  have c0' := m1.cell (show w.drew.cell? ⟨q, 0, none⟩ = _ from c0) fun h => h
  have c1' := m1.cell (show w.drew.cell? ⟨q, 1, none⟩ = _ from c1) fun h => h
  have hh := header_len L.end_ L.rows.length
  try simp only [go_sem, b0', c0', c1']
  have m01 := (Mod.drew none' w).trans' m1
  refine write_ (h.dr.mod0 m01) (by omega) (by omega) (by omega) ?_
  intro w' st
  try simp only [go_sem]
  exact k w' (st.after m01)

theorem gflushJ_ {w0 : Base} {p q f : Nat} {d : Dk} {L : Lg} {F : FP} {S : Nat → Prop} (h : GS w0 w p q f d L F S) (hqn : d.queue.length ≤ 1000000) (k : ∀ w', GT w0 w' p q f (flushJ d L f).1 (flushJ d L f).2.1 → next (.int .i64 (flushJ d L f).2.2) w') :
    callvK Try.prog (.func (.func 51) #[] #[]) [ptr q] w next QP := by
  refine r51 rfl ?_
  unfold h51
  try simp only [go_sem]
  refine box_ (cs := [ptr q]) rfl ?_
  intro b w1 hb blk1 m1 hs1
  have h1 := h.mod0 m1
  obtain ⟨rv, hbl, ho, ho1, c0, c1, c2, c3, c4⟩ := h1.lg.parts
  obtain ⟨ra, rc, rfl, -, -⟩ := ho.form
  have b0 : w1.cell? ⟨b, 0, none⟩ = some (ptr q) := blk1.cell 0
  have h2 := h1.mod0 (Mod.drew none' w1)
  try simp only [go_sem, b0, c0, c1, c2, c3, c4]
  refine ⟨fun he => ?_, fun he => ?_⟩
  · have he : L.sure = L.rows.length := by
      have h0 : (L.sure : Int) = L.rows.length := by simpa using he
      omega
    have hJ : flushJ d L f = (d, L, if d.down = true then 8 else 0) := by rw [flushJ, if_pos he]
    rw [hJ] at k
    refine down_ h2.dr ?_
    try simp only [go_sem]
    refine ⟨fun hd => ?_, fun hd => ?_⟩
    · have := k w1.drew h2.jt
      rw [hd] at this; exact this
    · unfold h51_1
      try simp only [go_sem]
      have := k w1.drew h2.jt
      rw [hd] at this; exact this
  · have he : ¬ L.sure = L.rows.length := by
      have h0 : ¬ (L.sure : Int) = L.rows.length := by simpa using he
      omega
    have hJ : flushJ d L f = ((flush3 d L f).1, if (flush3 d L f).2 = 0 then ⟨L.rows, L.rows.length, L.end_⟩ else L, (flush3 d L f).2) := by rw [flushJ, if_neg he]
    rw [hJ] at k
    have b0' : w1.drew.cell? ⟨b, 0, none⟩ = some (ptr q) := b0
    unfold h51_2
    try simp only [go_sem, b0]
    refine bsl3 (t := 128) (e := 70) (by_ := 8) (z := .nilFunc) ⟨by kernel_rfl, by kernel_rfl, rfl, by decide⟩ rfl rfl rfl ?_
    intro b2 w3 hb2 own3 blk3 m3 hs3
    have h3 := h2.mod0 m3
    have blk1' : Blk w3 b 55 [ptr q] := (blk1.mod (Mod.drew none' w1) fun h => h).mod m3 fun h => h
    have hbF : ¬ F.W b := fun hW => by have := h.dr.lt b (h.dr.sub b hW); omega
    have hb2F : ¬ F.W b2 := fun hW => by have := h2.dr.lt b2 (h2.dr.sub b2 hW); omega
    have hbl1 := blk1.lt
    refine all_ (S := F.W) (K := fun e w' => e = (flush3 d L f).2 ∧ Mod F.W w3 w' ∧ GT w0 w' p q f (flush3 d L f).1 L) own3.sl (fun _ k hk hW => hb2F (by simp [Value.ownBlock] at hk; exact hk ▸ hW)) (by omega) ?_ ?_
    · have hhl := header_len L.end_ L.rows.length
      have q1 := flush_queue d f
      have q2 := write_queue (d.flush f) f 0 (header L.end_ L.rows.length)
      simp only [allK]
      refine fl92_ h3 (by omega) ?_
      intro w4 st4
      have h4 := h3.disk st4
      have m4 : Mod F.W w3 w4 := st4.mod
      refine ⟨_, rfl, m4, fun he1 => ?_, fun he1 => ⟨by simp only [flush3, if_pos he1], m4, by simp only [flush3, if_pos he1]; exact h4.jt⟩⟩
      have n1 : ¬ (d.flushR f ≠ 0) := fun h => h he1
      refine fl93_ h4 (blk1'.mod m4 hbF) (by omega) ?_
      intro w5 st5
      have h5 := h4.disk st5
      have m5 : Mod F.W w3 w5 := m4.trans st5.mod fun k hk hW => by
        rcases st4.footW k hW with h' | h'
        · exact h'
        · omega
      refine ⟨_, rfl, m5, fun he2 => ?_, fun he2 => ⟨by simp only [flush3, if_neg n1, if_pos he2], m5, by simp only [flush3, if_neg n1, if_pos he2]; exact h5.jt⟩⟩
      have n2 : ¬ ((d.flush f).writeR f 0 (header L.end_ L.rows.length) ≠ 0) := fun h => h he2
      refine fl92_ h5 (by omega) ?_
      intro w6 st6
      have h6 := h5.disk st6
      have hs4 := m4.size
      have m6 : Mod F.W w3 w6 := m5.trans st6.mod fun k hk hW => by
        rcases st5.footW k hW with h' | h'
        · rcases st4.footW k h' with h'' | h''
          · exact h''
          · omega
        · omega
      exact ⟨_, rfl, m6, fun he3 => ⟨by simp only [flush3, if_neg n1, if_neg n2]; exact he3.symm, m6, by simp only [flush3, if_neg n1, if_neg n2]; exact h6.jt⟩, fun he3 => ⟨by simp only [flush3, if_neg n1, if_neg n2], m6, by simp only [flush3, if_neg n1, if_neg n2]; exact h6.jt⟩⟩
    · rintro e w4 ⟨rfl, m4, F4, S4, h4⟩
      have b4 : w4.cell? ⟨b, 0, none⟩ = some (ptr q) := (blk1'.mod m4 hbF).cell 0
      obtain ⟨rv, hbl, ho, ho1, c0, c1, c2, c3, c4⟩ := h4.lg.parts
      obtain ⟨ra, rc, rfl, -, -⟩ := ho.form
      try simp only [go_sem, b4]
      refine ⟨fun he => ?_, fun he => ?_⟩
      · have he : (flush3 d L f).2 = 0 := by simpa using he
        rw [if_pos he, he] at k
        try simp only [go_sem, b4, c2]
        refine store1 sz3 (hbl.mod (Mod.drew none' w4) fun h => h) (by simp) rfl ?_
        intro w5 hb5 m5 hs5
        unfold h51_3
        try simp only [go_sem, he]
        refine k _ (GS.jt ((h4.mod0 (Mod.drew none' w4)).log (S' := S4) ⟨⟨.slice ra L.rows.length rc, by simpa using hb5, (ho.mod (Mod.drew none' w4) fun _ _ h => h).mod m5 fun k hk (e : k = q) => (ho1 k hk).2 e, fun k hk => (ho1 k hk).1⟩, h4.lg.self, fun k hk => ?_, h4.lg.bd, h4.lg.rb⟩ (fun k hk => .inl hk) (m5.mono fun k _ (e : k = q) => e ▸ h4.lg.self)))
        have := h4.lg.lt k hk; have := m5.size; simp at this; omega
      · have he : ¬ (flush3 d L f).2 = 0 := by simpa using he
        rw [if_neg he] at k
        unfold h51_3
        try simp only [go_sem]
        exact k _ h4.jt
end
end Go.Proofs.Y

/- JH: the log's operations: Batch, All, Sure, Rewrite. -/
namespace Go.Proofs.Y
open Go Go.HL Go.Proofs

def batchJ (d : Dk) (L : Lg) (f : Nat) (rows : List Bytes) : Dk × Lg × Int :=
  if rows = [] then flushJ d L f
  else if addE d L f rows ≠ 0 then (addD' d L f rows, L, addE d L f rows)
  else flushJ (addD' d L f rows) (L.add rows) f

/-- the disk behind a rewriting, and the error -/
def rewr (d : Dk) (f : Nat) (rows : List Bytes) : Dk × Int :=
  let s := header (16 + (formsB rows).length : Nat) rows.length ++ formsB rows
  if d.cutR (f + 1 : Nat) 0 ≠ 0 then (d.cut (f + 1 : Nat) 0, d.cutR (f + 1 : Nat) 0)
  else if (d.cut (f + 1 : Nat) 0).writeR (f + 1 : Nat) 0 s ≠ 0 then ((d.cut (f + 1 : Nat) 0).write (f + 1 : Nat) 0 s, (d.cut (f + 1 : Nat) 0).writeR (f + 1 : Nat) 0 s)
  else if ((d.cut (f + 1 : Nat) 0).write (f + 1 : Nat) 0 s).flushR (f + 1 : Nat) ≠ 0 then (((d.cut (f + 1 : Nat) 0).write (f + 1 : Nat) 0 s).flush (f + 1 : Nat), ((d.cut (f + 1 : Nat) 0).write (f + 1 : Nat) 0 s).flushR (f + 1 : Nat))
  else ((((d.cut (f + 1 : Nat) 0).write (f + 1 : Nat) 0 s).flush (f + 1 : Nat)).turn f (f + 1 : Nat), (((d.cut (f + 1 : Nat) 0).write (f + 1 : Nat) 0 s).flush (f + 1 : Nat)).turnR f (f + 1 : Nat))
def rewriteJ (d : Dk) (L : Lg) (f : Nat) (rows : List Bytes) : Dk × Lg × Int :=
  ((rewr d f rows).1, if (rewr d f rows).2 = 0 then ⟨rows, rows.length, 16 + (formsB rows).length⟩ else L, (rewr d f rows).2)

theorem rewr_ok {d : Dk} {f : Nat} {rows : List Bytes} (h : (rewr d f rows).2 = 0) : 16 + (formsB rows).length ≤ 16777216 := by
  have hhl := header_len (16 + (formsB rows).length : Nat) rows.length
  have key : (d.cut (f + 1 : Nat) 0).writeR (f + 1 : Nat) 0 (header (16 + (formsB rows).length : Nat) rows.length ++ formsB rows) = 0 := by
    unfold rewr at h
    dsimp only at h
    split at h
    · rename_i h1; exact absurd h h1
    · split at h
      · rename_i h1; exact absurd h h1
      · rename_i h1
        exact Decidable.byContradiction fun hn => h1 hn
  have := writeR_fit key
  rw [List.length_append, hhl] at this
  omega

section
variable {w : World} {next : Value → World → Prop} {QP : List PanicEntry → World → Prop} {w0 : Base} {p q f : Nat} {d : Dk} {L : Lg} {F : FP} {S : Nat → Prop}

theorem jall_ (h : LG w q p f L S) (k : ∀ v w', Own w' v 9 1 L.rows.length (L.rows.map str) → Mod none' w w' → (∀ k, v.ownBlock = some k → w.heap.size ≤ k) → next v w') : callvK Try.prog (.func (.func 47) #[] #[]) [ptr q] w next QP := by
  refine r47 rfl ?_
  obtain ⟨rv, hb, ho, ho1, c0, c1, c2, c3, c4⟩ := h.parts
  have := h.rb; have := h.bd
  unfold h47
  try simp only [go_sem, c2]
  refine sclone_ ho.sl (by omega) ?_
  intro v w1 own1 m1 hn1
  try simp only [go_sem]
  exact k v w1 own1 m1 hn1

theorem jsure_ (h : LG w q p f L S) (k : next (.int .i64 L.sure) w) : callvK Try.prog (.func (.func 54) #[] #[]) [ptr q] w next QP := by
  refine r54 rfl ?_
  obtain ⟨rv, hb, ho, ho1, c0, c1, c2, c3, c4⟩ := h.parts
  unfold h54
  try simp only [go_sem, c3]
  exact k

theorem gbatch_ (h : GS w0 w p q f d L F S) {v : Value} {rows : List Bytes} {n : Nat} (hv : Sl w v 1 n (rows.map str)) (hvd : 0 < n → ∀ k, v.ownBlock = some k → ¬ F.R k) (hqn : d.queue.length + (formsB rows).length ≤ 1000000)
    (k : ∀ w', GT w0 w' p q f (batchJ d L f rows).1 (batchJ d L f rows).2.1 → next (.int .i64 (batchJ d L f rows).2.2) w') :
    callvK Try.prog (.func (.func 52) #[] #[]) [ptr q, v] w next QP := by
  refine r52 rfl ?_
  have hrn : rows.length = n := by have := hv.len; simpa using this
  obtain ⟨va, vc, rfl, -, -⟩ := hv.form
  unfold h52
  try simp only [go_sem]
  refine ⟨fun hn => ?_, fun hn => ?_⟩
  · have hn : 0 < n := by
      have : (0 : Int) < n := by simpa using hn
      omega
    have hne : ¬ rows = [] := by rintro rfl; simp at hrn; omega
    refine gadd_ h hv hvd (by omega) ?_
    intro w1 jt
    try simp only [go_sem]
    refine ⟨fun he => ?_, fun he => ?_⟩
    · have he : ¬ addE d L f rows = 0 := by simpa using he
      simp only [batchJ, if_neg hne, if_pos he] at k
      rw [if_neg he] at jt
      exact k _ jt
    · have he : addE d L f rows = 0 := by simpa using he
      have he' : ¬ (addE d L f rows ≠ 0) := fun h => h he
      simp only [batchJ, if_neg hne, if_neg he'] at k
      rw [if_pos he] at jt
      obtain ⟨F1, S1, h1⟩ := jt
      unfold h52_1
      try simp only [go_sem]
      have := write_queue d f L.end_ (formsB rows)
      refine gflushJ_ h1 (by show (d.write f L.end_ (formsB rows)).queue.length ≤ _; omega) ?_
      intro w2 jt2
      try simp only [go_sem]
      exact k _ jt2
  · have hn : n = 0 := by
      have : ¬ (0 : Int) < n := by simpa using hn
      omega
    have hne : rows = [] := List.eq_nil_of_length_eq_zero (by omega)
    simp only [batchJ, if_pos hne] at k
    unfold h52_1
    try simp only [go_sem]
    refine gflushJ_ h (by omega) ?_
    intro w2 jt2
    try simp only [go_sem]
    exact k _ jt2

theorem cl87_ {b : Nat} (h : GS w0 w p q f d L F S) (hf : f ≤ 6) (hb : Blk w b 55 [ptr q]) (hqn : d.queue.length ≤ 1000000000) (k : ∀ w', St F w w' p (d.cut (f + 1 : Nat) 0) → next (.int .i64 (d.cutR (f + 1 : Nat) 0)) w') :
    callvK Try.prog (.func (.func 87) #[] #[ptr b]) [] w next QP := by
  refine callv (first := []) (caps := [ptr b]) c87 (q87 rfl ?_)
  simp only [List.nil_append, List.append_nil, List.cons_append]
  obtain ⟨rv, hbl, ho, ho1, c0, c1, c2, c3, c4⟩ := h.lg.parts
  have b0 : w.cell? ⟨b, 0, none⟩ = some (ptr q) := hb.cell 0
  unfold h87
  try simp only [go_sem, b0, c0, c1]
  rw [w64 (by omega) (by omega), show (f : Int) + 1 = ((f + 1 : Nat) : Int) from rfl]
  refine cut_ (h.dr.mod0 (Mod.drew none' w)) (by omega) ?_
  intro w' st
  try simp only [go_sem]
  exact k w' (st.after (Mod.drew none' w))
theorem cl90_ {b : Nat} (h : GS w0 w p q f d L F S) (hf : f ≤ 6) (hb : Blk w b 55 [ptr q]) (hqn : d.queue.length ≤ 1000000000) (k : ∀ w', St F w w' p (d.flush (f + 1 : Nat)) → next (.int .i64 (d.flushR (f + 1 : Nat))) w') :
    callvK Try.prog (.func (.func 90) #[] #[ptr b]) [] w next QP := by
  refine callv (first := []) (caps := [ptr b]) c90 (q90 rfl ?_)
  simp only [List.nil_append, List.append_nil, List.cons_append]
  obtain ⟨rv, hbl, ho, ho1, c0, c1, c2, c3, c4⟩ := h.lg.parts
  have b0 : w.cell? ⟨b, 0, none⟩ = some (ptr q) := hb.cell 0
  unfold h90
  try simp only [go_sem, b0, c0, c1]
  rw [w64 (by omega) (by omega), show (f : Int) + 1 = ((f + 1 : Nat) : Int) from rfl]
  refine flush_ (h.dr.mod0 (Mod.drew none' w)) (by omega) ?_
  intro w' st
  try simp only [go_sem]
  exact k w' (st.after (Mod.drew none' w))
theorem cl91_ {b : Nat} (h : GS w0 w p q f d L F S) (hf : f ≤ 6) (hb : Blk w b 55 [ptr q]) (hqn : d.queue.length ≤ 1000000000) (k : ∀ w', St F w w' p (d.turn f (f + 1 : Nat)) → next (.int .i64 (d.turnR f (f + 1 : Nat))) w') :
    callvK Try.prog (.func (.func 91) #[] #[ptr b]) [] w next QP := by
  refine callv (first := []) (caps := [ptr b]) c91 (q91 rfl ?_)
  simp only [List.nil_append, List.append_nil, List.cons_append]
  obtain ⟨rv, hbl, ho, ho1, c0, c1, c2, c3, c4⟩ := h.lg.parts
  have b0 : w.cell? ⟨b, 0, none⟩ = some (ptr q) := hb.cell 0
  unfold h91
  try simp only [go_sem, b0, c0, c1]
  rw [w64 (by omega) (by omega), show (f : Int) + 1 = ((f + 1 : Nat) : Int) from rfl]
  refine turn_ (h.dr.mod0 (Mod.drew none' w)) (by omega) ?_
  intro w' st
  try simp only [go_sem]
  exact k w' (st.after (Mod.drew none' w))
theorem cl88_ {b b6 b3 b5 n c : Nat} {a : Option Addr} {en : Int} {s : Bytes} (h : GS w0 w p q f d L F S) (hf : f ≤ 6) (hb : Blk w b 55 [ptr q]) (hb6 : Blk w b6 3 [.int .i64 en]) (hb3 : Blk w b3 40 [.slice a n c]) (hb5 : Blk w b5 9 [str s]) (hs : s.length ≤ 100000000)
    (hqn : d.queue.length + s.length ≤ 100000000) (k : ∀ w', St F w w' p (d.write (f + 1 : Nat) 0 (header en n ++ s)) → next (.int .i64 (d.writeR (f + 1 : Nat) 0 (header en n ++ s))) w') :
    callvK Try.prog (.func (.func 88) #[] #[ptr b, ptr b6, ptr b3, ptr b5]) [] w next QP := by
  refine callv (first := []) (caps := [ptr b, ptr b6, ptr b3, ptr b5]) c88 (q88 rfl ?_)
  simp only [List.nil_append, List.append_nil, List.cons_append]
  obtain ⟨rv, hbl, ho, ho1, c0, c1, c2, c3, c4⟩ := h.lg.parts
  have b0 : w.cell? ⟨b, 0, none⟩ = some (ptr q) := hb.cell 0
  have x6 : w.cell? ⟨b6, 0, none⟩ = some (.int .i64 en) := hb6.cell 0
  have x3 : w.cell? ⟨b3, 0, none⟩ = some (.slice a n c) := hb3.cell 0
  have x5 : w.cell? ⟨b5, 0, none⟩ = some (str s) := hb5.cell 0
  unfold h88
  try simp only [go_sem, b0, c0, c1, x6, x3, x5]
  refine header_ _ _ ?_
  intro w1 m1
  have b0' := m1.cell (show w.drew.cell? ⟨b, 0, none⟩ = _ from b0) fun h => h
  have c0' := m1.cell (show w.drew.cell? ⟨q, 0, none⟩ = _ from c0) fun h => h
  have c1' := m1.cell (show w.drew.cell? ⟨q, 1, none⟩ = _ from c1) fun h => h
  have x5' := m1.cell (show w.drew.cell? ⟨b5, 0, none⟩ = _ from x5) fun h => h
  have hh := header_len en n
  have hh2 : (header en n ++ s).length = 16 + s.length := by rw [List.length_append, hh]
  try simp only [go_sem, b0', c0', c1', x5']
  rw [w64 (by omega) (by omega), show (f : Int) + 1 = ((f + 1 : Nat) : Int) from rfl]
  refine ⟨by omega, ?_⟩
  have m01 := (Mod.drew none' w).trans' m1
  refine write_ (h.dr.mod0 m01) (by omega) (by omega) (by omega) ?_
  intro w' st
  try simp only [go_sem]
  exact k w' (st.after m01)

theorem grewrite_ (h : GS w0 w p q f d L F S) (hf : f ≤ 6) {v : Value} {rows : List Bytes} {n : Nat} (hv : Sl w v 1 n (rows.map str)) (hvd : 0 < n → ∀ k, v.ownBlock = some k → ¬ F.R k ∧ k < w.heap.size) (hqn : d.queue.length + (formsB rows).length ≤ 100000)
    (k : ∀ w', GT w0 w' p q f (rewriteJ d L f rows).1 (rewriteJ d L f rows).2.1 → next (.int .i64 (rewriteJ d L f rows).2.2) w') :
    callvK Try.prog (.func (.func 49) #[] #[]) [ptr q, v] w next QP := by
  refine r49 rfl ?_
  have hrn : rows.length = n := by have := hv.len; simpa using this
  have hfr := formsB_rows rows
  obtain ⟨va, vc, rfl, -, -⟩ := hv.form
  unfold h49
  try simp only [go_sem]
  refine box_ (cs := [ptr q]) rfl ?_
  intro b2 w1 hb2 blk2 m1 hs1
  refine box_ (cs := [.slice va n vc]) rfl ?_
  intro b3 w2 hb3 blk3 m2 hs2
  have c3 : w2.cell? ⟨b3, 0, none⟩ = some (.slice va n vc) := blk3.cell 0
  try simp only [go_sem, c3]
  refine forms_ ((hv.mod m1 fun _ _ h => h).mod m2 fun _ _ h => h) (by omega) ?_
  intro w3 m3
  try simp only [go_sem]
  refine alloc_ (z := .string ByteArray.empty) (cs := [str []]) (by kernel_rfl) rfl ?_
  intro b5 w4 hb5 blk5 m4 hs4
  refine store1 sz9 blk5 (by simp) rfl ?_
  intro w5 blk5 m5 hs5
  have c5 : w5.cell? ⟨b5, 0, none⟩ = some (str (formsB rows)) := blk5.cell 0
  unfold h49_1
  try simp only [go_sem, c5]
  rw [w64 (by omega) (by omega)]
  refine alloc_ (z := .int .i64 0) (cs := [.int .i64 0]) (by kernel_rfl) rfl ?_
  intro b6 w6 hb6 blk6 m6 hs6
  refine store1 sz3 blk6 (by simp) rfl ?_
  intro w7 blk6 m7 hs7
  try simp only [go_sem]
  have z3 := m3.size
  have m17 : Mod none' w w7 := (((((m1.trans' m2).trans' m3).trans' m4).trans m5 fun k hk (e : k = b5) => by omega).trans' m6).trans m7 fun k hk (e : k = b6) => by omega
  have y2 : Blk w7 b2 55 [ptr q] := (((((blk2.mod m2 fun h => h).mod m3 fun h => h).mod m4 fun h => h).mod m5 fun (e : b2 = b5) => by omega).mod m6 fun h => h).mod m7 fun (e : b2 = b6) => by omega
  have y3 : Blk w7 b3 40 [.slice va n vc] := ((((blk3.mod m3 fun h => h).mod m4 fun h => h).mod m5 fun (e : b3 = b5) => by omega).mod m6 fun h => h).mod m7 fun (e : b3 = b6) => by omega
  have y5 : Blk w7 b5 9 [str (formsB rows)] := ((by simpa using blk5 : Blk w5 b5 9 [str (formsB rows)]).mod m6 fun h => h).mod m7 fun (e : b5 = b6) => by omega
  have y6 : Blk w7 b6 3 [.int .i64 (16 + (formsB rows).length : Nat)] := by simpa using blk6
  have nF : ∀ {b : Nat}, w.heap.size ≤ b → ¬ F.W b := fun hb hW => by have := h.dr.lt _ (h.dr.sub _ hW); omega
  refine bsl4 (t := 128) (e := 70) (by_ := 8) (z := .nilFunc) ⟨by kernel_rfl, by kernel_rfl, rfl, by decide⟩ rfl rfl rfl rfl ?_
  intro b8 w8 hb8 own8 blk8 m8 hs8
  have m18 := m17.trans' m8
  have h8 := h.mod0 m18
  have z7 := m17.size
  have y2 := y2.mod m8 fun h => h
  have y3 := y3.mod m8 fun h => h
  have y5 := y5.mod m8 fun h => h
  have y6 := y6.mod m8 fun h => h
  have hv8 := hv.mod m18 fun _ _ h => h
  clear blk2 blk3 blk5 blk6 c3 c5
  refine all_ (S := F.W) (K := fun e w' => e = (rewr d f rows).2 ∧ Mod F.W w8 w' ∧ GT w0 w' p q f (rewr d f rows).1 L) own8.sl (fun _ k hk hW => nF (b := k) (by simp [Value.ownBlock] at hk; omega) hW) (by omega) ?_ ?_
  · have hhl := header_len (16 + (formsB rows).length : Nat) rows.length
    have q1 := cut_queue d (f + 1 : Nat) 0
    simp only [allK]
    refine cl87_ h8 hf y2 (by omega) ?_
    intro w9 st9
    have h9 := h8.disk st9
    have m9 : Mod F.W w8 w9 := st9.mod
    have s9 := m9.size
    refine ⟨_, rfl, m9, fun he1 => ?_, fun he1 => ⟨by simp only [rewr, if_pos he1], m9, by simp only [rewr, if_pos he1]; exact h9.jt⟩⟩
    have n1 : ¬ (d.cutR (f + 1 : Nat) 0 ≠ 0) := fun h => h he1
    refine cl88_ h9 hf (y2.mod m9 (nF (by omega))) (y6.mod m9 (nF (by omega))) (y3.mod m9 (nF (by omega))) (y5.mod m9 (nF (by omega))) (by omega) (by omega) ?_
    rw [show ((n : Nat) : Int) = (rows.length : Nat) by rw [hrn]]
    intro w10 st10
    have h10 := h9.disk st10
    have m10 : Mod F.W w8 w10 := m9.trans st10.mod fun k hk hW => by
      rcases st9.footW k hW with h' | h'
      · exact h'
      · omega
    have s10 := m10.size
    have q2 := write_queue (d.cut (f + 1 : Nat) 0) (f + 1 : Nat) 0 (header (16 + (formsB rows).length : Nat) rows.length ++ formsB rows)
    rw [List.length_append, hhl] at q2
    refine ⟨_, rfl, m10, fun he2 => ?_, fun he2 => ⟨by simp only [rewr, if_neg n1, if_pos he2], m10, by simp only [rewr, if_neg n1, if_pos he2]; exact h10.jt⟩⟩
    have n2 : ¬ ((d.cut (f + 1 : Nat) 0).writeR (f + 1 : Nat) 0 (header (16 + (formsB rows).length : Nat) rows.length ++ formsB rows) ≠ 0) := fun h => h he2
    refine cl90_ h10 hf (y2.mod m10 (nF (by omega))) (by omega) ?_
    intro w11 st11
    have h11 := h10.disk st11
    have m11 : Mod F.W w8 w11 := m10.trans st11.mod fun k hk hW => by
      rcases st10.footW k hW with h' | h'
      · rcases st9.footW k h' with h'' | h''
        · exact h''
        · omega
      · omega
    have s11 := m11.size
    have q3 := flush_queue ((d.cut (f + 1 : Nat) 0).write (f + 1 : Nat) 0 (header (16 + (formsB rows).length : Nat) rows.length ++ formsB rows)) (f + 1 : Nat)
    refine ⟨_, rfl, m11, fun he3 => ?_, fun he3 => ⟨by simp only [rewr, if_neg n1, if_neg n2, if_pos he3], m11, by simp only [rewr, if_neg n1, if_neg n2, if_pos he3]; exact h11.jt⟩⟩
    have n3 : ¬ (((d.cut (f + 1 : Nat) 0).write (f + 1 : Nat) 0 (header (16 + (formsB rows).length : Nat) rows.length ++ formsB rows)).flushR (f + 1 : Nat) ≠ 0) := fun h => h he3
    refine cl91_ h11 hf (y2.mod m11 (nF (by omega))) (by omega) ?_
    intro w12 st12
    have h12 := h11.disk st12
    have m12 : Mod F.W w8 w12 := m11.trans st12.mod fun k hk hW => by
      rcases st11.footW k hW with h' | h'
      · rcases st10.footW k h' with h' | h'
        · rcases st9.footW k h' with h'' | h''
          · exact h''
          · omega
        · omega
      · omega
    exact ⟨_, rfl, m12, fun he4 => ⟨by simp only [rewr, if_neg n1, if_neg n2, if_neg n3]; exact he4.symm, m12, by simp only [rewr, if_neg n1, if_neg n2, if_neg n3]; exact h12.jt⟩, fun he4 => ⟨by simp only [rewr, if_neg n1, if_neg n2, if_neg n3], m12, by simp only [rewr, if_neg n1, if_neg n2, if_neg n3]; exact h12.jt⟩⟩
  · rintro e w9 ⟨rfl, m9, F9, S9, h9⟩
    have x2 : w9.cell? ⟨b2, 0, none⟩ = some (ptr q) := (y2.mod m9 (nF (by omega))).cell 0
    have x3 : w9.cell? ⟨b3, 0, none⟩ = some (.slice va n vc) := (y3.mod m9 (nF (by omega))).cell 0
    have x6 : w9.cell? ⟨b6, 0, none⟩ = some (.int .i64 (16 + (formsB rows).length : Nat)) := (y6.mod m9 (nF (by omega))).cell 0
    have hv9 : Sl w9 (.slice va n vc) 1 n (rows.map str) := hv8.mod' m9 fun hn k hk hW => (hvd hn k hk).1 (h.dr.sub k hW)
    unfold h49_2
    try simp only [go_sem]
    refine ⟨fun he => ?_, fun he => ?_⟩
    · have he : (rewr d f rows).2 = 0 := by simpa using he
      simp only [rewriteJ, if_pos he, he] at k
      try simp only [go_sem, x2, x3, x6]
      refine sclone_ (hv9.mod (Mod.drew none' w9) fun _ _ h => h) (by omega) ?_
      intro v10 w10 own10 m10 hn10
      have m10 := (Mod.drew none' w9).trans' m10
      have x2 := m10.cell x2 fun h => h
      have x3 := m10.cell x3 fun h => h
      have x6 := m10.cell x6 fun h => h
      have hql : q < w.heap.size := h.lg.lt q h.lg.self
      obtain ⟨rv, hbl, ho, ho1, -, -, -, -, -⟩ := h9.lg.parts
      have hok := rewr_ok he
      obtain ⟨ua, uc, rfl, -, -⟩ := own10.form
      try simp only [go_sem, x2, x3, x6]
      refine store1 sz40 (hbl.mod m10 fun h => h) (by simp) rfl ?_
      intro w11 hb11 m11 hs11
      have x2 := m11.cell x2 fun (e : b2 = q) => by omega
      have x3 := m11.cell x3 fun (e : b3 = q) => by omega
      have x6 := m11.cell x6 fun (e : b6 = q) => by omega
      try simp only [go_sem, x2, x3, x6]
      refine store1 sz3 hb11 (by simp) rfl ?_
      intro w12 hb12 m12 hs12
      have x2 := m12.cell x2 fun (e : b2 = q) => by omega
      have x6 := m12.cell x6 fun (e : b6 = q) => by omega
      try simp only [go_sem, x2, x3, x6]
      refine store1 sz3 hb12 (by simp) rfl ?_
      intro w13 hb13 m13 hs13
      have m1113 : Mod (fun k => k = q) w10 w13 := (m11.trans' m12).trans' m13
      have hs9 := m9.size
      have hs10 := m10.size
      have hnq : ∀ k, (Value.slice ua n uc).ownBlock = some k → k ≠ q := by
        intro k hk e
        have := hn10 k hk
        simp at this
        omega
      unfold h49_3
      try simp only [go_sem, he]
      refine k _ (GS.jt (h9.log (S' := fun k => S9 k ∨ (Value.slice ua n uc).ownBlock = some k) ⟨⟨.slice ua n uc, ?_, ?_, fun k hk => .inr hk⟩, .inl h9.lg.self, fun k hk => ?_, hok, by show rows.length * 16 + 16 ≤ 16 + (formsB rows).length; omega⟩ (fun k hk => ?_) ((m10.mono fun _ _ h => h.elim).trans m1113 fun k _ (e : k = q) => e ▸ h9.lg.self)))
      · show Blk w13 q 102 [ptr p, .int .i64 f, .slice ua n uc, .int .i64 (rows.length : Nat), .int .i64 (16 + (formsB rows).length : Nat)]
        rw [hrn]; simpa using hb13
      · show Own w13 (.slice ua n uc) 9 1 rows.length (rows.map str)
        rw [hrn]; exact own10.mod m1113 fun k hk (e : k = q) => hnq k hk e
      · have hz := m1113.size
        rcases hk with h' | h'
        · have := h9.lg.lt k h'; have := m10.size; omega
        · have := own10.lt k h'; omega
      · rcases hk with h' | h'
        · exact .inl h'
        · have := hn10 k h'
          simp at this
          exact .inr this
    · have he : ¬ (rewr d f rows).2 = 0 := by simpa using he
      simp only [rewriteJ, if_neg he] at k
      unfold h49_3
      try simp only [go_sem]
      exact k _ h9.jt
end
end Go.Proofs.Y

/- JHb: the log's operations, over a world whose blocks are all left alone. -/
namespace Go.Proofs.Y
open Go Go.HL Go.Proofs

structure JS (w0 w : World) (p q f : Nat) (d : Dk) (L : Lg) (F : FP) (S : Nat → Prop) : Prop where
  dr : DR w p d F
  lg : LG w q p f L S
  ap : ∀ k, F.R k → ¬ S k
  f0 : ∀ k, F.R k → w0.heap.size ≤ k
  s0 : ∀ k, S k → w0.heap.size ≤ k
  m : Mod none' w0 w
def Base.of (w : World) : Base := ⟨w, fun k => k < w.heap.size, fun _ h => h⟩

section
variable {w0 w w' : World} {p q f : Nat} {d d' : Dk} {L L' : Lg} {F : FP} {S : Nat → Prop}
theorem JS.gs (h : JS w0 w p q f d L F S) : GS (.of w0) w p q f d L F S := ⟨h.dr, h.lg, h.ap, fun k hk => Nat.not_lt.2 (h.f0 k hk), fun k hk => Nat.not_lt.2 (h.s0 k hk), h.m.mono fun _ _ h => h.elim⟩
theorem GS.js (h : GS (.of w0) w p q f d L F S) : JS w0 w p q f d L F S := ⟨h.dr, h.lg, h.ap, fun k hk => Nat.not_lt.1 (h.f0 k hk), fun k hk => Nat.not_lt.1 (h.s0 k hk), h.m.mono fun _ hk h => h hk⟩
theorem JS.disk (h : JS w0 w p q f d L F S) (st : St F w w' p d') : JS w0 w' p q f d' L st.foot S := (h.gs.disk st).js
theorem JS.log (h : JS w0 w p q f d L F S) {S' : Nat → Prop} (lg : LG w' q p f L' S') (hS : ∀ k, S' k → S k ∨ w.heap.size ≤ k) (m : Mod S w w') : JS w0 w' p q f d L' F S' := (h.gs.log lg hS m).js
theorem JS.mod0 (h : JS w0 w p q f d L F S) (m : Mod none' w w') : JS w0 w' p q f d L F S := (h.gs.mod0 m).js
end
def JT (w0 w' : World) (p q f : Nat) (d : Dk) (L : Lg) : Prop := ∃ F S, JS w0 w' p q f d L F S
theorem JS.jt {w0 w' : World} {p q f : Nat} {d : Dk} {L : Lg} {F : FP} {S : Nat → Prop} (h : JS w0 w' p q f d L F S) : JT w0 w' p q f d L := ⟨F, S, h⟩
theorem GT.js {w0 w' : World} {p q f : Nat} {d : Dk} {L : Lg} (h : GT (.of w0) w' p q f d L) : JT w0 w' p q f d L := by
  obtain ⟨F, S, h⟩ := h
  exact ⟨F, S, h.js⟩

section
variable {w w0 : World} {next : Value → World → Prop} {QP : List PanicEntry → World → Prop} {p q f : Nat} {d : Dk} {L : Lg} {F : FP} {S : Nat → Prop}
theorem append1_ (h : JS w0 w p q f d L F S) {row : Bytes} (hqn : d.queue.length + (formsB [row]).length ≤ 1000000000)
    (k : ∀ w', JT w0 w' p q f (addD' d L f [row]) (if addE d L f [row] = 0 then L.add [row] else L) → next (.int .i64 (addE d L f [row])) w') :
    callvK Try.prog (.func (.func 53) #[] #[]) [ptr q, str row] w next QP := gappend1_ h.gs hqn fun w' t => k w' t.js
theorem flushJ_ (h : JS w0 w p q f d L F S) (hqn : d.queue.length ≤ 1000000) (k : ∀ w', JT w0 w' p q f (flushJ d L f).1 (flushJ d L f).2.1 → next (.int .i64 (flushJ d L f).2.2) w') :
    callvK Try.prog (.func (.func 51) #[] #[]) [ptr q] w next QP := gflushJ_ h.gs hqn fun w' t => k w' t.js
theorem batch_ (h : JS w0 w p q f d L F S) {v : Value} {rows : List Bytes} {n : Nat} (hv : Sl w v 1 n (rows.map str)) (hvd : 0 < n → ∀ k, v.ownBlock = some k → ¬ F.R k) (hqn : d.queue.length + (formsB rows).length ≤ 1000000)
    (k : ∀ w', JT w0 w' p q f (batchJ d L f rows).1 (batchJ d L f rows).2.1 → next (.int .i64 (batchJ d L f rows).2.2) w') :
    callvK Try.prog (.func (.func 52) #[] #[]) [ptr q, v] w next QP := gbatch_ h.gs hv hvd hqn fun w' t => k w' t.js
theorem rewrite_ (h : JS w0 w p q f d L F S) (hf : f ≤ 6) {v : Value} {rows : List Bytes} {n : Nat} (hv : Sl w v 1 n (rows.map str)) (hvd : 0 < n → ∀ k, v.ownBlock = some k → ¬ F.R k ∧ k < w.heap.size) (hqn : d.queue.length + (formsB rows).length ≤ 100000)
    (k : ∀ w', JT w0 w' p q f (rewriteJ d L f rows).1 (rewriteJ d L f rows).2.1 → next (.int .i64 (rewriteJ d L f rows).2.2) w') :
    callvK Try.prog (.func (.func 49) #[] #[]) [ptr q, v] w next QP := grewrite_ h.gs hf hv hvd hqn fun w' t => k w' t.js
end
end Go.Proofs.Y

/- JI: Same, and the reference's reading of a file. -/
namespace Go.Proofs.Y
open Go Go.HL Go.Proofs

section
variable {w : World} {next : Value → World → Prop} {QP : List PanicEntry → World → Prop}

theorem str_inj {a b : Bytes} : (a = b) ↔ (str a = str b) := by
  constructor
  · rintro rfl; rfl
  · intro h
    simp only [str, Value.string.injEq, ByteArray.mk.injEq] at h
    simpa using h

theorem same__ {va vb : Value} {a b : List Bytes} {n m : Nat} (ha : Sl w va 1 n (a.map str)) (hb : Sl w vb 1 m (b.map str)) (hn : n ≤ 1000000000000) (k : ∀ w', Mod none' w w' → next (.bool (decide (a = b))) w') :
    callvK Try.prog (.func (.func 46) #[] #[]) [va, vb] w next QP := by
  refine r46 rfl ?_
  have han : a.length = n := by have := ha.len; simpa using this
  have hbm : b.length = m := by have := hb.len; simpa using this
  obtain ⟨aa, ac, rfl, -, hac⟩ := ha.form
  obtain ⟨ba, bc, rfl, -, hbc⟩ := hb.form
  unfold h46
  try simp only [go_sem]
  refine ⟨fun hl => ?_, fun hl => ?_⟩
  · have hl : ¬ a = b := by
      have h0 : ¬ (n : Int) = m := by simpa using hl
      rintro rfl; omega
    have := k w (Mod.refl _ _)
    rw [decide_eq_false hl] at this
    exact this
  · have hl : n = m := by
      have h0 : (n : Int) = m := by simpa using hl
      omega
    subst hl
    unfold h46_1
    try simp only [go_sem]
    refine loopN n (fun i τ w' => τ 0 = .slice aa n ac ∧ τ 1 = .slice ba n bc ∧ τ 5 = .int .i64 i ∧ Mod none' w w' ∧ a.take i = b.take i) ⟨0, by omega, rfl, rfl, rfl, Mod.refl _ _, by simp⟩ ?_
    rintro i τ w1 hi ⟨t0, t1, t5, m1, heq⟩
    unfold h46_2
    try simp only [go_sem, t0, t1, t5]
    refine ⟨fun hlt => ?_, fun hge => ?_⟩
    · have hin : i < n := by
        have : (i : Int) < n := by simpa using hlt
        omega
      obtain ⟨ga, oa, rfl, hca⟩ := hac (by omega)
      obtain ⟨gb, ob, rfl, hcb⟩ := hbc (by omega)
      have xa : w1.cell? ⟨ga, oa + i, none⟩ = some (str (a[i]'(by omega))) := by
        have h1 := hca i (by omega)
        rw [List.getElem?_map, List.getElem?_eq_getElem (by omega)] at h1
        exact m1.cell h1 fun h => h
      have xb : w1.cell? ⟨gb, ob + i, none⟩ = some (str (b[i]'(by omega))) := by
        have h1 := hcb i (by omega)
        rw [List.getElem?_map, List.getElem?_eq_getElem (by omega)] at h1
        exact m1.cell h1 fun h => h
      unfold h46_3
      try simp only [go_sem, t0, t1, t5, xa, xb]
      repeat refine ⟨⟨by omega, by omega⟩, ?_⟩
      refine ⟨fun hne => ?_, fun heq1 => ?_⟩
      · have hne : ¬ a[i]'(by omega) = b[i]'(by omega) := by simpa using hne
        have hab : ¬ a = b := by rintro rfl; exact hne rfl
        have := k _ (m1.trans' (Mod.drew none' w1))
        rw [decide_eq_false hab] at this
        exact this
      · have heq1 : a[i]'(by omega) = b[i]'(by omega) := by simpa using heq1
        unfold h46_4
        try simp only [go_sem, t0, t1, t5]
        rw [w64 (by omega) (by omega)]
        refine ⟨i + 1, by omega, by omega, rfl, m1.trans' (Mod.drew none' w1), ?_⟩
        rw [List.take_succ_eq_append_getElem (by omega), List.take_succ_eq_append_getElem (by omega), heq, heq1]
    · have hio : i = n := by
        have : ¬ (i : Int) < n := by simpa using hge
        omega
      subst hio
      rw [List.take_of_length_le (by omega), List.take_of_length_le (by omega)] at heq
      unfold h46_5
      try simp only [go_sem]
      have := k w1 m1
      rw [decide_eq_true heq] at this
      exact this

/-- the reference's checksum -/
theorem rcrc_ (s : List UInt8) (hs : s.length ≤ 1000000000000) (k : next (.int .i64 (crc s : Nat)) w) : callvK Try.prog (.func (.func 83) #[] #[]) [str s] w next QP := by
  refine r83 rfl ?_
  unfold h83
  try simp only [go_sem]
  refine loopN s.length (fun i τ w' => w' = w ∧ τ 0 = str s ∧ τ 3 = .int .i64 (crcFold 4294967295 (s.take i) : Nat) ∧ τ 4 = .int .i64 i) ⟨0, by omega, rfl, rfl, rfl, rfl⟩ ?_
  rintro i τ w1 hi ⟨rfl, t0, t3, t4⟩
  unfold h83_1
  try simp only [go_sem, t0, t3, t4]
  refine ⟨fun hlt => ?_, fun hge => ?_⟩
  · have hil : i < s.length := by
      have : (i : Int) < s.length := by simpa using hlt
      omega
    have hx := crcFold_lt (s.take i) 4294967295 (by decide)
    have hb := (s[i]).toNat_lt
    have hxb := xor_byte hx s[i]
    have hw1 : IntKind.i64.wrap ((s[i]).toNat : Int) = ((s[i]).toNat : Int) := by rw [w64 (by omega) (by omega)]
    unfold h83_2
    try simp only [go_sem, t0, t3, t4]
    repeat refine ⟨⟨by omega, by omega⟩, ?_⟩
    have hidx : s[i]?.getD 0 = s[i] := by simp [hil]
    rw [hidx, hw1, xor64 (by omega) (by omega)]
    try simp only [go_sem, t0, t3, t4]
    refine loopN 8 (fun j τ w' => w' = w1 ∧ τ 0 = str s ∧ τ 3 = .int .i64 (crcIt j (crcFold 4294967295 (s.take i) ^^^ (s[i]).toNat) : Nat) ∧ τ 4 = .int .i64 i ∧ τ 5 = .int .i64 j) ⟨0, by omega, rfl, t0, rfl, t4, rfl⟩ ?_
    rintro j τ w2 hj ⟨rfl, t0, t3, t4, t5⟩
    unfold h83_3
    try simp only [go_sem, t0, t3, t4, t5]
    refine ⟨fun hlt8 => ?_, fun hge8 => ?_⟩
    · have hj8 : j < 8 := by
        have : (j : Int) < 8 := by simpa using hlt8
        omega
      have hy := crcIt_lt j _ hxb
      have hst := crcIt_succ j (crcFold 4294967295 (s.take i) ^^^ (s[i]).toNat)
      generalize hyd : crcIt j (crcFold 4294967295 (s.take i) ^^^ (s[i]).toNat) = y at *
      have e1 : (y : Int).tmod 2 = ((y % 2 : Nat) : Int) := by rw [Int.tmod_eq_emod_of_nonneg (by omega)]; rfl
      have e2 : (y : Int).tdiv 2 = ((y / 2 : Nat) : Int) := by rw [Int.tdiv_eq_ediv_of_nonneg (by omega)]; rfl
      have e3 : IntKind.i64.wrap ((y / 2 : Nat) : Int) = ((y / 2 : Nat) : Int) := by rw [w64 (by omega) (by omega)]
      unfold h83_4
      try simp only [go_sem, t0, t3, t4, t5, e1, e2, e3]
      refine ⟨by decide, fun ho => ?_, fun ho => ?_⟩
      · have ho : y % 2 = 1 := by
          have : ((y % 2 : Nat) : Int) = 1 := by simpa using ho
          omega
        have hs1 : crcStep y = (y / 2) ^^^ 3988292384 := by simp [crcStep, ho]
        have hx64 := xor64 (a := y / 2) (b := 3988292384) (by omega) (by omega)
        rw [show ((3988292384 : Nat) : Int) = 3988292384 from rfl] at hx64
        refine ⟨by decide, ?_⟩
        unfold h83_5
        try simp only [go_sem, t0, t3, t4, t5, hx64]
        rw [w64 (by omega) (by omega)]
        exact ⟨j + 1, by omega, by omega, by rw [hst, hs1], rfl⟩
      · have ho : ¬ y % 2 = 1 := by
          have : ¬ ((y % 2 : Nat) : Int) = 1 := by simpa using ho
          omega
        have hs1 : crcStep y = y / 2 := by simp [crcStep, ho]
        refine ⟨by decide, ?_⟩
        unfold h83_5
        try simp only [go_sem, t0, t3, t4, t5]
        rw [w64 (by omega) (by omega)]
        exact ⟨j + 1, by omega, by omega, by rw [hst, hs1], rfl⟩
    · have hj8 : j = 8 := by
        have : ¬ (j : Int) < 8 := by simpa using hge8
        omega
      subst hj8
      unfold h83_6
      try simp only [go_sem, t0, t3, t4]
      rw [w64 (by omega) (by omega)]
      refine ⟨i + 1, by omega, by omega, ?_, rfl⟩
      rw [List.take_succ_eq_append_getElem hil]
      simp only [crcFold, List.foldl_append, List.foldl_cons, List.foldl_nil]
  · have hio : i = s.length := by
      have : ¬ (i : Int) < s.length := by simpa using hge
      omega
    subst hio
    rw [List.take_length] at t3
    have hl := crcFold_lt s 4294967295 (by decide)
    have hx := xor64 (a := crcFold 4294967295 s) (b := 4294967295) (by omega) (by omega)
    have hc : crcFold 4294967295 s ^^^ 4294967295 = crc s := by
      unfold crc
      have h1 : (BitVec.ofNat 32 (crcFold 4294967295 s) ^^^ BitVec.allOnes 32).toNat = 4294967295 - crcFold 4294967295 s := by
        rw [BitVec.xor_allOnes, BitVec.toNat_not, BitVec.toNat_ofNat, Nat.mod_eq_of_lt (show _ < 2 ^ 32 by omega)]
      rw [BitVec.toNat_xor, BitVec.toNat_ofNat, Nat.mod_eq_of_lt (show _ < 2 ^ 32 by omega)] at h1
      exact h1
    rw [show ((4294967295 : Nat) : Int) = 4294967295 from rfl, hc] at hx
    unfold h83_7
    try simp only [go_sem, t3, hx]
    exact k

/-- the number at an offset, if there is one -/
theorem rget_ (s : List UInt8) (hs : s.length ≤ 1000000000000) {a : Nat} (kn : s.length < 8 + a → next (.tuple #[.int .i64 0, .bool false]) w) (ks : 8 + a ≤ s.length → next (.tuple #[.int .i64 (val (s.drop a)), .bool true]) w) (ha : a ≤ 1000000000000) :
    callvK Try.prog (.func (.func 82) #[] #[]) [str s, .int .i64 a] w next QP := by
  refine r82 rfl ?_
  have hneg : decide ((a : Int) < 0) = false := by simp
  have e8 : IntKind.i64.wrap ((s.length : Int) - 8) = s.length - 8 := by rw [w64 (by omega) (by omega)]
  have ec : (if decide ((s.length : Int) < 8) = true then true else decide ((s.length : Int) - 8 < a)) = decide (s.length < 8 + a) := by
    by_cases h : (s.length : Int) < 8
    · simp only [h, decide_true, if_true]; symm; rw [decide_eq_true_eq]; omega
    · simp only [h, decide_false, Bool.false_eq_true, if_false]; congr 1; apply propext; omega
  unfold h82
  try simp only [go_sem, hneg, e8, ec]
  refine ⟨fun hb => kn (by simpa using hb), fun hb => ?_⟩
  have hb : 8 + a ≤ s.length := by
    have : ¬ s.length < 8 + a := by simpa using hb
    omega
  unfold h82_1
  try simp only [go_sem]
  refine loopN 8 (fun i τ w' => w' = w ∧ τ 0 = str s ∧ τ 1 = .int .i64 a ∧ τ 6 = .int .i64 (valFrom (s.drop a) i) ∧ τ 7 = .int .i64 (7 - i)) ⟨0, by omega, rfl, rfl, rfl, rfl, rfl⟩ ?_
  rintro i τ w1 hi ⟨rfl, t0, t1, t6, t7⟩
  unfold h82_2
  try simp only [go_sem, t0, t1, t6, t7]
  refine ⟨fun hge => ?_, fun hlt => ?_⟩
  · have hi8 : i < 8 := by
      have : (0 : Int) ≤ 7 - i := by simpa using hge
      omega
    have e1 : (7 - (i : Int)) = ((7 - i : Nat) : Int) := by omega
    have ea : IntKind.i64.wrap ((a : Int) + ((7 - i : Nat) : Int)) = ((a + (7 - i) : Nat) : Int) := by rw [w64 (by omega) (by omega)]; omega
    have hidx : s[a + (7 - i)]?.getD 0 = s[a + (7 - i)]'(by omega) := by rw [List.getElem?_eq_getElem (by omega)]; rfl
    have hb := (s[a + (7 - i)]'(by omega)).toNat_lt
    have hsh : (2 : Int) ^ (min 8 64) = 256 := by decide
    have hva : valAt (s.drop a) (7 - i) = (s[a + (7 - i)]'(by omega)).toNat := by simp only [valAt, List.getElem?_drop, hidx]
    have e9 : IntKind.i64.wrap (((7 - i : Nat) : Int) - 1) = 7 - ((i + 1 : Nat) : Int) := by rw [w64 (by omega) (by omega)]; omega
    unfold h82_3
    try simp only [go_sem, t0, t1, t6, t7, e1, ea, hidx, hsh]
    refine ⟨⟨by omega, by omega⟩, ?_⟩
    rw [w64 (x := ((s[a + (7 - i)]'(by omega)).toNat : Int)) (by omega) (by omega), or_byte _ _ (by omega)]
    unfold h82_4
    try simp only [go_sem, t0, t1, t7, e1, e9]
    refine ⟨i + 1, by omega, by omega, ?_, rfl⟩
    show Value.int .i64 _ = Value.int .i64 (wr (valFrom (s.drop a) i * 256 + valAt (s.drop a) (7 - i)))
    rw [hva]; rfl
  · have hi8 : i = 8 := by
      have : ¬ (0 : Int) ≤ 7 - i := by simpa using hlt
      omega
    subst hi8
    unfold h82_5
    try simp only [go_sem, t6]
    exact ks hb

theorem rrows_ (s : List UInt8) (hs : s.length ≤ 1000000000) (kn : openB s = none → ∀ w' v, Mod none' w w' → next (.tuple #[v, .bool false]) w')
    (ks : ∀ L, openB s = some L → ∀ v w', Mod none' w w' → Own w' v 9 1 L.rows.length (L.rows.map str) → (∀ k, v.ownBlock = some k → w.heap.size ≤ k) → next (.tuple #[v, .bool true]) w') :
    callvK Try.prog (.func (.func 45) #[] #[]) [str s] w next QP := by
  refine r45 rfl ?_
  have k0 : (s.length < 16 ∨ val s = 0) → next (.tuple #[.slice none 0 0, .bool true]) w := fun hc => ks ⟨[], 0, 16⟩ (by rw [openB, if_pos hc]) _ w (Mod.refl _ _) (Own.nil _ _ _) fun k hk => (nomatch (hk : none = some k))
  unfold h45
  try simp only [go_sem]
  refine rget_ s (by omega) (a := 0) (fun h => ?_) (fun h => ?_) (by omega)
  · try simp only [go_sem]
    refine rget_ s (by omega) (a := 8) (fun h8 => ?_) (fun h8 => by omega) (by omega)
    try simp only [go_sem]
    exact k0 (.inl (by omega))
  rw [List.drop_zero]
  try simp only [go_sem]
  refine rget_ s (by omega) (a := 8) (fun h8 => ?_) (fun h8 => ?_) (by omega)
  · try simp only [go_sem]
    exact k0 (.inl (by omega))
  try simp only [go_sem]
  refine ⟨fun h0 => ?_, fun h0 => ?_⟩
  · have h0 : val s = 0 := by simpa using h0
    exact k0 (.inr h0)
  have h0 : ¬ val s = 0 := by simpa using h0
  have hob : openB s = if val s < 16 ∨ (s.length : Int) < val s then none
      else match splitB ((s.take (val s).toNat).drop 16) with
        | none => none
        | some l => if (l.length : Int) = val (s.drop 8) then some ⟨l, l.length, (val s).toNat⟩ else none := by
    rw [openB, if_neg (by omega)]; try rfl
  clear k0
  have ec : (if decide (val s < 16) = true then true else decide ((s.length : Int) < val s)) = decide (val s < 16 ∨ (s.length : Int) < val s) := by
    by_cases h : val s < 16 <;> simp [h]
  unfold h45_1
  try simp only [go_sem, ec]
  refine ⟨fun hb => ?_, fun hb => ?_⟩
  · have hb : val s < 16 ∨ (s.length : Int) < val s := by simpa using hb
    exact kn (by rw [hob, if_pos hb]) w _ (Mod.refl _ _)
  have hb : ¬ (val s < 16 ∨ (s.length : Int) < val s) := by simpa using hb
  rw [if_neg hb] at hob
  obtain ⟨x, hx⟩ := Int.eq_ofNat_of_zero_le (show 0 ≤ val s by omega)
  rw [hx] at hob hb
  simp only [Int.toNat_natCast] at hob
  have htl : (s.take x).length = x := by rw [List.length_take]; omega
  unfold h45_2
  try simp only [go_sem, hx]
  refine loopN x (fun a τ w' => τ 0 = str s ∧ τ 4 = .int .i64 x ∧ τ 6 = .int .i64 (val (s.drop 8)) ∧ τ 9 = .int .i64 a ∧ 16 ≤ a ∧ Mod none' w w' ∧ ∃ (l : List Bytes) (v : Value), τ 8 = v ∧ l.length ≤ a ∧ splitB ((s.take x).drop 16) = (splitB ((s.take x).drop a)).map (fun m => l ++ m) ∧ Own w' v 9 1 l.length (l.map str) ∧ (∀ k, v.ownBlock = some k → w.heap.size ≤ k))
    ⟨16, by omega, rfl, rfl, rfl, rfl, Nat.le_refl _, Mod.refl _ _, [], .slice none 0 0, rfl, by simp, by simp, Own.nil _ _ _, fun k hk => (nomatch (hk : none = some k))⟩ ?_
  rintro a τ w1 hax ⟨t0, t4, t6, t9, h16, m1, l, v, t8, hla, hsp, hv, hvn⟩
  unfold h45_3
  try simp only [go_sem, t0, t4, t6, t8, t9]
  refine ⟨fun hlt => ?_, fun hge => ?_⟩
  · have hlt : a < x := by
      have : (a : Int) < x := by simpa using hlt
      omega
    have hrl : ((s.take x).drop a).length = x - a := by rw [List.length_drop, htl]
    have hrne : (s.take x).drop a ≠ [] := by intro h; rw [h] at hrl; simp at hrl; omega
    have hsx : splitB ((s.take x).drop a) = if x - a < 16 then none else if val ((s.take x).drop a) < 0 ∨ ((x - a - 16 : Nat) : Int) < val ((s.take x).drop a) then none
        else if (crc ((((s.take x).drop a).drop 16).take (val ((s.take x).drop a)).toNat) : Int) ≠ val (((s.take x).drop a).drop 8) then none
        else (splitB ((((s.take x).drop a).drop 16).drop (val ((s.take x).drop a)).toNat)).map fun l => (((s.take x).drop a).drop 16).take (val ((s.take x).drop a)).toNat :: l := by
      rw [splitB]
      simp only [hrne, dif_neg, not_false_eq_true, hrl, List.length_drop, htl]
      by_cases h : x - a < 16
      · simp [h]
      · simp [h]
    have e8 : IntKind.i64.wrap ((a : Int) + 8) = ((a + 8 : Nat) : Int) := by rw [w64 (by omega) (by omega)]; rfl
    have bad : splitB ((s.take x).drop a) = none → openB s = none := by
      intro h; rw [hob, hsp, h]; rfl
    unfold h45_4
    try simp only [go_sem, t0, t4, t6, t8, t9]
    refine ⟨⟨by omega, by omega⟩, ?_⟩
    refine rget_ (s.take x) (by omega) (a := a) (fun h1 => ?_) (fun h1 => ?_) (by omega)
    · rw [htl] at h1
      try simp only [go_sem, t0, t4, t6, t8, t9, e8]
      refine ⟨⟨by omega, by omega⟩, ?_⟩
      refine rget_ (s.take x) (by omega) (a := a + 8) (fun h2 => ?_) (fun h2 => by rw [htl] at h2; omega) (by omega)
      try simp only [go_sem, t0, t4, t6, t8, t9]
      exact kn (bad (by rw [hsx, if_pos (by omega)])) _ _ m1
    rw [htl] at h1
    try simp only [go_sem, t0, t4, t6, t8, t9, e8]
    refine ⟨⟨by omega, by omega⟩, ?_⟩
    refine rget_ (s.take x) (by omega) (a := a + 8) (fun h2 => ?_) (fun h2 => ?_) (by omega)
    · rw [htl] at h2
      try simp only [go_sem, t0, t4, t6, t8, t9]
      exact kn (bad (by rw [hsx, if_pos (by omega)])) _ _ m1
    rw [htl] at h2
    rw [if_neg (show ¬ x - a < 16 by omega), List.drop_drop, List.drop_drop] at hsx
    generalize hn : val ((s.take x).drop a) = nn at *
    generalize hsum : val ((s.take x).drop (a + 8)) = sum at *
    have e16 : IntKind.i64.wrap ((a : Int) + 16) = ((a + 16 : Nat) : Int) := by rw [w64 (by omega) (by omega)]; rfl
    have ecb : (if (if decide (nn < 0) = true then true else decide ((x : Int) < nn)) = true then true else decide ((x : Int) < IntKind.i64.wrap (((a + 16 : Nat) : Int) + nn))) = decide (nn < 0 ∨ ((x - a - 16 : Nat) : Int) < nn) := by
      by_cases c1 : nn < 0
      · simp [c1]
      · by_cases c2 : (x : Int) < nn
        · simp only [c1, c2, decide_true, decide_false, Bool.false_eq_true, if_false, if_true, false_or]; symm; rw [decide_eq_true_eq]; omega
        · rw [w64 (by omega) (by omega)]
          simp only [c1, c2, decide_false, Bool.false_eq_true, if_false, false_or]; congr 1; apply propext; omega
    try simp only [go_sem, t0, t4, t6, t8, t9, e16, ecb]
    refine ⟨fun hbad => ?_, fun hbad => ?_⟩
    · have hbad : nn < 0 ∨ ((x - a - 16 : Nat) : Int) < nn := by simpa using hbad
      exact kn (bad (by rw [hsx, if_pos hbad])) _ _ m1
    have hbad : ¬ (nn < 0 ∨ ((x - a - 16 : Nat) : Int) < nn) := by simpa using hbad
    rw [if_neg hbad] at hsx
    obtain ⟨y, rfl⟩ := Int.eq_ofNat_of_zero_le (show 0 ≤ nn by omega)
    simp only [Int.toNat_natCast, List.drop_drop] at hsx
    have e17 : IntKind.i64.wrap (((a + 16 : Nat) : Int) + y) = ((a + 16 + y : Nat) : Int) := by rw [w64 (by omega) (by omega)]; rfl
    have hrow : ((s.take x).drop (a + 16)).take y = (s.drop (a + 16)).take y := by rw [List.drop_take, List.take_take, Nat.min_eq_left (by omega)]
    rw [hrow] at hsx
    unfold h45_5
    try simp only [go_sem, t0, t4, t6, t8, t9, e16, e17]
    refine ⟨⟨⟨by omega, by omega⟩, by omega, by omega⟩, ?_⟩
    rw [show a + 16 + y - (a + 16) = y by omega]
    have hyl : ((s.drop (a + 16)).take y).length = y := by rw [List.length_take, List.length_drop]; omega
    refine rcrc_ _ (by omega) ?_
    try simp only [go_sem, t0, t4, t6, t8, t9]
    refine ⟨fun hc => ?_, fun hc => ?_⟩
    · have hc : ¬ (crc ((s.drop (a + 16)).take y) : Int) = sum := by simpa using hc
      exact kn (bad (by rw [hsx, if_pos hc])) _ _ m1
    have hc : (crc ((s.drop (a + 16)).take y) : Int) = sum := by simpa using hc
    rw [if_neg (fun h => h hc)] at hsx
    unfold h45_6
    try simp only [go_sem, t0, t4, t6, t8, t9]
    refine bsl1 sl40 (cs := [str ((s.drop (a + 16)).take y)]) rfl rfl (by omega) ?_
    intro b2 w2 hb2 own2 _ m2 _
    refine append_ sl40 (hv.mod m2 fun _ _ h => h) own2.sl (by intro u hu; rw [List.mem_singleton.1 hu]; rfl) (by omega) (by unfold maxLen; omega) ?_
    intro v3 w3 own3 m3 hb3 _
    have m12 := m1.trans' m2
    try simp only [go_sem, t0, t4, t6, t8, t9, e16, e17]
    refine ⟨a + 16 + y, by omega, by omega, rfl, by omega, m12.trans m3 fun k hk hS => ?_, l ++ [(s.drop (a + 16)).take y], v3, rfl, by simp; omega, ?_, ?_, ?_⟩
    · have := hvn k hS; omega
    · rw [hsp, hsx, Option.map_map]; congr 1; funext m; simp
    · have : (l ++ [(s.drop (a + 16)).take y]).map str = l.map str ++ [str ((s.drop (a + 16)).take y)] := by simp
      rw [this, List.length_append]; exact own3
    · intro k hk
      rcases hb3 k hk with h' | h'
      · exact hvn k h'
      · have := m12.size; omega
  · have hio : a = x := by
      have : ¬ (a : Int) < x := by simpa using hge
      omega
    subst hio
    have hd : (s.take a).drop a = [] := List.eq_nil_of_length_eq_zero (by rw [List.length_drop, htl]; omega)
    have hsn : splitB ((s.take a).drop 16) = some l := by rw [hsp, hd, splitB]; simp
    rw [hsn] at hob
    simp only at hob
    obtain ⟨va, vc, rfl, -, -⟩ := hv.form
    unfold h45_7
    try simp only [go_sem, t6, t8]
    cases hl : decide ((l.length : Int) = val (s.drop 8)) with
    | true =>
      have hl' : (l.length : Int) = val (s.drop 8) := by simpa using hl
      rw [if_pos hl'] at hob
      exact ks _ hob _ _ m1 hv hvn
    | false =>
      have hl' : ¬ (l.length : Int) = val (s.drop 8) := by simpa using hl
      rw [if_neg hl'] at hob
      exact kn hob _ _ m1
end
end Go.Proofs.Y

/- RA: plain laws for the reference's disk: files out of the durable parts and what is pending. -/
namespace Go.Proofs.Y
open Go Go.HL

/-- the pending writes laid over a file -/
def putAll (s : Bytes) : List Pd → Nat → Bytes
  | [], _ => s
  | p :: q, f => putAll (if p.file = f then put s p.at_ p.bytes else s) q f
def Sync (d : Dk) : Prop := ∀ f, f < 12 → d.file f = putAll (d.last f) d.queue f

theorem putAll_app {f : Nat} : ∀ (q r : List Pd) (s : Bytes), putAll s (q ++ r) f = putAll (putAll s q f) r f
  | [], _, _ => rfl
  | p :: q, r, s => by simp only [List.cons_append, putAll, putAll_app q r]
theorem putAll_other {f : Nat} : ∀ (q : List Pd) (s : Bytes), (∀ p ∈ q, p.file ≠ f) → putAll s q f = s
  | [], _, _ => rfl
  | p :: q, s, h => by
    simp only [putAll]
    rw [if_neg (h p (by simp)), putAll_other q s fun p hp => h p (by simp [hp])]
theorem putAll_filter {f g : Nat} (h : g ≠ f) : ∀ (q : List Pd) (s : Bytes), putAll s (q.filter fun p => !decide (p.file = f)) g = putAll s q g
  | [], _ => rfl
  | p :: q, s => by
    by_cases hp : p.file = f
    · rw [List.filter_cons_of_neg (by simp [hp]), putAll_filter h q]
      simp only [putAll]
      rw [if_neg (by omega)]
    · rw [List.filter_cons_of_pos (by simp [hp])]
      simp only [putAll, putAll_filter h q]
theorem putAll_le {f : Nat} {N : Nat} : ∀ (q : List Pd) (s : Bytes), s.length ≤ N → (∀ p ∈ q, p.at_ + p.bytes.length ≤ N) → (putAll s q f).length ≤ N
  | [], _, hs, _ => hs
  | p :: q, s, hs, h => by
    simp only [putAll]
    refine putAll_le q _ ?_ fun p hp => h p (by simp [hp])
    split
    · rw [put_len]; have := h p (by simp); omega
    · exact hs

theorem put_at (s : Bytes) (o : Nat) (t : Bytes) (i : Nat) : (put s o t)[i]? = if o ≤ i ∧ i < o + t.length then t[i - o]? else if i < s.length then s[i]? else if i < o + t.length then some 0 else none := by
  unfold put lay
  have hlen : (s ++ List.replicate (max s.length (o + t.length) - s.length) (0 : UInt8)).length = max s.length (o + t.length) := by rw [List.length_append, List.length_replicate]; omega
  have hz : ∀ j, (s ++ List.replicate (max s.length (o + t.length) - s.length) (0 : UInt8))[j]? = if j < s.length then s[j]? else if j < o + t.length then some 0 else none := by
    intro j
    by_cases hj : j < s.length
    · rw [List.getElem?_append_left hj, if_pos hj]
    · rw [List.getElem?_append_right (by omega), if_neg hj, List.getElem?_replicate]
      by_cases h2 : j < o + t.length
      · rw [if_pos (by omega), if_pos h2]
      · rw [if_neg (by omega), if_neg h2]
  generalize s ++ List.replicate (max s.length (o + t.length) - s.length) (0 : UInt8) = z at hz hlen
  have hto : (z.take o).length = o := by rw [List.length_take]; omega
  rw [List.append_assoc]
  by_cases h1 : i < o
  · have hn : ¬ (o ≤ i ∧ i < o + t.length) := by omega
    rw [List.getElem?_append_left (by omega), List.getElem?_take_of_lt h1, hz, if_neg hn]
  · rw [List.getElem?_append_right (by omega), hto]
    by_cases h2 : i - o < t.length
    · rw [List.getElem?_append_left h2, if_pos (by omega)]
    · have hn : ¬ (o ≤ i ∧ i < o + t.length) := by omega
      rw [List.getElem?_append_right (by omega), List.getElem?_drop, show o + t.length + (i - o - t.length) = i by omega, hz, if_neg hn]

theorem put_put (s : Bytes) (a : Nat) (x y : Bytes) (hy : y ≠ []) : put (put s a x) (a + x.length) y = put s a (x ++ y) := by
  have hy' : 0 < y.length := List.length_pos_iff.2 hy
  apply List.ext_getElem?
  intro i
  simp only [put_at, put_len, List.length_append]
  repeat' split
  all_goals first
    | rfl
    | (exfalso; omega)
    | (rw [List.getElem?_append_right (by omega)]; congr 1; omega)
    | rw [List.getElem?_append_left (by omega)]

theorem putAll_pieces {f : Nat} : ∀ (n a : Nat) (t s : Bytes), t ≠ [] → t.length ≤ n → putAll s (pieces f n a t) f = put s a t
  | 0, _, t, _, h, hn => absurd (List.eq_nil_of_length_eq_zero (by omega)) h
  | n + 1, a, t, s, h, hn => by
    have h0 : 0 < t.length := List.length_pos_iff.2 h
    have hp := piece_pos (a := a) h0
    have hl := piece_le (n := t.length) (a := a)
    simp only [pieces, if_neg h, putAll, if_true]
    generalize piece t.length a = k at hp hl
    by_cases hd : t.drop k = []
    · have hk : k = t.length := by have := congrArg List.length hd; simp at this; omega
      rw [hd, pieces_none, hk, List.take_length]; rfl
    · rw [putAll_pieces n (a + k) (t.drop k) _ hd (by simp; omega)]
      have := put_put s a (t.take k) (t.drop k) hd
      rw [List.take_append_drop, List.length_take, Nat.min_eq_left hl] at this
      exact this

section
variable {d : Dk}
theorem Sync.writeD (h : Sync d) (ok : d.OK) (f a : Int) (s : Bytes) : Sync (d.writeD f a s) := by
  unfold Dk.writeD
  split
  · exact h
  · rename_i hc
    have hs : s ≠ [] := fun e => hc (.inr e)
    intro g hg
    have hb := h g hg
    show (d.files.set f.toNat _).getD g [] = putAll (d.last g) (d.queue ++ _) g
    rw [putAll_app, ← hb]
    by_cases hgf : g = f.toNat
    · subst hgf
      rw [putAll_pieces _ _ _ _ hs (Nat.le_refl _)]
      simp [ok.nf, hg]
    · rw [putAll_other _ _ fun p hp => by rw [pieces_file _ _ _ _ p hp]; exact fun e => hgf e.symm]
      simp [List.getElem?_set_ne (Ne.symm hgf), Dk.file]
theorem Sync.settle (h : Sync d) (ok : d.OK) {f : Nat} (hf : f < 12) (s : Bytes) : Sync (d.settle f s) := by
  intro g hg
  by_cases hgf : g = f
  · subst hgf
    have : (d.settle g s).file g = s := by simp [Dk.settle, Dk.file, ok.nf, hg]
    rw [this, putAll_other]
    · simp [Dk.settle, Dk.last, ok.nl, hg]
    · intro p hp
      have := (List.mem_filter.1 hp).2
      simpa using this
  · have e1 : (d.settle f s).file g = d.file g := by simp [Dk.settle, Dk.file, List.getElem?_set_ne (Ne.symm hgf)]
    have e2 : (d.settle f s).last g = d.last g := by simp [Dk.settle, Dk.last, List.getElem?_set_ne (Ne.symm hgf)]
    rw [e1, e2, h g hg]
    exact (putAll_filter hgf _ _).symm
theorem Sync.crash (h : Sync d) (ks : List Int) : Sync (d.crash ks) := by
  unfold Dk.crash
  split
  · exact h
  · intro g _; rfl
theorem Sync.tick (h : Sync d) : Sync d.tick := by unfold Dk.tick; split <;> exact h
theorem Sync.endW (h : Sync d) (e : Bool) : Sync (Dk.endW e d) := by unfold Dk.endW; split; exact h.crash _; exact h
theorem Sync.new : Sync Dk.new := by
  intro f hf
  rfl

/-- a file behind a crash, worked out alone -/
def survF (s : Bytes) : List Pd → List Int → Nat → Bytes
  | [], _, _ => s
  | p :: q, ks, f => survF (if p.file = f then (match kept ks[0]? p.bytes with | none => s | some b => put s p.at_ b) else s) q ks.tail f
theorem survF_eq {f : Nat} (hf : f < 12) : ∀ (q : List Pd) (lasts : List Bytes) (ks : List Int), lasts.length = 12 → (survs lasts q ks).getD f [] = survF (lasts.getD f []) q ks f
  | [], _, _, _ => rfl
  | p :: q, lasts, ks, hl => by
    simp only [survs, survF]
    rw [survF_eq hf q _ _ (by rw [surv_len]; exact hl)]
    congr 1
    unfold surv
    by_cases hp : p.file = f
    · subst hp
      rw [if_pos rfl]
      split <;> rename_i hk <;> simp only [hk]
      simp [hl, hf]
    · rw [if_neg hp]
      split
      · rfl
      · simp [List.getElem?_set_ne hp]
theorem survF_snoc {f : Nat} (p : Pd) : ∀ (q : List Pd) (s : Bytes) (ks : List Int), survF s (q ++ [p]) ks f = (if p.file = f then (match kept ks[q.length]? p.bytes with | none => survF s q ks f | some b => put (survF s q ks f) p.at_ b) else survF s q ks f)
  | [], s, ks => rfl
  | x :: q, s, ks => by
    simp only [List.cons_append, survF, survF_snoc p q, List.length_cons]
    cases ks <;> simp
theorem survF_le {f N : Nat} : ∀ (q : List Pd) (s : Bytes) (ks : List Int), s.length ≤ N → (∀ p ∈ q, p.at_ + p.bytes.length ≤ N) → (survF s q ks f).length ≤ N
  | [], _, _, hs, _ => hs
  | p :: q, s, ks, hs, h => by
    simp only [survF]
    refine survF_le q _ _ ?_ fun p hp => h p (by simp [hp])
    split
    · have := h p (by simp)
      split
      · exact hs
      · rename_i b hb
        have := kept_le hb
        rw [put_len]; omega
    · exact hs
end
end Go.Proofs.Y

/- JK: plain laws of the journal: what a file of rows is read as; the disk at rest. -/
namespace Go.Proofs.Y
open Go Go.HL

theorem val_form (r : Bytes) (hr : r.length ≤ 1000000000000) (t : Bytes) : val (formB r ++ t) = r.length := by
  unfold formB
  rw [List.append_assoc, List.append_assoc]
  exact val_num (by omega) (by omega) _
theorem val_form8 (r : Bytes) (t : Bytes) : val ((formB r ++ t).drop 8) = (crc r : Nat) := by
  have hc := crc_lt r
  unfold formB
  rw [List.append_assoc, List.append_assoc, List.drop_append_of_le_length (by rw [num_len]; exact Nat.le_refl _), List.drop_of_length_le (by rw [num_len]; exact Nat.le_refl _), List.nil_append]
  exact val_num (by omega) (by omega) _
theorem drop_form (r t : Bytes) : (formB r ++ t).drop 16 = r ++ t := by
  unfold formB
  have : (num r.length ++ num (crc r : Nat) ++ r ++ t) = (num r.length ++ num (crc r : Nat)) ++ (r ++ t) := by simp
  rw [this, List.drop_append_of_le_length (by simp [num_len]), List.drop_of_length_le (by simp [num_len]), List.nil_append]

theorem splitB_forms : ∀ l : List Bytes, (formsB l).length ≤ 1000000000000 → splitB (formsB l) = some l
  | [], _ => by rw [splitB]; simp [formsB]
  | r :: l, h => by
    have e : formsB (r :: l) = formB r ++ formsB l := rfl
    have hl := formB_len r
    have hlen : (formsB (r :: l)).length = 16 + r.length + (formsB l).length := by rw [e, List.length_append, hl]
    have ih := splitB_forms l (by omega)
    have hne : formB r ++ formsB l ≠ [] := by intro h; have := congrArg List.length h; simp [hl] at this
    rw [e, splitB, dif_neg hne, dif_neg (by rw [List.length_append, hl]; omega), val_form r (by omega), drop_form, val_form8, Int.toNat_natCast]
    have h1 : ¬ (((r.length : Nat) : Int) < 0 ∨ ((r ++ formsB l).length : Int) < ((r.length : Nat) : Int)) := by rw [List.length_append]; omega
    rw [if_neg h1, List.take_left, List.drop_left, if_neg (by simp), ih]
    rfl

/-- a file that is read as these rows, whose end is e -/
inductive Core : Bytes → List Bytes → Nat → Prop
  | nil : Core [] [] 16
  | zero (t : Bytes) : Core (List.replicate 16 0 ++ t) [] 16
  | full (rows : List Bytes) (t : Bytes) : Core (header (16 + (formsB rows).length : Nat) rows.length ++ formsB rows ++ t) rows (16 + (formsB rows).length)

theorem val_zero (t : Bytes) : val (List.replicate 16 0 ++ t) = 0 := by
  have h : ∀ i, i < 8 → valAt (List.replicate 16 (0 : UInt8) ++ t) i = 0 := by
    intro i hi
    unfold valAt
    rw [List.getElem?_append_left (by simp; omega), List.getElem?_replicate, if_pos (by omega)]; rfl
  have hw : wr 0 = 0 := by rw [wr, wrap_i64]; rfl
  have key : ∀ k, k ≤ 8 → valFrom (List.replicate 16 (0 : UInt8) ++ t) k = 0 := by
    intro k
    induction k with
    | zero => intro _; rfl
    | succ k ih =>
      intro hk
      show wr (valFrom _ k * 256 + valAt _ (7 - k)) = 0
      rw [ih (by omega), h (7 - k) (by omega)]; exact hw
  exact key 8 (Nat.le_refl _)
theorem Core.end_le {s : Bytes} {rows : List Bytes} {e : Nat} (h : Core s rows e) : s = [] ∨ e ≤ s.length := by
  cases h with
  | nil => exact .inl rfl
  | zero t => right; simp
  | full rows t => right; simp [header_len]
theorem Core.endE {s : Bytes} {rows : List Bytes} {e : Nat} (h : Core s rows e) : e = 16 + (formsB rows).length := by
  cases h with
  | nil => rfl
  | zero t => rfl
  | full rows t => rfl
theorem openB_core {s : Bytes} {rows : List Bytes} {e : Nat} (h : Core s rows e) (hs : s.length ≤ 1000000000) : openB s = some ⟨rows, rows.length, e⟩ := by
  cases h with
  | nil => rw [openB, if_pos (.inl (by simp))]; rfl
  | zero t => rw [openB, if_pos (.inr (val_zero t))]; rfl
  | full rows t =>
    have hh := header_len (16 + (formsB rows).length : Nat) rows.length
    have hfr := formsB_rows rows
    simp only [List.length_append, hh] at hs
    have hv : val (header (16 + (formsB rows).length : Nat) rows.length ++ formsB rows ++ t) = ((16 + (formsB rows).length : Nat) : Int) := by
      unfold header
      rw [List.append_assoc, List.append_assoc]
      exact val_num (by omega) (by omega) _
    have hv8 : val ((header (16 + (formsB rows).length : Nat) rows.length ++ formsB rows ++ t).drop 8) = (rows.length : Int) := by
      unfold header
      rw [List.append_assoc, List.append_assoc, List.drop_append_of_le_length (by rw [num_len]; exact Nat.le_refl _), List.drop_of_length_le (by rw [num_len]; exact Nat.le_refl _), List.nil_append]
      exact val_num (by omega) (by omega) _
    have hlen : (header (16 + (formsB rows).length : Nat) rows.length ++ formsB rows ++ t).length = 16 + (formsB rows).length + t.length := by simp only [List.length_append, hh]
    have ht : ((header (16 + (formsB rows).length : Nat) rows.length ++ formsB rows ++ t).take (16 + (formsB rows).length)).drop 16 = formsB rows := by
      rw [List.take_append_of_le_length (by rw [List.length_append, hh]; omega), List.take_of_length_le (by rw [List.length_append, hh]; omega), List.drop_append_of_le_length (by rw [hh]; omega), List.drop_of_length_le (by rw [hh]; omega), List.nil_append]
    rw [openB, if_neg (by rw [hlen, hv]; omega), hv, hlen, if_neg (by omega), Int.toNat_natCast, ht, splitB_forms rows (by omega), hv8]
    simp

theorem put_append (u t x : Bytes) {o : Nat} (h : u.length ≤ o) : put (u ++ t) o x = u ++ put t (o - u.length) x := by
  apply List.ext_getElem?
  intro i
  rw [put_at, List.length_append]
  by_cases hi : i < u.length
  · rw [List.getElem?_append_left hi, if_neg (by omega), if_pos (by omega), List.getElem?_append_left hi]
  · simp only [List.getElem?_append_right (show u.length ≤ i by omega)]
    rw [put_at]
    repeat' split
    all_goals first
      | rfl
      | (exfalso; omega)
      | (congr 1; omega)
theorem put_nil_at (o : Nat) (x : Bytes) (h : 16 ≤ o) : ∃ t, put [] o x = List.replicate 16 0 ++ t := by
  refine ⟨put [] (o - 16) x, ?_⟩
  apply List.ext_getElem?
  intro i
  rw [put_at]
  by_cases hi : i < 16
  · rw [List.getElem?_append_left (by simpa using hi), if_neg (by omega), if_neg (by simp), if_pos (by omega), List.getElem?_replicate, if_pos hi]
  · rw [List.getElem?_append_right (by simpa using hi), put_at]
    simp only [List.length_replicate, List.length_nil, Nat.not_lt_zero, if_false]
    repeat' split
    all_goals first
      | rfl
      | (exfalso; omega)
      | (congr 1; omega)

/-- what is written behind the end does not matter -/
theorem Core.put {s : Bytes} {rows : List Bytes} {e : Nat} (h : Core s rows e) {o : Nat} (ho : e ≤ o) (x : Bytes) : Core (put s o x) rows e := by
  cases h with
  | nil => obtain ⟨t, ht⟩ := put_nil_at o x ho; rw [ht]; exact .zero t
  | zero t => rw [put_append _ _ _ (by simpa using ho)]; exact .zero _
  | full rows t => rw [put_append _ _ _ (by simp only [List.length_append, header_len]; exact ho)]; exact .full rows _
/-- a header over rows that are there -/
theorem Core.head {u t : Bytes} {rows : List Bytes} (hu : u.length = 16) : Core (Y.put (u ++ formsB rows ++ t) 0 (header (16 + (formsB rows).length : Nat) rows.length)) rows (16 + (formsB rows).length) := by
  have hh := header_len (16 + (formsB rows).length : Nat) rows.length
  have e : Y.put (u ++ formsB rows ++ t) 0 (header (16 + (formsB rows).length : Nat) rows.length) = header (16 + (formsB rows).length : Nat) rows.length ++ formsB rows ++ t := by
    apply List.ext_getElem?
    intro i
    rw [put_at, hh, List.append_assoc, List.append_assoc]
    by_cases hi : i < 16
    · rw [if_pos (by omega), List.getElem?_append_left (by rw [hh]; exact hi)]; rfl
    · have h1 : u.length ≤ i := by omega
      have h2 : (header (16 + (formsB rows).length : Nat) rows.length).length ≤ i := by omega
      rw [if_neg (by omega)]
      simp only [List.getElem?_append_right h1, List.getElem?_append_right h2, hh, hu, List.length_append]
      split
      · rfl
      · symm; exact List.getElem?_eq_none (by rw [List.length_append]; omega)
  rw [e]; exact .full rows t
end Go.Proofs.Y

/- JL: the journal's small example. -/
namespace Go.Proofs.Y
open Go Go.HL Go.Proofs

theorem JS.opened {w0 w w' : World} {p q g : Nat} {d : Dk} {L : Lg} {F : FP} {S : Nat → Prop} (dr : DR w p d F) (f0 : ∀ k, F.R k → w0.heap.size ≤ k) (m : Mod none' w0 w) (lg : LG w' q p g L S) (hS : ∀ k, S k → w.heap.size ≤ k) (m' : Mod none' w w') : JS w0 w' p q g d L F S := by
  have hs := m.size
  exact ⟨dr.mod0 m', lg, fun k hk hS' => by have := dr.lt k hk; have := hS k hS'; omega, f0, fun k hk => by have := hS k hk; omega, m.trans' m'⟩

/-! ### the example's states -/
def L0 : Lg := ⟨[], 0, 16⟩
def dA : Dk := addD' Dk.new L0 2 [[97]]
def LA : Lg := L0.add [[97]]
def dB : Dk := (flushJ dA LA 2).1
def LB : Lg := ⟨[[97]], 1, 33⟩
def dC : Dk := addD' dB LB 2 [[98]]
def dD : Dk := (dC.crash []).start
def dE : Dk := (rewr dD 2 [[98], [99]]).1
def dF : Dk := (dE.crash []).start
theorem xA : addE Dk.new L0 2 [[97]] = 0 := by decide +kernel
theorem xB : (flushJ dA LA 2).2.2 = 0 := by decide +kernel
theorem xB2 : (flushJ dA LA 2).2.1 = LB := by
  have h1 : ¬ LA.sure = LA.rows.length := by decide
  have h2 : (flush3 dA LA 2).2 = 0 := by decide +kernel
  rw [flushJ, if_neg h1]
  simp only [h2, if_true]
  rfl
theorem xC : addE dB LB 2 [[98]] = 0 := by decide +kernel
theorem xD0 : dD.may [2] = 0 := by decide +kernel
theorem xD : dD.file 2 = header (16 + (formsB [[97]]).length : Nat) ([[97]] : List Bytes).length ++ formsB [[97]] ++ [] := by decide +kernel
theorem xDo : openB (dD.file 2) = some ⟨[[97]], 1, 33⟩ := by
  have h := openB_core (Core.full [[97]] []) (by decide +kernel)
  rw [← xD] at h
  have e : 16 + (formsB [[97]]).length = 33 := by decide +kernel
  rw [h, e]; rfl
theorem xE : (rewr dD 2 [[98], [99]]).2 = 0 := by decide +kernel
theorem xF0 : dF.may [2] = 0 := by decide +kernel
theorem xF : dF.file 2 = header (16 + (formsB [[98], [99]]).length : Nat) ([[98], [99]] : List Bytes).length ++ formsB [[98], [99]] ++ [] := by decide +kernel
theorem xFo : openB (dF.file 2) = some ⟨[[98], [99]], 2, 50⟩ := by
  have h := openB_core (Core.full [[98], [99]] []) (by decide +kernel)
  rw [← xF] at h
  have e : 16 + (formsB [[98], [99]]).length = 50 := by decide +kernel
  rw [h, e]; rfl

theorem St.reopen {w0 w w' : World} {p q f : Nat} {d d' : Dk} {L : Lg} {F : FP} {S : Nat → Prop} (h : JS w0 w p q f d L F S) (st : St F w w' p d') : ∃ F', DR w' p d' F' ∧ (∀ k, F'.R k → w0.heap.size ≤ k) ∧ Mod none' w0 w' := ⟨_, (h.disk st).dr, (h.disk st).f0, (h.disk st).m⟩

section
variable {w : World} {next : Value → World → Prop} {QP : List PanicEntry → World → Prop}

theorem jsmall5 {w1 : World} {p q : Nat} {L : Lg} {σ : Env} (h : JT w w1 p q 2 dF ⟨[[98], [99]], 2, 50⟩) (s2 : σ 4 = .int .i64 0) (s5 : σ 5 = .int .i64 0) (s6 : σ 6 = .int .i64 0) (s7 : σ 7 = .int .i64 1) (s10 : σ 10 = .bool true) (s11 : σ 11 = .int .i64 0) (s12 : σ 12 = ptr q) (k : ∀ w', Mod none' w w' → next (.bool true) w') :
    hw Try.prog noPanic h43_5 (endV [.tmp 0] next) σ w1 := by
  obtain ⟨F, S, h⟩ := h
  unfold h43_5
  try simp only [go_sem, s2, s5, s6, s7, s10, s11, s12]
  refine jall_ h.lg ?_
  intro v2 w2 own2 m2 _
  try simp only [go_sem, s2, s5, s6, s7, s10, s11, s12]
  refine bsl2 sl40 rfl rfl ?_
  intro b3 w3 _ own3 _ m3 _
  refine same__ (a := [[98], [99]]) (b := [[98], [99]]) (n := 2) (m := 2) (own2.sl.mod m3 fun _ _ h => h) own3.sl (by omega) ?_
  intro w4 m4
  have h4 := ((h.mod0 m2).mod0 m3).mod0 m4
  try simp only [go_sem, s2, s5, s6, s7, s10, s11, s12]
  refine jsure_ h4.lg ?_
  try simp only [go_sem]
  exact k _ h4.m

theorem jsmall3 {w1 : World} {p q : Nat} {σ : Env} (h : JT w w1 p q 2 dD ⟨[[97]], 1, 33⟩) (s1 : σ 1 = ptr p) (s2 : σ 4 = .int .i64 0) (s5 : σ 5 = .int .i64 0) (s6 : σ 6 = .int .i64 0) (s7 : σ 7 = .int .i64 1) (s8 : σ 8 = ptr q) (k : ∀ w', Mod none' w w' → next (.bool true) w') :
    hw Try.prog noPanic h43_3 (endV [.tmp 0] next) σ w1 := by
  obtain ⟨F, S, h⟩ := h
  unfold h43_3
  try simp only [go_sem, s1, s2, s5, s6, s7, s8]
  refine jall_ h.lg ?_
  intro v2 w2 own2 m2 _
  try simp only [go_sem, s1, s2, s5, s6, s7, s8]
  refine bsl1 sl40 (cs := [str [97]]) rfl rfl (by omega) ?_
  intro b3 w3 _ own3 _ m3 _
  refine same__ (a := [[97]]) (b := [[97]]) (n := 1) (m := 1) (own2.sl.mod m3 fun _ _ h => h) own3.sl (by omega) ?_
  intro w4 m4
  have h4 := ((h.mod0 m2).mod0 m3).mod0 m4
  try simp only [go_sem, s1, s2, s5, s6, s7, s8]
  refine bsl2 sl40 rfl rfl ?_
  intro b5 w5 hb5 own5 _ m5 hs5
  have h5 := h4.mod0 m5
  refine rewrite_ h5 (by omega) (rows := [[98], [99]]) (n := 2) own5.sl (fun _ k hk => ?_) (by decide +kernel) ?_
  · have e : b5 = k := by simpa [Value.ownBlock] using hk
    refine ⟨fun hR => ?_, by omega⟩
    have := h4.dr.lt k hR; omega
  intro w6 ⟨F6, S6, h6⟩
  have e6 : (rewriteJ dD ⟨[[97]], 1, 33⟩ 2 [[98], [99]]).2.2 = 0 := xE
  rw [e6]
  have h6 : JS w w6 p q 2 dE _ F6 S6 := h6
  unfold h43_4
  try simp only [go_sem, s1, s2, s5, s6, s7, s8]
  refine crash_ h6.dr sl_nil (fun h => by omega) (by decide +kernel) ?_
  intro w7 st7
  have h7 := h6.disk st7
  try simp only [go_sem, s1, s2, s5, s6, s7, s8]
  refine start_ h7.dr ?_
  intro w8 dr8 m8 _
  have h8 := h7.disk (.of dr8 m8)
  have h8d : DR w8 p dF _ := h8.dr
  try simp only [go_sem, s1, s2, s5, s6, s7, s8]
  have hE0 : openE dF 2 = 0 := by
    have := xF0
    simp only [openE, this, show ((2 : Int)).toNat = 2 from rfl, xFo]; decide
  refine open_ h8d (fun w9 m9 hne => absurd hE0 hne) ?_
  intro g L hg _ _ hL q9 w9 S9 lg9 hS9 m9
  obtain rfl : g = 2 := by omega
  rw [xFo] at hL
  obtain rfl := Option.some.inj hL
  have h9 := JS.opened h8d h8.f0 h8.m lg9 hS9 m9
  try simp only [go_sem, s1, s2, s5, s6, s7, s8]
  exact jsmall5 (L := L0) h9.jt s2 s5 s6 s7 rfl rfl rfl k

theorem jsmall_ (k : ∀ w', Mod none' w w' → next (.bool true) w') : callvK Try.prog (.func (.func 43) #[] #[]) [] w next QP := by
  refine r43 rfl ?_
  unfold h43
  try simp only [go_sem]
  refine new_ ?_
  intro p w1 hp st1
  try simp only [go_sem]
  have hE0 : openE Dk.new 2 = 0 := by decide +kernel
  have hO : openB (Dk.new.file 2) = some L0 := openB_core (s := []) .nil (by decide)
  refine open_ st1.dr (fun w9 m9 hne => absurd hE0 hne) ?_
  intro g L hg _ _ hL q w2 S2 lg2 hS2 m2
  obtain rfl : g = 2 := by omega
  rw [hO] at hL
  obtain rfl := Option.some.inj hL
  have h2 : JS w w2 p q 2 Dk.new L0 st1.foot S2 := JS.opened st1.dr (fun k hk => by rcases st1.footR k hk with h | h; exact h.elim; exact h) (st1.mod.mono fun _ _ h => h) lg2 hS2 m2
  try simp only [go_sem]
  unfold h43_1
  try simp only [go_sem]
  refine append1_ h2 (by decide +kernel) ?_
  intro w3 jt3
  rw [if_pos xA] at jt3
  rw [xA]
  obtain ⟨F3, S3, h3⟩ := jt3
  have h3 : JS w w3 p q 2 dA LA F3 S3 := h3
  try simp only [go_sem]
  refine flushJ_ h3 (by decide +kernel) ?_
  intro w4 jt4
  rw [xB2] at jt4
  rw [xB]
  obtain ⟨F4, S4, h4⟩ := jt4
  have h4 : JS w w4 p q 2 dB LB F4 S4 := h4
  try simp only [go_sem]
  refine append1_ h4 (by decide +kernel) ?_
  intro w5 jt5
  rw [if_pos xC] at jt5
  rw [xC]
  obtain ⟨F5, S5, h5⟩ := jt5
  have h5 : JS w w5 p q 2 dC (LB.add [[98]]) F5 S5 := h5
  try simp only [go_sem]
  refine jsure_ h5.lg ?_
  have e1 : (LB.add [[98]]).sure = 1 := rfl
  rw [e1]
  unfold h43_2
  try simp only [go_sem]
  refine crash_ h5.dr sl_nil (fun h => by omega) (by decide +kernel) ?_
  intro w7 st7
  have h7 := h5.disk st7
  try simp only [go_sem]
  refine start_ h7.dr ?_
  intro w8 dr8 m8 _
  have h8 := h7.disk (.of dr8 m8)
  have h8d : DR w8 p dD _ := h8.dr
  try simp only [go_sem]
  have hE1 : openE dD 2 = 0 := by
    have := xD0
    simp only [openE, this, show ((2 : Int)).toNat = 2 from rfl, xDo]; decide
  refine open_ h8d (fun w9 m9 hne => absurd hE1 hne) ?_
  intro g L hg _ _ hL q9 w9 S9 lg9 hS9 m9
  obtain rfl : g = 2 := by omega
  rw [xDo] at hL
  obtain rfl := Option.some.inj hL
  have h9 := JS.opened h8d h8.f0 h8.m lg9 hS9 m9
  try simp only [go_sem]
  exact jsmall3 h9.jt rfl rfl rfl rfl rfl rfl k
end
end Go.Proofs.Y
