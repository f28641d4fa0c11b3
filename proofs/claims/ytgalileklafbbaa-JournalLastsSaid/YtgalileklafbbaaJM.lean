/- JM: JournalForms. -/
import Derived.Test.YtgalileklafbbaaJC
import Derived.Test.YtgalileklafbbaaDD
import Derived.Test.YtgalileklafbbaaHLT
import Derived.SliceStrings
import Derived.ChangeSlices
import Derived.WideShapes
import Derived.Deep.Slices
set_option linter.unusedSimpArgs false
set_option linter.unusedVariables false
set_option maxRecDepth 100000
namespace Go.Proofs.Y
open Go Go.HL Go.Proofs

theorem val_app (s t : Bytes) (h : 8 ≤ s.length) : val (s ++ t) = val s := by
  have hv : ∀ i, i < 8 → valAt (s ++ t) i = valAt s i := by
    intro i hi
    unfold valAt
    rw [List.getElem?_append_left (by omega)]
  have key : ∀ k, k ≤ 8 → valFrom (s ++ t) k = valFrom s k := by
    intro k
    induction k with
    | zero => intro _; rfl
    | succ k ih =>
      intro hk
      show wr (valFrom _ k * 256 + valAt _ (7 - k)) = wr (valFrom _ k * 256 + valAt _ (7 - k))
      rw [ih (by omega), hv (7 - k) (by omega)]
  exact key 8 (Nat.le_refl _)
theorem openB_more {s : Bytes} {L : Lg} (h : openB s = some L) (h16 : 16 ≤ s.length) (t : Bytes) : openB (s ++ t) = some L := by
  have e1 : val (s ++ t) = val s := val_app s t (by omega)
  have e2 : val ((s ++ t).drop 8) = val (s.drop 8) := by rw [List.drop_append_of_le_length (by omega)]; exact val_app _ _ (by rw [List.length_drop]; omega)
  rw [openB] at h ⊢
  rw [e1, e2]
  by_cases h0 : val s = 0
  · rw [if_pos (.inr h0)] at h ⊢; exact h
  · rw [if_neg (by omega)] at h
    rw [if_neg (by rw [List.length_append]; omega)]
    by_cases hb : val s < 16 ∨ (s.length : Int) < val s
    · rw [if_pos hb] at h; cases h
    · rw [if_neg hb] at h
      rw [if_neg (by rw [List.length_append]; omega), List.take_append_of_le_length (by omega)]
      exact h

/-! ### the disk at rest -/
theorem idle_writeR {d : Dk} (ha : d.armed = 0) {f a : Int} {s : Bytes} (hm : d.may [f] = 0) (h0 : 0 ≤ a) (hfit : a + s.length ≤ 16777216) : d.writeR f a s = 0 := by
  rw [Dk.writeR_idle ha]
  unfold Dk.writeE
  rw [hm, if_neg (by simp), if_neg (by omega), if_neg (by omega)]
theorem idle_write {d : Dk} (ha : d.armed = 0) {f a : Int} {s : Bytes} (hm : d.may [f] = 0) (h0 : 0 ≤ a) (hfit : a + s.length ≤ 16777216) : d.write f a s = if s = [] then d else { d with files := d.files.set f.toNat (put (d.file f.toNat) a.toNat s), queue := d.queue ++ pieces f.toNat s.length a.toNat s } := by
  have h := idle_writeR ha hm h0 hfit
  rw [Dk.writeR_idle ha] at h
  rw [Dk.write_idle ha]
  unfold Dk.writeD
  by_cases hs : s = []
  · rw [if_pos (.inr hs), if_pos hs]
  · rw [if_neg (by simp [h, hs]), if_neg hs]
theorem idle_file {d : Dk} (ha : d.armed = 0) {f a : Nat} {s : Bytes} (hf : f < 12) (hn : d.files.length = 12) (hm : d.may [(f : Int)] = 0) (hfit : a + s.length ≤ 16777216) : (d.write f a s).file f = if s = [] then d.file f else put (d.file f) a s := by
  rw [idle_write ha hm (by omega) (by omega)]
  split
  · rfl
  · simp [Dk.file, hn, hf]
theorem idle_same {d : Dk} (ha : d.armed = 0) {f a : Int} {s : Bytes} (hm : d.may [f] = 0) (h0 : 0 ≤ a) (hfit : a + s.length ≤ 16777216) : (d.write f a s).armed = 0 ∧ (d.write f a s).down = d.down ∧ (d.write f a s).files.length = d.files.length := by
  rw [idle_write ha hm h0 hfit]
  split
  · exact ⟨ha, rfl, rfl⟩
  · exact ⟨ha, rfl, by simp⟩
theorem may_up {d : Dk} (h : d.down = false) {f : Nat} (hf : f < 12) : d.may [(f : Int)] = 0 := by
  have : isF (f : Int) = true := by simp [isF]; omega
  simp [Dk.may, h, this]

section
variable {w : World} {next : Value → World → Prop} {QP : List PanicEntry → World → Prop}

theorem forms2 {w1 : World} {p : Nat} {s m : Bytes} {d : Dk} {L : Lg} {vr : Value} {σ : Env} (hs : s.length ≤ 1000) (hm : m.length ≤ 1000) (h16 : 16 ≤ s.length) {F : FP} (dr : DR w1 p d F) (f0 : ∀ k, F.R k → w.heap.size ≤ k) (mw : Mod none' w w1)
    (ha : d.armed = 0) (hd : d.down = false) (hfs : d.file 1 = s) (hq : d.queue.length ≤ 1000) (hO : openB s = some L) (hv : Own w1 vr 9 1 L.rows.length (L.rows.map str)) (hvF : ∀ k, vr.ownBlock = some k → ¬ F.R k) (s0 : σ 0 = str s) (s1 : σ 1 = str m) (s5 : σ 5 = .bool true) (s6 : σ 6 = ptr p) (s9 : σ 9 = vr) (s11 : σ 11 = .bool true)
    (k : ∀ w', Mod none' w w' → next (.bool true) w') : hw Try.prog noPanic h10_5 (endV [.tmp 4] next) σ w1 := by
  have hm0 := may_up hd (f := 1) (by omega)
  have hm0 : d.may [(1 : Int)] = 0 := hm0
  have hr := idle_writeR ha hm0 (a := s.length) (s := m) (by omega) (by omega)
  have hfile : (d.write 1 s.length m).file 1 = s ++ m := by
    have := idle_file ha (f := 1) (a := s.length) (s := m) (by omega) dr.ok.nf hm0 (by omega)
    rw [show ((1 : Nat) : Int) = 1 from rfl, hfs] at this
    rw [this]
    split
    · rename_i h; simp [h]
    · have h2 := put_append s [] m (Nat.le_refl s.length)
      rw [List.append_nil, Nat.sub_self, put_nil] at h2
      exact h2
  have hsame := idle_same ha hm0 (a := s.length) (s := m) (by omega) (by omega)
  have hO2 := openB_more hO h16 m
  unfold h10_5
  try simp only [go_sem, s0, s1, s5, s6, s9, s11]
  refine write_ dr (by omega) (by omega) (by omega) ?_
  intro w2 st2
  rw [hr]
  have f2 : ∀ k, st2.foot.R k → w.heap.size ≤ k := fun k hk => by
    have := mw.size
    rcases st2.footR k hk with h | h
    · exact f0 k h
    · omega
  have m2 : Mod none' w w2 := mw.trans st2.mod fun k hk hW => by have := f0 k (dr.sub k hW); omega
  have hv2 := hv.mod st2.mod fun k hk hW => hvF k hk (dr.sub k hW)
  try simp only [go_sem, s0, s1, s5, s6, s9, s11]
  unfold h10_6
  try simp only [go_sem, s0, s1, s5, s6, s9, s11]
  have hm2 : (d.write 1 s.length m).may [(1 : Int)] = 0 := may_up (hsame.2.1.trans hd) (f := 1) (by omega)
  have hE : openE (d.write 1 s.length m) 1 = 0 := by
    have h1 : ¬ ((1 : Int) < 0 ∨ (6 : Int) < 1) := by decide
    have h2 : ¬ ((d.write 1 s.length m).may [(1 : Int)] ≠ 0) := fun h => h hm2
    simp only [openE, if_neg h1, if_neg h2, show ((1 : Int)).toNat = 1 from rfl, hfile, hO2]; rfl
  refine open_ st2.dr (fun w9 m9 hne => absurd hE hne) ?_
  intro g L' hg _ _ hL q9 w9 S9 lg9 hS9 m9
  obtain rfl : g = 1 := by omega
  rw [hfile, hO2] at hL
  obtain rfl := Option.some.inj hL
  try simp only [go_sem, s0, s1, s5, s6, s9, s11]
  unfold h10_7
  try simp only [go_sem, s0, s1, s5, s6, s9, s11]
  refine jall_ lg9 ?_
  intro v10 w10 own10 m10 _
  have hrb := lg9.rb
  have hbd := lg9.bd
  try simp only [go_sem, s0, s1, s5, s6, s9, s11]
  refine same__ own10.sl ((hv2.mod m9 fun _ _ h => h).mod m10 fun _ _ h => h).sl (by omega) ?_
  intro w11 m11
  try simp only [go_sem, s0, s1, s5, s6, s9, s11]
  exact k _ (((m2.trans' m9).trans' m10).trans' m11)

theorem jforms_ {s m : Bytes} (k : ∀ w', Mod none' w w' → next (.bool true) w') : callK Try.prog 10 [str s, str m] w next QP := by
  refine q10 rfl ?_
  unfold h10
  try simp only [go_sem]
  refine jsmall_ ?_
  intro w1 m1
  have ec : (if decide ((1000 : Int) < s.length) = true then true else decide ((1000 : Int) < m.length)) = decide (1000 < s.length ∨ 1000 < m.length) := by
    by_cases h : (1000 : Int) < s.length
    · simp only [h, decide_true, if_true]; symm; rw [decide_eq_true_eq]; omega
    · simp only [h, decide_false, Bool.false_eq_true, if_false]; congr 1; apply propext; omega
  try simp only [go_sem, ec]
  refine ⟨fun _ => k _ m1, fun hb => ?_⟩
  have hb : ¬ (1000 < s.length ∨ 1000 < m.length) := by simpa using hb
  unfold h10_1
  try simp only [go_sem]
  refine new_ ?_
  intro p w2 hp st0
  have st2 : St FP0 w w2 p Dk.new := st0.after m1
  try simp only [go_sem]
  have hr := idle_writeR (d := Dk.new) rfl (f := 1) (a := 0) (s := s) rfl (by omega) (by omega)
  have hfile : (Dk.new.write 1 0 s).file 1 = s := by
    have := idle_file (d := Dk.new) rfl (f := 1) (a := 0) (s := s) (by omega) rfl rfl (by omega)
    rw [show ((1 : Nat) : Int) = 1 from rfl, show ((0 : Nat) : Int) = 0 from rfl] at this
    rw [this]
    split
    · rename_i h; rw [h]; rfl
    · exact put_nil s
  have hsame := idle_same (d := Dk.new) rfl (f := 1) (a := 0) (s := s) rfl (by omega) (by omega)
  have hqn := write_queue Dk.new 1 0 s
  have hq0 : Dk.new.queue.length = 0 := rfl
  refine write_ st2.dr (by omega) (by omega) (by omega) ?_
  intro w3 st3
  have st3 := st2.trans st3
  rw [hr]
  try simp only [go_sem]
  have hm3 : (Dk.new.write 1 0 s).may [(1 : Int)] = 0 := may_up hsame.2.1 (f := 1) (by omega)
  generalize Dk.new.write 1 0 s = d at *
  have hE : openE d 1 = if (openB s).isNone = true then 2 else 0 := by
    have h1 : ¬ ((1 : Int) < 0 ∨ (6 : Int) < 1) := by decide
    have h2 : ¬ (d.may [(1 : Int)] ≠ 0) := fun h => h hm3
    simp only [openE, if_neg h1, if_neg h2, show ((1 : Int)).toNat = 1 from rfl, hfile]
  unfold h10_2
  try simp only [go_sem]
  refine open_ st3.dr (fun w4 m4 hne => ?_) (fun g L hg _ _ hL q4 w4 S4 lg4 hS4 m4 => ?_)
  · cases hO : openB s with
    | some L => rw [hE, hO] at hne; exact absurd rfl hne
    | none =>
      rw [hE, hO]
      try simp only [go_sem]
      refine rrows_ s (by omega) (fun _ w5 v5 m5 => ?_) (fun L hL => by rw [hO] at hL; cases hL)
      have m25 := (st3.mod.trans' (m4.mono fun _ _ h => h.elim)).trans' (m5.mono fun _ _ h => h.elim)
      try simp only [go_sem, beq_self_eq_true, Bool.true_beq, Bool.false_beq]
      unfold h10_3
      try simp only [go_sem]
      exact k _ (m25.mono fun _ _ h => h)
  · obtain rfl : g = 1 := by omega
    rw [hfile] at hL
    have hvF : ∀ k, st3.foot.R k → w.heap.size ≤ k := fun k hk => by
      rcases st3.footR k hk with h | h
      · exact h.elim
      · exact h
    have mw : Mod none' w w3 := st3.mod.mono fun _ _ h => h
    try simp only [go_sem]
    refine rrows_ s (by omega) (fun hn => by rw [hL] at hn; cases hn) (fun L' hL' v5 w5 m5 own5 hn5 => ?_)
    rw [hL] at hL'
    obtain rfl := Option.some.inj hL'
    have lg5 := lg4.mod0 m5
    try simp only [go_sem, beq_self_eq_true, Bool.true_beq, Bool.false_beq]
    unfold h10_3
    try simp only [go_sem]
    unfold h10_4
    try simp only [go_sem]
    refine jall_ lg5 ?_
    intro v6 w6 own6 m6 _
    have hrb := lg4.rb
    have hbd := lg4.bd
    try simp only [go_sem]
    refine same__ own6.sl (own5.mod m6 fun _ _ h => h).sl (by omega) ?_
    intro w7 m7
    have m37 := ((m4.trans' m5).trans' m6).trans' m7
    try simp only [go_sem]
    refine ⟨fun h16 => ?_, fun h16 => ?_⟩
    · exact k _ (mw.trans' m37)
    · have h16 : 16 ≤ s.length := by
        have : ¬ (s.length : Int) < 16 := by simpa using h16
        omega
      refine forms2 (by omega) (by omega) h16 (st3.dr.mod0 m37) hvF (mw.trans' m37) hsame.1 hsame.2.1 hfile (by omega) hL ((own5.mod m6 fun _ _ h => h).mod m7 fun _ _ h => h) (fun k hk hR => ?_) rfl rfl rfl rfl rfl rfl k
      have := hn5 k hk
      have := st3.dr.lt k hR
      have := m4.size
      omega
end
end Go.Proofs.Y

/- DU: operations as records: the walks of pick, few and do. -/
namespace Go.Proofs.Y
open Go Go.HL Go.Proofs

structure Act where
  Do : Int
  F : Int
  G : Int
  N : Int
  S : Bytes
  kv : Value
  ks : List Int

def Act.cells (a : Act) : List Value := [.int .i64 a.Do, .int .i64 a.F, .int .i64 a.G, .int .i64 a.N, str a.S, a.kv]
theorem Act.cells_len (a : Act) : a.cells.length = 6 := rfl

def i64 (a : Int) : Prop := -9223372036854775808 ≤ a ∧ a ≤ 9223372036854775807
structure Act.OK (w : World) (a : Act) : Prop where
  d : i64 a.Do
  f : i64 a.F
  g : i64 a.G
  n : i64 a.N
  k : Sl w a.kv 1 a.ks.length (ints a.ks)
  kl : a.ks.length ≤ 1048576
  sl : a.S.length ≤ 1048576
theorem Act.OK.mod0 {w w' : World} {a : Act} (h : a.OK w) (m : Mod none' w w') : a.OK w' := ⟨h.d, h.f, h.g, h.n, h.k.mod m fun _ _ h => h, h.kl, h.sl⟩
theorem Act.one {w : World} {a : Act} (h : a.OK w) : ∀ v ∈ a.cells, v.oneCell' = true := by
  obtain ⟨x, c, hk, -⟩ := h.k.form
  intro v hv
  simp only [Act.cells, List.mem_cons, List.not_mem_nil, or_false] at hv
  rcases hv with rfl | rfl | rfl | rfl | rfl | rfl
  · rfl
  · rfl
  · rfl
  · rfl
  · rfl
  · rw [hk]; rfl

/-- the operation's number -/
def pk (n : Int) : Int := n % 11
theorem pk_range (n : Int) : 0 ≤ pk n ∧ pk n < 11 := by unfold pk; omega

def Dk.act (d : Dk) (a : Act) : Dk :=
  if pk a.Do = 0 ∨ pk a.Do = 1 then d.write a.F a.N a.S
  else if pk a.Do = 2 then d.flush a.F
  else if pk a.Do = 3 then d.cut a.F a.N
  else if pk a.Do = 4 then d.turn a.F a.G
  else if pk a.Do = 5 then d.crash a.ks
  else if pk a.Do = 6 then d.lose a.N
  else if pk a.Do = 7 then d.start
  else if pk a.Do = 8 then d
  else if pk a.Do = 10 then d.arm a.N a.ks
  else d
def Dk.actS (d : Dk) (a : Act) : Bytes := if pk a.Do = 8 then d.read a.F else []
def Dk.actE (d : Dk) (a : Act) : Int :=
  if pk a.Do = 0 ∨ pk a.Do = 1 then d.writeR a.F a.N a.S
  else if pk a.Do = 2 then d.flushR a.F
  else if pk a.Do = 3 then d.cutR a.F a.N
  else if pk a.Do = 4 then d.turnR a.F a.G
  else if pk a.Do = 8 then d.may [a.F]
  else 0

section
variable {w : World} {next : Value → World → Prop} {QP : List PanicEntry → World → Prop}

theorem pick_ {n : Int} (hn : i64 n) (k : next (.int .i64 (pk n)) w) : callvK Try.prog (.func (.func 28) #[] #[]) [.int .i64 n] w next QP := by
  refine r28 rfl ?_
  unfold h28
  try simp only [go_sem]
  have hn1 := hn.1
  have hn2 := hn.2
  have ht : n.tmod 11 = if 0 ≤ n then n % 11 else -((-n) % 11) := by
    split
    · rw [Int.tmod_eq_emod_of_nonneg (by assumption)]
    · have := Int.neg_tmod (a := -n) (b := 11)
      rw [Int.neg_neg] at this
      rw [this, Int.tmod_eq_emod_of_nonneg (by omega)]
  refine ⟨by decide, fun hneg => ?_, fun hpos => ?_⟩
  · have hneg : n.tmod 11 < 0 := by simpa using hneg
    rw [w64 (by split at ht <;> omega) (by split at ht <;> omega)]
    unfold h28_1
    try simp only [go_sem]
    have : n.tmod 11 + 11 = pk n := by unfold pk; split at ht <;> omega
    rw [this]; exact k
  · have hpos : 0 ≤ n.tmod 11 := by simpa using hpos
    unfold h28_1
    try simp only [go_sem]
    have : n.tmod 11 = pk n := by unfold pk; split at ht <;> omega
    rw [this]; exact k

theorem Act.get {a : Act} {b : Nat} (h : Blk w b 42 a.cells) : w.cell? ⟨b, 0, none⟩ = some (.int .i64 a.Do) ∧ w.cell? ⟨b, 1, none⟩ = some (.int .i64 a.F) ∧ w.cell? ⟨b, 2, none⟩ = some (.int .i64 a.G) ∧ w.cell? ⟨b, 3, none⟩ = some (.int .i64 a.N) ∧ w.cell? ⟨b, 4, none⟩ = some (str a.S) ∧ w.cell? ⟨b, 5, none⟩ = some a.kv :=
  ⟨by rw [h.cell]; rfl, by rw [h.cell]; rfl, by rw [h.cell]; rfl, by rw [h.cell]; rfl, by rw [h.cell]; rfl, by rw [h.cell]; rfl⟩

theorem do_ {p : Nat} {d : Dk} {S : FP} (h : DR w p d S) {a : Act} (ha : a.OK w) (hk0 : 0 < a.ks.length → a.kv.ownBlock ≠ some p) (hqn : d.queue.length ≤ 100000000)
    (k : ∀ w', St S w w' p (d.act a) → next (.tuple #[str (d.actS a), .int .i64 (d.actE a)]) w') : callvK Try.prog (.func (.func 29) #[] #[]) [ptr p, .agg a.cells.toArray] w next QP := by
  refine r29 rfl ?_
  unfold h29
  try simp only [go_sem]
  refine box_ (cs := a.cells) rfl ?_
  intro b w1 hb hbb m1 hsz1
  obtain ⟨x0, x1, x2, x3, x4, x5⟩ := Act.get hbb
  have st1 : St S w w1 p d := (St.refl h).mod0 m1
  have ha1 := ha.mod0 m1
  have hr := pk_range a.Do
  try simp only [go_sem, x0]
  refine pick_ ha.d ?_
  try simp only [go_sem]
  have fin : ∀ (τ : Env) w', τ 4 = str [] → τ 5 = .int .i64 0 → St S w w' p (d.act a) → d.actS a = [] → d.actE a = 0 → hw Try.prog noPanic h29_2 (endV [.tmp 4, .tmp 5] next) τ w' := by
    intro τ w' t4 t5 st e1 e2
    unfold h29_2
    try simp only [go_sem]
    have := k w' st
    rw [e1, e2] at this
    exact this
  have wr : ∀ τ : Env, τ 0 = ptr p → τ 3 = ptr b → τ 9 = .bool true → (pk a.Do = 0 ∨ pk a.Do = 1) → hw Try.prog noPanic h29_1 (blockX 0 (seqX (hw Try.prog noPanic h29_2 (endV [.tmp 4, .tmp 5] next)) (endV [.tmp 4, .tmp 5] next))) τ w1 := by
    intro τ t0 t3 t9 hk
    unfold h29_1
    try simp only [go_sem, t0, t3, t9, x0, x1, x2, x3, x4, x5]
    have hw := ha.sl
    refine write_ st1.dr ha.n.1 ha.n.2 (by omega) ?_
    intro w2 st2
    try simp only [go_sem]
    have := k w2
    simp only [Dk.act, Dk.actE, Dk.actS, if_pos hk, if_neg (show ¬ pk a.Do = 8 by omega)] at this
    exact this (st1.trans st2)
  refine ⟨fun h0 => ?_, fun h0 => ?_⟩
  · have h0 : pk a.Do = 0 := by simpa using h0
    exact wr _ rfl rfl (by simp [upd_at, h0]) (.inl h0)
  have h0 : pk a.Do ≠ 0 := by simpa using h0
  by_cases h1 : pk a.Do = 1
  · exact wr _ rfl rfl (by simp [upd_at, h1]) (.inr h1)
  have hn01 : ¬ (pk a.Do = 0 ∨ pk a.Do = 1) := by omega
  unfold h29_1
  have hd1 : decide (pk a.Do = 1) = false := by simp [h1]
  try simp only [go_sem, x0, x1, x2, x3, x4, x5, hd1]
  simp only [Dk.act, Dk.actE, Dk.actS, if_neg hn01] at k fin
  refine ⟨fun h2 => ?_, fun h2 => ?_⟩
  · have h2 : pk a.Do = 2 := by simpa using h2
    refine flush_ st1.dr (by omega) ?_
    intro w2 st2
    try simp only [go_sem]
    have := k w2
    simp only [h2, if_true, if_neg (show ¬ (2 : Int) = 8 by omega)] at this
    exact this (st1.trans st2)
  have h2 : ¬ pk a.Do = 2 := by simpa using h2
  simp only [if_neg h2] at k fin
  refine ⟨fun h3 => ?_, fun h3 => ?_⟩
  · have h3 : pk a.Do = 3 := by simpa using h3
    refine cut_ st1.dr (by omega) ?_
    intro w2 st2
    try simp only [go_sem]
    have := k w2
    simp only [h3, if_true, if_neg (show ¬ (3 : Int) = 8 by omega)] at this
    exact this (st1.trans st2)
  have h3 : ¬ pk a.Do = 3 := by simpa using h3
  simp only [if_neg h3] at k fin
  refine ⟨fun h4 => ?_, fun h4 => ?_⟩
  · have h4 : pk a.Do = 4 := by simpa using h4
    refine turn_ st1.dr (by omega) ?_
    intro w2 st2
    try simp only [go_sem]
    have := k w2
    simp only [h4, if_true, if_neg (show ¬ (4 : Int) = 8 by omega)] at this
    exact this (st1.trans st2)
  have h4 : ¬ pk a.Do = 4 := by simpa using h4
  simp only [if_neg h4] at k fin
  refine ⟨fun h5 => ?_, fun h5 => ?_⟩
  · have h5 : pk a.Do = 5 := by simpa using h5
    refine crash_ st1.dr ha1.k hk0 (by omega) ?_
    intro w2 st2
    try simp only [go_sem]
    simp only [h5, if_true, if_neg (show ¬ (5 : Int) = 8 by omega), true_implies] at fin
    exact fin _ _ rfl rfl (st1.trans st2)
  have h5 : ¬ pk a.Do = 5 := by simpa using h5
  simp only [if_neg h5] at k fin
  refine ⟨fun h6 => ?_, fun h6 => ?_⟩
  · have h6 : pk a.Do = 6 := by simpa using h6
    refine lose_ st1.dr ha.n.2 ?_
    intro w2 dr2 m2 _
    try simp only [go_sem]
    simp only [h6, if_true, if_neg (show ¬ (6 : Int) = 8 by omega), true_implies] at fin
    exact fin _ _ rfl rfl (st1.trans (.of dr2 m2))
  have h6 : ¬ pk a.Do = 6 := by simpa using h6
  simp only [if_neg h6] at k fin
  refine ⟨fun h7 => ?_, fun h7 => ?_⟩
  · have h7 : pk a.Do = 7 := by simpa using h7
    refine start_ st1.dr ?_
    intro w2 dr2 m2 _
    try simp only [go_sem]
    simp only [h7, if_true, if_neg (show ¬ (7 : Int) = 8 by omega), true_implies] at fin
    exact fin _ _ rfl rfl (st1.trans (.of dr2 m2))
  have h7 : ¬ pk a.Do = 7 := by simpa using h7
  simp only [if_neg h7] at k fin
  refine ⟨fun h8 => ?_, fun h8 => ?_⟩
  · have h8 : pk a.Do = 8 := by simpa using h8
    refine read_ st1.dr a.F ?_
    intro w2 dr2 m2
    try simp only [go_sem]
    have := k w2
    simp only [h8, if_true] at this
    exact this (st1.mod0 m2)
  have h8 : ¬ pk a.Do = 8 := by simpa using h8
  simp only [if_neg h8] at k fin
  refine ⟨fun h10 => ?_, fun h10 => ?_⟩
  · have h10 : pk a.Do = 10 := by simpa using h10
    refine arm_ st1.dr ha.n.2 ha1.k (by have := ha.kl; omega) ?_
    intro w2 st2
    try simp only [go_sem]
    simp only [h10, if_true, true_implies] at fin
    exact fin _ _ rfl rfl (st1.trans st2)
  have h10 : ¬ pk a.Do = 10 := by simpa using h10
  simp only [if_neg h10, true_implies] at k fin
  exact fin _ _ rfl rfl st1

/-- the bounds of few -/
def heft (al : List Act) : Nat := (al.map fun a => a.S.length + a.ks.length).sum
theorem heft_snoc {l : List Act} {i : Nat} (h : i < l.length) : heft (l.take (i + 1)) = heft (l.take i) + (l[i].S.length + l[i].ks.length) := by
  unfold heft
  rw [List.take_succ_eq_append_getElem h, List.map_append, List.sum_append]; simp
theorem heft_le {l : List Act} {i : Nat} : heft (l.take i) ≤ heft l := by
  unfold heft
  conv => rhs; rw [← List.take_append_drop i l]
  rw [List.map_append, List.sum_append]; omega

def fits (a : Act) : Bool := !(decide (4000 ≤ a.N) && decide (a.N ≤ 16777216))
def few (al : List Act) : Bool := al.all fits && decide (al.length ≤ 200) && decide (heft al ≤ 5000)

theorem few_ {v : Value} {al : List Act} (hv : Sl w v 6 al.length (rows Act.cells al)) (ha : ∀ a ∈ al, a.OK w) (hl : al.length ≤ 1048576) (hn : heft al ≤ 4194304) (k : ∀ w', Mod none' w w' → next (.bool (few al)) w') : callvK Try.prog (.func (.func 26) #[] #[]) [v] w next QP := by
  refine r26 rfl ?_
  obtain ⟨a, c, rfl, hc, -⟩ := hv.form
  unfold h26
  try simp only [go_sem]
  refine loopN al.length (fun i τ w' => Mod none' w w' ∧ τ 0 = .slice a al.length c ∧ τ 3 = .int .i64 (heft (al.take i) : Nat) ∧ τ 4 = .int .i64 i ∧ ∀ x ∈ al.take i, fits x = true) ⟨0, by omega, Mod.refl _ _, rfl, rfl, rfl, by simp⟩ ?_
  rintro i τ w1 hi ⟨m1, t0, t3, t4, hall⟩
  unfold h26_1
  try simp only [go_sem, t0, t3, t4]
  refine ⟨fun hlt => ?_, fun hge => ?_⟩
  · have hil : i < al.length := by simpa using hlt
    obtain ⟨gb, o, c', hva', hcc, hcell⟩ := (hv.mod m1 fun _ _ h => h).get Act.cells_len rfl (by omega)
    simp only [Value.slice.injEq] at hva'
    obtain ⟨rfl, -, rfl⟩ := hva'
    have x3 : w1.cell? ⟨gb, o + i * 6 + 3, none⟩ = some (.int .i64 al[i].N) := (hcell i 3 hil (by omega)).trans rfl
    have x4 : w1.cell? ⟨gb, o + i * 6 + 4, none⟩ = some (str al[i].S) := (hcell i 4 hil (by omega)).trans rfl
    have x5 : w1.cell? ⟨gb, o + i * 6 + 5, none⟩ = some al[i].kv := (hcell i 5 hil (by omega)).trans rfl
    obtain ⟨ka, kc, hkv, -⟩ := (ha _ (List.getElem_mem hil)).k.form
    rw [hkv] at x5
    have hls := heft_snoc (l := al) hil
    have hle := heft_le (l := al) (i := i + 1)
    unfold h26_2
    try simp only [go_sem, t0, t3, t4, x3, x4, x5]
    refine ⟨⟨by omega, by omega⟩, fun _ => ⟨by omega, by omega⟩, ?_⟩
    have hfits : (if decide (4000 ≤ al[i].N) = true then decide (al[i].N ≤ 16777216) else false) = !fits al[i] := by
      unfold fits; cases decide (4000 ≤ al[i].N) <;> simp
    rw [hfits]
    refine ⟨fun hbad => ?_, fun hgood => ?_⟩
    · have hbad : fits al[i] = false := by simpa using hbad
      have : few al = false := by
        unfold few
        have : al.all fits = false := by
          rw [List.all_eq_false]; exact ⟨al[i], List.getElem_mem hil, by simp [hbad]⟩
        simp [this]
      have k' := k w1 m1; rw [this] at k'; exact k'
    · have hgood : fits al[i] = true := by simpa using hgood
      unfold h26_3
      try simp only [go_sem, t0, t3, t4, x3, x4, x5]
      refine ⟨⟨by omega, by omega⟩, ?_⟩
      unfold h26_4
      try simp only [go_sem, t0, t3, t4]
      rw [w64 (x := (heft (al.take i) : Int) + (al[i].S.length : Int)) (by omega) (by omega), w64 (x := (heft (al.take i) : Int) + (al[i].S.length : Int) + (al[i].ks.length : Int)) (by omega) (by omega), w64 (x := (i : Int) + 1) (by omega) (by omega)]
      refine ⟨⟨by omega, by omega⟩, i + 1, by omega, by omega, m1.trans' (Mod.drew _ _), ?_, rfl, ?_⟩
      · congr 1; omega
      · rw [List.take_succ_eq_append_getElem hil]
        intro x hx
        rcases List.mem_append.1 hx with h | h
        · exact hall x h
        · rw [List.mem_singleton.1 h]; exact hgood
  · have hge' : al.length ≤ i := by simpa using hge
    rw [List.take_of_length_le hge'] at t3 hall
    unfold h26_5
    try simp only [go_sem, t0, t3, t4]
    have : (if decide ((al.length : Int) ≤ 200) = true then decide ((heft al : Int) ≤ 5000) else false) = few al := by
      unfold few
      rw [List.all_eq_true.2 hall]
      have e1 : decide ((al.length : Int) ≤ 200) = decide (al.length ≤ 200) := by congr 1; apply propext; omega
      have e2 : decide ((heft al : Int) ≤ 5000) = decide (heft al ≤ 5000) := by congr 1; apply propext; omega
      rw [e1, e2]
      cases decide (al.length ≤ 200) <;> simp
    rw [this]; exact k w1 m1
end
end Go.Proofs.Y

/- DP: plain laws for DiskLoses. -/
namespace Go.Proofs.Y
open Go Go.HL
theorem survs_nil : ∀ (q : List Pd) (l : List Bytes), survs l q [] = l
  | [], _ => rfl
  | p :: q, l => by
    have : surv l p ([] : List Int)[0]? = l := rfl
    rw [survs, this]; exact survs_nil q l
namespace Loses
def L (s : Bytes) (m : Nat) : Dk := { Dk.new with files := Dk.new.files.set 0 s, queue := pieces 0 s.length 0 s, lost := m }
def E (s : Bytes) : Dk := { Dk.new with lasts := Dk.new.lasts.set 0 s, files := Dk.new.files.set 0 s }
variable {s : Bytes} {m : Nat}
theorem wE (hs : s.length ≤ 50000) (n : Int) : (Dk.new.lose n).writeR 0 0 s = 0 := by
  rw [Dk.writeR_idle rfl]
  unfold Dk.writeE
  rw [show (Dk.new.lose n).may [0] = 0 from rfl, if_neg (by simp), if_neg (by omega), if_neg (by omega)]
theorem w (hs : s.length ≤ 50000) (n : Int) : (Dk.new.lose n).write 0 0 s = L s n.toNat := by
  have h0 : (Dk.new.lose n).writeE 0 0 s = 0 := by rw [← Dk.writeR_idle rfl]; exact wE hs n
  rw [Dk.write_idle rfl]
  unfold Dk.writeD
  by_cases hn : s = []
  · subst hn; rw [if_pos (.inr rfl)]; rfl
  · rw [if_neg (by simp [h0, hn])]
    have h4 : (Dk.new.lose n).file (0 : Int).toNat = [] := rfl
    have hz : (0 : Int).toNat = 0 := rfl
    rw [h4, hz, put_nil]; rfl
theorem fR : (L s (m + 1)).flushR 0 = 9 := by
  rw [Dk.flushR_idle rfl, if_neg (fun h => h rfl), if_pos (show 0 < (L s (m + 1)).lost from Nat.succ_pos m)]
theorem f : (L s (m + 1)).flush 0 = L s m := by
  rw [Dk.flush_idle rfl, if_neg (fun h => h rfl), if_pos (show 0 < (L s (m + 1)).lost from Nat.succ_pos m)]; rfl
theorem f0R : (L s 0).flushR 0 = 0 := rfl
theorem f0 : (L s 0).flush 0 = E s := by
  rw [Dk.flush_idle rfl, if_neg (fun h => h rfl), if_neg (show ¬ 0 < (L s 0).lost from Nat.lt_irrefl 0)]
  have : (L s 0).file (0 : Int).toNat = s := rfl
  rw [this, show (0 : Int).toNat = 0 from rfl]
  simp only [Dk.settle, L, E]
  rw [List.set_set]
  congr 1
  exact pieces_filter
theorem lost : (((L s m).crash []).start).read 0 = [] ∧ (((L s m).crash []).start).may [0] = 0 := by
  have e : ((L s m).crash []).start = ⟨survs Dk.new.lasts (pieces 0 s.length 0 s) [], survs Dk.new.lasts (pieces 0 s.length 0 s) [], [], m, false, 0, []⟩ := rfl
  rw [e, survs_nil]
  exact ⟨rfl, rfl⟩
theorem kept : (((E s).crash []).start).read 0 = s ∧ (((E s).crash []).start).may [0] = 0 := ⟨rfl, rfl⟩
end Loses
end Go.Proofs.Y

/- DV: plain laws of a machine that is down, and of invalid file numbers. -/
namespace Go.Proofs.Y
open Go Go.HL
namespace Dk
section
variable {d : Dk} (hd : d.down = true)
include hd
theorem dn_tick : d.tick = d := by simp [tick, hd]
theorem dn_ends : d.ends = false := by simp [ends, hd]
theorem dn_pre : d.pre = d := by simp [pre, endW, dn_ends hd, dn_tick hd]
theorem dn_may (l : List Int) : d.may l = 8 := by simp [may, hd]
theorem dn_write (f a : Int) (s : Bytes) : d.write f a s = d ∧ d.writeR f a s = 8 := by
  have hE : d.writeE f a s = 8 := by simp [writeE, dn_may hd]
  simp [write, writeR, endW, dn_ends hd, dn_tick hd, writeD, hE]
theorem dn_flush (f : Int) : d.flush f = d ∧ d.flushR f = 8 := by simp [flush, flushR, dn_pre hd, dn_may hd]
theorem dn_cut (f n : Int) : d.cut f n = d ∧ d.cutR f n = 8 := by simp [cut, cutR, dn_pre hd, dn_may hd]
theorem dn_turn (f g : Int) : d.turn f g = d ∧ d.turnR f g = 8 := by simp [turn, turnR, dn_pre hd, dn_may hd]
theorem dn_crash (ks : List Int) : d.crash ks = d := by simp [crash, hd]
theorem dn_read (f : Int) : d.read f = [] := by simp [read, dn_may hd]
end
section
variable {d : Dk} (hd : d.down = false) (ha : d.armed = 0) {f : Int} (hf : isF f = false)
include hd ha hf
theorem bad_write (a : Int) (s : Bytes) : d.write f a s = d ∧ d.writeR f a s = 1 := by
  have hm : d.may [f] = 1 := by simp [may, hd, hf]
  have hE : d.writeE f a s = 1 := by simp [writeE, hm]
  rw [write_idle ha, writeR_idle ha]
  simp [writeD, hE]
theorem bad_flush : d.flush f = d ∧ d.flushR f = 1 := by
  have hm : d.may [f] = 1 := by simp [may, hd, hf]
  rw [flush_idle ha, flushR_idle ha]; simp [hm]
theorem bad_cut (n : Int) : d.cut f n = d ∧ d.cutR f n = 1 := by
  have hm : d.may [f] = 1 := by simp [may, hd, hf]
  rw [cut_idle ha, cutR_idle ha]; simp [hm]
theorem bad_turn (g : Int) : d.turn f g = d ∧ d.turnR f g = 1 := by
  have hm : d.may [f, g] = 1 := by simp [may, hd, hf]
  rw [turn_idle ha, turnR_idle ha]; simp [hm]
theorem bad_turn2 (g : Int) : d.turn g f = d ∧ d.turnR g f = 1 := by
  have hm : d.may [g, f] = 1 := by simp [may, hd, hf]
  rw [turn_idle ha, turnR_idle ha]; simp [hm]
end
theorem bad_size {d : Dk} {f : Int} (hf : isF f = false) : d.size f = 0 := by simp [size, hf]
end Dk
end Go.Proofs.Y

/- DWa (of DW: what serves elsewhere): the walk of DiskDown. -/
namespace Go.Proofs.Y
open Go Go.HL Go.Proofs
section
variable {w : World} {next : Value → World → Prop} {QP : List PanicEntry → World → Prop}

theorem act_queue (d : Dk) (a : Act) : (d.act a).queue.length ≤ d.queue.length + a.S.length := by
  have hp := pre_queue d
  unfold Dk.act
  split
  · unfold Dk.write Dk.endW
    have := writeD_queue d.tick a.F a.N a.S
    rw [tick_queue] at this
    split
    · exact Nat.le_trans (crash_queue _ _) this
    · exact this
  split
  · unfold Dk.flush; dsimp only
    split
    · omega
    · split
      · show d.pre.queue.length ≤ _; omega
      · exact Nat.le_trans (List.length_filter_le _ _) (by omega)
  split
  · unfold Dk.cut; dsimp only
    split
    · omega
    · split
      · omega
      · exact Nat.le_trans (List.length_filter_le _ _) (by omega)
  split
  · unfold Dk.turn; dsimp only
    split
    · omega
    · split
      · omega
      · split
        · omega
        · exact Nat.le_trans (List.length_filter_le _ _) (Nat.le_trans (List.length_filter_le _ _) (by omega))
  split
  · have := crash_queue d a.ks; omega
  split
  · show d.queue.length ≤ _; omega
  split
  · show d.queue.length ≤ _; omega
  split
  · omega
  split
  · show d.queue.length ≤ _; omega
  · omega

theorem sl38 : SlTy Try.prog 38 42 6 72 (.agg #[.int .i64 0, .int .i64 0, .int .i64 0, .int .i64 0, str [], .slice none 0 0]) := ⟨by kernel_rfl, by kernel_rfl, rfl, by decide⟩

theorem few_le {al : List Act} (h : few al = true) : al.length ≤ 200 ∧ heft al ≤ 5000 := by
  simp [few] at h; exact ⟨h.1.2, h.2⟩

/-- an element of the operations that came in, read whole -/
theorem act_at {w w' : World} {v : Value} {al : List Act} {i : Nat} (hv : Sl w v 6 al.length (rows Act.cells al)) (m : Mod none' w w') (hi : i < al.length) : ∃ gb o c, v = .slice (some ⟨gb, o, none⟩) al.length c ∧
    loadN w' ⟨gb, o + i * 6, none⟩ 6 = al[i].cells.toArray ∧ (∀ j, j < 6 → (w'.cell? ⟨gb, o + i * 6 + j, none⟩).isSome = true) := by
  obtain ⟨gb, o, c, hva, hcc, hcell⟩ := (hv.mod m fun _ _ h => h).get Act.cells_len rfl (by omega)
  exact ⟨gb, o, c, hva, loadN_of rfl fun j hj => by rw [e_add]; exact hcell i j hi hj, fun j hj => by rw [hcell i j hi hj]; simp [Act.cells_len, hj]⟩

end
end Go.Proofs.Y

/- HLV: what came in with a call, out of the form's reading of it. -/
namespace Go.HL
open Go Go.ChangeShapes Go.WideShapes
section
variable {H : Type} {enc : TypeId × Value → H} {P : Program} {w : World}

theorem str_list (s : ByteArray) : Value.string s = str s.data.toList := rfl

theorem sl_of_cells {a : Addr} {len cap : Nat} {xs : List Value} (hx : len ≤ xs.length) (hlc : len ≤ cap) (hc : ∀ i, i < xs.length → w.cell? (a.add i) = xs[i]?) : Sl w (.slice (some a) len cap) 1 len (xs.take len) := by
  refine ⟨by rw [List.length_take]; omega, some a, cap, rfl, hlc, fun h0 => ?_⟩
  have hs : a.spot = none := by
    have := hc 0 (by omega)
    have e : a.add 0 = a := rfl
    rw [e, List.getElem?_eq_getElem (by omega)] at this
    exact World.cell?_spot this
  obtain ⟨b, o, s⟩ := a
  simp only at hs
  subst hs
  refine ⟨b, o, rfl, fun j hj => ?_⟩
  have := hc j (by omega)
  rw [e_add] at this
  rw [this, List.getElem?_take_of_lt (by omega)]

/-- a slice of strings that came in -/
theorem strs_in {t e : TypeId} {v : Value} {d : DataW H} {ps : List MemPlace} (ht : P.underlying t = some (.slice e)) (he : P.underlying e = some .string) (hc : P.cellsOf e = 1) (hv : ∃ a len cap, v = .slice a len cap)
    (h : DataW.Trod enc P w 0 (fun _ => true) true t v d ps) :
    ∃ ls : List (List UInt8), Sl w v 1 ls.length (ls.map str) ∧ (ls = [] ∨ ∃ spare, d = .slice (ls.map fun s => .lit (.string s)) spare) := by
  obtain ⟨a, len, cap, rfl⟩ := hv
  obtain ⟨fuel, hf⟩ := h
  rcases open_strings ht he hc hf with ⟨hcs, -⟩ | ⟨x, l, c, ss, hcs, -, hl, -, hz, hx, hcell, -⟩
  · simp [Value.cells] at hcs
    obtain ⟨rfl, rfl, rfl⟩ := hcs
    exact ⟨[], (Own.nil w 0 1).sl, .inl rfl⟩
  · simp [Value.cells] at hcs
    obtain ⟨rfl, rfl, rfl⟩ := hcs
    have hz : ss.length = cap := by simpa using hz
    refine ⟨(ss.take len).map fun s => s.data.toList, ?_, .inr ⟨strs (ss.drop len), ?_⟩⟩
    · have := sl_of_cells (w := w) (a := x) (len := len) (cap := cap) (xs := ss.map fun s => .string s) (by simp; omega) hl (by
        intro i hi
        simp only [List.length_map] at hi
        rw [hcell i hi]
        simp [List.getElem?_eq_getElem hi])
      have hlen : ((ss.take len).map fun s => s.data.toList).length = len := by simp; omega
      rw [hlen]
      have e : ((ss.take len).map fun s => s.data.toList).map str = (ss.map fun s => Value.string s).take len := by
        rw [List.map_map, ← List.map_take]; rfl
      rw [e]; exact this
    · have := congrArg Prod.fst hx
      simp only at this
      rw [this, strs, List.map_map]; rfl

/-- a slice of integers that came in -/
theorem ints_in {t e : TypeId} {k : IntKind} {v : Value} {d : DataW H} {ps : List MemPlace} (ht : P.underlying t = some (.slice e)) (he : P.underlying e = some (.int k)) (hc : P.cellsOf e = 1) (hv : ∃ a len cap, v = .slice a len cap)
    (h : DataW.Trod enc P w 0 (fun _ => true) true t v d ps) :
    ∃ zs : List Int, Sl w v 1 zs.length (zs.map fun n => .int k n) ∧ (∀ n ∈ zs, (Lit.int k n).wf = true) ∧ (zs = [] ∨ ∃ spare, d = .slice (zs.map fun n => .lit (.int k n)) spare) := by
  obtain ⟨a, len, cap, rfl⟩ := hv
  obtain ⟨fuel, hf⟩ := h
  rcases open_ints ht he hc hf with ⟨hcs, -⟩ | ⟨x, l, c, ss, hcs, -, hl, -, hz, hx, hcell, hw⟩
  · simp [Value.cells] at hcs
    obtain ⟨rfl, rfl, rfl⟩ := hcs
    exact ⟨[], (Own.nil w 0 1).sl, fun n hn => (nomatch hn), .inl rfl⟩
  · simp [Value.cells] at hcs
    obtain ⟨rfl, rfl, rfl⟩ := hcs
    have hz : ss.length = cap := by simpa using hz
    refine ⟨ss.take len, ?_, fun n hn => hw n (List.mem_of_mem_take hn), .inr ⟨lits k (ss.drop len), ?_⟩⟩
    · have := sl_of_cells (w := w) (a := x) (len := len) (cap := cap) (xs := ss.map fun n => .int k n) (by simp; omega) hl (by
        intro i hi
        simp only [List.length_map] at hi
        rw [hcell i hi]
        simp [List.getElem?_eq_getElem hi])
      have hlen : (ss.take len).length = len := by simp; omega
      rw [hlen, List.map_take]; exact this
    · have := congrArg Prod.fst hx
      simp only at this
      rw [this]; rfl
end
end Go.HL

/- DX: operations that came in with a call. -/
namespace Go.Proofs.Y
open Go Go.HL Go.Proofs Go.ChangeShapes Go.WideShapes Go.Deep

noncomputable def fs42 : Array Field := match Try.prog.underlying 42 with | some (.struct fs) => fs | _ => #[]
theorem u42 : Try.prog.underlying 42 = some (.struct fs42) := by kernel_rfl
theorem fs42_size : fs42.size = 6 := by kernel_rfl
theorem cells42 : Try.prog.cellsOf 42 = 6 := by kernel_rfl
theorem cells3 : Try.prog.cellsOf 3 = 1 := by kernel_rfl
theorem cells9 : Try.prog.cellsOf 9 = 1 := by kernel_rfl
theorem cells22 : Try.prog.cellsOf 22 = 1 := by kernel_rfl
theorem fld (i o t : Nat) (h : (fs42[i]?).map (fun f => (f.offset, f.type)) = some (o, t)) : ∃ f, fs42[i]? = some f ∧ f.offset = o ∧ f.type = t := by
  obtain ⟨f, hf, he⟩ := Option.map_eq_some_iff.1 h
  simp only [Prod.mk.injEq] at he
  exact ⟨f, hf, he.1, he.2⟩

section
variable {H : Type} {enc : TypeId × Value → H} {w : World}

/-- what a record's reading holds -/
def ActD (a : Act) (d : DataW H) : Prop := ∃ x0 x1 x2 x3 x5, d = .agg [x0, x1, x2, x3, .lit (.string a.S), x5] ∧ (a.ks = [] ∨ ∃ sp, x5 = .slice (a.ks.map fun n => .lit (.int .i64 n)) sp)

theorem act_in {fuel : Nat} {cs : List Value} {x : DataW H × List MemPlace} (h : DataW.trod enc Try.prog w 0 (fun _ => true) true fuel 42 cs = some x) :
    ∃ a : Act, cs = a.cells ∧ i64 a.Do ∧ i64 a.F ∧ i64 a.G ∧ i64 a.N ∧ Sl w a.kv 1 a.ks.length (ints a.ks) ∧ ActD a x.1 := by
  obtain ⟨xs, n, rfl, rfl, hlen, hxl, hf⟩ := DataW.trod_struct u42 h
  rw [cells42] at hlen
  rw [fs42_size] at hxl
  match cs, hlen with
  | [c0, c1, c2, c3, c4, c5], _ =>
  match xs, hxl with
  | [y0, y1, y2, y3, y4, y5], _ =>
  obtain ⟨f0, g0, o0, e0⟩ := fld 0 0 3 (by kernel_rfl)
  obtain ⟨f1, g1, o1, e1⟩ := fld 1 1 3 (by kernel_rfl)
  obtain ⟨f2, g2, o2, e2⟩ := fld 2 2 3 (by kernel_rfl)
  obtain ⟨f3, g3, o3, e3⟩ := fld 3 3 3 (by kernel_rfl)
  obtain ⟨f4, g4, o4, e4⟩ := fld 4 4 9 (by kernel_rfl)
  obtain ⟨f5, g5, o5, e5⟩ := fld 5 5 22 (by kernel_rfl)
  have h0 := hf 0 f0 g0
  have h1 := hf 1 f1 g1
  have h2 := hf 2 f2 g2
  have h3 := hf 3 f3 g3
  have h4 := hf 4 f4 g4
  have h5 := hf 5 f5 g5
  rw [o0, e0, cells3] at h0
  rw [o1, e1, cells3] at h1
  rw [o2, e2, cells3] at h2
  rw [o3, e3, cells3] at h3
  rw [o4, e4, cells9] at h4
  rw [o5, e5, cells22] at h5
  obtain ⟨n0, k0, rfl, w0⟩ := DataW.trod_int (x := y0) Try.underlying3 h0
  obtain ⟨n1, k1, rfl, w1⟩ := DataW.trod_int (x := y1) Try.underlying3 h1
  obtain ⟨n2, k2, rfl, w2⟩ := DataW.trod_int (x := y2) Try.underlying3 h2
  obtain ⟨n3, k3, rfl, w3⟩ := DataW.trod_int (x := y3) Try.underlying3 h3
  obtain ⟨s4, k4, rfl, w4⟩ := DataW.trod_string (x := y4) Try.underlying9 h4
  have hs : ∃ a len cap, c5 = .slice a len cap := by
    rcases open_ints (x := y5) Try.underlying22 Try.underlying3 (by kernel_rfl) h5 with ⟨hcs, -⟩ | ⟨x, l, c, ss, hcs, -⟩
    · simp at hcs; exact ⟨_, _, _, hcs⟩
    · simp at hcs; exact ⟨_, _, _, hcs⟩
  have hc5 : c5.cells.toList = [c5] := by obtain ⟨a, l, c, rfl⟩ := hs; rfl
  obtain ⟨zs, hz, -, hd⟩ := ints_in (enc := enc) (w := w) (d := y5.1) (ps := y5.2) Try.underlying22 Try.underlying3 (by kernel_rfl) hs ⟨n, by rw [hc5]; exact h5⟩
  simp at k0 k1 k2 k3 k4
  subst k0 k1 k2 k3 k4
  refine ⟨⟨n0, n1, n2, n3, s4.data.toList, c5, zs⟩, rfl, wf64 w0, wf64 w1, wf64 w2, wf64 w3, by rw [← ints_len zs] at hz ⊢; simpa [ints] using hz, ⟨_, _, _, _, _, rfl, hd⟩⟩

theorem list_of {α : Type} {R : Nat → α → Prop} : ∀ n : Nat, (∀ i, i < n → ∃ a, R i a) → ∃ l : List α, l.length = n ∧ ∀ i (h : i < l.length), R i l[i]
  | 0, _ => ⟨[], rfl, fun i h => absurd h (Nat.not_lt_zero i)⟩
  | n + 1, h => by
    obtain ⟨l, hl, hr⟩ := list_of n fun i hi => h i (by omega)
    obtain ⟨a, ha⟩ := h n (by omega)
    refine ⟨l ++ [a], by simp [hl], fun i hi => ?_⟩
    rcases Nat.lt_or_ge i l.length with h' | h'
    · rw [List.getElem_append_left h']; exact hr i h'
    · have : i = n := by simp at hi; omega
      subst this
      rw [List.getElem_append_right h']
      simpa [hl] using ha

theorem acts_in {v : Value} {d : DataW H} {ps : List MemPlace} (hv : ∃ a len cap, v = .slice a len cap) (h : DataW.Trod enc Try.prog w 0 (fun _ => true) true 38 v d ps) :
    ∃ al : List Act, Sl w v 6 al.length (rows Act.cells al) ∧ (∀ a ∈ al, i64 a.Do ∧ i64 a.F ∧ i64 a.G ∧ i64 a.N ∧ Sl w a.kv 1 a.ks.length (ints a.ks)) ∧
      (al = [] ∨ ∃ (D : List (DataW H)) (sp : List (DataW H)), d = .slice D sp ∧ D.length = al.length ∧ ∀ i (h1 : i < al.length) (h2 : i < D.length), ActD al[i] D[i]) := by
  obtain ⟨a, len, cap, rfl⟩ := hv
  obtain ⟨fuel, hf⟩ := h
  rcases open_slice Try.underlying38 hf with ⟨hcs, -⟩ | ⟨x, l, c, m, n, D, Pl, hcs, -, hl, -, hm, hx, hall⟩
  · simp [Value.cells] at hcs
    obtain ⟨rfl, rfl, rfl⟩ := hcs
    exact ⟨[], (Own.nil w 0 6).sl, fun n hn => (nomatch hn), .inl rfl⟩
  · simp [Value.cells] at hcs
    obtain ⟨rfl, rfl, rfl⟩ := hcs
    have hm : m = cap := by simpa using hm
    subst hm
    simp only [cells42] at hall
    obtain ⟨al, hal, hR⟩ := list_of (R := fun i (a : Act) => (∀ j, j < 6 → w.cell? ((x.add (i * 6)).add j) = a.cells[j]?) ∧ (i64 a.Do ∧ i64 a.F ∧ i64 a.G ∧ i64 a.N ∧ Sl w a.kv 1 a.ks.length (ints a.ks)) ∧ ActD a (D i)) len fun i hi => by
      obtain ⟨cs', h1, h2⟩ := hall i (by omega)
      obtain ⟨a, rfl, a1, a2, a3, a4, a5, a6⟩ := act_in h2
      obtain ⟨-, -, hc⟩ := World.cells?_some h1
      exact ⟨a, hc, ⟨a1, a2, a3, a4, a5⟩, a6⟩
    refine ⟨al, ?_, fun a ha => ?_, ?_⟩
    · subst hal
      refine ⟨rows_len Act.cells_len al, some x, m, rfl, hl, fun h0 => ?_⟩
      have hs : x.spot = none := by
        have := (hR 0 h0).1 0 (by omega)
        have e : (x.add (0 * 6)).add 0 = x := rfl
        rw [e] at this
        exact World.cell?_spot this
      obtain ⟨b, o, s⟩ := x
      simp only at hs
      subst hs
      refine ⟨b, o, rfl, fun j hj => ?_⟩
      have hj6 : j / 6 < al.length := by omega
      have := (hR (j / 6) hj6).1 (j % 6) (Nat.mod_lt _ (by omega))
      rw [e_add, e_add] at this
      rw [show o + j = o + j / 6 * 6 + j % 6 by omega, this, ← rows_get Act.cells_len al (j / 6) (j % 6) hj6 (Nat.mod_lt _ (by omega))]
      congr 1; omega
    · obtain ⟨i, hi, rfl⟩ := List.getElem_of_mem ha
      exact (hR i hi).2.1
    · right
      have hd := congrArg Prod.fst hx
      simp only at hd
      refine ⟨_, _, hd, by simp [hal], fun i h1 h2 => ?_⟩
      have := (hR i h1).2.2
      simpa using this
end

theorem heft_mem : ∀ {al : List Act} {a : Act}, a ∈ al → a.S.length + a.ks.length ≤ heft al
  | x :: al, a, h => by
    simp only [heft, List.map_cons, List.sum_cons]
    rcases List.mem_cons.1 h with rfl | h
    · omega
    · have := heft_mem h; simp only [heft] at this; omega
theorem cells_agg {v : Value} {l : List Value} (h : v.cells.toList = l) (hl : l.length ≠ 1) : v = .agg l.toArray := by
  subst h
  cases v <;> first | rfl | exact absurd rfl hl | simp [Value.cells]
end Go.Proofs.Y

/- JN: deeds: few, pick, found. -/
namespace Go.Proofs.Y
open Go Go.HL Go.Proofs

structure Deed where
  Do : Int
  Row : Bytes
  rv : Value
  rows : List Bytes
  kv : Value
  ks : List Int
  N : Int
def Deed.cells (a : Deed) : List Value := [.int .i64 a.Do, str a.Row, a.rv, a.kv, .int .i64 a.N]
theorem Deed.cells_len (a : Deed) : a.cells.length = 5 := rfl
structure Deed.OK (w : World) (a : Deed) : Prop where
  d : i64 a.Do
  n : i64 a.N
  r : Sl w a.rv 1 a.rows.length (a.rows.map str)
  k : Sl w a.kv 1 a.ks.length (ints a.ks)
theorem Deed.OK.mod0 {w w' : World} {a : Deed} (h : a.OK w) (m : Mod none' w w') : a.OK w' := ⟨h.d, h.n, h.r.mod m fun _ _ h => h, h.k.mod m fun _ _ h => h⟩
theorem Deed.one {w : World} {a : Deed} (h : a.OK w) : ∀ v ∈ a.cells, v.oneCell' = true := by
  obtain ⟨x, c, hk, -⟩ := h.k.form
  obtain ⟨y, c', hr, -⟩ := h.r.form
  intro v hv
  simp only [Deed.cells, List.mem_cons, List.not_mem_nil, or_false] at hv
  rcases hv with rfl | rfl | rfl | rfl | rfl
  · rfl
  · rfl
  · rw [hr]; rfl
  · rw [hk]; rfl
  · rfl

def Deed.few1 (a : Deed) : Bool := decide (a.Row.length ≤ 200) && decide (a.rows.length ≤ 6) && decide (a.ks.length ≤ 60) && a.rows.all fun r => decide (r.length ≤ 200)
def fewJ (l : List Deed) : Bool := decide (l.length ≤ 30) && l.all Deed.few1

theorem deed_at {w : World} {v : Value} {l : List Deed} {i : Nat} (hv : Sl w v 5 l.length (rows Deed.cells l)) (hi : i < l.length) : ∃ gb o c, v = .slice (some ⟨gb, o, none⟩) l.length c ∧
    ∀ w', Mod none' w w' → loadN w' ⟨gb, o + i * 5, none⟩ 5 = l[i].cells.toArray ∧ (∀ j, j < 5 → (w'.cell? ⟨gb, o + i * 5 + j, none⟩).isSome = true) ∧ w'.cell? ⟨gb, o + i * 5 + 1, none⟩ = some (str l[i].Row) ∧ w'.cell? ⟨gb, o + i * 5 + 2, none⟩ = some l[i].rv ∧ w'.cell? ⟨gb, o + i * 5 + 3, none⟩ = some l[i].kv := by
  obtain ⟨gb, o, c, hva, hcc, hcell⟩ := hv.get Deed.cells_len rfl (by omega)
  refine ⟨gb, o, c, hva, fun w' m => ?_⟩
  have hc : ∀ j, j < 5 → w'.cell? ⟨gb, o + i * 5 + j, none⟩ = l[i].cells[j]? := fun j hj => by
    have h1 := hcell i j hi hj
    rw [List.getElem?_eq_getElem (by rw [Deed.cells_len]; exact hj)] at h1 ⊢
    exact m.cell h1 fun h => h
  exact ⟨loadN_of rfl fun j hj => by rw [e_add]; exact hc j hj, fun j hj => by rw [hc j hj]; simp [Deed.cells_len, hj], hc 1 (by omega), hc 2 (by omega), hc 3 (by omega)⟩

section
variable {w : World} {next : Value → World → Prop} {QP : List PanicEntry → World → Prop}

theorem fewJ_ {v : Value} {l : List Deed} (hv : Sl w v 5 l.length (rows Deed.cells l)) (ha : ∀ a ∈ l, a.OK w) (k : next (.bool (fewJ l)) w) : callvK Try.prog (.func (.func 48) #[] #[]) [v] w next QP := by
  refine r48 rfl ?_
  obtain ⟨va, vc, rfl, hvc, -⟩ := hv.form
  unfold h48
  try simp only [go_sem]
  refine ⟨fun h30 => ?_, fun h30 => ?_⟩
  · have h30 : 30 < l.length := by
      have : (30 : Int) < l.length := by simpa using h30
      omega
    have : fewJ l = false := by simp only [fewJ, decide_eq_false (show ¬ l.length ≤ 30 by omega), Bool.false_and]
    rw [this] at k; exact k
  have h30 : l.length ≤ 30 := by
    have : ¬ (30 : Int) < l.length := by simpa using h30
    omega
  unfold h48_1
  try simp only [go_sem]
  refine loopN l.length (fun i τ w' => w' = w ∧ τ 0 = .slice va l.length vc ∧ τ 3 = .int .i64 i ∧ (l.take i).all Deed.few1 = true) ⟨0, by omega, rfl, rfl, rfl, by simp⟩ ?_
  rintro i τ w1 hi ⟨rfl, t0, t3, hall⟩
  unfold h48_2
  try simp only [go_sem, t0, t3]
  refine ⟨fun hlt => ?_, fun hge => ?_⟩
  · have hil : i < l.length := by
      have : (i : Int) < l.length := by simpa using hlt
      omega
    obtain ⟨gb, o, c', hva, hA⟩ := deed_at hv hil
    simp only [Value.slice.injEq] at hva
    obtain ⟨rfl, -, rfl⟩ := hva
    obtain ⟨-, -, x1, x2, x3⟩ := hA w1 (Mod.refl _ _)
    have hok := ha _ (List.getElem_mem hil)
    obtain ⟨ra, rc, hrv, -, hrcell⟩ := hok.r.form
    obtain ⟨ka, kc, hkv, -, -⟩ := hok.k.form
    rw [hrv] at x2
    rw [hkv] at x3
    have bad : Deed.few1 l[i] = false → fewJ l = false := by
      intro h
      simp only [fewJ, Bool.and_eq_false_iff]
      right
      rw [List.all_eq_false]
      exact ⟨l[i], List.getElem_mem hil, by simp [h]⟩
    have eb : (if (if decide ((200 : Int) < l[i].Row.length) = true then true else decide ((6 : Int) < l[i].rows.length)) = true then true else decide ((60 : Int) < l[i].ks.length)) = decide (200 < l[i].Row.length ∨ 6 < l[i].rows.length ∨ 60 < l[i].ks.length) := by
      have g1 : decide ((200 : Int) < l[i].Row.length) = decide (200 < l[i].Row.length) := by congr 1; apply propext; omega
      have g2 : decide ((6 : Int) < l[i].rows.length) = decide (6 < l[i].rows.length) := by congr 1; apply propext; omega
      have g3 : decide ((60 : Int) < l[i].ks.length) = decide (60 < l[i].ks.length) := by congr 1; apply propext; omega
      rw [g1, g2, g3]
      by_cases c1 : 200 < l[i].Row.length <;> by_cases c2 : 6 < l[i].rows.length <;> by_cases c3 : 60 < l[i].ks.length <;> simp [c1, c2, c3]
    unfold h48_3
    try simp only [go_sem, t0, t3, x1, x2, x3, eb]
    repeat refine ⟨⟨by omega, by omega⟩, ?_⟩
    refine ⟨fun _ => ⟨by omega, by omega⟩, fun _ => ⟨by omega, by omega⟩, fun hb => ?_, fun hb => ?_⟩
    · have hb : 200 < l[i].Row.length ∨ 6 < l[i].rows.length ∨ 60 < l[i].ks.length := by simpa using hb
      have : Deed.few1 l[i] = false := by
        simp only [Deed.few1, Bool.and_eq_false_iff, decide_eq_false_iff_not]
        rcases hb with h | h | h
        · left; left; left; omega
        · left; left; right; omega
        · left; right; omega
      rw [bad this] at k; exact k
    have hb : ¬ (200 < l[i].Row.length ∨ 6 < l[i].rows.length ∨ 60 < l[i].ks.length) := by simpa using hb
    unfold h48_4
    try simp only [go_sem, t0, t3]
    refine loopN l[i].rows.length (fun j τ w' => w' = w1 ∧ τ 0 = .slice (some ⟨gb, o, none⟩) l.length vc ∧ τ 3 = .int .i64 i ∧ τ 4 = .int .i64 j ∧ (l[i].rows.take j).all (fun r => decide (r.length ≤ 200)) = true) ⟨0, by omega, rfl, t0, t3, rfl, by simp⟩ ?_
    rintro j τ w2 hj ⟨rfl, t0, t3, t4, hallj⟩
    unfold h48_5
    try simp only [go_sem, t0, t3, t4, x2]
    repeat refine ⟨⟨by omega, by omega⟩, ?_⟩
    refine ⟨fun hltj => ?_, fun hgej => ?_⟩
    · have hjl : j < l[i].rows.length := by
        have : (j : Int) < l[i].rows.length := by simpa using hltj
        omega
      obtain ⟨gr, or, rfl, hrc⟩ := hrcell (by omega)
      have xr : w2.cell? ⟨gr, or + j, none⟩ = some (str l[i].rows[j]) := by
        rw [hrc j (by omega), List.getElem?_map, List.getElem?_eq_getElem hjl]; rfl
      unfold h48_6
      try simp only [go_sem, t0, t3, t4, x2, xr]
      repeat refine ⟨⟨by omega, by omega⟩, ?_⟩
      refine ⟨fun hg => ?_, fun hg => ?_⟩
      · have hg : 200 < l[i].rows[j].length := by
          have : (200 : Int) < l[i].rows[j].length := by simpa using hg
          omega
        have : Deed.few1 l[i] = false := by
          simp only [Deed.few1, Bool.and_eq_false_iff]
          right
          rw [List.all_eq_false]
          exact ⟨l[i].rows[j], List.getElem_mem hjl, by simp; omega⟩
        rw [bad this] at k; exact k
      · have hg : l[i].rows[j].length ≤ 200 := by
          have : ¬ (200 : Int) < l[i].rows[j].length := by simpa using hg
          omega
        unfold h48_7
        try simp only [go_sem, t0, t3, t4]
        rw [w64 (by omega) (by omega)]
        refine ⟨j + 1, by omega, by omega, rfl, ?_⟩
        rw [List.take_succ_eq_append_getElem hjl, List.all_append, hallj]
        simp [hg]
    · have hjo : j = l[i].rows.length := by
        have : ¬ (j : Int) < l[i].rows.length := by simpa using hgej
        omega
      subst hjo
      rw [List.take_length] at hallj
      unfold h48_8
      try simp only [go_sem, t0, t3]
      rw [w64 (by omega) (by omega)]
      refine ⟨i + 1, by omega, by omega, rfl, ?_⟩
      rw [List.take_succ_eq_append_getElem hil, List.all_append, hall]
      have h1 : Deed.few1 l[i] = true := by simp only [Deed.few1, hallj, Bool.and_true, Bool.and_eq_true, decide_eq_true_eq]; omega
      simp [h1]
  · have hio : i = l.length := by
      have : ¬ (i : Int) < l.length := by simpa using hge
      omega
    subst hio
    rw [List.take_length] at hall
    unfold h48_9
    try simp only [go_sem]
    have : fewJ l = true := by simp [fewJ, h30, hall]
    rw [this] at k; exact k

theorem jpick_ {n m : Int} (hn : i64 n) (hm : 0 < m ∧ m ≤ 1000) (k : next (.int .i64 (n % m)) w) : callvK Try.prog (.func (.func 50) #[] #[]) [.int .i64 n, .int .i64 m] w next QP := by
  refine r50 rfl ?_
  have h1 := hn.1
  have h2 := hn.2
  have hne : m ≠ 0 := by omega
  unfold h50
  try simp only [go_sem]
  refine ⟨hne, ?_⟩
  have hb1 : n.tmod m < m := Int.tmod_lt_of_pos _ (by omega)
  have hb2 : -m < n.tmod m := by
    have := Int.lt_tmod_of_pos n (show 0 < m by omega)
    exact this
  have hemod : n % m = if n.tmod m < 0 then n.tmod m + m else n.tmod m := by
    by_cases h0 : 0 ≤ n
    · rw [Int.tmod_eq_emod_of_nonneg h0, if_neg (by have := Int.emod_nonneg n hne; omega)]
    · have h3 := Int.tmod_add_mul_tdiv n m
      have e : n % m = (n.tmod m) % m := by
        conv => lhs; rw [← h3]
        rw [Int.add_mul_emod_self_left]
      rw [e]
      split
      · rw [← Int.add_emod_right, Int.emod_eq_of_lt (by omega) (by omega)]
      · exact Int.emod_eq_of_lt (by omega) hb1
  refine ⟨fun hneg => ?_, fun hpos => ?_⟩
  · have hneg : n.tmod m < 0 := by simpa using hneg
    rw [w64 (by omega) (by omega)]
    unfold h50_1
    try simp only [go_sem]
    rw [hemod, if_pos hneg] at k; exact k
  · have hpos : ¬ n.tmod m < 0 := by simpa using hpos
    unfold h50_1
    try simp only [go_sem]
    rw [hemod, if_neg hpos] at k; exact k
end
end Go.Proofs.Y

/- JO: plain laws: files left alone, and rewritings. -/
namespace Go.Proofs.Y
open Go Go.HL

/-- file f holds s, and all of it is durable -/
structure Clean (d : Dk) (f : Nat) (s : Bytes) : Prop where
  last : d.last f = s
  file : d.file f = s
  none : ∀ p ∈ d.queue, p.file ≠ f
structure Len (d : Dk) : Prop where
  nl : d.lasts.length = 12
  nf : d.files.length = 12

section
variable {d : Dk} {f : Nat} {s : Bytes}

theorem Len.tick (h : Len d) : Len d.tick := by unfold Dk.tick; split <;> exact ⟨h.nl, h.nf⟩
theorem Len.crash (h : Len d) (ks : List Int) : Len (d.crash ks) := by
  unfold Dk.crash; split
  · exact h
  · exact ⟨by simp only [survs_len]; exact h.nl, by simp only [survs_len]; exact h.nl⟩
theorem Len.endW (h : Len d) (e : Bool) : Len (Dk.endW e d) := by unfold Dk.endW; split; exact h.crash _; exact h
theorem Len.pre (h : Len d) : Len d.pre := h.tick.endW _
theorem Len.settle (h : Len d) (g : Nat) (t : Bytes) : Len (d.settle g t) := ⟨by simp [Dk.settle, h.nl], by simp [Dk.settle, h.nf]⟩
theorem Len.writeD (h : Len d) (g a : Int) (t : Bytes) : Len (d.writeD g a t) := by
  unfold Dk.writeD; split
  · exact h
  · exact ⟨h.nl, by simp [h.nf]⟩
theorem Len.write (h : Len d) (g a : Int) (t : Bytes) : Len (d.write g a t) := (h.tick.writeD g a t).endW _
theorem Len.flush (h : Len d) (g : Int) : Len (d.flush g) := by
  unfold Dk.flush; dsimp only; split
  · exact h.pre
  · split
    · exact ⟨h.pre.nl, h.pre.nf⟩
    · exact h.pre.settle _ _
theorem Len.cut (h : Len d) (g n : Int) : Len (d.cut g n) := by
  unfold Dk.cut; dsimp only; split
  · exact h.pre
  · split
    · exact h.pre
    · exact h.pre.settle _ _
theorem Len.turn (h : Len d) (g n : Int) : Len (d.turn g n) := by
  unfold Dk.turn; dsimp only; split
  · exact h.pre
  · split
    · exact h.pre
    · split
      · exact h.pre
      · exact (h.pre.settle _ _).settle _ _

theorem Clean.tick (h : Clean d f s) : Clean d.tick f s := by unfold Dk.tick; split <;> exact ⟨h.last, h.file, h.none⟩
theorem Clean.crash (h : Clean d f s) (ks : List Int) : Clean (d.crash ks) f s := by
  unfold Dk.crash; split
  · exact h
  · have : (survs d.lasts d.queue ks).getD f [] = s := (survs_other d.queue d.lasts ks h.none).trans h.last
    exact ⟨this, this, fun p hp => (nomatch hp)⟩
theorem Clean.endW (h : Clean d f s) (e : Bool) : Clean (Dk.endW e d) f s := by unfold Dk.endW; split; exact h.crash _; exact h
theorem Clean.pre (h : Clean d f s) : Clean d.pre f s := h.tick.endW _
theorem Clean.start (h : Clean d f s) : Clean d.start f s := ⟨h.last, h.file, h.none⟩
theorem Clean.arm (h : Clean d f s) (n : Int) (ks : List Int) : Clean (d.arm n ks) f s := ⟨h.last, h.file, h.none⟩
theorem Clean.lose (h : Clean d f s) (n : Int) : Clean (d.lose n) f s := ⟨h.last, h.file, h.none⟩
theorem Clean.settle (h : Clean d f s) {g : Nat} (hg : g ≠ f) (t : Bytes) : Clean (d.settle g t) f s := by
  refine ⟨?_, ?_, fun p hp => h.none p (List.mem_filter.1 hp).1⟩
  · have : (d.settle g t).last f = d.last f := by simp [Dk.settle, Dk.last, List.getElem?_set_ne hg]
    rw [this]; exact h.last
  · have : (d.settle g t).file f = d.file f := by simp [Dk.settle, Dk.file, List.getElem?_set_ne hg]
    rw [this]; exact h.file
theorem clean_settle (h : Len d) {g : Nat} (hg : g < 12) (t : Bytes) : Clean (d.settle g t) g t := by
  refine ⟨by simp [Dk.settle, Dk.last, h.nl, hg], by simp [Dk.settle, Dk.file, h.nf, hg], fun p hp => ?_⟩
  have := (List.mem_filter.1 hp).2
  simpa using this
theorem Clean.writeD (h : Clean d f s) {g : Nat} (hg : g ≠ f) (a : Int) (t : Bytes) : Clean (d.writeD g a t) f s := by
  unfold Dk.writeD; split
  · exact h
  · refine ⟨h.last, ?_, fun p hp => ?_⟩
    · have : (d.files.set (g : Int).toNat (put (d.file (g : Int).toNat) a.toNat t)).getD f [] = d.file f := by
        simp [Dk.file, List.getElem?_set_ne hg]
      exact this.trans h.file
    · rcases List.mem_append.1 hp with h' | h'
      · exact h.none p h'
      · rw [pieces_file _ _ _ _ p h']; simpa using hg
theorem Clean.write (h : Clean d f s) {g : Nat} (hg : g ≠ f) (a : Int) (t : Bytes) : Clean (d.write g a t) f s := (h.tick.writeD hg a t).endW _
theorem Clean.flush (h : Clean d f s) {g : Nat} (hg : g ≠ f) : Clean (d.flush g) f s := by
  unfold Dk.flush; dsimp only; split
  · exact h.pre
  · split
    · exact ⟨h.pre.last, h.pre.file, h.pre.none⟩
    · exact h.pre.settle (by simpa using hg) _
theorem Clean.cut (h : Clean d f s) {g : Nat} (hg : g ≠ f) (n : Int) : Clean (d.cut g n) f s := by
  unfold Dk.cut; dsimp only; split
  · exact h.pre
  · split
    · exact h.pre
    · exact h.pre.settle (by simpa using hg) _

theorem may_zero {d : Dk} {l : List Int} (h : d.may l = 0) : d.down = false := by
  unfold Dk.may at h; split at h
  · omega
  · rename_i hd; simpa using hd
/-- a call that is let through was no crash -/
theorem pre_up (h : d.pre.down = false) : d.pre = d.tick ∧ d.ends = false := by
  unfold Dk.pre Dk.endW at h ⊢
  cases he : d.ends with
  | false => exact ⟨rfl, rfl⟩
  | true =>
    rw [he] at h
    simp only [if_true] at h
    have hd : d.tick.down = false := by
      have : d.down = false := by unfold Dk.ends at he; simp at he; exact he.1
      unfold Dk.tick; split <;> exact this
    simp [Dk.crash, hd] at h
theorem tick_file : d.tick.file f = d.file f := by unfold Dk.tick; split <;> rfl
theorem tick_last : d.tick.last f = d.last f := by unfold Dk.tick; split <;> rfl

theorem cut_ok (hl : Len d) {g : Nat} (hg : g < 12) (h : d.cutR g 0 = 0) : Clean (d.cut g 0) g [] ∧ (d.cut g 0).down = false := by
  unfold Dk.cutR at h; dsimp only at h
  split at h
  · rename_i h1; exact absurd h h1
  · rename_i h1
    split at h
    · omega
    · rename_i h2
      have hm : d.pre.may [(g : Int)] = 0 := Decidable.byContradiction fun hn => h1 hn
      have hd := may_zero hm
      unfold Dk.cut; dsimp only
      rw [if_neg h1, if_neg h2]
      refine ⟨?_, hd⟩
      have := clean_settle hl.pre hg ((d.pre.file g).take 0)
      simpa using this
theorem write_ok (hl : Len d) {g : Nat} (hg : g < 12) {t : Bytes} (ht : t ≠ []) (h0 : d.file g = []) (h : d.writeR g 0 t = 0) : (d.write g 0 t).file g = t ∧ (d.write g 0 t).down = false := by
  unfold Dk.writeR at h
  split at h
  · omega
  · rename_i he
    have he : d.ends = false := by simpa using he
    have hm : d.tick.may [(g : Int)] = 0 := by
      unfold Dk.writeE at h; split at h
      · rename_i h1; exact absurd h h1
      · rename_i h1; exact Decidable.byContradiction fun hn => h1 hn
    have hd := may_zero hm
    unfold Dk.write Dk.endW
    rw [he]
    simp only [Bool.false_eq_true, if_false]
    unfold Dk.writeD
    rw [if_neg (by simp [h, ht])]
    refine ⟨?_, hd⟩
    have : d.tick.file g = [] := tick_file.trans h0
    have hgl : g < d.tick.files.length := by rw [hl.tick.nf]; exact hg
    show (d.tick.files.set g (put (d.tick.file g) (0 : Int).toNat t)).getD g [] = t
    rw [List.getD_eq_getElem?_getD, List.getElem?_set_self hgl, this]
    exact put_nil t
theorem flush_ok (hl : Len d) {g : Nat} (hg : g < 12) (h : d.flushR g = 0) : Clean (d.flush g) g (d.file g) ∧ (d.flush g).down = false := by
  unfold Dk.flushR at h; dsimp only at h
  split at h
  · rename_i h1; exact absurd h h1
  · rename_i h1
    split at h
    · omega
    · rename_i h2
      have hm : d.pre.may [(g : Int)] = 0 := Decidable.byContradiction fun hn => h1 hn
      have hd := may_zero hm
      unfold Dk.flush; dsimp only
      rw [if_neg h1, if_neg h2]
      refine ⟨?_, hd⟩
      have := clean_settle hl.pre hg (d.pre.file g)
      rw [(pre_up hd).1, tick_file] at this
      rw [(pre_up hd).1]
      simpa [tick_file] using this
theorem turn_ok (hl : Len d) {g : Nat} (hf : f < 12) (hg : g < 12) (hne : g ≠ f) (h : d.turnR f g = 0) : Clean (d.turn f g) f (d.last g) ∧ (d.turn f g).down = false := by
  unfold Dk.turnR at h; dsimp only at h
  split at h
  · rename_i h1; exact absurd h h1
  · rename_i h1
    split at h
    · omega
    · rename_i h2
      split at h
      · omega
      · rename_i h3
        have hm : d.pre.may [(f : Int), (g : Int)] = 0 := Decidable.byContradiction fun hn => h1 hn
        have hd := may_zero hm
        unfold Dk.turn; dsimp only
        rw [if_neg h1, if_neg h2, if_neg h3]
        refine ⟨?_, hd⟩
        have h4 := clean_settle hl.pre hf (d.pre.last g)
        have h5 := h4.settle hne []
        rw [(pre_up hd).1, tick_last] at h5
        rw [(pre_up hd).1]
        simpa [tick_last] using h5
theorem turn_no (hc : Clean d f s) {g : Nat} (h : d.turnR f g ≠ 0) : Clean (d.turn f g) f s := by
  unfold Dk.turnR at h; unfold Dk.turn; dsimp only at h ⊢
  split at h
  · rename_i h1; rw [if_pos h1]; exact hc.pre
  · rename_i h1
    rw [if_neg h1]
    split at h
    · rename_i h2; rw [if_pos h2]; exact hc.pre
    · rename_i h2
      rw [if_neg h2]
      split at h
      · rename_i h3; rw [if_pos h3]; exact hc.pre
      · exact absurd rfl h

theorem head_ne (e m : Int) (t : Bytes) : header e m ++ t ≠ [] := by
  intro h
  have := congrArg List.length h
  rw [List.length_append, header_len] at this
  simp at this

/-- a rewriting: the old rows or the new ones -/
theorem rewr_clean (hl : Len d) (hf : f ≤ 6) (hc : Clean d f s) (rows : List Bytes) : ((rewr d f rows).2 = 0 → Clean (rewr d f rows).1 f (header (16 + (formsB rows).length : Nat) rows.length ++ formsB rows) ∧ (rewr d f rows).1.down = false) ∧ ((rewr d f rows).2 ≠ 0 → Clean (rewr d f rows).1 f s) ∧ Len (rewr d f rows).1 := by
  have hne : f + 1 ≠ f := by omega
  unfold rewr
  dsimp only
  generalize ht : header (16 + (formsB rows).length : Nat) rows.length ++ formsB rows = t
  have htn : t ≠ [] := ht ▸ head_ne _ _ _
  have c1 := hc.cut hne 0
  have l1 := hl.cut (f + 1 : Nat) 0
  split
  · rename_i h1; exact ⟨fun h => absurd h h1, fun _ => c1, l1⟩
  · rename_i h1
    have h1 : d.cutR (f + 1 : Nat) 0 = 0 := Decidable.byContradiction fun hn => h1 hn
    obtain ⟨g1, -⟩ := cut_ok hl (g := f + 1) (by omega) h1
    have c2 := c1.write hne 0 t
    have l2 := l1.write (f + 1 : Nat) 0 t
    split
    · rename_i h2; exact ⟨fun h => absurd h h2, fun _ => c2, l2⟩
    · rename_i h2
      have h2 : (d.cut (f + 1 : Nat) 0).writeR (f + 1 : Nat) 0 t = 0 := Decidable.byContradiction fun hn => h2 hn
      obtain ⟨g2, -⟩ := write_ok l1 (g := f + 1) (by omega) htn g1.file h2
      have c3 := c2.flush hne
      have l3 := l2.flush (f + 1 : Nat)
      split
      · rename_i h3; exact ⟨fun h => absurd h h3, fun _ => c3, l3⟩
      · rename_i h3
        have h3 : ((d.cut (f + 1 : Nat) 0).write (f + 1 : Nat) 0 t).flushR (f + 1 : Nat) = 0 := Decidable.byContradiction fun hn => h3 hn
        obtain ⟨g3, -⟩ := flush_ok l2 (g := f + 1) (by omega) h3
        rw [g2] at g3
        refine ⟨fun h4 => ?_, fun h4 => turn_no c3 h4, l3.turn _ _⟩
        have := turn_ok l3 (f := f) (g := f + 1) (by omega) (by omega) hne h4
        rw [g3.last] at this
        exact this
end
end Go.Proofs.Y

/- JP: plain laws: the errors of a rewriting. -/
namespace Go.Proofs.Y
open Go Go.HL
section
variable {d : Dk} {f : Nat} {s : Bytes}

theorem may_range {l : List Int} (hl : l.all isF = true) : d.may l = 0 ∨ d.may l = 8 := by
  cases hd : d.down <;> simp [Dk.may, hd, hl]
theorem may_two' {f g : Int} : d.may [f, g] = if d.may [f] ≠ 0 then d.may [f] else d.may [g] := by
  unfold Dk.may
  cases d.down <;> cases hf : isF f <;> cases hg : isF g <;> simp [hf, hg]
theorem isF_nat {g : Nat} (h : g < 12) : isF (g : Int) = true := by simp [isF]; omega
theorem pre_idle' (hd : d.down = false) (he : d.ends = false) : d.pre = d.tick ∧ d.tick.down = false := by
  refine ⟨by simp [Dk.pre, Dk.endW, he], ?_⟩
  unfold Dk.tick; split <;> exact hd
theorem pre_lost : d.pre.lost = d.lost := by
  unfold Dk.pre Dk.endW
  have ht : d.tick.lost = d.lost := by unfold Dk.tick; split <;> rfl
  split
  · unfold Dk.crash; split
    · exact ht
    · exact ht
  · exact ht
theorem tick_lost : d.tick.lost = d.lost := by unfold Dk.tick; split <;> rfl
theorem writeD_lost (g a : Int) (t : Bytes) : (d.writeD g a t).lost = d.lost := by unfold Dk.writeD; split <;> rfl
theorem crash_lost (ks : List Int) : (d.crash ks).lost = d.lost := by unfold Dk.crash; split <;> rfl
theorem write_lost (g a : Int) (t : Bytes) : (d.write g a t).lost = d.lost := by
  unfold Dk.write Dk.endW; split
  · rw [crash_lost, writeD_lost, tick_lost]
  · rw [writeD_lost, tick_lost]
theorem cut_lost (g n : Int) : (d.cut g n).lost = d.lost := by
  unfold Dk.cut; dsimp only; split
  · exact pre_lost
  · split
    · exact pre_lost
    · exact pre_lost
theorem turn_lost (g n : Int) : (d.turn g n).lost = d.lost := by
  unfold Dk.turn; dsimp only; split
  · exact pre_lost
  · split
    · exact pre_lost
    · split
      · exact pre_lost
      · exact pre_lost
theorem flush_lost (h : d.lost = 0) (g : Int) : (d.flush g).lost = 0 := by
  have hp : d.pre.lost = 0 := pre_lost.trans h
  unfold Dk.flush; dsimp only; split
  · exact hp
  · split
    · omega
    · exact hp

theorem cutR_cases {g : Nat} (hg : g < 12) : (d.cutR g 0 = 0 ∨ d.cutR g 0 = 8) ∧ (d.down = false → d.ends = false → d.cutR g 0 = 0) := by
  have hm := may_range (d := d.pre) (l := [(g : Int)]) (by simp [isF_nat hg])
  have key : d.pre.may [(g : Int)] = 0 → d.cutR g 0 = 0 := by
    intro h
    unfold Dk.cutR; dsimp only
    rw [if_neg (by simp [h]), if_neg (by omega)]
  refine ⟨?_, fun hd he => key ?_⟩
  · rcases hm with h | h
    · exact .inl (key h)
    · right; unfold Dk.cutR; dsimp only; rw [if_pos (by rw [h]; decide), h]
  · obtain ⟨h1, h2⟩ := pre_idle' hd he
    rw [h1]; exact may_up h2 hg
theorem writeR_cases {g : Nat} (hg : g < 12) {t : Bytes} (hd : d.down = false) (ht : t.length ≤ 16777216) : (d.writeR g 0 t = 0 ∨ d.writeR g 0 t = 8) ∧ (d.ends = false → d.writeR g 0 t = 0) := by
  have key : d.ends = false → d.writeR g 0 t = 0 := by
    intro he
    obtain ⟨-, h2⟩ := pre_idle' hd he
    unfold Dk.writeR Dk.writeE
    rw [he]
    rw [if_neg (by decide), if_neg (by simp [may_up h2 hg]), if_neg (by omega), if_neg (by omega)]
  refine ⟨?_, key⟩
  cases he : d.ends with
  | false => exact .inl (key he)
  | true => right; simp [Dk.writeR, he]
theorem flushR_cases {g : Nat} (hg : g < 12) (hl : d.lost = 0) : (d.flushR g = 0 ∨ d.flushR g = 8) ∧ (d.down = false → d.ends = false → d.flushR g = 0) := by
  have hm := may_range (d := d.pre) (l := [(g : Int)]) (by simp [isF_nat hg])
  have hpl : d.pre.lost = 0 := pre_lost.trans hl
  have key : d.pre.may [(g : Int)] = 0 → d.flushR g = 0 := by
    intro h
    unfold Dk.flushR; dsimp only
    rw [if_neg (by simp [h]), if_neg (by omega)]
  refine ⟨?_, fun hd he => key ?_⟩
  · rcases hm with h | h
    · exact .inl (key h)
    · right; unfold Dk.flushR; dsimp only; rw [if_pos (by rw [h]; decide), h]
  · obtain ⟨h1, h2⟩ := pre_idle' hd he
    rw [h1]; exact may_up h2 hg
theorem turnR_cases {g : Nat} (hf : f < 12) (hg : g < 12) (hne : g ≠ f) (hn : ∀ p ∈ d.queue, p.file ≠ g) : (d.turnR f g = 0 ∨ d.turnR f g = 8) ∧ (d.down = false → d.ends = false → d.turnR f g = 0) := by
  have hm := may_range (d := d.pre) (l := [(f : Int), (g : Int)]) (by simp [isF_nat hg, isF_nat hf])
  have hnp : d.pre.pends g = false := by
    unfold Dk.pends
    rw [List.any_eq_false]
    intro p hp
    have hpq : p ∈ d.queue := by
      unfold Dk.pre Dk.endW at hp
      split at hp
      · unfold Dk.crash at hp; split at hp
        · rwa [tick_queue] at hp
        · cases hp
      · rwa [tick_queue] at hp
    have := hn p hpq
    simp; omega
  have key : d.pre.may [(f : Int), (g : Int)] = 0 → d.turnR f g = 0 := by
    intro h
    unfold Dk.turnR; dsimp only
    rw [if_neg (by simp [h]), if_neg (by omega), hnp]; rfl
  refine ⟨?_, fun hd he => key ?_⟩
  · rcases hm with h | h
    · exact .inl (key h)
    · right; unfold Dk.turnR; dsimp only; rw [if_pos (by rw [h]; decide), h]
  · obtain ⟨h1, h2⟩ := pre_idle' hd he
    rw [h1, may_two', may_up h2 hf]
    simp [may_up h2 hg]

theorem ends_of (h : d.armed = 0) : d.ends = false := Dk.ends_idle h
theorem tick_armed (h : d.armed = 0) : d.tick.armed = 0 := by rw [Dk.tick_idle h]; exact h
theorem cut_armed (h : d.armed = 0) (g n : Int) : (d.cut g n).armed = 0 := by
  rw [Dk.cut_idle h]; split
  · exact h
  · split
    · exact h
    · exact h
theorem write_armed (h : d.armed = 0) (g a : Int) (t : Bytes) : (d.write g a t).armed = 0 := by
  rw [Dk.write_idle h]; unfold Dk.writeD; split <;> exact h
theorem flush_armed (h : d.armed = 0) (g : Int) : (d.flush g).armed = 0 := by
  rw [Dk.flush_idle h]; split
  · exact h
  · split <;> exact h
theorem turn_armed (h : d.armed = 0) (g n : Int) : (d.turn g n).armed = 0 := by
  rw [Dk.turn_idle h]; split
  · exact h
  · split
    · exact h
    · split <;> exact h

theorem rewr_err (hl : Len d) (hf : f ≤ 6) (hlost : d.lost = 0) (rows : List Bytes) (hsz : (formsB rows).length ≤ 1000000) : ((rewr d f rows).2 = 0 ∨ (rewr d f rows).2 = 8) ∧ (d.down = false → d.armed = 0 → (rewr d f rows).2 = 0 ∧ (rewr d f rows).1.armed = 0) ∧ (rewr d f rows).1.lost = 0 := by
  have hne : f + 1 ≠ f := by omega
  have hh := header_len (16 + (formsB rows).length : Nat) rows.length
  unfold rewr
  dsimp only
  generalize ht : header (16 + (formsB rows).length : Nat) rows.length ++ formsB rows = t
  have htl : t.length ≤ 16777216 := by rw [← ht, List.length_append, hh]; omega
  have htn : t ≠ [] := ht ▸ head_ne _ _ _
  obtain ⟨r1, i1⟩ := cutR_cases (d := d) (g := f + 1) (by omega)
  have s1 : (d.cut (f + 1 : Nat) 0).lost = 0 := (cut_lost _ _).trans hlost
  have l1 := hl.cut (f + 1 : Nat) 0
  split
  · rename_i h1
    refine ⟨r1, fun hd ha => absurd (i1 hd (ends_of ha)) h1, s1⟩
  · rename_i h1
    have h1 : d.cutR (f + 1 : Nat) 0 = 0 := Decidable.byContradiction fun hn => h1 hn
    obtain ⟨g1, u1⟩ := cut_ok hl (g := f + 1) (by omega) h1
    obtain ⟨r2, i2⟩ := writeR_cases (d := d.cut (f + 1 : Nat) 0) (g := f + 1) (by omega) u1 htl
    have s2 : ((d.cut (f + 1 : Nat) 0).write (f + 1 : Nat) 0 t).lost = 0 := (write_lost _ _ _).trans s1
    have l2 := l1.write (f + 1 : Nat) 0 t
    split
    · rename_i h2
      exact ⟨r2, fun hd ha => absurd (i2 (ends_of (cut_armed ha _ _))) h2, s2⟩
    · rename_i h2
      have h2 : (d.cut (f + 1 : Nat) 0).writeR (f + 1 : Nat) 0 t = 0 := Decidable.byContradiction fun hn => h2 hn
      obtain ⟨-, u2⟩ := write_ok l1 (g := f + 1) (by omega) htn g1.file h2
      obtain ⟨r3, i3⟩ := flushR_cases (d := (d.cut (f + 1 : Nat) 0).write (f + 1 : Nat) 0 t) (g := f + 1) (by omega) s2
      have s3 := flush_lost s2 (f + 1 : Nat)
      split
      · rename_i h3
        exact ⟨r3, fun hd ha => absurd (i3 u2 (ends_of (write_armed (cut_armed ha _ _) _ _ _))) h3, s3⟩
      · rename_i h3
        have h3 : ((d.cut (f + 1 : Nat) 0).write (f + 1 : Nat) 0 t).flushR (f + 1 : Nat) = 0 := Decidable.byContradiction fun hn => h3 hn
        obtain ⟨g3, u3⟩ := flush_ok l2 (g := f + 1) (by omega) h3
        obtain ⟨r4, i4⟩ := turnR_cases (d := ((d.cut (f + 1 : Nat) 0).write (f + 1 : Nat) 0 t).flush (f + 1 : Nat)) (f := f) (g := f + 1) (by omega) (by omega) hne g3.none
        exact ⟨r4, fun hd ha => ⟨i4 u3 (ends_of (flush_armed (write_armed (cut_armed ha _ _) _ _ _) _)), turn_armed (flush_armed (write_armed (cut_armed ha _ _) _ _ _) _) _ _⟩, (turn_lost _ _).trans s3⟩
end
end Go.Proofs.Y

/- JQ: JournalTurns. -/
namespace Go.Proofs.Y
open Go Go.HL Go.Proofs

theorem sl66 : SlTy Try.prog 66 65 5 80 (.agg #[.int .i64 0, str [], .slice none 0 0, .slice none 0 0, .int .i64 0]) := ⟨by kernel_rfl, by kernel_rfl, rfl, by decide⟩
def image (rows : List Bytes) : Bytes := header (16 + (formsB rows).length : Nat) rows.length ++ formsB rows
theorem openB_image {rows : List Bytes} (h : (formsB rows).length ≤ 1000000) : openB (image rows) = some ⟨rows, rows.length, 16 + (formsB rows).length⟩ := by
  have := openB_core (Core.full rows []) (by rw [List.append_nil, List.length_append, header_len]; omega)
  rw [List.append_nil] at this
  exact this
theorem forms_le : ∀ {l : List Bytes}, (∀ r ∈ l, r.length ≤ 200) → (formsB l).length ≤ l.length * 216
  | [], _ => by simp [formsB]
  | x :: l, h => by
    have := forms_le (l := l) fun r hr => h r (List.mem_cons_of_mem _ hr)
    have hx := h x (List.mem_cons_self ..)
    simp only [formsB, List.flatMap_cons, List.length_append, List.length_cons, formB_len] at this ⊢
    omega
theorem Deed.few1_le {a : Deed} (h : a.few1 = true) : a.Row.length ≤ 200 ∧ a.rows.length ≤ 6 ∧ a.ks.length ≤ 60 ∧ (∀ r ∈ a.rows, r.length ≤ 200) ∧ (formsB a.rows).length ≤ 1296 := by
  simp only [Deed.few1, Bool.and_eq_true, decide_eq_true_eq, List.all_eq_true] at h
  obtain ⟨⟨⟨h1, h2⟩, h3⟩, h4⟩ := h
  have := forms_le h4
  exact ⟨h1, h2, h3, h4, by omega⟩
theorem rewr_queue (d : Dk) (f : Nat) (rows : List Bytes) : (rewr d f rows).1.queue.length ≤ d.queue.length + 16 + (formsB rows).length := by
  have hh := header_len (16 + (formsB rows).length : Nat) rows.length
  have h1 := cut_queue d (f + 1 : Nat) 0
  unfold rewr
  dsimp only
  generalize ht : header (16 + (formsB rows).length : Nat) rows.length ++ formsB rows = t
  have htl : t.length = 16 + (formsB rows).length := by rw [← ht, List.length_append, hh]
  have h2 := write_queue (d.cut (f + 1 : Nat) 0) (f + 1 : Nat) 0 t
  have h3 := flush_queue ((d.cut (f + 1 : Nat) 0).write (f + 1 : Nat) 0 t) (f + 1 : Nat)
  have h4 := turn_queue (((d.cut (f + 1 : Nat) 0).write (f + 1 : Nat) 0 t).flush (f + 1 : Nat)) f (f + 1 : Nat)
  repeat' split
  all_goals dsimp only
  all_goals omega

section
variable {w w0 : World} {next : Value → World → Prop} {QP : List PanicEntry → World → Prop}

theorem fill_rec {place : Nat → Option (Nat × Nat)} {cells : Array Value} {i o n : Nat} {v : Value} {cs : List Value} {rest : List (Nat × Value)} (hp : place i = some (o, n)) (hv : v.cells = cs.toArray) (hl : cs.length = n) (ho : o + n ≤ cells.size) :
    Instr.fill place cells ((i, v) :: rest) = Instr.fill place (cells.toList.take o ++ cs ++ cells.toList.drop (o + n)).toArray rest := by
  rw [Instr.fill, hp]
  simp only [hv, List.size_toArray, hl]
  rw [if_neg (by simp; omega)]
  congr 1
  rw [← Array.foldl_toList]
  simp only [Array.toList_zipIdx, List.toList_toArray]
  have key : ∀ (l : List Value) (k : Nat) (Z : Array Value), o + k + l.length ≤ Z.size → (l.zipIdx k).foldl (fun cs (x : Value × Nat) => cs.setIfInBounds (o + x.2) x.1) Z = (Z.toList.take (o + k) ++ l ++ Z.toList.drop (o + k + l.length)).toArray := by
    intro l
    induction l with
    | nil => intro k Z hk; simp
    | cons x r ih =>
      intro k Z hk
      rw [List.zipIdx_cons, List.foldl_cons, ih _ _ (by simp at hk ⊢; omega)]
      apply Array.toList_inj.1
      apply List.ext_getElem?
      intro j
      simp only [List.length_cons] at hk
      simp only [Array.toList_setIfInBounds, List.append_assoc, List.getElem?_append, List.length_take, List.length_set, Array.length_toList, List.getElem?_take, List.getElem?_set, List.getElem?_drop, List.length_cons, List.getElem?_cons]
      repeat' split
      all_goals first
        | rfl
        | (exfalso; omega)
        | (congr 1; omega)
        | (exfalso; simp_all; omega)
  have := key cs 0 cells (by omega)
  simpa [hl] using this
theorem bsl2d {a b : Deed} (k : ∀ q w', w.heap.size = q → Own w' (.slice (some ⟨q, 0, none⟩) 2 2) 65 5 2 (rows Deed.cells [a, b]) → Mod none' w w' → next (.slice (some ⟨q, 0, none⟩) 2 2) w') :
    bslK Try.prog 66 2 [(0, .agg #[.int .i64 a.Do, str a.Row, a.rv, a.kv, .int .i64 a.N]), (1, .agg #[.int .i64 b.Do, str b.Row, b.rv, b.kv, .int .i64 b.N])] w next QP := by
  refine bsl_ sl66 (cs := rows Deed.cells [a, b]) rfl (by omega) ?_ ?_
  · have f1 := fill_rec (place := fun i => some (i * 5, 5)) (cells := (Array.range (2 * 5)).map ((Value.agg #[.int .i64 0, str [], .slice none 0 0, .slice none 0 0, .int .i64 0]).cells[· % (Value.agg #[.int .i64 0, str [], .slice none 0 0, .slice none 0 0, .int .i64 0]).cells.size]!)) (i := 0) (o := 0) (n := 5) (v := .agg #[.int .i64 a.Do, str a.Row, a.rv, a.kv, .int .i64 a.N]) (cs := a.cells) (rest := [(1, .agg #[.int .i64 b.Do, str b.Row, b.rv, b.kv, .int .i64 b.N])]) rfl rfl rfl (by simp)
    rw [f1, fill_rec (i := 1) (o := 5) (n := 5) (cs := b.cells) rfl rfl rfl (by simp [Deed.cells]), Instr.fill]
    congr 1
    apply Array.toList_inj.1
    simp [rows, Deed.cells]
  intro q w' hq own _ m _
  exact k q w' hq own m

theorem jopen_ {p g : Nat} {d : Dk} {F : FP} {L : Lg} {f : Int} (dr : DR w p d F) (f0 : ∀ k, F.R k → w0.heap.size ≤ k) (m : Mod none' w0 w) (hf : f = g) (hg : g ≤ 6) (hd : d.down = false) (hO : openB (d.file g) = some L)
    (k : ∀ q w' S, JS w0 w' p q g d L F S → Mod none' w w' → next (.tuple #[ptr q, .int .i64 0]) w') : callvK Try.prog (.func (.func 44) #[] #[]) [ptr p, .int .i64 f] w next QP := by
  subst hf
  have hm := may_up hd (f := g) (by omega)
  have hE : openE d g = 0 := by
    have h1 : ¬ ((g : Int) < 0 ∨ (6 : Int) < g) := by omega
    simp only [openE, if_neg h1, hm, Int.toNat_natCast, hO]; rfl
  refine open_ dr (fun w9 m9 hne => absurd hE hne) ?_
  intro g' L' hg' _ _ hL q w' S lg hS m'
  obtain rfl : g' = g := by omega
  rw [hO] at hL
  obtain rfl := Option.some.inj hL
  exact k q w' S (JS.opened dr f0 m lg hS m') m'
theorem jnew_ (k : ∀ p w' F, DR w' p Dk.new F → (∀ k, F.R k → w.heap.size ≤ k) → Mod none' w w' → next (ptr p) w') : callvK Try.prog (.func (.func 17) #[] #[]) [] w next QP := by
  refine new_ ?_
  intro p w' _ st
  exact k p w' st.foot st.dr (fun k hk => by rcases st.footR k hk with h | h; exact h.elim; exact h) (st.mod.mono fun _ _ h => h)

/-- at rest: up, no crash armed, no flush lost, with this file durable -/
structure Rest (d : Dk) (f : Nat) (s : Bytes) : Prop where
  len : Len d
  clean : Clean d f s
  down : d.down = false
  armed : d.armed = 0
  lost : d.lost = 0
theorem Rest.rewr {d : Dk} {f : Nat} {s : Bytes} (h : Rest d f s) (hf : f ≤ 6) (rows : List Bytes) (hsz : (formsB rows).length ≤ 1000000) : (rewr d f rows).2 = 0 ∧ Rest (rewr d f rows).1 f (image rows) := by
  obtain ⟨c1, c2, c3⟩ := rewr_clean h.len hf h.clean rows
  obtain ⟨e1, e2, e3⟩ := rewr_err h.len hf h.lost rows hsz
  obtain ⟨e4, e5⟩ := e2 h.down h.armed
  obtain ⟨c4, c5⟩ := c1 e4
  exact ⟨e4, c3, c4, c5, e5, e3⟩

theorem jturns2 {p q : Nat} {d : Dk} {L : Lg} {F : FP} {S : Nat → Prop} {s : Bytes} {e : Int} {v0 v1 v3 : Value} {old nw : List Bytes} {keep : List Int} {σ : Env} {w1 : World} (h : JS w w1 p q 5 d L F S) (hr : Rest d 5 s) (hq : d.queue.length ≤ 10000)
    (h0 : Sl w v0 1 old.length (old.map str)) (h1 : Sl w v1 1 nw.length (nw.map str)) (h3 : Sl w v3 1 keep.length (ints keep)) (b0 : (formsB old).length ≤ 1296) (b1 : (formsB nw).length ≤ 1296) (b3 : keep.length ≤ 60)
    (he : (e = 0 ∧ L.rows = nw) ∨ (e = 8 ∧ L.rows = old)) (s0 : σ 0 = v0) (s1 : σ 1 = v1) (s3 : σ 3 = v3) (s9 : σ 9 = .bool true) (s11 : σ 11 = ptr p) (s13 : σ 13 = .int .i64 e) (s14 : σ 14 = ptr q)
    (k : ∀ w', Mod none' w w' → next (.bool true) w') : hw Try.prog noPanic h11_5 (endV [.tmp 8] next) σ w1 := by
  have hrb := h.lg.rb
  have hbd := h.lg.bd
  have l1 := formsB_rows nw
  have l0 := formsB_rows old
  have lt1 := fun hn => h1.lt (by omega) hn
  have lt3 := fun hn => h3.lt (by omega) hn
  unfold h11_5
  try simp only [go_sem, s0, s1, s3, s9, s11, s13, s14]
  refine jall_ h.lg ?_
  intro v2 w2 own2 m2 _
  try simp only [go_sem, s0, s1, s3, s9, s11, s13, s14]
  refine same__ own2.sl ((h0.mod h.m fun _ _ h => h).mod m2 fun _ _ h => h) (by omega) ?_
  intro w3 m3
  try simp only [go_sem, s0, s1, s3, s9, s11, s13, s14]
  refine jall_ ((h.mod0 m2).mod0 m3).lg ?_
  intro v4 w4 own4 m4 _
  try simp only [go_sem, s0, s1, s3, s9, s11, s13, s14]
  refine same__ own4.sl ((((h1.mod h.m fun _ _ h => h).mod m2 fun _ _ h => h).mod m3 fun _ _ h => h).mod m4 fun _ _ h => h) (by omega) ?_
  intro w5 m5
  have h5 := (((h.mod0 m2).mod0 m3).mod0 m4).mod0 m5
  try simp only [go_sem, s0, s1, s3, s9, s11, s13, s14]
  have hc : (if (if decide (e = 0) = true then !decide (L.rows = nw) else false) = true then true else if (!decide (L.rows = old)) = true then !decide (L.rows = nw) else false) = false := by
    rcases he with ⟨rfl, h⟩ | ⟨rfl, h⟩ <;> simp [h]
  obtain ⟨re, rr⟩ := hr.rewr (by omega) nw (by omega)
  have rq := rewr_queue d 5 nw
  unfold h11_6
  try simp only [go_sem, s0, s1, s3, s9, s11, s13, s14, hc]
  refine rewrite_ h5 (by omega) (h1.mod h5.m fun _ _ h => h) (fun hn k hk => ?_) (by omega) ?_
  · have := lt1 hn k hk
    have := h5.m.size
    exact ⟨fun hR => by have := h5.f0 k hR; omega, by omega⟩
  intro w6 ⟨F6, S6, h6⟩
  have e6 : (rewriteJ d L 5 nw).2.2 = 0 := re
  rw [e6]
  have h6 : JS w w6 p q 5 (rewr d 5 nw).1 _ F6 S6 := h6
  generalize (rewr d 5 nw).1 = d6 at *
  try simp only [go_sem, s0, s1, s3, s9, s11, s13, s14, hc]
  unfold h11_7
  try simp only [go_sem, s0, s1, s3, s9, s11, s13, s14]
  refine crash_ h6.dr (h3.mod h6.m fun _ _ h => h) (fun hn hk => ?_) (by omega) ?_
  · have := lt3 hn p hk
    have := h6.f0 p (h6.dr.sub p h6.dr.self)
    omega
  intro w7 st7
  have h7 := h6.disk st7
  try simp only [go_sem, s0, s1, s3, s9, s11, s13, s14]
  refine start_ h7.dr ?_
  intro w8 dr8 m8 _
  have h8 := h7.disk (.of dr8 m8)
  try simp only [go_sem, s0, s1, s3, s9, s11, s13, s14]
  have hcl : Clean (d6.crash keep).start 5 (image nw) := (rr.clean.crash _).start
  refine jopen_ (g := 5) h8.dr h8.f0 h8.m rfl (by omega) rfl (by rw [hcl.file]; exact openB_image (by omega)) ?_
  intro q9 w9 S9 h9 m9
  try simp only [go_sem, s0, s1, s3, s9, s11, s13, s14]
  unfold h11_8
  try simp only [go_sem, s0, s1, s3, s9, s11, s13, s14]
  refine jall_ h9.lg ?_
  intro v10 w10 own10 m10 _
  try simp only [go_sem, s0, s1, s3, s9, s11, s13, s14]
  refine same__ own10.sl ((h1.mod h9.m fun _ _ h => h).mod m10 fun _ _ h => h) (by dsimp only; omega) ?_
  intro w11 m11
  try simp only [go_sem, s0, s1, s3, s9, s11, s13, s14]
  exact k _ ((h9.m.trans' m10).trans' m11)

theorem i64_0 : i64 0 := ⟨by decide, by decide⟩
theorem jturns_ {v0 v1 v3 : Value} {old nw : List Bytes} {n : Int} {keep : List Int} (hn : i64 n) (h0 : Sl w v0 1 old.length (old.map str)) (h1 : Sl w v1 1 nw.length (nw.map str)) (h3 : Sl w v3 1 keep.length (ints keep))
    (k : ∀ w', Mod none' w w' → next (.bool true) w') : callK Try.prog 11 [v0, v1, .int .i64 n, v3] w next QP := by
  refine q11 rfl ?_
  obtain ⟨a0, c0, hv0, -, -⟩ := h0.form
  obtain ⟨a1, c1, hv1, -, -⟩ := h1.form
  obtain ⟨a3, c3, hv3, -, -⟩ := h3.form
  unfold h11
  try simp only [go_sem]
  refine jsmall_ ?_
  intro w1 m1
  have ok1 : (⟨0, [], v0, old, v3, keep, 0⟩ : Deed).OK w1 := ⟨i64_0, i64_0, h0.mod m1 fun _ _ h => h, h3.mod m1 fun _ _ h => h⟩
  have ok2 : (⟨0, [], v1, nw, .slice none 0 0, [], 0⟩ : Deed).OK w1 := ⟨i64_0, i64_0, h1.mod m1 fun _ _ h => h, sl_nil⟩
  have e1 : v2 (.put 3 1) (v2 (.put 2 1) (.agg #[.int .i64 0, str [], .slice none 0 0, .slice none 0 0, .int .i64 0]) v0) v3 = .agg #[.int .i64 0, str [], v0, v3, .int .i64 0] := by rw [hv0, hv3]; rfl
  have e2 : v2 (.put 2 1) (.agg #[.int .i64 0, str [], .slice none 0 0, .slice none 0 0, .int .i64 0]) v1 = .agg #[.int .i64 0, str [], v1, .slice none 0 0, .int .i64 0] := by rw [hv1]; rfl
  have f1 : c2 (.put 2 1) (.agg #[.int .i64 0, str [], .slice none 0 0, .slice none 0 0, .int .i64 0]) v0 := by rw [hv0]; simp [c2, Value.cells]
  have f2 : c2 (.put 3 1) (v2 (.put 2 1) (.agg #[.int .i64 0, str [], .slice none 0 0, .slice none 0 0, .int .i64 0]) v0) v3 := by
    have : v2 (.put 2 1) (.agg #[.int .i64 0, str [], .slice none 0 0, .slice none 0 0, .int .i64 0]) v0 = .agg #[.int .i64 0, str [], v0, .slice none 0 0, .int .i64 0] := by rw [hv0]; rfl
    rw [this, hv3]; simp [c2, Value.cells]
  have f3 : c2 (.put 2 1) (.agg #[.int .i64 0, str [], .slice none 0 0, .slice none 0 0, .int .i64 0]) v1 := by rw [hv1]; simp [c2, Value.cells]
  try simp only [go_sem]
  refine ⟨f1, f2, f3, ?_⟩
  rw [e1, e2]
  refine bsl2d (a := ⟨0, [], v0, old, v3, keep, 0⟩) (b := ⟨0, [], v1, nw, .slice none 0 0, [], 0⟩) ?_
  intro b2 w2 _ own2 m2
  try simp only [go_sem]
  refine fewJ_ (l := [⟨0, [], v0, old, v3, keep, 0⟩, ⟨0, [], v1, nw, .slice none 0 0, [], 0⟩]) own2.sl (fun a ha => ?_) ?_
  · simp only [List.mem_cons, List.not_mem_nil, or_false] at ha
    rcases ha with rfl | rfl
    · exact ok1.mod0 m2
    · exact ok2.mod0 m2
  try simp only [go_sem]
  refine ⟨fun hf => k _ (m1.trans' m2), fun hf => ?_⟩
  have hf : (Deed.few1 ⟨0, [], v0, old, v3, keep, 0⟩ = true) ∧ (Deed.few1 ⟨0, [], v1, nw, .slice none 0 0, [], 0⟩ = true) := by simpa [fewJ] using hf
  obtain ⟨-, hl0, hlk, -, b0⟩ := Deed.few1_le hf.1
  obtain ⟨-, hl1, -, -, b1⟩ := Deed.few1_le hf.2
  dsimp only at hl0 hlk b0 hl1 b1
  unfold h11_1
  try simp only [go_sem]
  refine jnew_ ?_
  intro p w3 F3 dr3 f3 m3
  have M3 := (m1.trans' m2).trans' m3
  have s12 := (m1.trans' m2).size
  have f3 : ∀ k, F3.R k → w.heap.size ≤ k := fun k hk => by have := f3 k hk; omega
  try simp only [go_sem]
  refine jopen_ (g := 5) dr3 f3 M3 rfl (by omega) rfl (openB_core (s := []) .nil (by decide)) ?_
  intro q4 w4 S4 h4 m4
  try simp only [go_sem]
  have r0 : Rest Dk.new 5 [] := ⟨⟨rfl, rfl⟩, ⟨rfl, rfl, fun p hp => (nomatch hp)⟩, rfl, rfl, rfl⟩
  obtain ⟨re1, rr1⟩ := r0.rewr (by omega) old (by omega)
  have rq1 := rewr_queue Dk.new 5 old
  have hq0 : Dk.new.queue.length = 0 := rfl
  refine rewrite_ h4 (by omega) (h0.mod h4.m fun _ _ h => h) (fun hn k hk => ?_) (by omega) ?_
  · have := h0.lt (by omega) hn k hk
    have := h4.m.size
    exact ⟨fun hR => by have := h4.f0 k hR; omega, by omega⟩
  intro w5 ⟨F5, S5, h5⟩
  have e5 : ∀ L, (rewriteJ Dk.new L 5 old).2.2 = 0 := fun _ => re1
  rw [e5]
  have h5 : JS w w5 p q4 5 (rewr Dk.new 5 old).1 _ F5 S5 := h5
  generalize (rewr Dk.new 5 old).1 = d5 at *
  try simp only [go_sem]
  unfold h11_2
  try simp only [go_sem]
  refine jpick_ hn (by omega) ?_
  have hp1 := Int.emod_nonneg n (show (5 : Int) ≠ 0 by omega)
  have hp2 := Int.emod_lt_of_pos n (show (0 : Int) < 5 by omega)
  try simp only [go_sem]
  rw [w64 (by omega) (by omega)]
  refine arm_ h5.dr (by omega) (h3.mod h5.m fun _ _ h => h) (by omega) ?_
  intro w6 st6
  have h6 := h5.disk st6
  try simp only [go_sem]
  have l6 : Len (d5.arm (1 + n % 5) keep) := ⟨rr1.len.nl, rr1.len.nf⟩
  have lost6 : (d5.arm (1 + n % 5) keep).lost = 0 := rr1.lost
  have hq6 : (d5.arm (1 + n % 5) keep).queue.length = d5.queue.length := rfl
  obtain ⟨c1, c2, c3⟩ := rewr_clean l6 (by omega) (rr1.clean.arm (1 + n % 5) keep) nw
  obtain ⟨x1, -, x3⟩ := rewr_err l6 (by omega) lost6 nw (f := 5) (by omega)
  have rq6 := rewr_queue (d5.arm (1 + n % 5) keep) 5 nw
  refine rewrite_ h6 (by omega) (h1.mod h6.m fun _ _ h => h) (fun hn k hk => ?_) (by omega) ?_
  · have := h1.lt (by omega) hn k hk
    have := h6.m.size
    exact ⟨fun hR => by have := h6.f0 k hR; omega, by omega⟩
  intro w7 ⟨F7, S7, h7⟩
  have e7 : ∀ L, (rewriteJ (d5.arm (1 + n % 5) keep) L 5 nw).2.2 = (rewr (d5.arm (1 + n % 5) keep) 5 nw).2 := fun _ => rfl
  rw [e7]
  have h7 : JS w w7 p q4 5 (rewr (d5.arm (1 + n % 5) keep) 5 nw).1 _ F7 S7 := h7
  generalize (rewr (d5.arm (1 + n % 5) keep) 5 nw).1 = d7 at *
  generalize (rewr (d5.arm (1 + n % 5) keep) 5 nw).2 = e at *
  try simp only [go_sem]
  refine arm_ h7.dr (by omega) sl_nil (by omega) ?_
  intro w8 st8
  have h8 := h7.disk st8
  try simp only [go_sem]
  unfold h11_3
  try simp only [go_sem]
  refine ⟨fun he => ?_, fun he => ?_⟩
  · have he : e ≠ 0 := by simpa using he
    have he8 : e = 8 := by omega
    have cc := c2 he
    refine start_ h8.dr ?_
    intro w9 dr9 m9 _
    have h9 := h8.disk (.of dr9 m9)
    try simp only [go_sem]
    unfold h11_4
    try simp only [go_sem]
    refine jopen_ (g := 5) h9.dr h9.f0 h9.m rfl (by omega) rfl (L := ⟨old, old.length, 16 + (formsB old).length⟩) ?_ ?_
    · have := ((cc.arm 0 []).start).file
      rw [this]; exact openB_image (by omega)
    intro q10 w10 S10 h10 m10
    try simp only [go_sem, he8]
    exact jturns2 h10 ⟨⟨c3.nl, c3.nf⟩, (cc.arm 0 []).start, rfl, rfl, x3⟩ (by show d7.queue.length ≤ _; omega) h0 h1 h3 b0 b1 hlk (.inr ⟨rfl, rfl⟩) rfl rfl rfl rfl rfl rfl rfl k
  · have he : e = 0 := by simpa using he
    subst he
    obtain ⟨cc, hd⟩ := c1 rfl
    unfold h11_4
    try simp only [go_sem]
    refine jopen_ (g := 5) h8.dr h8.f0 h8.m rfl (by omega) hd (L := ⟨nw, nw.length, 16 + (formsB nw).length⟩) ?_ ?_
    · rw [(cc.arm 0 []).file]; exact openB_image (by omega)
    intro q10 w10 S10 h10 m10
    try simp only [go_sem]
    exact jturns2 h10 ⟨⟨c3.nl, c3.nf⟩, cc.arm 0 [], hd, rfl, x3⟩ (by show d7.queue.length ≤ _; omega) h0 h1 h3 b0 b1 hlk (.inl ⟨rfl, rfl⟩) rfl rfl rfl rfl rfl rfl rfl k
end
end Go.Proofs.Y

/- JR: plain laws: a log over a disk at rest. -/
namespace Go.Proofs.Y
open Go Go.HL Go.Proofs

/-- up, no crash armed, no flush lost -/
structure At (d : Dk) : Prop where
  len : Len d
  down : d.down = false
  armed : d.armed = 0
  lost : d.lost = 0
theorem at_new : At Dk.new := ⟨⟨rfl, rfl⟩, rfl, rfl, rfl⟩

theorem rewr_done {d : Dk} {f : Nat} (hl : Len d) (hf : f ≤ 6) (rows : List Bytes) (h : (rewr d f rows).2 = 0) : Clean (rewr d f rows).1 f (image rows) ∧ (rewr d f rows).1.down = false := by
  have hne : f + 1 ≠ f := by omega
  unfold image
  unfold rewr at h ⊢
  dsimp only at h ⊢
  generalize ht : header (16 + (formsB rows).length : Nat) rows.length ++ formsB rows = t at *
  have htn : t ≠ [] := ht ▸ head_ne _ _ _
  have l1 := hl.cut (f + 1 : Nat) 0
  split at h
  · rename_i h1; exact absurd h h1
  · rename_i h1
    rw [if_neg h1]
    have h1 : d.cutR (f + 1 : Nat) 0 = 0 := Decidable.byContradiction fun hn => h1 hn
    obtain ⟨g1, -⟩ := cut_ok hl (g := f + 1) (by omega) h1
    have l2 := l1.write (f + 1 : Nat) 0 t
    split at h
    · rename_i h2; exact absurd h h2
    · rename_i h2
      rw [if_neg h2]
      have h2 : (d.cut (f + 1 : Nat) 0).writeR (f + 1 : Nat) 0 t = 0 := Decidable.byContradiction fun hn => h2 hn
      obtain ⟨g2, -⟩ := write_ok l1 (g := f + 1) (by omega) htn g1.file h2
      have l3 := l2.flush (f + 1 : Nat)
      split at h
      · rename_i h3; exact absurd h h3
      · rename_i h3
        rw [if_neg h3]
        have h3 : ((d.cut (f + 1 : Nat) 0).write (f + 1 : Nat) 0 t).flushR (f + 1 : Nat) = 0 := Decidable.byContradiction fun hn => h3 hn
        obtain ⟨g3, -⟩ := flush_ok l2 (g := f + 1) (by omega) h3
        rw [g2] at g3
        have := turn_ok l3 (f := f) (g := f + 1) (by omega) (by omega) hne h
        rw [g3.last] at this
        exact this
theorem rewr_len {d : Dk} {f : Nat} (hl : Len d) (rows : List Bytes) : Len (rewr d f rows).1 := by
  unfold rewr
  dsimp only
  split
  · exact hl.cut _ _
  · split
    · exact (hl.cut _ _).write _ _ _
    · split
      · exact ((hl.cut _ _).write _ _ _).flush _
      · exact (((hl.cut _ _).write _ _ _).flush _).turn _ _

section
variable {d : Dk} {f : Nat}
theorem At.rewr (h : At d) (hf : f ≤ 6) (rows : List Bytes) (hsz : (formsB rows).length ≤ 1000000) : (rewr d f rows).2 = 0 ∧ At (rewr d f rows).1 := by
  obtain ⟨-, e2, e3⟩ := rewr_err h.len hf h.lost rows hsz
  obtain ⟨e4, e5⟩ := e2 h.down h.armed
  exact ⟨e4, rewr_len h.len rows, (rewr_done h.len hf rows e4).2, e5, e3⟩
theorem At.write (h : At d) (hf : f < 12) {a : Nat} {s : Bytes} (hfit : a + s.length ≤ 16777216) : d.writeR f a s = 0 ∧ At (d.write f a s) := by
  have hm := may_up h.down hf
  obtain ⟨h1, h2, -⟩ := idle_same h.armed hm (a := a) (s := s) (by omega) (by omega)
  exact ⟨idle_writeR h.armed hm (by omega) (by omega), h.len.write _ _ _, h2.trans h.down, h1, (write_lost _ _ _).trans h.lost⟩
theorem At.flush (h : At d) (hf : f < 12) : d.flushR f = 0 ∧ At (d.flush f) := by
  have h1 := (flushR_cases (d := d) hf h.lost).2 h.down (ends_of h.armed)
  exact ⟨h1, h.len.flush _, (flush_ok h.len hf h1).2, flush_armed h.armed _, flush_lost h.lost _⟩
theorem At.flushJ (h : At d) (hf : f < 12) (L : Lg) : (flushJ d L f).2.2 = 0 ∧ (flushJ d L f).2.1 = ⟨L.rows, L.rows.length, L.end_⟩ ∧ At (flushJ d L f).1 := by
  obtain ⟨f1, a1⟩ := h.flush hf
  obtain ⟨f2, a2⟩ := a1.write hf (a := 0) (s := header L.end_ L.rows.length) (by rw [header_len]; omega)
  obtain ⟨f3, a3⟩ := a2.flush hf
  have f2 : (d.flush f).writeR f 0 (header L.end_ L.rows.length) = 0 := f2
  have e : flush3 d L f = (((d.flush f).write f 0 (header L.end_ L.rows.length)).flush f, 0) := by
    unfold flush3
    rw [if_neg (fun hn => hn f1), if_neg (fun hn => hn f2)]
    exact congrArg (Prod.mk _) f3
  unfold Y.flushJ
  split
  · rename_i hs
    refine ⟨by simp [h.down], ?_, h⟩
    show L = _
    rw [← hs]
  · rw [e]
    exact ⟨rfl, rfl, a3⟩
theorem At.add (h : At d) (hf : f < 12) (L : Lg) (rows : List Bytes) (hfit : L.end_ + (formsB rows).length ≤ 16777216) : addE d L f rows = 0 ∧ At (addD' d L f rows) := h.write hf hfit
theorem At.batch (h : At d) (hf : f < 12) (L : Lg) (rows : List Bytes) (hfit : L.end_ + (formsB rows).length ≤ 16777216) : (batchJ d L f rows).2.2 = 0 ∧ (batchJ d L f rows).2.1 = ⟨L.rows ++ rows, (L.rows ++ rows).length, L.end_ + (formsB rows).length⟩ ∧ At (batchJ d L f rows).1 := by
  unfold batchJ
  split
  · rename_i h0
    subst h0
    obtain ⟨e1, e2, e3⟩ := h.flushJ hf L
    exact ⟨e1, by rw [e2]; simp [formsB], e3⟩
  · obtain ⟨a1, a2⟩ := h.add hf L rows hfit
    rw [if_neg (fun hn => hn a1)]
    obtain ⟨e1, e2, e3⟩ := a2.flushJ hf (L.add rows)
    exact ⟨e1, e2, e3⟩
theorem flushJ_queue (d : Dk) (L : Lg) (f : Nat) : (flushJ d L f).1.queue.length ≤ d.queue.length + 16 := by
  unfold flushJ
  split
  · dsimp only; omega
  · dsimp only
    have h1 := flush_queue d f
    have h2 := write_queue (d.flush f) f 0 (header L.end_ L.rows.length)
    have h3 := flush_queue ((d.flush f).write f 0 (header L.end_ L.rows.length)) f
    rw [header_len] at h2
    unfold flush3
    split
    · dsimp only; omega
    · split <;> (dsimp only; omega)
theorem addJ_queue (d : Dk) (L : Lg) (f : Nat) (rows : List Bytes) : (addD' d L f rows).queue.length ≤ d.queue.length + (formsB rows).length := write_queue _ _ _ _
theorem batchJ_queue (d : Dk) (L : Lg) (f : Nat) (rows : List Bytes) : (batchJ d L f rows).1.queue.length ≤ d.queue.length + 16 + (formsB rows).length := by
  unfold batchJ
  have h1 := flushJ_queue d L f
  have h2 := addJ_queue d L f rows
  have h3 := flushJ_queue (addD' d L f rows) (L.add rows) f
  split
  · omega
  · split
    · dsimp only; omega
    · omega
end
end Go.Proofs.Y

/- JY: plain laws for JournalLasts: what a log's file holds after any crash. -/
namespace Go.Proofs.Y
open Go Go.HL Go.Proofs

def Vw (s : Bytes) (rows : List Bytes) : Prop := (s = [] ∧ rows = []) ∨ ∃ u t, u.length = 16 ∧ s = u ++ formsB rows ++ t

theorem put_zero_app (t x : Bytes) : ∃ t', put t 0 x = x ++ t' := by
  refine ⟨t.drop x.length, ?_⟩
  apply List.ext_getElem?
  intro i
  rw [put_at]
  by_cases hi : i < x.length
  · rw [if_pos (by omega), List.getElem?_append_left hi]; rfl
  · rw [if_neg (by omega), List.getElem?_append_right (by omega), List.getElem?_drop]
    split
    · congr 1; omega
    · rename_i h
      rw [if_neg (by omega)]
      symm; exact List.getElem?_eq_none (by omega)
theorem Core.vw {s : Bytes} {rows : List Bytes} {e : Nat} (h : Core s rows e) : Vw s rows := by
  cases h with
  | nil => exact .inl ⟨rfl, rfl⟩
  | zero t => exact .inr ⟨List.replicate 16 0, t, by simp, by simp [formsB]⟩
  | full rows t => exact .inr ⟨header (16 + (formsB rows).length : Nat) rows.length, t, header_len _ _, rfl⟩
theorem Vw.add {s : Bytes} {rows : List Bytes} (h : Vw s rows) (new : List Bytes) : Vw (put s (16 + (formsB rows).length) (formsB new)) (rows ++ new) := by
  rcases h with ⟨rfl, rfl⟩ | ⟨u, t, hu, rfl⟩
  · right
    refine ⟨List.replicate 16 0, [], by simp, ?_⟩
    have h0 : (formsB []).length = 0 := rfl
    simp only [h0, List.nil_append, List.append_nil, Nat.add_zero]
    apply List.ext_getElem?
    intro i
    rw [put_at]
    by_cases hi : i < 16
    · rw [if_neg (by omega), if_neg (by simp), if_pos (by omega), List.getElem?_append_left (by simpa using hi), List.getElem?_replicate, if_pos hi]
    · rw [List.getElem?_append_right (by simpa using hi)]
      simp only [List.length_replicate, List.length_nil, Nat.not_lt_zero, if_false]
      split
      · rfl
      · rw [if_neg (by omega)]
        symm; exact List.getElem?_eq_none (by omega)
  · right
    obtain ⟨t', ht⟩ := put_zero_app t (formsB new)
    refine ⟨u, t', hu, ?_⟩
    rw [put_append _ _ _ (by rw [List.length_append, hu]; exact Nat.le_refl _), List.length_append, hu, Nat.sub_self, ht, formsB_app]
    simp only [List.append_assoc]
theorem Vw.head {s : Bytes} {rows : List Bytes} (h : Vw s rows) (hne : rows ≠ []) : Core (put s 0 (header (16 + (formsB rows).length : Nat) rows.length)) rows (16 + (formsB rows).length) := by
  rcases h with ⟨-, h⟩ | ⟨u, t, hu, rfl⟩
  · exact absurd h hne
  · exact Core.head hu

def Sv (D : Bytes) (Q : List Pd) (f : Nat) (M : List Bytes → Prop) (E : Nat) : Prop := ∀ ks, ∃ r e, M r ∧ e ≤ E ∧ Core (survF D Q ks f) r e

theorem survF_none {f : Nat} : ∀ (Q : List Pd) (D : Bytes) (ks : List Int), (∀ p ∈ Q, p.file ≠ f) → survF D Q ks f = D
  | [], _, _, _ => rfl
  | p :: Q, D, ks, h => by
    simp only [survF]
    rw [if_neg (h p (by simp)), survF_none Q D ks.tail fun p hp => h p (by simp [hp])]
theorem survF_filter {f g : Nat} (h : g ≠ f) : ∀ (Q : List Pd) (D : Bytes) (ks : List Int), ∃ ks', survF D (Q.filter fun p => !decide (p.file = g)) ks f = survF D Q ks' f
  | [], D, ks => ⟨[], rfl⟩
  | p :: Q, D, ks => by
    by_cases hp : p.file = g
    · rw [List.filter_cons_of_neg (by simp [hp])]
      obtain ⟨ks', e⟩ := survF_filter h Q D ks
      refine ⟨0 :: ks', ?_⟩
      rw [e]
      simp only [survF]
      rw [if_neg (by omega)]; rfl
    · rw [List.filter_cons_of_pos (by simp [hp])]
      simp only [survF]
      generalize hD : (if p.file = f then _ else D) = D'
      obtain ⟨ks', e⟩ := survF_filter h Q D' ks.tail
      rw [e]
      subst hD
      cases ks with
      | nil => exact ⟨0 :: ks', rfl⟩
      | cons k ks => exact ⟨k :: ks', rfl⟩

variable {D : Bytes} {Q : List Pd} {f E : Nat} {M M' : List Bytes → Prop}
theorem Sv.mono (h : Sv D Q f M E) {E' : Nat} (hE : E ≤ E') (hM : ∀ r, M r → M' r) : Sv D Q f M' E' := fun ks => by
  obtain ⟨r, e, h1, h2, h3⟩ := h ks
  exact ⟨r, e, hM r h1, by omega, h3⟩
theorem Sv.snoc (h : Sv D Q f M E) {p : Pd} (hp : p.file = f → E ≤ p.at_) : Sv D (Q ++ [p]) f M E := fun ks => by
  obtain ⟨r, e, h1, h2, h3⟩ := h ks
  refine ⟨r, e, h1, h2, ?_⟩
  rw [survF_snoc]
  split
  · rename_i hf
    have := hp hf
    split
    · exact h3
    · exact h3.put (by omega) _
  · exact h3
theorem Sv.app : ∀ (ps Q : List Pd), Sv D Q f M E → (∀ p ∈ ps, p.file = f → E ≤ p.at_) → Sv D (Q ++ ps) f M E
  | [], Q, h, _ => by simpa using h
  | p :: ps, Q, h, hp => by
    have := Sv.app ps (Q ++ [p]) (h.snoc (hp p (by simp))) fun x hx => hp x (by simp [hx])
    simpa using this
theorem Sv.filter (h : Sv D Q f M E) {g : Nat} (hg : g ≠ f) : Sv D (Q.filter fun p => !decide (p.file = g)) f M E := fun ks => by
  obtain ⟨ks', e⟩ := survF_filter hg Q D ks
  rw [e]; exact h ks'
theorem Sv.clean (hq : ∀ p ∈ Q, p.file ≠ f) {r : List Bytes} {e : Nat} (h : Core D r e) (hr : M r) (he : e ≤ E) : Sv D Q f M E := fun ks => by
  rw [survF_none Q D ks hq]; exact ⟨r, e, hr, he, h⟩
theorem pieces_head (hd : Bytes) (h : hd.length = 16) : pieces f hd.length 0 hd = [⟨f, 0, hd⟩] := by
  have hne : hd ≠ [] := by rintro rfl; simp at h
  have hp : piece 16 0 = 16 := by decide
  rw [h, pieces, if_neg hne, h, hp, List.take_of_length_le (by omega), List.drop_of_length_le (by omega), pieces, if_pos rfl]
theorem Sv.head (hq : ∀ p ∈ Q, p.file ≠ f) {r0 r1 : List Bytes} {e0 e1 : Nat} (h0 : Core D r0 e0) {hd : Bytes} (hl : hd.length = 16) (h1 : Core (put D 0 hd) r1 e1) (m0 : M r0) (m1 : M r1) (b0 : e0 ≤ E) (b1 : e1 ≤ E) :
    Sv D (Q ++ [⟨f, 0, hd⟩]) f M E := fun ks => by
  rw [survF_snoc, survF_none Q D ks hq, if_pos rfl]
  have hk : ∀ k b, kept k hd = some b → b = hd := by
    intro k b hk
    unfold kept at hk
    split at hk
    · cases hk
    · split at hk
      · simpa using hk.symm
      · split at hk
        · rw [List.take_of_length_le (by omega)] at hk; simpa using hk.symm
        · cases hk
  split
  · exact ⟨r0, e0, m0, b0, h0⟩
  · rename_i b hb
    rw [hk _ _ hb]
    exact ⟨r1, e1, m1, b1, h1⟩

/-- a disk that is up, of which one file is a log's -/
structure Dv (d : Dk) (f : Nat) (M : List Bytes → Prop) (E : Nat) (rows : List Bytes) : Prop where
  len : Len d
  down : d.down = false
  view : Vw (d.file f) rows
  fm : ∃ r e, M r ∧ e ≤ E ∧ Core (d.file f) r e
  sv : Sv (d.last f) d.queue f M E
/-- one that fell -/
structure Fl (d : Dk) (f : Nat) (M : List Bytes → Prop) : Prop where
  len : Len d
  down : d.down = true
  q : d.queue = []
  same : d.file f = d.last f
  core : ∃ r e, M r ∧ Core (d.last f) r e

variable {d : Dk} {rows : List Bytes}
theorem Dv.mono (h : Dv d f M E rows) (hM : ∀ r, M r → M' r) : Dv d f M' E rows := by
  obtain ⟨r, e, h1, h2, h3⟩ := h.fm
  exact ⟨h.len, h.down, h.view, ⟨r, e, hM r h1, h2, h3⟩, h.sv.mono (Nat.le_refl _) hM⟩
theorem Fl.mono (h : Fl d f M) (hM : ∀ r, M r → M' r) : Fl d f M' := by
  obtain ⟨r, e, h1, h3⟩ := h.core
  exact ⟨h.len, h.down, h.q, h.same, r, e, hM r h1, h3⟩

theorem tick_down : d.tick.down = d.down := by unfold Dk.tick; split <;> rfl
theorem Dv.tick (h : Dv d f M E rows) : Dv d.tick f M E rows :=
  ⟨h.len.tick, tick_down.trans h.down, by rw [tick_file]; exact h.view, by rw [tick_file]; exact h.fm, by rw [tick_last, tick_queue]; exact h.sv⟩
theorem fall (hl : Len d) (hd : d.down = false) (hf : f < 12) (h : Sv (d.last f) d.queue f M E) (ks : List Int) : Fl (d.crash ks) f M := by
  have hs : (d.crash ks).last f = survF (d.last f) d.queue ks f := by
    unfold Dk.crash; rw [if_neg (by simp [hd])]
    exact survF_eq hf _ _ _ hl.nl
  refine ⟨hl.crash ks, ?_, ?_, ?_, ?_⟩
  · unfold Dk.crash; rw [if_neg (by simp [hd])]
  · unfold Dk.crash; rw [if_neg (by simp [hd])]
  · unfold Dk.crash; rw [if_neg (by simp [hd])]; rfl
  · obtain ⟨r, e, h1, -, h3⟩ := h ks
    exact ⟨r, e, h1, by rw [hs]; exact h3⟩
theorem Dv.crash (h : Dv d f M E rows) (hf : f < 12) (ks : List Int) : Fl (d.crash ks) f M := fall h.len h.down hf h.sv ks
theorem Dv.pre (h : Dv d f M E rows) (hf : f < 12) : (d.ends = false ∧ d.pre = d.tick ∧ Dv d.pre f M E rows) ∨ (d.ends = true ∧ Fl d.pre f M) := by
  unfold Dk.pre Dk.endW
  cases he : d.ends with
  | false => exact .inl ⟨rfl, rfl, h.tick⟩
  | true => exact .inr ⟨rfl, h.tick.crash hf _⟩
theorem Fl.may (h : Fl d f M) (l : List Int) : d.may l = 8 := by unfold Dk.may; rw [h.down]; rfl
theorem Dv.may (h : Dv d f M E rows) {l : List Int} (hl : l.all isF = true) : d.may l = 0 := by unfold Dk.may; rw [h.down, hl]; rfl
theorem settle_other {g : Nat} (h : g ≠ f) (t : Bytes) : (d.settle g t).file f = d.file f ∧ (d.settle g t).last f = d.last f := by
  constructor
  · simp [Dk.settle, Dk.file, List.getElem?_set_ne h]
  · simp [Dk.settle, Dk.last, List.getElem?_set_ne h]
theorem Dv.settle (h : Dv d f M E rows) {g : Nat} (hg : g ≠ f) (t : Bytes) : Dv (d.settle g t) f M E rows := by
  obtain ⟨e1, e2⟩ := settle_other (d := d) hg t
  exact ⟨h.len.settle g t, h.down, by rw [e1]; exact h.view, by rw [e1]; exact h.fm, by rw [e2]; exact h.sv.filter hg⟩
theorem Dv.of_clean (hl : Len d) (hd : d.down = false) {s : Bytes} (hc : Clean d f s) (h : Core s rows E) (hm : M rows) : Dv d f M E rows :=
  ⟨hl, hd, by rw [hc.file]; exact h.vw, ⟨rows, E, hm, Nat.le_refl _, by rw [hc.file]; exact h⟩, Sv.clean hc.none (by rw [hc.last]; exact h) hm (Nat.le_refl _)⟩

theorem Dv.flush (h : Dv d f M E rows) (hf : f < 12) {g : Nat} (hg : g < 12) :
    (d.flushR g = 8 ∧ Fl (d.flush g) f M) ∨ (d.flushR g = 9 ∧ Dv (d.flush g) f M E rows) ∨ (d.flushR g = 0 ∧ Dv (d.flush g) f M E rows ∧ Clean (d.flush g) g (d.file g)) := by
  rcases h.pre hf with ⟨he, e, hp⟩ | ⟨he, hp⟩
  · have hm := hp.may (l := [(g : Int)]) (by simp [isF_nat hg])
    by_cases hl : 0 < d.pre.lost
    · refine .inr (.inl ⟨?_, ?_⟩)
      · unfold Dk.flushR; dsimp only; rw [if_neg (by omega), if_pos hl]
      · unfold Dk.flush; dsimp only; rw [if_neg (by omega), if_pos hl]
        exact ⟨⟨hp.len.nl, hp.len.nf⟩, hp.down, hp.view, hp.fm, hp.sv⟩
    · have h0 : d.flushR g = 0 := by unfold Dk.flushR; dsimp only; rw [if_neg (by omega), if_neg hl]
      refine .inr (.inr ⟨h0, ?_, (flush_ok h.len hg h0).1⟩)
      have hfl : d.flush g = d.pre.settle g (d.pre.file g) := by unfold Dk.flush; dsimp only; rw [if_neg (by omega), if_neg hl]; rfl
      by_cases hgf : g = f
      · subst hgf
        obtain ⟨c, hd⟩ := flush_ok h.len hg h0
        obtain ⟨r, x, m, b, k⟩ := h.fm
        exact ⟨h.len.flush _, hd, by rw [c.file]; exact h.view, ⟨r, x, m, b, by rw [c.file]; exact k⟩, Sv.clean c.none (by rw [c.last]; exact k) m b⟩
      · rw [hfl]; exact hp.settle hgf _
  · left
    have hm := hp.may [(g : Int)]
    constructor
    · unfold Dk.flushR; dsimp only; rw [hm]; rfl
    · unfold Dk.flush; dsimp only; rw [hm]; exact hp
theorem Dv.cut (h : Dv d f M E rows) (hf : f < 12) {g : Nat} (hg : g < 12) (hgf : g ≠ f) :
    (d.cutR g 0 = 8 ∧ Fl (d.cut g 0) f M) ∨ (d.cutR g 0 = 0 ∧ Dv (d.cut g 0) f M E rows) := by
  rcases h.pre hf with ⟨he, e, hp⟩ | ⟨he, hp⟩
  · have hm := hp.may (l := [(g : Int)]) (by simp [isF_nat hg])
    have hs : ¬ ((0 : Int) < 0 ∨ (d.pre.size g : Int) < 0) := by omega
    right
    constructor
    · unfold Dk.cutR; dsimp only; rw [if_neg (by omega), if_neg hs]
    · unfold Dk.cut; dsimp only; rw [if_neg (by omega), if_neg hs]
      exact hp.settle (by simpa using hgf) _
  · left
    have hm := hp.may [(g : Int)]
    constructor
    · unfold Dk.cutR; dsimp only; rw [hm]; rfl
    · unfold Dk.cut; dsimp only; rw [hm]; exact hp
theorem Dv.turn (h : Dv d f M E rows) (hf : f < 12) {g : Nat} (hg : g < 12) (hgf : g ≠ f) (hn : d.turnR f g ≠ 0) :
    (d.turnR f g = 8 ∧ Fl (d.turn f g) f M) ∨ (d.turnR f g ≠ 8 ∧ Dv (d.turn f g) f M E rows) := by
  rcases h.pre hf with ⟨he, e, hp⟩ | ⟨he, hp⟩
  · have hm := hp.may (l := [(f : Int), (g : Int)]) (by simp [isF_nat hg, isF_nat hf])
    right
    have hne : ¬ ((f : Int) = g) := by omega
    unfold Dk.turnR at hn ⊢; unfold Dk.turn; dsimp only at hn ⊢
    have hn0 : ¬ (d.pre.may [(f : Int), (g : Int)] ≠ 0) := fun h => h hm
    rw [if_neg hn0, if_neg hne] at hn ⊢
    rw [if_neg hn0, if_neg hne]
    by_cases e2 : d.pre.pends g = true
    · rw [if_pos e2, if_pos e2]; exact ⟨by decide, hp⟩
    · rw [if_neg e2] at hn; exact absurd rfl hn
  · left
    have hm := hp.may [(f : Int), (g : Int)]
    constructor
    · unfold Dk.turnR; dsimp only; rw [hm]; rfl
    · unfold Dk.turn; dsimp only; rw [hm]; exact hp
theorem writeE_fit {d : Dk} {f a : Nat} {s : Bytes} (hd : d.down = false) (hf : f < 12) (hfit : a + s.length ≤ 16777216) : d.writeE f a s = 0 := by
  unfold Dk.writeE
  have hm : d.may [(f : Int)] = 0 := may_up hd hf
  rw [if_neg (by omega), if_neg (by omega), if_neg (by omega)]
/-- a write is its pieces, then the crash if there is one -/
theorem write_form {d : Dk} {g a : Nat} {s : Bytes} (hd : d.down = false) (hg : g < 12) (hs : s ≠ []) (hfit : a + s.length ≤ 16777216) :
    d.write g a s = Dk.endW d.ends { d.tick with files := d.files.set g (put (d.file g) a s), queue := d.queue ++ pieces g s.length a s } ∧ d.writeR g a s = if d.ends then 8 else 0 := by
  have hE : d.tick.writeE g a s = 0 := writeE_fit (tick_down.trans hd) hg hfit
  constructor
  · unfold Dk.write Dk.writeD
    rw [if_neg (by simp [hE, hs])]
    have e1 : d.tick.files = d.files := by unfold Dk.tick; split <;> rfl
    have e2 : d.tick.file g = d.file g := tick_file
    simp only [Int.toNat_natCast, e1, e2, tick_queue]
  · unfold Dk.writeR; rw [hE]
theorem pieces_ge : ∀ (n a : Nat) (s : Bytes), ∀ p ∈ pieces f n a s, a ≤ p.at_
  | 0, _, _, p, hp => by simp [pieces] at hp
  | n + 1, a, s, p, hp => by
    rw [pieces] at hp
    split at hp
    · simp at hp
    · rcases List.mem_cons.1 hp with rfl | hp
      · exact Nat.le_refl _
      · have := pieces_ge n _ _ p hp; omega
theorem write_fall {d' : Dk} {g a : Nat} {s : Bytes} (h : Len d) (hd : d.down = false) (hf : f < 12) (hg : g < 12) (hs : s ≠ []) (hfit : a + s.length ≤ 16777216)
    (sv : Sv (d.last f) (d.queue ++ pieces g s.length a s) f M E) (k : ∀ d' : Dk, Len d' → d'.down = false → d'.last f = d.last f → d'.queue = d.queue ++ pieces g s.length a s → d'.files = d.files.set g (put (d.file g) a s) → Dv d' f M E rows) :
    (d.writeR g a s = 8 ∧ Fl (d.write g a s) f M) ∨ (d.writeR g a s = 0 ∧ Dv (d.write g a s) f M E rows) := by
  obtain ⟨e1, e2⟩ := write_form hd hg hs hfit
  rw [e1, e2]
  have hlen : Len { d.tick with files := d.files.set g (put (d.file g) a s), queue := d.queue ++ pieces g s.length a s } := ⟨h.tick.nl, by simp [h.nf]⟩
  have hdn : d.tick.down = false := tick_down.trans hd
  have hlast : ({ d.tick with files := d.files.set g (put (d.file g) a s), queue := d.queue ++ pieces g s.length a s } : Dk).last f = d.last f := tick_last
  cases d.ends with
  | false => exact .inr ⟨rfl, k _ hlen hdn hlast rfl rfl⟩
  | true => exact .inl ⟨rfl, fall (E := E) hlen hdn hf (by rw [hlast]; exact sv) _⟩
theorem Dv.write (h : Dv d f M E rows) (hf : f < 12) {g a : Nat} {s : Bytes} (hg : g < 12) (hgf : g ≠ f) (hs : s ≠ []) (hfit : a + s.length ≤ 16777216) :
    (d.writeR g a s = 8 ∧ Fl (d.write g a s) f M) ∨ (d.writeR g a s = 0 ∧ Dv (d.write g a s) f M E rows) := by
  have sv : Sv (d.last f) (d.queue ++ pieces g s.length a s) f M E := Sv.app _ _ h.sv fun p hp e => absurd ((pieces_file _ _ _ _ p hp).symm.trans e) hgf
  refine write_fall (d' := d) h.len h.down hf hg hs hfit sv fun d' h1 h2 h3 h4 h5 => ?_
  have hfile : d'.file f = d.file f := by simp [Dk.file, h5, List.getElem?_set_ne hgf]
  exact ⟨h1, h2, by rw [hfile]; exact h.view, by rw [hfile]; exact h.fm, by rw [h3, h4]; exact sv⟩
theorem file_set {d d' : Dk} (h : Len d) (hf : f < 12) {x : Bytes} (e : d'.files = d.files.set f x) : d'.file f = x := by
  have : f < d.files.length := by rw [h.nf]; exact hf
  simp [Dk.file, e, this]
theorem forms_ne {new : List Bytes} (h : new ≠ []) : formsB new ≠ [] := by
  cases new with
  | nil => exact absurd rfl h
  | cons x l =>
    intro hh
    have := formsB_rows (x :: l)
    rw [hh] at this; simp at this
theorem Dv.add (h : Dv d f M E rows) (hf : f < 12) (hE : E = 16 + (formsB rows).length) {new : List Bytes} (hne : new ≠ []) (hfit : E + (formsB new).length ≤ 16777216) :
    (d.writeR f E (formsB new) = 8 ∧ Fl (d.write f E (formsB new)) f M) ∨ (d.writeR f E (formsB new) = 0 ∧ Dv (d.write f E (formsB new)) f M (E + (formsB new).length) (rows ++ new)) := by
  have sv : Sv (d.last f) (d.queue ++ pieces f (formsB new).length E (formsB new)) f M E := Sv.app _ _ h.sv fun p hp _ => pieces_ge _ _ _ p hp
  refine write_fall (d' := d) (E := E + (formsB new).length) h.len h.down hf hf (forms_ne hne) hfit (sv.mono (by omega) fun _ h => h) fun d' h1 h2 h3 h4 h5 => ?_
  have hfile := file_set h.len hf h5
  obtain ⟨r, e, m, b, c⟩ := h.fm
  exact ⟨h1, h2, by rw [hfile, hE]; exact h.view.add new, ⟨r, e, m, by omega, by rw [hfile]; exact c.put (by omega) _⟩, by rw [h3, h4]; exact sv.mono (by omega) fun _ h => h⟩
theorem Dv.head (h : Dv d f M E rows) (hf : f < 12) (hE : E = 16 + (formsB rows).length) (hne : rows ≠ []) {s : Bytes} (hc : Clean d f s) (hM : ∀ r, M r → M' r) (hr : M' rows) :
    (d.writeR f 0 (header E rows.length) = 8 ∧ Fl (d.write f 0 (header E rows.length)) f M') ∨ (d.writeR f 0 (header E rows.length) = 0 ∧ Dv (d.write f 0 (header E rows.length)) f M' E rows ∧ Core ((d.write f 0 (header E rows.length)).file f) rows E) := by
  subst hE
  obtain ⟨r, e, m, b, c⟩ := h.fm
  have hh := h.view.head hne
  rw [hc.file] at c hh
  have sv : Sv (d.last f) (d.queue ++ pieces f (header (16 + (formsB rows).length : Nat) rows.length).length 0 (header (16 + (formsB rows).length : Nat) rows.length)) f M' (16 + (formsB rows).length) := by
    rw [pieces_head _ (header_len _ _), hc.last]
    exact Sv.head hc.none c (header_len _ _) hh (hM r m) hr b (Nat.le_refl _)
  have hnn : header (16 + (formsB rows).length : Nat) rows.length ≠ [] := by
    intro hn; have := header_len (16 + (formsB rows).length : Nat) rows.length; rw [hn] at this; simp at this
  have hfit : 0 + (header (16 + (formsB rows).length : Nat) rows.length).length ≤ 16777216 := by rw [header_len]; omega
  have key : ∀ d' : Dk, Len d' → d'.down = false → d'.last f = d.last f → d'.queue = d.queue ++ pieces f (header (16 + (formsB rows).length : Nat) rows.length).length 0 (header (16 + (formsB rows).length : Nat) rows.length) → d'.files = d.files.set f (put (d.file f) 0 (header (16 + (formsB rows).length : Nat) rows.length)) →
      Dv d' f M' (16 + (formsB rows).length) rows ∧ Core (d'.file f) rows (16 + (formsB rows).length) := by
    intro d' h1 h2 h3 h4 h5
    have hfile := file_set h.len hf h5
    rw [hc.file] at hfile
    rw [← hfile] at hh
    exact ⟨⟨h1, h2, hh.vw, ⟨rows, _, hr, Nat.le_refl _, hh⟩, by rw [h3, h4]; exact sv⟩, hh⟩
  have w1 := write_fall (d' := d) (rows := rows) h.len h.down hf hf hnn hfit sv fun d' h1 h2 h3 h4 h5 => (key d' h1 h2 h3 h4 h5).1
  rcases w1 with w1 | ⟨w1, w2⟩
  · exact .inl w1
  · refine .inr ⟨w1, w2, ?_⟩
    obtain ⟨e1, e2⟩ := write_form (a := 0) h.down hf hnn hfit
    have e1 : d.write f 0 (header (16 + (formsB rows).length : Nat) rows.length) = _ := e1
    have w1 : d.writeR f (0 : Nat) (header (16 + (formsB rows).length : Nat) rows.length) = 0 := w1
    rw [e2] at w1
    rw [e1]
    have he : d.ends = false := by
      cases hx : d.ends with
      | false => rfl
      | true => rw [hx] at w1; cases w1
    rw [he]
    exact (key { d.tick with files := d.files.set f (put (d.file f) 0 (header (16 + (formsB rows).length : Nat) rows.length)), queue := d.queue ++ pieces f (header (16 + (formsB rows).length : Nat) rows.length).length 0 (header (16 + (formsB rows).length : Nat) rows.length) }
      ⟨h.len.tick.nl, by simp [h.len.nf]⟩ (tick_down.trans h.down) tick_last rfl rfl).2
end Go.Proofs.Y

/- JU: JournalLists. -/
namespace Go.Proofs.Y
open Go Go.HL Go.Proofs

def base (w0 w : World) (B : Nat → Prop) (hw : w0.heap.size ≤ w.heap.size) (hB : ∀ k, B k → k < w.heap.size) : Base := ⟨w, fun k => k < w0.heap.size ∨ B k, fun k hk => by rcases hk with hk | hk; omega; exact hB k hk⟩
/-- a value's block, apart from disk and log -/
def Apart (w0 : World) (v : Value) (F : FP) (S : Nat → Prop) : Prop := ∀ k, v.ownBlock = some k → w0.heap.size ≤ k ∧ ¬ F.R k ∧ ¬ S k

section
variable {w0 w w' : World} {p q f : Nat} {d d' : Dk} {L L' : Lg} {F F' : FP} {S S' B : Nat → Prop} {v v' : Value}
theorem JS.base (h : JS w0 w p q f d L F S) (ha : ∀ k, B k → ¬ F.R k ∧ ¬ S k) (hw : w0.heap.size ≤ w.heap.size) (hB : ∀ k, B k → k < w.heap.size) : GS (base w0 w B hw hB) w p q f d L F S :=
  ⟨h.dr, h.lg, h.ap, fun k hk hA => hA.elim (fun h1 => by have := h.f0 k hk; omega) fun h1 => (ha k h1).1 hk, fun k hk hA => hA.elim (fun h1 => by have := h.s0 k hk; omega) fun h1 => (ha k h1).2 hk, Mod.refl _ _⟩
theorem GS.back {hw : w0.heap.size ≤ w.heap.size} {hB : ∀ k, B k → k < w.heap.size} (g : GS (Y.base w0 w B hw hB) w' p q f d' L' F' S') (m : Mod none' w0 w) :
    JS w0 w' p q f d' L' F' S' ∧ (∀ k, B k → ¬ F'.R k ∧ ¬ S' k) ∧ Mod (fun k => ¬ (k < w0.heap.size ∨ B k)) w w' := by
  refine ⟨⟨g.dr, g.lg, g.ap, fun k hk => Nat.not_lt.1 fun h => g.f0 k hk (.inl h), fun k hk => Nat.not_lt.1 fun h => g.s0 k hk (.inl h), m.trans g.m fun k hk h => h (.inl hk)⟩, fun k hk => ⟨fun h => g.f0 k h (.inr hk), fun h => g.s0 k h (.inr hk)⟩, g.m⟩
theorem JS.held (h : JS w0 w p q f d L F S) (ha : Apart w0 v F S) (m : Mod (ownS v) w w') : JS w0 w' p q f d L F S :=
  ⟨h.dr.mod m fun k hk hT => (ha k hT).2.1 hk, h.lg.mod m fun k hk hT => (ha k hT).2.2 hk, h.ap, h.f0, h.s0, h.m.trans m fun k hk hT => by have := (ha k hT).1; omega⟩
theorem Apart.next (h : JS w0 w p q f d L F S) (ha : Apart w0 v F S) (hb : ∀ k, v'.ownBlock = some k → v.ownBlock = some k ∨ w.heap.size ≤ k) : Apart w0 v' F S := by
  intro k hk
  rcases hb k hk with h' | h'
  · exact ha k h'
  · have := h.m.size
    exact ⟨by omega, fun hR => by have := h.dr.lt k hR; omega, fun hS => by have := h.lg.lt k hS; omega⟩
end

/-- disk, log, and the rows that were kept by -/
def Tr (w0 w : World) (p q f : Nat) (L : Lg) (v : Value) (b n : Nat) : Prop :=
  ∃ F S d, JS w0 w p q f d L F S ∧ At d ∧ Own w v 9 1 L.rows.length (L.rows.map str) ∧ Apart w0 v F S ∧ L.end_ = 16 + (formsB L.rows).length ∧ (formsB L.rows).length ≤ b ∧ d.queue.length ≤ n

section
variable {w : World} {next : Value → World → Prop} {QP : List PanicEntry → World → Prop}

theorem and_i64 (a b : Int) : ∃ t, intV .and .i64 a b = .int .i64 t := ⟨_, rfl⟩

theorem Tr.mod0 {w0 w w' : World} {p q f b n : Nat} {L : Lg} {v : Value} (h : Tr w0 w p q f L v b n) (m : Mod none' w w') : Tr w0 w' p q f L v b n := by
  obtain ⟨F, S, d, h, a, o, ap, r⟩ := h
  exact ⟨F, S, d, h.mod0 m, a, o.mod m fun _ _ h => h, ap, r⟩

theorem jlists6 {p q b n : Nat} {L : Lg} {v7 : Value} {w1 : World} {τ : Env} {X : HX → Env → World → Prop} (hT : Tr w w1 p q 0 L v7 b n) (t5 : τ 5 = ptr q) (t6 : τ 6 = .int .i64 0) (t7 : τ 7 = v7) (t8 : τ 8 = .int .i64 L.sure)
    (k : ∀ σ' w', Tr w w' p q 0 L v7 b n → (∀ j, j < 10 → σ' j = τ j) → X .normal σ' w') : hw Try.prog noPanic h12_6 X τ w1 := by
  have hT' := hT
  obtain ⟨F, S, d, h, hat, own7, hap, hend, hb, hq⟩ := hT'
  have hrb := h.lg.rb
  have hbd := h.lg.bd
  unfold h12_6
  try simp only [go_sem, t5, t6, t7, t8]
  refine jall_ h.lg ?_
  intro v2 w2 own2 m2 _
  try simp only [go_sem, t5, t6, t7, t8]
  refine same__ own2.sl (own7.mod m2 fun _ _ h => h).sl (by omega) ?_
  intro w3 m3
  try simp only [go_sem, t5, t6, t7, t8]
  refine jsure_ ((h.lg.mod0 m2).mod0 m3) ?_
  try simp only [go_sem, t5, t6, t7, t8, bne_self_eq_false]
  refine k _ _ ((hT.mod0 m2).mod0 m3) fun j hj => ?_
  simp only [upd]
  repeat rw [if_neg (by omega)]

theorem jlists67 {p q b n i m : Nat} {L : Lg} {v7 v0 : Value} {w1 : World} {τ : Env} {X : HX → Env → World → Prop} (hT : Tr w w1 p q 0 L v7 b n) (hi : i ≤ 30) (t0 : τ 0 = v0) (t3 : τ 3 = .bool true) (t5 : τ 5 = ptr q) (t6 : τ 6 = .int .i64 0) (t7 : τ 7 = v7) (t8 : τ 8 = .int .i64 L.sure) (t9 : τ 9 = .int .i64 i)
    (k : ∀ σ' w' L' v', Tr w w' p q 0 L' v' b n → σ' 0 = v0 → σ' 3 = .bool true → σ' 5 = ptr q → σ' 7 = v' → σ' 8 = .int .i64 L'.sure → σ' 9 = .int .i64 ((i + 1 : Nat) : Int) → X .normal σ' w') : hw Try.prog noPanic h12_6 (blockX m (seqX (hw Try.prog noPanic h12_7 X) X)) τ w1 := by
  refine jlists6 hT t5 t6 t7 t8 ?_
  intro σ' w' T' e
  show hw Try.prog noPanic h12_7 X σ' w'
  have e9 := (e 9 (by omega)).trans t9
  have e0 := (e 0 (by omega)).trans t0
  have e3 := (e 3 (by omega)).trans t3
  have e5 := (e 5 (by omega)).trans t5
  have e7 := (e 7 (by omega)).trans t7
  have e8 := (e 8 (by omega)).trans t8
  unfold h12_7
  try simp only [go_sem, e9]
  rw [w64 (by omega) (by omega)]
  exact k _ _ _ _ T' e0 e3 e5 e7 e8 rfl

theorem jlists4 {al : List Deed} {gb o c i p q : Nat} {L : Lg} {v7 : Value} {w1 : World} {τ : Env} {X : HX → Env → World → Prop} (hi : i < al.length) (hl : Sl w (.slice (some ⟨gb, o, none⟩) al.length c) 5 al.length (rows Deed.cells al)) (ha : ∀ a ∈ al, a.OK w) (hn : al.length ≤ 30) (hf : ∀ a ∈ al, a.few1 = true)
    (hT : Tr w w1 p q 0 L v7 (i * 1296) (i * 1400)) (t0 : τ 0 = .slice (some ⟨gb, o, none⟩) al.length c) (t3 : τ 3 = .bool true) (t5 : τ 5 = ptr q) (t7 : τ 7 = v7) (t8 : τ 8 = .int .i64 L.sure) (t9 : τ 9 = .int .i64 i)
    (k : ∀ σ' w' L' v', Tr w w' p q 0 L' v' ((i + 1) * 1296) ((i + 1) * 1400) → σ' 0 = .slice (some ⟨gb, o, none⟩) al.length c → σ' 3 = .bool true → σ' 5 = ptr q → σ' 7 = v' → σ' 8 = .int .i64 L'.sure → σ' 9 = .int .i64 ((i + 1 : Nat) : Int) → X .normal σ' w') :
    hw Try.prog noPanic h12_4 X τ w1 := by
  obtain ⟨F, S, d, h, hat, own7, hap, hend, hb, hq⟩ := hT
  obtain ⟨gb', o', c', hva, hA⟩ := deed_at hl hi
  simp only [Value.slice.injEq, Option.some.injEq, Addr.mk.injEq] at hva
  obtain ⟨⟨rfl, rfl, -⟩, -, rfl⟩ := hva
  obtain ⟨x0, xs, x1, x2, x3⟩ := hA w1 h.m
  have hmem := List.getElem_mem hi
  have hok := (ha _ hmem).mod0 h.m
  have hfe := Deed.few1_le (hf _ hmem)
  have hone := Deed.one (ha _ hmem)
  generalize al[i] = a at *
  obtain ⟨hf1, hf2, hf3, hf4, hf5⟩ := hfe
  unfold h12_4
  try simp only [go_sem, t0, t9, x0]
  refine ⟨⟨by omega, by omega⟩, xs, ?_⟩
  refine alloc_ (z := .agg #[.int .i64 0, str [], .slice none 0 0, .slice none 0 0, .int .i64 0]) (cs := [.int .i64 0, str [], .slice none 0 0, .slice none 0 0, .int .i64 0]) (by kernel_rfl) rfl ?_
  intro b2 w2 hb2 blk2 m2 hs2
  refine storeN (n := 5) (vs := a.cells) (by kernel_rfl) rfl blk2 (by simp) hone ?_
  intro w3 blk3 m3 hs3
  have m13 : Mod none' w1 w3 := m2.trans m3 fun k hk (e : k = b2) => by omega
  simp only [List.take_zero, List.nil_append, Nat.zero_add, List.drop_of_length_le (show ([Value.int IntKind.i64 0, str [], .slice none 0 0, .slice none 0 0, .int .i64 0] : List Value).length ≤ 5 by simp), List.append_nil] at blk3
  have y0 : w3.cell? ⟨b2, 0, none⟩ = some (.int .i64 a.Do) := by rw [blk3.cell]; rfl
  have y1 : w3.cell? ⟨b2, 1, none⟩ = some (str a.Row) := by rw [blk3.cell]; rfl
  have y2 : w3.cell? ⟨b2, 2, none⟩ = some a.rv := by rw [blk3.cell]; rfl
  have h3 := h.mod0 m13
  have own3 := own7.mod m13 fun _ _ h => h
  have hw3 := h3.m.size
  have hB3 : ∀ k, (v7.ownBlock = some k ∨ k = b2) → k < w3.heap.size := fun k hk => by
    rcases hk with hk | rfl
    · exact own3.lt k hk
    · omega
  have hA3 : ∀ k, (v7.ownBlock = some k ∨ k = b2) → ¬ F.R k ∧ ¬ S k := fun k hk => by
    rcases hk with hk | rfl
    · exact (hap k hk).2
    · exact ⟨fun hR => by have := h.dr.lt k hR; omega, fun hS => by have := h.lg.lt k hS; omega⟩
  have g3 := h3.base hA3 hw3 hB3
  have hr3 := hok.r.mod m13 fun _ _ h => h
  obtain ⟨t, ht⟩ := and_i64 a.Do 7
  try simp only [go_sem, t0, t3, t5, t7, t8, t9, y0, ht]
  obtain ⟨va, vc, rfl, -⟩ := own7.form
  have lr := fun hn => (ha a hmem).r.lt (by omega) hn
  have nF : ∀ k, k < w.heap.size → ¬ F.R k := fun k hk hR => by have := h.f0 k hR; omega
  have hlrows := formsB_rows a.rows
  have hrr := h.lg.rb
  have hbd := h.lg.bd
  have bb : ∀ {w4 : World} {F4 : FP} {S4 : Nat → Prop}, (∀ k, ((Value.slice va L.rows.length vc).ownBlock = some k ∨ k = b2) → ¬ F4.R k ∧ ¬ S4 k) → Mod (fun k => ¬ (k < w.heap.size ∨ ((Value.slice va L.rows.length vc).ownBlock = some k ∨ k = b2))) w3 w4 →
      Apart w (.slice va L.rows.length vc) F4 S4 ∧ Own w4 (.slice va L.rows.length vc) 9 1 L.rows.length (L.rows.map str) ∧ w4.cell? ⟨b2, 1, none⟩ = some (str a.Row) ∧ w4.cell? ⟨b2, 2, none⟩ = some a.rv ∧ Sl w4 a.rv 1 a.rows.length (a.rows.map str) := by
    intro w4 F4 S4 ha4 m4
    exact ⟨fun k hk => ⟨(hap k hk).1, ha4 k (.inl hk)⟩, own3.mod m4 fun k hk h => h (.inr (.inl hk)), m4.cell y1 fun h => h (.inr (.inr rfl)), m4.cell y2 fun h => h (.inr (.inr rfl)), hr3.mod' m4 fun hn k hk h => h (.inl (lr hn k hk))⟩
  refine ⟨fun c3 => ?_, fun c3 => ?_⟩
  · refine gflushJ_ g3 (by omega) ?_
    intro w4 ⟨F4, S4, g4⟩
    obtain ⟨e1, e2, e3⟩ := hat.flushJ (f := 0) (by omega) L
    rw [e2] at g4
    obtain ⟨h4, ap4, m4⟩ := g4.back h3.m
    obtain ⟨ap4, own4, -, -, -⟩ := bb ap4 m4
    have hq4 := flushJ_queue d L 0
    rw [e1]
    try simp only [go_sem, t0, t3, t5, t7, t8, t9]
    exact jlists67 (L := ⟨L.rows, L.rows.length, L.end_⟩) ⟨F4, S4, _, h4, e3, own4, ap4, hend, by dsimp only; omega, by omega⟩ (by omega) t0 t3 t5 rfl t7 rfl t9 k
  refine ⟨fun c4 => ?_, fun c4 => ?_⟩
  · try simp only [go_sem, t0, t3, t5, t7, t8, t9, y2]
    refine gbatch_ g3 hr3 (fun hn k hk => nF k (lr hn k hk)) (by omega) ?_
    intro w4 ⟨F4, S4, g4⟩
    obtain ⟨e1, e2, e3⟩ := hat.batch (f := 0) (by omega) L a.rows (by omega)
    rw [e2] at g4
    obtain ⟨h4, ap4, m4⟩ := g4.back h3.m
    obtain ⟨ap4, own4, -, z2, hr4⟩ := bb ap4 m4
    have hq4 := batchJ_queue d L 0 a.rows
    rw [e1]
    try simp only [go_sem, t0, t3, t5, t7, t8, t9, z2]
    refine append_ sl40 own4 hr4 (by intro u hu; obtain ⟨x, -, rfl⟩ := List.mem_map.1 hu; rfl) (by omega) (by unfold maxLen; omega) ?_
    intro v5 w5 own5 m5 hv5 _
    have h5 := h4.held ap4 m5
    have ap5 := Apart.next h4 ap4 hv5
    rw [← List.length_append, ← List.map_append] at own5
    obtain ⟨va5, vc5, rfl, -⟩ := own5.form
    try simp only [go_sem, t0, t3, t5, t7, t8, t9]
    have hfa := formsB_app L.rows a.rows
    have hfl := congrArg List.length hfa
    rw [List.length_append] at hfl
    exact jlists67 (L := ⟨L.rows ++ a.rows, (L.rows ++ a.rows).length, L.end_ + (formsB a.rows).length⟩) ⟨F4, S4, _, h5, e3, own5, ap5, by dsimp only; omega, by dsimp only; omega, by omega⟩ (by omega) t0 t3 t5 rfl rfl rfl t9 k
  refine ⟨fun c5 => ?_, fun c5 => ?_⟩
  · try simp only [go_sem, t0, t3, t5, t7, t8, t9, y2]
    refine grewrite_ g3 (by omega) hr3 (fun hn k hk => ⟨nF k (lr hn k hk), by have := lr hn k hk; omega⟩) (by omega) ?_
    intro w4 ⟨F4, S4, g4⟩
    obtain ⟨e1, e3⟩ := hat.rewr (f := 0) (by omega) a.rows (by omega)
    have e2 : (rewriteJ d L 0 a.rows).2.1 = ⟨a.rows, a.rows.length, 16 + (formsB a.rows).length⟩ := if_pos e1
    have e4 : (rewriteJ d L 0 a.rows).2.2 = 0 := e1
    rw [e2] at g4
    obtain ⟨h4, ap4, m4⟩ := g4.back h3.m
    obtain ⟨ap4, own4, -, z2, hr4⟩ := bb ap4 m4
    have hq4 := rewr_queue d 0 a.rows
    rw [e4]
    try simp only [go_sem, t0, t3, t5, t7, t8, t9, z2]
    refine bsl0 sl40 ?_
    intro b5 w5 hb5 own5 m5 hs5
    have z5 := m5.cell z2 fun h => h
    have h5 := h4.mod0 m5
    have ap5 : Apart w (.slice (some ⟨b5, 0, none⟩) 0 0) F4 S4 := fun k hk => by
      have e : b5 = k := by simpa [Value.ownBlock] using hk
      have := h4.m.size
      exact ⟨by omega, fun hR => by have := h4.dr.lt k hR; omega, fun hS => by have := h4.lg.lt k hS; omega⟩
    try simp only [go_sem, t0, t3, t5, t7, t8, t9, z5]
    refine append_ sl40 (xs := []) own5 (hr4.mod m5 fun _ _ h => h) (by intro u hu; obtain ⟨x, -, rfl⟩ := List.mem_map.1 hu; rfl) (by omega) (by unfold maxLen; omega) ?_
    intro v6 w6 own6 m6 hv6 _
    rw [Nat.zero_add, List.nil_append] at own6
    have h6 := h5.held ap5 m6
    have ap6 := Apart.next h5 ap5 hv6
    obtain ⟨va6, vc6, rfl, -⟩ := own6.form
    try simp only [go_sem, t0, t3, t5, t7, t8, t9]
    exact jlists67 (L := ⟨a.rows, a.rows.length, 16 + (formsB a.rows).length⟩) ⟨F4, S4, _, h6, e3, own6, ap6, rfl, by dsimp only; omega, by show (rewr d 0 a.rows).1.queue.length ≤ _; omega⟩ (by omega) t0 t3 t5 rfl rfl rfl t9 k
  have T3 : Tr w w3 p q 0 L (.slice va L.rows.length vc) ((i + 1) * 1296) ((i + 1) * 1400) := ⟨F, S, d, h3, hat, own3, hap, hend, by omega, by omega⟩
  refine ⟨fun c6 => ?_, fun c6 => ?_⟩
  · unfold h12_5
    have c6 : t = 6 := by simpa using c6
    try simp only [go_sem, t0, t3, t5, t7, t8, t9, c6]
    exact jlists67 T3 (by omega) t0 t3 t5 rfl t7 t8 t9 k
  unfold h12_5
  try simp only [go_sem, t0, t3, t5, t7, t8, t9, y1]
  refine ⟨fun c7 => ?_, fun c7 => ?_⟩
  · exact jlists67 T3 (by omega) t0 t3 t5 rfl t7 t8 t9 k
  have hf1' : (formsB [a.Row]).length = 16 + a.Row.length := by simp [formsB, formB_len]
  refine gappend1_ g3 (by omega) ?_
  intro w4 ⟨F4, S4, g4⟩
  obtain ⟨e1, e3⟩ := hat.add (f := 0) (by omega) L [a.Row] (by omega)
  rw [if_pos e1] at g4
  obtain ⟨h4, ap4, m4⟩ := g4.back h3.m
  obtain ⟨ap4, own4, z1, -, -⟩ := bb ap4 m4
  have hq4 := addJ_queue d L 0 [a.Row]
  rw [e1]
  try simp only [go_sem, t0, t3, t5, t7, t8, t9, z1]
  refine bsl1 sl40 (cs := [str a.Row]) rfl rfl (by omega) ?_
  intro b5 w5 hb5 own5 _ m5 hs5
  have h5 := h4.mod0 m5
  try simp only [go_sem, t0, t3, t5, t7, t8, t9]
  refine append_ sl40 (own4.mod m5 fun _ _ h => h) own5.sl (by intro u hu; rw [List.mem_singleton.1 hu]; rfl) (by omega) (by unfold maxLen; omega) ?_
  intro v6 w6 own6 m6 hv6 _
  have e6 : L.rows.map str ++ [str a.Row] = (L.rows ++ [a.Row]).map str := by simp
  have e7 : L.rows.length + 1 = (L.rows ++ [a.Row]).length := by simp
  rw [e6, e7] at own6
  have h6 := h5.held ap4 m6
  have ap6 := Apart.next h5 ap4 hv6
  have hfa := formsB_app L.rows [a.Row]
  have hfl := congrArg List.length hfa
  rw [List.length_append] at hfl
  try simp only [go_sem, t0, t3, t5, t7, t8, t9]
  exact jlists67 (L := L.add [a.Row]) ⟨F4, S4, _, h6, e3, own6, ap6, by show L.end_ + (formsB [a.Row]).length = 16 + (formsB (L.rows ++ [a.Row])).length; omega, by show (formsB (L.rows ++ [a.Row])).length ≤ _; omega, by omega⟩ (by omega) t0 t3 t5 rfl rfl t8 t9 k

theorem jlists_ {v : Value} {al : List Deed} (hl : Sl w v 5 al.length (rows Deed.cells al)) (ha : ∀ a ∈ al, a.OK w) (k : ∀ w', Mod none' w w' → next (.bool true) w') : callK Try.prog 12 [v] w next QP := by
  refine q12 rfl ?_
  unfold h12
  try simp only [go_sem]
  refine jsmall_ ?_
  intro w1 m1
  try simp only [go_sem]
  refine fewJ_ (hl.mod m1 fun _ _ h => h) (fun a h => (ha a h).mod0 m1) ?_
  try simp only [go_sem]
  refine ⟨fun _ => k _ m1, fun hf => ?_⟩
  have hf : fewJ al = true := by simpa using hf
  simp only [fewJ, Bool.and_eq_true, decide_eq_true_eq, List.all_eq_true] at hf
  unfold h12_1
  try simp only [go_sem]
  refine jnew_ ?_
  intro p w3 F3 dr3 f3 m3
  have s1 := m1.size
  try simp only [go_sem]
  refine jopen_ (g := 0) dr3 (fun k hk => by have := f3 k hk; omega) (m1.trans' m3) rfl (by omega) rfl (openB_core (s := []) .nil (by decide)) ?_
  intro q4 w4 S4 h4 m4
  try simp only [go_sem]
  unfold h12_2
  try simp only [go_sem]
  obtain ⟨va, vc, rfl, -, hvc⟩ := hl.form
  refine loopN al.length (fun i τ w' => ∃ L v7, Tr w w' p q4 0 L v7 (i * 1296) (i * 1400) ∧ τ 0 = .slice va al.length vc ∧ τ 3 = .bool true ∧ τ 5 = ptr q4 ∧ τ 7 = v7 ∧ τ 8 = .int .i64 L.sure ∧ τ 9 = .int .i64 i)
    ⟨0, by omega, ⟨[], 0, 16⟩, .slice none 0 0, ⟨F3, S4, Dk.new, h4, at_new, Own.nil _ _ _, (by intro k hk; exact nomatch (hk : none = some k)), rfl, Nat.le_refl _, Nat.le_refl _⟩, rfl, rfl, rfl, rfl, rfl, rfl⟩ ?_
  rintro i τ w5 hi ⟨L, v7, hT, t0, t3, t5, t7, t8, t9⟩
  unfold h12_3
  try simp only [go_sem, t0, t9]
  refine ⟨fun hlt => ?_, fun hge => ?_⟩
  · have hil : i < al.length := by
      have : (i : Int) < al.length := by simpa using hlt
      omega
    obtain ⟨gb, o, rfl, -⟩ := hvc (by omega)
    refine jlists4 hil hl ha hf.1 hf.2 hT t0 t3 t5 t7 t8 t9 ?_
    intro σ' w' L' v' T' x0 x3 x5 x7 x8 x9
    exact ⟨i + 1, by omega, by omega, L', v', T', x0, x3, x5, x7, x8, x9⟩
  · unfold h12_8
    try simp only [go_sem, t3]
    obtain ⟨F, S, d, h, -⟩ := hT
    exact k _ h.m
end
end Go.Proofs.Y
