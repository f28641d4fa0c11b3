/- DU: operations as records: the walks of pick, few and do. -/
import Derived.Test.YtgalileklafbbaaDI
import Derived.Test.YtgalileklafbbaaJC
import Derived.Test.YtgalileklafbbaaHLH
import Derived.SliceStrings
import Derived.ChangeSlices
import Derived.WideShapes
import Derived.Deep.Slices
import Derived.Test.YtgalileklafbbaaJI
set_option linter.unusedSimpArgs false
set_option linter.unusedVariables false
set_option maxRecDepth 100000
namespace Go.Proofs.Y
open Go Go.HL Go.Proofs

structure Act where
  Do : Int
  F : Int
  G : Int
  N : Int
  S : Bytes
  kv : Value
  ks : List Int

def Act.cells (a : Act) : List Value := [.int .i64 a.Do, .int .i64 a.F, .int .i64 a.G, .int .i64 a.N, str a.S, a.kv]
theorem Act.cells_len (a : Act) : a.cells.length = 6 := rfl

def i64 (a : Int) : Prop := -9223372036854775808 ≤ a ∧ a ≤ 9223372036854775807
structure Act.OK (w : World) (a : Act) : Prop where
  d : i64 a.Do
  f : i64 a.F
  g : i64 a.G
  n : i64 a.N
  k : Sl w a.kv 1 a.ks.length (ints a.ks)
  kl : a.ks.length ≤ 1048576
  sl : a.S.length ≤ 1048576
theorem Act.OK.mod0 {w w' : World} {a : Act} (h : a.OK w) (m : Mod none' w w') : a.OK w' := ⟨h.d, h.f, h.g, h.n, h.k.mod m fun _ _ h => h, h.kl, h.sl⟩
theorem Act.one {w : World} {a : Act} (h : a.OK w) : ∀ v ∈ a.cells, v.oneCell' = true := by
  obtain ⟨x, c, hk, -⟩ := h.k.form
  intro v hv
  simp only [Act.cells, List.mem_cons, List.not_mem_nil, or_false] at hv
  rcases hv with rfl | rfl | rfl | rfl | rfl | rfl
  · rfl
  · rfl
  · rfl
  · rfl
  · rfl
  · rw [hk]; rfl

/-- the operation's number -/
def pk (n : Int) : Int := n % 11
theorem pk_range (n : Int) : 0 ≤ pk n ∧ pk n < 11 := by unfold pk; omega

def Dk.act (d : Dk) (a : Act) : Dk :=
  if pk a.Do = 0 ∨ pk a.Do = 1 then d.write a.F a.N a.S
  else if pk a.Do = 2 then d.flush a.F
  else if pk a.Do = 3 then d.cut a.F a.N
  else if pk a.Do = 4 then d.turn a.F a.G
  else if pk a.Do = 5 then d.crash a.ks
  else if pk a.Do = 6 then d.lose a.N
  else if pk a.Do = 7 then d.start
  else if pk a.Do = 8 then d
  else if pk a.Do = 10 then d.arm a.N a.ks
  else d
def Dk.actS (d : Dk) (a : Act) : Bytes := if pk a.Do = 8 then d.read a.F else []
def Dk.actE (d : Dk) (a : Act) : Int :=
  if pk a.Do = 0 ∨ pk a.Do = 1 then d.writeR a.F a.N a.S
  else if pk a.Do = 2 then d.flushR a.F
  else if pk a.Do = 3 then d.cutR a.F a.N
  else if pk a.Do = 4 then d.turnR a.F a.G
  else if pk a.Do = 8 then d.may [a.F]
  else 0

section
variable {w : World} {next : Value → World → Prop} {QP : List PanicEntry → World → Prop}

theorem pick_ {n : Int} (hn : i64 n) (k : next (.int .i64 (pk n)) w) : callvK Try.prog (.func (.func 28) #[] #[]) [.int .i64 n] w next QP := by
  refine r28 rfl ?_
  unfold h28
  try simp only [go_sem, ↓reduceIte, Nat.reduceEqDiff, Nat.reduceAdd, Nat.reduceLT, List.length_cons, List.length_nil, List.getElem?_cons_zero, List.getElem?_cons_succ, Nat.mul_one, Bool.true_eq_false, Bool.false_eq_true, false_implies, true_implies, Bool.not_true, Bool.not_false, decide_true, decide_false, Int.reduceToNat, Int.cast_ofNat_Int, Int.reduceLT, Int.reduceLE, Int.reduceEq, Int.reduceNeg, eq_self, Option.isNone_some, Option.isNone_none, Bool.bne_false, Bool.bne_true]
  have hn1 := hn.1
  have hn2 := hn.2
  have ht : n.tmod 11 = if 0 ≤ n then n % 11 else -((-n) % 11) := by
    split
    · rw [Int.tmod_eq_emod_of_nonneg (by assumption)]
    · have := Int.neg_tmod (a := -n) (b := 11)
      rw [Int.neg_neg] at this
      rw [this, Int.tmod_eq_emod_of_nonneg (by omega)]
  refine ⟨by decide, fun hneg => ?_, fun hpos => ?_⟩
  · have hneg : n.tmod 11 < 0 := by simpa using hneg
    rw [w64 (by split at ht <;> omega) (by split at ht <;> omega)]
    unfold h28_1
    try simp only [go_sem, ↓reduceIte, Nat.reduceEqDiff, Nat.reduceAdd, Nat.reduceLT, List.length_cons, List.length_nil, List.getElem?_cons_zero, List.getElem?_cons_succ, Nat.mul_one, Bool.true_eq_false, Bool.false_eq_true, false_implies, true_implies, Bool.not_true, Bool.not_false, decide_true, decide_false, Int.reduceToNat, Int.cast_ofNat_Int, Int.reduceLT, Int.reduceLE, Int.reduceEq, Int.reduceNeg, eq_self, Option.isNone_some, Option.isNone_none, Bool.bne_false, Bool.bne_true]
    have : n.tmod 11 + 11 = pk n := by unfold pk; split at ht <;> omega
    rw [this]; exact k
  · have hpos : 0 ≤ n.tmod 11 := by simpa using hpos
    unfold h28_1
    try simp only [go_sem, ↓reduceIte, Nat.reduceEqDiff, Nat.reduceAdd, Nat.reduceLT, List.length_cons, List.length_nil, List.getElem?_cons_zero, List.getElem?_cons_succ, Nat.mul_one, Bool.true_eq_false, Bool.false_eq_true, false_implies, true_implies, Bool.not_true, Bool.not_false, decide_true, decide_false, Int.reduceToNat, Int.cast_ofNat_Int, Int.reduceLT, Int.reduceLE, Int.reduceEq, Int.reduceNeg, eq_self, Option.isNone_some, Option.isNone_none, Bool.bne_false, Bool.bne_true]
    have : n.tmod 11 = pk n := by unfold pk; split at ht <;> omega
    rw [this]; exact k

theorem Act.get {a : Act} {b : Nat} (h : Blk w b 42 a.cells) : w.cell? ⟨b, 0, none⟩ = some (.int .i64 a.Do) ∧ w.cell? ⟨b, 1, none⟩ = some (.int .i64 a.F) ∧ w.cell? ⟨b, 2, none⟩ = some (.int .i64 a.G) ∧ w.cell? ⟨b, 3, none⟩ = some (.int .i64 a.N) ∧ w.cell? ⟨b, 4, none⟩ = some (str a.S) ∧ w.cell? ⟨b, 5, none⟩ = some a.kv :=
  ⟨by rw [h.cell]; rfl, by rw [h.cell]; rfl, by rw [h.cell]; rfl, by rw [h.cell]; rfl, by rw [h.cell]; rfl, by rw [h.cell]; rfl⟩

theorem do_ {p : Nat} {d : Dk} {S : FP} (h : DR w p d S) {a : Act} (ha : a.OK w) (hk0 : 0 < a.ks.length → a.kv.ownBlock ≠ some p) (hqn : d.queue.length ≤ 100000000)
    (k : ∀ w', St S w w' p (d.act a) → next (.tuple #[str (d.actS a), .int .i64 (d.actE a)]) w') : callvK Try.prog (.func (.func 29) #[] #[]) [ptr p, .agg a.cells.toArray] w next QP := by
  refine r29 rfl ?_
  unfold h29
  try simp only [go_sem, ↓reduceIte, Nat.reduceEqDiff, Nat.reduceAdd, Nat.reduceLT, List.length_cons, List.length_nil, List.getElem?_cons_zero, List.getElem?_cons_succ, Nat.mul_one, Bool.true_eq_false, Bool.false_eq_true, false_implies, true_implies, Bool.not_true, Bool.not_false, decide_true, decide_false, Int.reduceToNat, Int.cast_ofNat_Int, Int.reduceLT, Int.reduceLE, Int.reduceEq, Int.reduceNeg, eq_self, Option.isNone_some, Option.isNone_none, Bool.bne_false, Bool.bne_true]
  refine box_ (cs := a.cells) rfl ?_
  intro b w1 hb hbb m1 hsz1
  obtain ⟨x0, x1, x2, x3, x4, x5⟩ := Act.get hbb
  have st1 : St S w w1 p d := (St.refl h).mod0 m1
  have ha1 := ha.mod0 m1
  have hr := pk_range a.Do
  try simp only [go_sem, ↓reduceIte, Nat.reduceEqDiff, Nat.reduceAdd, Nat.reduceLT, List.length_cons, List.length_nil, List.getElem?_cons_zero, List.getElem?_cons_succ, Nat.mul_one, Bool.true_eq_false, Bool.false_eq_true, false_implies, true_implies, Bool.not_true, Bool.not_false, decide_true, decide_false, Int.reduceToNat, Int.cast_ofNat_Int, Int.reduceLT, Int.reduceLE, Int.reduceEq, Int.reduceNeg, eq_self, Option.isNone_some, Option.isNone_none, Bool.bne_false, Bool.bne_true, x0]
  refine pick_ ha.d ?_
  try simp only [go_sem, ↓reduceIte, Nat.reduceEqDiff, Nat.reduceAdd, Nat.reduceLT, List.length_cons, List.length_nil, List.getElem?_cons_zero, List.getElem?_cons_succ, Nat.mul_one, Bool.true_eq_false, Bool.false_eq_true, false_implies, true_implies, Bool.not_true, Bool.not_false, decide_true, decide_false, Int.reduceToNat, Int.cast_ofNat_Int, Int.reduceLT, Int.reduceLE, Int.reduceEq, Int.reduceNeg, eq_self, Option.isNone_some, Option.isNone_none, Bool.bne_false, Bool.bne_true]
  have fin : ∀ (τ : Env) w', τ 4 = str [] → τ 5 = .int .i64 0 → St S w w' p (d.act a) → d.actS a = [] → d.actE a = 0 → hw Try.prog noPanic h29_2 (endV [.tmp 4, .tmp 5] next) τ w' := by
    intro τ w' t4 t5 st e1 e2
    unfold h29_2
    try simp only [go_sem, ↓reduceIte, Nat.reduceEqDiff, Nat.reduceAdd, Nat.reduceLT, List.length_cons, List.length_nil, List.getElem?_cons_zero, List.getElem?_cons_succ, Nat.mul_one, Bool.true_eq_false, Bool.false_eq_true, false_implies, true_implies, Bool.not_true, Bool.not_false, decide_true, decide_false, Int.reduceToNat, Int.cast_ofNat_Int, Int.reduceLT, Int.reduceLE, Int.reduceEq, Int.reduceNeg, eq_self, Option.isNone_some, Option.isNone_none, Bool.bne_false, Bool.bne_true]
    have := k w' st
    rw [e1, e2] at this
    exact this
  have wr : ∀ τ : Env, τ 0 = ptr p → τ 3 = ptr b → τ 9 = .bool true → (pk a.Do = 0 ∨ pk a.Do = 1) → hw Try.prog noPanic h29_1 (blockX 0 (seqX (hw Try.prog noPanic h29_2 (endV [.tmp 4, .tmp 5] next)) (endV [.tmp 4, .tmp 5] next))) τ w1 := by
    intro τ t0 t3 t9 hk
    unfold h29_1
    try simp only [go_sem, ↓reduceIte, Nat.reduceEqDiff, Nat.reduceAdd, Nat.reduceLT, List.length_cons, List.length_nil, List.getElem?_cons_zero, List.getElem?_cons_succ, Nat.mul_one, Bool.true_eq_false, Bool.false_eq_true, false_implies, true_implies, Bool.not_true, Bool.not_false, decide_true, decide_false, Int.reduceToNat, Int.cast_ofNat_Int, Int.reduceLT, Int.reduceLE, Int.reduceEq, Int.reduceNeg, eq_self, Option.isNone_some, Option.isNone_none, Bool.bne_false, Bool.bne_true, t0, t3, t9, x0, x1, x2, x3, x4, x5]
    have hw := ha.sl
    refine write_ st1.dr ha.n.1 ha.n.2 (by omega) ?_
    intro w2 st2
    try simp only [go_sem, ↓reduceIte, Nat.reduceEqDiff, Nat.reduceAdd, Nat.reduceLT, List.length_cons, List.length_nil, List.getElem?_cons_zero, List.getElem?_cons_succ, Nat.mul_one, Bool.true_eq_false, Bool.false_eq_true, false_implies, true_implies, Bool.not_true, Bool.not_false, decide_true, decide_false, Int.reduceToNat, Int.cast_ofNat_Int, Int.reduceLT, Int.reduceLE, Int.reduceEq, Int.reduceNeg, eq_self, Option.isNone_some, Option.isNone_none, Bool.bne_false, Bool.bne_true]
    have := k w2
    simp only [Dk.act, Dk.actE, Dk.actS, if_pos hk, if_neg (show ¬ pk a.Do = 8 by omega)] at this
    exact this (st1.trans st2)
  refine ⟨fun h0 => ?_, fun h0 => ?_⟩
  · have h0 : pk a.Do = 0 := by simpa using h0
    exact wr _ rfl rfl (by simp [upd_at, h0]) (.inl h0)
  have h0 : pk a.Do ≠ 0 := by simpa using h0
  by_cases h1 : pk a.Do = 1
  · exact wr _ rfl rfl (by simp [upd_at, h1]) (.inr h1)
  have hn01 : ¬ (pk a.Do = 0 ∨ pk a.Do = 1) := by omega
  unfold h29_1
  have hd1 : decide (pk a.Do = 1) = false := by simp [h1]
  try simp only [go_sem, ↓reduceIte, Nat.reduceEqDiff, Nat.reduceAdd, Nat.reduceLT, List.length_cons, List.length_nil, List.getElem?_cons_zero, List.getElem?_cons_succ, Nat.mul_one, Bool.true_eq_false, Bool.false_eq_true, false_implies, true_implies, Bool.not_true, Bool.not_false, decide_true, decide_false, Int.reduceToNat, Int.cast_ofNat_Int, Int.reduceLT, Int.reduceLE, Int.reduceEq, Int.reduceNeg, eq_self, Option.isNone_some, Option.isNone_none, Bool.bne_false, Bool.bne_true, x0, x1, x2, x3, x4, x5, hd1]
  simp only [Dk.act, Dk.actE, Dk.actS, if_neg hn01] at k fin
  refine ⟨fun h2 => ?_, fun h2 => ?_⟩
  · have h2 : pk a.Do = 2 := by simpa using h2
    refine flush_ st1.dr (by omega) ?_
    intro w2 st2
    try simp only [go_sem, ↓reduceIte, Nat.reduceEqDiff, Nat.reduceAdd, Nat.reduceLT, List.length_cons, List.length_nil, List.getElem?_cons_zero, List.getElem?_cons_succ, Nat.mul_one, Bool.true_eq_false, Bool.false_eq_true, false_implies, true_implies, Bool.not_true, Bool.not_false, decide_true, decide_false, Int.reduceToNat, Int.cast_ofNat_Int, Int.reduceLT, Int.reduceLE, Int.reduceEq, Int.reduceNeg, eq_self, Option.isNone_some, Option.isNone_none, Bool.bne_false, Bool.bne_true]
    have := k w2
    simp only [h2, if_true, if_neg (show ¬ (2 : Int) = 8 by omega)] at this
    exact this (st1.trans st2)
  have h2 : ¬ pk a.Do = 2 := by simpa using h2
  simp only [if_neg h2] at k fin
  refine ⟨fun h3 => ?_, fun h3 => ?_⟩
  · have h3 : pk a.Do = 3 := by simpa using h3
    refine cut_ st1.dr (by omega) ?_
    intro w2 st2
    try simp only [go_sem, ↓reduceIte, Nat.reduceEqDiff, Nat.reduceAdd, Nat.reduceLT, List.length_cons, List.length_nil, List.getElem?_cons_zero, List.getElem?_cons_succ, Nat.mul_one, Bool.true_eq_false, Bool.false_eq_true, false_implies, true_implies, Bool.not_true, Bool.not_false, decide_true, decide_false, Int.reduceToNat, Int.cast_ofNat_Int, Int.reduceLT, Int.reduceLE, Int.reduceEq, Int.reduceNeg, eq_self, Option.isNone_some, Option.isNone_none, Bool.bne_false, Bool.bne_true]
    have := k w2
    simp only [h3, if_true, if_neg (show ¬ (3 : Int) = 8 by omega)] at this
    exact this (st1.trans st2)
  have h3 : ¬ pk a.Do = 3 := by simpa using h3
  simp only [if_neg h3] at k fin
  refine ⟨fun h4 => ?_, fun h4 => ?_⟩
  · have h4 : pk a.Do = 4 := by simpa using h4
    refine turn_ st1.dr (by omega) ?_
    intro w2 st2
    try simp only [go_sem, ↓reduceIte, Nat.reduceEqDiff, Nat.reduceAdd, Nat.reduceLT, List.length_cons, List.length_nil, List.getElem?_cons_zero, List.getElem?_cons_succ, Nat.mul_one, Bool.true_eq_false, Bool.false_eq_true, false_implies, true_implies, Bool.not_true, Bool.not_false, decide_true, decide_false, Int.reduceToNat, Int.cast_ofNat_Int, Int.reduceLT, Int.reduceLE, Int.reduceEq, Int.reduceNeg, eq_self, Option.isNone_some, Option.isNone_none, Bool.bne_false, Bool.bne_true]
    have := k w2
    simp only [h4, if_true, if_neg (show ¬ (4 : Int) = 8 by omega)] at this
    exact this (st1.trans st2)
  have h4 : ¬ pk a.Do = 4 := by simpa using h4
  simp only [if_neg h4] at k fin
  refine ⟨fun h5 => ?_, fun h5 => ?_⟩
  · have h5 : pk a.Do = 5 := by simpa using h5
    refine crash_ st1.dr ha1.k hk0 (by omega) ?_
    intro w2 st2
    try simp only [go_sem, ↓reduceIte, Nat.reduceEqDiff, Nat.reduceAdd, Nat.reduceLT, List.length_cons, List.length_nil, List.getElem?_cons_zero, List.getElem?_cons_succ, Nat.mul_one, Bool.true_eq_false, Bool.false_eq_true, false_implies, true_implies, Bool.not_true, Bool.not_false, decide_true, decide_false, Int.reduceToNat, Int.cast_ofNat_Int, Int.reduceLT, Int.reduceLE, Int.reduceEq, Int.reduceNeg, eq_self, Option.isNone_some, Option.isNone_none, Bool.bne_false, Bool.bne_true]
    simp only [h5, if_true, if_neg (show ¬ (5 : Int) = 8 by omega), true_implies] at fin
    exact fin _ _ rfl rfl (st1.trans st2)
  have h5 : ¬ pk a.Do = 5 := by simpa using h5
  simp only [if_neg h5] at k fin
  refine ⟨fun h6 => ?_, fun h6 => ?_⟩
  · have h6 : pk a.Do = 6 := by simpa using h6
    refine lose_ st1.dr ha.n.2 ?_
    intro w2 dr2 m2 _
    try simp only [go_sem, ↓reduceIte, Nat.reduceEqDiff, Nat.reduceAdd, Nat.reduceLT, List.length_cons, List.length_nil, List.getElem?_cons_zero, List.getElem?_cons_succ, Nat.mul_one, Bool.true_eq_false, Bool.false_eq_true, false_implies, true_implies, Bool.not_true, Bool.not_false, decide_true, decide_false, Int.reduceToNat, Int.cast_ofNat_Int, Int.reduceLT, Int.reduceLE, Int.reduceEq, Int.reduceNeg, eq_self, Option.isNone_some, Option.isNone_none, Bool.bne_false, Bool.bne_true]
    simp only [h6, if_true, if_neg (show ¬ (6 : Int) = 8 by omega), true_implies] at fin
    exact fin _ _ rfl rfl (st1.trans (.of dr2 m2))
  have h6 : ¬ pk a.Do = 6 := by simpa using h6
  simp only [if_neg h6] at k fin
  refine ⟨fun h7 => ?_, fun h7 => ?_⟩
  · have h7 : pk a.Do = 7 := by simpa using h7
    refine start_ st1.dr ?_
    intro w2 dr2 m2 _
    try simp only [go_sem, ↓reduceIte, Nat.reduceEqDiff, Nat.reduceAdd, Nat.reduceLT, List.length_cons, List.length_nil, List.getElem?_cons_zero, List.getElem?_cons_succ, Nat.mul_one, Bool.true_eq_false, Bool.false_eq_true, false_implies, true_implies, Bool.not_true, Bool.not_false, decide_true, decide_false, Int.reduceToNat, Int.cast_ofNat_Int, Int.reduceLT, Int.reduceLE, Int.reduceEq, Int.reduceNeg, eq_self, Option.isNone_some, Option.isNone_none, Bool.bne_false, Bool.bne_true]
    simp only [h7, if_true, if_neg (show ¬ (7 : Int) = 8 by omega), true_implies] at fin
    exact fin _ _ rfl rfl (st1.trans (.of dr2 m2))
  have h7 : ¬ pk a.Do = 7 := by simpa using h7
  simp only [if_neg h7] at k fin
  refine ⟨fun h8 => ?_, fun h8 => ?_⟩
  · have h8 : pk a.Do = 8 := by simpa using h8
    refine read_ st1.dr a.F ?_
    intro w2 dr2 m2
    try simp only [go_sem, ↓reduceIte, Nat.reduceEqDiff, Nat.reduceAdd, Nat.reduceLT, List.length_cons, List.length_nil, List.getElem?_cons_zero, List.getElem?_cons_succ, Nat.mul_one, Bool.true_eq_false, Bool.false_eq_true, false_implies, true_implies, Bool.not_true, Bool.not_false, decide_true, decide_false, Int.reduceToNat, Int.cast_ofNat_Int, Int.reduceLT, Int.reduceLE, Int.reduceEq, Int.reduceNeg, eq_self, Option.isNone_some, Option.isNone_none, Bool.bne_false, Bool.bne_true]
    have := k w2
    simp only [h8, if_true] at this
    exact this (st1.mod0 m2)
  have h8 : ¬ pk a.Do = 8 := by simpa using h8
  simp only [if_neg h8] at k fin
  refine ⟨fun h10 => ?_, fun h10 => ?_⟩
  · have h10 : pk a.Do = 10 := by simpa using h10
    refine arm_ st1.dr ha.n.2 ha1.k (by have := ha.kl; omega) ?_
    intro w2 st2
    try simp only [go_sem, ↓reduceIte, Nat.reduceEqDiff, Nat.reduceAdd, Nat.reduceLT, List.length_cons, List.length_nil, List.getElem?_cons_zero, List.getElem?_cons_succ, Nat.mul_one, Bool.true_eq_false, Bool.false_eq_true, false_implies, true_implies, Bool.not_true, Bool.not_false, decide_true, decide_false, Int.reduceToNat, Int.cast_ofNat_Int, Int.reduceLT, Int.reduceLE, Int.reduceEq, Int.reduceNeg, eq_self, Option.isNone_some, Option.isNone_none, Bool.bne_false, Bool.bne_true]
    simp only [h10, if_true, true_implies] at fin
    exact fin _ _ rfl rfl (st1.trans st2)
  have h10 : ¬ pk a.Do = 10 := by simpa using h10
  simp only [if_neg h10, true_implies] at k fin
  exact fin _ _ rfl rfl st1

/-- the bounds of few -/
def heft (al : List Act) : Nat := (al.map fun a => a.S.length + a.ks.length).sum
theorem heft_snoc {l : List Act} {i : Nat} (h : i < l.length) : heft (l.take (i + 1)) = heft (l.take i) + (l[i].S.length + l[i].ks.length) := by
  unfold heft
  rw [List.take_succ_eq_append_getElem h, List.map_append, List.sum_append]; simp
theorem heft_le {l : List Act} {i : Nat} : heft (l.take i) ≤ heft l := by
  unfold heft
  conv => rhs; rw [← List.take_append_drop i l]
  rw [List.map_append, List.sum_append]; omega

def fits (a : Act) : Bool := !(decide (4000 ≤ a.N) && decide (a.N ≤ 16777216))
def few (al : List Act) : Bool := al.all fits && decide (al.length ≤ 200) && decide (heft al ≤ 5000)

theorem few_ {v : Value} {al : List Act} (hv : Sl w v 6 al.length (rows Act.cells al)) (ha : ∀ a ∈ al, a.OK w) (hl : al.length ≤ 1048576) (hn : heft al ≤ 4194304) (k : ∀ w', Mod none' w w' → next (.bool (few al)) w') : callvK Try.prog (.func (.func 26) #[] #[]) [v] w next QP := by
  refine r26 rfl ?_
  obtain ⟨a, c, rfl, hc, -⟩ := hv.form
  unfold h26
  try simp only [go_sem, ↓reduceIte, Nat.reduceEqDiff, Nat.reduceAdd, Nat.reduceLT, List.length_cons, List.length_nil, List.getElem?_cons_zero, List.getElem?_cons_succ, Nat.mul_one, Bool.true_eq_false, Bool.false_eq_true, false_implies, true_implies, Bool.not_true, Bool.not_false, decide_true, decide_false, Int.reduceToNat, Int.cast_ofNat_Int, Int.reduceLT, Int.reduceLE, Int.reduceEq, Int.reduceNeg, eq_self, Option.isNone_some, Option.isNone_none, Bool.bne_false, Bool.bne_true]
  refine loopN al.length (fun i τ w' => Mod none' w w' ∧ τ 0 = .slice a al.length c ∧ τ 3 = .int .i64 (heft (al.take i) : Nat) ∧ τ 4 = .int .i64 i ∧ ∀ x ∈ al.take i, fits x = true) ⟨0, by omega, Mod.refl _ _, rfl, rfl, rfl, by simp⟩ ?_
  rintro i τ w1 hi ⟨m1, t0, t3, t4, hall⟩
  unfold h26_1
  try simp only [go_sem, ↓reduceIte, Nat.reduceEqDiff, Nat.reduceAdd, Nat.reduceLT, List.length_cons, List.length_nil, List.getElem?_cons_zero, List.getElem?_cons_succ, Nat.mul_one, Bool.true_eq_false, Bool.false_eq_true, false_implies, true_implies, Bool.not_true, Bool.not_false, decide_true, decide_false, Int.reduceToNat, Int.cast_ofNat_Int, Int.reduceLT, Int.reduceLE, Int.reduceEq, Int.reduceNeg, eq_self, Option.isNone_some, Option.isNone_none, Bool.bne_false, Bool.bne_true, t0, t3, t4]
  refine ⟨fun hlt => ?_, fun hge => ?_⟩
  · have hil : i < al.length := by simpa using hlt
    obtain ⟨gb, o, c', hva', hcc, hcell⟩ := (hv.mod m1 fun _ _ h => h).get Act.cells_len rfl (by omega)
    simp only [Value.slice.injEq] at hva'
    obtain ⟨rfl, -, rfl⟩ := hva'
    have x3 : w1.cell? ⟨gb, o + i * 6 + 3, none⟩ = some (.int .i64 al[i].N) := (hcell i 3 hil (by omega)).trans rfl
    have x4 : w1.cell? ⟨gb, o + i * 6 + 4, none⟩ = some (str al[i].S) := (hcell i 4 hil (by omega)).trans rfl
    have x5 : w1.cell? ⟨gb, o + i * 6 + 5, none⟩ = some al[i].kv := (hcell i 5 hil (by omega)).trans rfl
    obtain ⟨ka, kc, hkv, -⟩ := (ha _ (List.getElem_mem hil)).k.form
    rw [hkv] at x5
    have hls := heft_snoc (l := al) hil
    have hle := heft_le (l := al) (i := i + 1)
    unfold h26_2
    try simp only [go_sem, ↓reduceIte, Nat.reduceEqDiff, Nat.reduceAdd, Nat.reduceLT, List.length_cons, List.length_nil, List.getElem?_cons_zero, List.getElem?_cons_succ, Nat.mul_one, Bool.true_eq_false, Bool.false_eq_true, false_implies, true_implies, Bool.not_true, Bool.not_false, decide_true, decide_false, Int.reduceToNat, Int.cast_ofNat_Int, Int.reduceLT, Int.reduceLE, Int.reduceEq, Int.reduceNeg, eq_self, Option.isNone_some, Option.isNone_none, Bool.bne_false, Bool.bne_true, t0, t3, t4, x3, x4, x5]
    refine ⟨⟨by omega, by omega⟩, fun _ => ⟨by omega, by omega⟩, ?_⟩
    have hfits : (if decide (4000 ≤ al[i].N) = true then decide (al[i].N ≤ 16777216) else false) = !fits al[i] := by
      unfold fits; cases decide (4000 ≤ al[i].N) <;> simp
    rw [hfits]
    refine ⟨fun hbad => ?_, fun hgood => ?_⟩
    · have hbad : fits al[i] = false := by simpa using hbad
      have : few al = false := by
        unfold few
        have : al.all fits = false := by
          rw [List.all_eq_false]; exact ⟨al[i], List.getElem_mem hil, by simp [hbad]⟩
        simp [this]
      have k' := k w1 m1; rw [this] at k'; exact k'
    · have hgood : fits al[i] = true := by simpa using hgood
      unfold h26_3
      try simp only [go_sem, ↓reduceIte, Nat.reduceEqDiff, Nat.reduceAdd, Nat.reduceLT, List.length_cons, List.length_nil, List.getElem?_cons_zero, List.getElem?_cons_succ, Nat.mul_one, Bool.true_eq_false, Bool.false_eq_true, false_implies, true_implies, Bool.not_true, Bool.not_false, decide_true, decide_false, Int.reduceToNat, Int.cast_ofNat_Int, Int.reduceLT, Int.reduceLE, Int.reduceEq, Int.reduceNeg, eq_self, Option.isNone_some, Option.isNone_none, Bool.bne_false, Bool.bne_true, t0, t3, t4, x3, x4, x5]
      refine ⟨⟨by omega, by omega⟩, ?_⟩
      unfold h26_4
      try simp only [go_sem, ↓reduceIte, Nat.reduceEqDiff, Nat.reduceAdd, Nat.reduceLT, List.length_cons, List.length_nil, List.getElem?_cons_zero, List.getElem?_cons_succ, Nat.mul_one, Bool.true_eq_false, Bool.false_eq_true, false_implies, true_implies, Bool.not_true, Bool.not_false, decide_true, decide_false, Int.reduceToNat, Int.cast_ofNat_Int, Int.reduceLT, Int.reduceLE, Int.reduceEq, Int.reduceNeg, eq_self, Option.isNone_some, Option.isNone_none, Bool.bne_false, Bool.bne_true, t0, t3, t4]
      rw [w64 (x := (heft (al.take i) : Int) + (al[i].S.length : Int)) (by omega) (by omega), w64 (x := (heft (al.take i) : Int) + (al[i].S.length : Int) + (al[i].ks.length : Int)) (by omega) (by omega), w64 (x := (i : Int) + 1) (by omega) (by omega)]
      refine ⟨⟨by omega, by omega⟩, i + 1, by omega, by omega, m1.trans' (Mod.drew _ _), ?_, rfl, ?_⟩
      · congr 1; omega
      · rw [List.take_succ_eq_append_getElem hil]
        intro x hx
        rcases List.mem_append.1 hx with h | h
        · exact hall x h
        · rw [List.mem_singleton.1 h]; exact hgood
  · have hge' : al.length ≤ i := by simpa using hge
    rw [List.take_of_length_le hge'] at t3 hall
    unfold h26_5
    try simp only [go_sem, ↓reduceIte, Nat.reduceEqDiff, Nat.reduceAdd, Nat.reduceLT, List.length_cons, List.length_nil, List.getElem?_cons_zero, List.getElem?_cons_succ, Nat.mul_one, Bool.true_eq_false, Bool.false_eq_true, false_implies, true_implies, Bool.not_true, Bool.not_false, decide_true, decide_false, Int.reduceToNat, Int.cast_ofNat_Int, Int.reduceLT, Int.reduceLE, Int.reduceEq, Int.reduceNeg, eq_self, Option.isNone_some, Option.isNone_none, Bool.bne_false, Bool.bne_true, t0, t3, t4]
    have : (if decide ((al.length : Int) ≤ 200) = true then decide ((heft al : Int) ≤ 5000) else false) = few al := by
      unfold few
      rw [List.all_eq_true.2 hall]
      have e1 : decide ((al.length : Int) ≤ 200) = decide (al.length ≤ 200) := by congr 1; apply propext; omega
      have e2 : decide ((heft al : Int) ≤ 5000) = decide (heft al ≤ 5000) := by congr 1; apply propext; omega
      rw [e1, e2]
      cases decide (al.length ≤ 200) <;> simp
    rw [this]; exact k w1 m1
end
end Go.Proofs.Y

/- DP: plain laws for DiskLoses. -/
namespace Go.Proofs.Y
open Go Go.HL
theorem survs_nil : ∀ (q : List Pd) (l : List Bytes), survs l q [] = l
  | [], _ => rfl
  | p :: q, l => by
    have : surv l p ([] : List Int)[0]? = l := rfl
    rw [survs, this]; exact survs_nil q l
namespace Loses
def L (s : Bytes) (m : Nat) : Dk := { Dk.new with files := Dk.new.files.set 0 s, queue := pieces 0 s.length 0 s, lost := m }
def E (s : Bytes) : Dk := { Dk.new with lasts := Dk.new.lasts.set 0 s, files := Dk.new.files.set 0 s }
variable {s : Bytes} {m : Nat}
theorem wE (hs : s.length ≤ 50000) (n : Int) : (Dk.new.lose n).writeR 0 0 s = 0 := by
  rw [Dk.writeR_idle rfl]
  unfold Dk.writeE
  rw [show (Dk.new.lose n).may [0] = 0 from rfl, if_neg (by simp), if_neg (by omega), if_neg (by omega)]
theorem w (hs : s.length ≤ 50000) (n : Int) : (Dk.new.lose n).write 0 0 s = L s n.toNat := by
  have h0 : (Dk.new.lose n).writeE 0 0 s = 0 := by rw [← Dk.writeR_idle rfl]; exact wE hs n
  rw [Dk.write_idle rfl]
  unfold Dk.writeD
  by_cases hn : s = []
  · subst hn; rw [if_pos (.inr rfl)]; rfl
  · rw [if_neg (by simp [h0, hn])]
    have h4 : (Dk.new.lose n).file (0 : Int).toNat = [] := rfl
    have hz : (0 : Int).toNat = 0 := rfl
    rw [h4, hz, put_nil]; rfl
theorem fR : (L s (m + 1)).flushR 0 = 9 := by
  rw [Dk.flushR_idle rfl, if_neg (fun h => h rfl), if_pos (show 0 < (L s (m + 1)).lost from Nat.succ_pos m)]
theorem f : (L s (m + 1)).flush 0 = L s m := by
  rw [Dk.flush_idle rfl, if_neg (fun h => h rfl), if_pos (show 0 < (L s (m + 1)).lost from Nat.succ_pos m)]; rfl
theorem f0R : (L s 0).flushR 0 = 0 := rfl
theorem f0 : (L s 0).flush 0 = E s := by
  rw [Dk.flush_idle rfl, if_neg (fun h => h rfl), if_neg (show ¬ 0 < (L s 0).lost from Nat.lt_irrefl 0)]
  have : (L s 0).file (0 : Int).toNat = s := rfl
  rw [this, show (0 : Int).toNat = 0 from rfl]
  simp only [Dk.settle, L, E]
  rw [List.set_set]
  congr 1
  exact pieces_filter
theorem lost : (((L s m).crash []).start).read 0 = [] ∧ (((L s m).crash []).start).may [0] = 0 := by
  have e : ((L s m).crash []).start = ⟨survs Dk.new.lasts (pieces 0 s.length 0 s) [], survs Dk.new.lasts (pieces 0 s.length 0 s) [], [], m, false, 0, []⟩ := rfl
  rw [e, survs_nil]
  exact ⟨rfl, rfl⟩
theorem kept : (((E s).crash []).start).read 0 = s ∧ (((E s).crash []).start).may [0] = 0 := ⟨rfl, rfl⟩
end Loses
end Go.Proofs.Y

/- DV: plain laws of a machine that is down, and of invalid file numbers. -/
namespace Go.Proofs.Y
open Go Go.HL
namespace Dk
section
variable {d : Dk} (hd : d.down = true)
include hd
theorem dn_tick : d.tick = d := by simp [tick, hd]
theorem dn_ends : d.ends = false := by simp [ends, hd]
theorem dn_pre : d.pre = d := by simp [pre, endW, dn_ends hd, dn_tick hd]
theorem dn_may (l : List Int) : d.may l = 8 := by simp [may, hd]
theorem dn_write (f a : Int) (s : Bytes) : d.write f a s = d ∧ d.writeR f a s = 8 := by
  have hE : d.writeE f a s = 8 := by simp [writeE, dn_may hd]
  simp [write, writeR, endW, dn_ends hd, dn_tick hd, writeD, hE]
theorem dn_flush (f : Int) : d.flush f = d ∧ d.flushR f = 8 := by simp [flush, flushR, dn_pre hd, dn_may hd]
theorem dn_cut (f n : Int) : d.cut f n = d ∧ d.cutR f n = 8 := by simp [cut, cutR, dn_pre hd, dn_may hd]
theorem dn_turn (f g : Int) : d.turn f g = d ∧ d.turnR f g = 8 := by simp [turn, turnR, dn_pre hd, dn_may hd]
theorem dn_crash (ks : List Int) : d.crash ks = d := by simp [crash, hd]
theorem dn_read (f : Int) : d.read f = [] := by simp [read, dn_may hd]
end
section
variable {d : Dk} (hd : d.down = false) (ha : d.armed = 0) {f : Int} (hf : isF f = false)
include hd ha hf
theorem bad_write (a : Int) (s : Bytes) : d.write f a s = d ∧ d.writeR f a s = 1 := by
  have hm : d.may [f] = 1 := by simp [may, hd, hf]
  have hE : d.writeE f a s = 1 := by simp [writeE, hm]
  rw [write_idle ha, writeR_idle ha]
  simp [writeD, hE]
theorem bad_flush : d.flush f = d ∧ d.flushR f = 1 := by
  have hm : d.may [f] = 1 := by simp [may, hd, hf]
  rw [flush_idle ha, flushR_idle ha]; simp [hm]
theorem bad_cut (n : Int) : d.cut f n = d ∧ d.cutR f n = 1 := by
  have hm : d.may [f] = 1 := by simp [may, hd, hf]
  rw [cut_idle ha, cutR_idle ha]; simp [hm]
theorem bad_turn (g : Int) : d.turn f g = d ∧ d.turnR f g = 1 := by
  have hm : d.may [f, g] = 1 := by simp [may, hd, hf]
  rw [turn_idle ha, turnR_idle ha]; simp [hm]
theorem bad_turn2 (g : Int) : d.turn g f = d ∧ d.turnR g f = 1 := by
  have hm : d.may [g, f] = 1 := by simp [may, hd, hf]
  rw [turn_idle ha, turnR_idle ha]; simp [hm]
end
theorem bad_size {d : Dk} {f : Int} (hf : isF f = false) : d.size f = 0 := by simp [size, hf]
end Dk
end Go.Proofs.Y

/- DWa (of DW: what serves elsewhere): the walk of DiskDown. -/
namespace Go.Proofs.Y
open Go Go.HL Go.Proofs
section
variable {w : World} {next : Value → World → Prop} {QP : List PanicEntry → World → Prop}

theorem act_queue (d : Dk) (a : Act) : (d.act a).queue.length ≤ d.queue.length + a.S.length := by
  have hp := pre_queue d
  unfold Dk.act
  split
  · unfold Dk.write Dk.endW
    have := writeD_queue d.tick a.F a.N a.S
    rw [tick_queue] at this
    split
    · exact Nat.le_trans (crash_queue _ _) this
    · exact this
  split
  · unfold Dk.flush; dsimp only
    split
    · omega
    · split
      · show d.pre.queue.length ≤ _; omega
      · exact Nat.le_trans (List.length_filter_le _ _) (by omega)
  split
  · unfold Dk.cut; dsimp only
    split
    · omega
    · split
      · omega
      · exact Nat.le_trans (List.length_filter_le _ _) (by omega)
  split
  · unfold Dk.turn; dsimp only
    split
    · omega
    · split
      · omega
      · split
        · omega
        · exact Nat.le_trans (List.length_filter_le _ _) (Nat.le_trans (List.length_filter_le _ _) (by omega))
  split
  · have := crash_queue d a.ks; omega
  split
  · show d.queue.length ≤ _; omega
  split
  · show d.queue.length ≤ _; omega
  split
  · omega
  split
  · show d.queue.length ≤ _; omega
  · omega

theorem sl38 : SlTy Try.prog 38 42 6 72 (.agg #[.int .i64 0, .int .i64 0, .int .i64 0, .int .i64 0, str [], .slice none 0 0]) := ⟨by kernel_rfl, by kernel_rfl, rfl, by decide⟩

theorem few_le {al : List Act} (h : few al = true) : al.length ≤ 200 ∧ heft al ≤ 5000 := by
  simp [few] at h; exact ⟨h.1.2, h.2⟩

/-- an element of the operations that came in, read whole -/
theorem act_at {w w' : World} {v : Value} {al : List Act} {i : Nat} (hv : Sl w v 6 al.length (rows Act.cells al)) (m : Mod none' w w') (hi : i < al.length) : ∃ gb o c, v = .slice (some ⟨gb, o, none⟩) al.length c ∧
    loadN w' ⟨gb, o + i * 6, none⟩ 6 = al[i].cells.toArray ∧ (∀ j, j < 6 → (w'.cell? ⟨gb, o + i * 6 + j, none⟩).isSome = true) := by
  obtain ⟨gb, o, c, hva, hcc, hcell⟩ := (hv.mod m fun _ _ h => h).get Act.cells_len rfl (by omega)
  exact ⟨gb, o, c, hva, loadN_of rfl fun j hj => by rw [e_add]; exact hcell i j hi hj, fun j hj => by rw [hcell i j hi hj]; simp [Act.cells_len, hj]⟩

end
end Go.Proofs.Y

/- HLV: what came in with a call, out of the form's reading of it. -/
namespace Go.HL
open Go Go.ChangeShapes Go.WideShapes
section
variable {H : Type} {enc : TypeId × Value → H} {P : Program} {w : World}

theorem str_list (s : ByteArray) : Value.string s = str s.data.toList := rfl

theorem sl_of_cells {a : Addr} {len cap : Nat} {xs : List Value} (hx : len ≤ xs.length) (hlc : len ≤ cap) (hc : ∀ i, i < xs.length → w.cell? (a.add i) = xs[i]?) : Sl w (.slice (some a) len cap) 1 len (xs.take len) := by
  refine ⟨by rw [List.length_take]; omega, some a, cap, rfl, hlc, fun h0 => ?_⟩
  have hs : a.spot = none := by
    have := hc 0 (by omega)
    have e : a.add 0 = a := rfl
    rw [e, List.getElem?_eq_getElem (by omega)] at this
    exact World.cell?_spot this
  obtain ⟨b, o, s⟩ := a
  simp only at hs
  subst hs
  refine ⟨b, o, rfl, fun j hj => ?_⟩
  have := hc j (by omega)
  rw [e_add] at this
  rw [this, List.getElem?_take_of_lt (by omega)]

/-- a slice of strings that came in -/
theorem strs_in {t e : TypeId} {v : Value} {d : DataW H} {ps : List MemPlace} (ht : P.underlying t = some (.slice e)) (he : P.underlying e = some .string) (hc : P.cellsOf e = 1) (hv : ∃ a len cap, v = .slice a len cap)
    (h : DataW.Trod enc P w 0 (fun _ => true) true t v d ps) :
    ∃ ls : List (List UInt8), Sl w v 1 ls.length (ls.map str) ∧ (ls = [] ∨ ∃ spare, d = .slice (ls.map fun s => .lit (.string s)) spare) := by
  obtain ⟨a, len, cap, rfl⟩ := hv
  obtain ⟨fuel, hf⟩ := h
  rcases open_strings ht he hc hf with ⟨hcs, -⟩ | ⟨x, l, c, ss, hcs, -, hl, -, hz, hx, hcell, -⟩
  · simp [Value.cells] at hcs
    obtain ⟨rfl, rfl, rfl⟩ := hcs
    exact ⟨[], (Own.nil w 0 1).sl, .inl rfl⟩
  · simp [Value.cells] at hcs
    obtain ⟨rfl, rfl, rfl⟩ := hcs
    have hz : ss.length = cap := by simpa using hz
    refine ⟨(ss.take len).map fun s => s.data.toList, ?_, .inr ⟨strs (ss.drop len), ?_⟩⟩
    · have := sl_of_cells (w := w) (a := x) (len := len) (cap := cap) (xs := ss.map fun s => .string s) (by simp; omega) hl (by
        intro i hi
        simp only [List.length_map] at hi
        rw [hcell i hi]
        simp [List.getElem?_eq_getElem hi])
      have hlen : ((ss.take len).map fun s => s.data.toList).length = len := by simp; omega
      rw [hlen]
      have e : ((ss.take len).map fun s => s.data.toList).map str = (ss.map fun s => Value.string s).take len := by
        rw [List.map_map, ← List.map_take]; rfl
      rw [e]; exact this
    · have := congrArg Prod.fst hx
      simp only at this
      rw [this, strs, List.map_map]; rfl

/-- a slice of integers that came in -/
theorem ints_in {t e : TypeId} {k : IntKind} {v : Value} {d : DataW H} {ps : List MemPlace} (ht : P.underlying t = some (.slice e)) (he : P.underlying e = some (.int k)) (hc : P.cellsOf e = 1) (hv : ∃ a len cap, v = .slice a len cap)
    (h : DataW.Trod enc P w 0 (fun _ => true) true t v d ps) :
    ∃ zs : List Int, Sl w v 1 zs.length (zs.map fun n => .int k n) ∧ (∀ n ∈ zs, (Lit.int k n).wf = true) ∧ (zs = [] ∨ ∃ spare, d = .slice (zs.map fun n => .lit (.int k n)) spare) := by
  obtain ⟨a, len, cap, rfl⟩ := hv
  obtain ⟨fuel, hf⟩ := h
  rcases open_ints ht he hc hf with ⟨hcs, -⟩ | ⟨x, l, c, ss, hcs, -, hl, -, hz, hx, hcell, hw⟩
  · simp [Value.cells] at hcs
    obtain ⟨rfl, rfl, rfl⟩ := hcs
    exact ⟨[], (Own.nil w 0 1).sl, fun n hn => (nomatch hn), .inl rfl⟩
  · simp [Value.cells] at hcs
    obtain ⟨rfl, rfl, rfl⟩ := hcs
    have hz : ss.length = cap := by simpa using hz
    refine ⟨ss.take len, ?_, fun n hn => hw n (List.mem_of_mem_take hn), .inr ⟨lits k (ss.drop len), ?_⟩⟩
    · have := sl_of_cells (w := w) (a := x) (len := len) (cap := cap) (xs := ss.map fun n => .int k n) (by simp; omega) hl (by
        intro i hi
        simp only [List.length_map] at hi
        rw [hcell i hi]
        simp [List.getElem?_eq_getElem hi])
      have hlen : (ss.take len).length = len := by simp; omega
      rw [hlen, List.map_take]; exact this
    · have := congrArg Prod.fst hx
      simp only at this
      rw [this]; rfl
end
end Go.HL

/- DX: operations that came in with a call. -/
namespace Go.Proofs.Y
open Go Go.HL Go.Proofs Go.ChangeShapes Go.WideShapes Go.Deep

noncomputable def fs42 : Array Field := match Try.prog.underlying 42 with | some (.struct fs) => fs | _ => #[]
theorem u42 : Try.prog.underlying 42 = some (.struct fs42) := by kernel_rfl
theorem fs42_size : fs42.size = 6 := by kernel_rfl
theorem cells42 : Try.prog.cellsOf 42 = 6 := by kernel_rfl
theorem cells3 : Try.prog.cellsOf 3 = 1 := by kernel_rfl
theorem cells9 : Try.prog.cellsOf 9 = 1 := by kernel_rfl
theorem cells22 : Try.prog.cellsOf 22 = 1 := by kernel_rfl
theorem fld (i o t : Nat) (h : (fs42[i]?).map (fun f => (f.offset, f.type)) = some (o, t)) : ∃ f, fs42[i]? = some f ∧ f.offset = o ∧ f.type = t := by
  obtain ⟨f, hf, he⟩ := Option.map_eq_some_iff.1 h
  simp only [Prod.mk.injEq] at he
  exact ⟨f, hf, he.1, he.2⟩

section
variable {H : Type} {enc : TypeId × Value → H} {w : World}

/-- what a record's reading holds -/
def ActD (a : Act) (d : DataW H) : Prop := ∃ x0 x1 x2 x3 x5, d = .agg [x0, x1, x2, x3, .lit (.string a.S), x5] ∧ (a.ks = [] ∨ ∃ sp, x5 = .slice (a.ks.map fun n => .lit (.int .i64 n)) sp)

theorem act_in {fuel : Nat} {cs : List Value} {x : DataW H × List MemPlace} (h : DataW.trod enc Try.prog w 0 (fun _ => true) true fuel 42 cs = some x) :
    ∃ a : Act, cs = a.cells ∧ i64 a.Do ∧ i64 a.F ∧ i64 a.G ∧ i64 a.N ∧ Sl w a.kv 1 a.ks.length (ints a.ks) ∧ ActD a x.1 := by
  obtain ⟨xs, n, rfl, rfl, hlen, hxl, hf⟩ := DataW.trod_struct u42 h
  rw [cells42] at hlen
  rw [fs42_size] at hxl
  match cs, hlen with
  | [c0, c1, c2, c3, c4, c5], _ =>
  match xs, hxl with
  | [y0, y1, y2, y3, y4, y5], _ =>
  obtain ⟨f0, g0, o0, e0⟩ := fld 0 0 3 (by kernel_rfl)
  obtain ⟨f1, g1, o1, e1⟩ := fld 1 1 3 (by kernel_rfl)
  obtain ⟨f2, g2, o2, e2⟩ := fld 2 2 3 (by kernel_rfl)
  obtain ⟨f3, g3, o3, e3⟩ := fld 3 3 3 (by kernel_rfl)
  obtain ⟨f4, g4, o4, e4⟩ := fld 4 4 9 (by kernel_rfl)
  obtain ⟨f5, g5, o5, e5⟩ := fld 5 5 22 (by kernel_rfl)
  have h0 := hf 0 f0 g0
  have h1 := hf 1 f1 g1
  have h2 := hf 2 f2 g2
  have h3 := hf 3 f3 g3
  have h4 := hf 4 f4 g4
  have h5 := hf 5 f5 g5
  rw [o0, e0, cells3] at h0
  rw [o1, e1, cells3] at h1
  rw [o2, e2, cells3] at h2
  rw [o3, e3, cells3] at h3
  rw [o4, e4, cells9] at h4
  rw [o5, e5, cells22] at h5
  obtain ⟨n0, k0, rfl, w0⟩ := DataW.trod_int (x := y0) Try.underlying3 h0
  obtain ⟨n1, k1, rfl, w1⟩ := DataW.trod_int (x := y1) Try.underlying3 h1
  obtain ⟨n2, k2, rfl, w2⟩ := DataW.trod_int (x := y2) Try.underlying3 h2
  obtain ⟨n3, k3, rfl, w3⟩ := DataW.trod_int (x := y3) Try.underlying3 h3
  obtain ⟨s4, k4, rfl, w4⟩ := DataW.trod_string (x := y4) Try.underlying9 h4
  have hs : ∃ a len cap, c5 = .slice a len cap := by
    rcases open_ints (x := y5) Try.underlying22 Try.underlying3 (by kernel_rfl) h5 with ⟨hcs, -⟩ | ⟨x, l, c, ss, hcs, -⟩
    · simp at hcs; exact ⟨_, _, _, hcs⟩
    · simp at hcs; exact ⟨_, _, _, hcs⟩
  have hc5 : c5.cells.toList = [c5] := by obtain ⟨a, l, c, rfl⟩ := hs; rfl
  obtain ⟨zs, hz, -, hd⟩ := ints_in (enc := enc) (w := w) (d := y5.1) (ps := y5.2) Try.underlying22 Try.underlying3 (by kernel_rfl) hs ⟨n, by rw [hc5]; exact h5⟩
  simp at k0 k1 k2 k3 k4
  subst k0 k1 k2 k3 k4
  refine ⟨⟨n0, n1, n2, n3, s4.data.toList, c5, zs⟩, rfl, wf64 w0, wf64 w1, wf64 w2, wf64 w3, by rw [← ints_len zs] at hz ⊢; simpa [ints] using hz, ⟨_, _, _, _, _, rfl, hd⟩⟩

theorem list_of {α : Type} {R : Nat → α → Prop} : ∀ n : Nat, (∀ i, i < n → ∃ a, R i a) → ∃ l : List α, l.length = n ∧ ∀ i (h : i < l.length), R i l[i]
  | 0, _ => ⟨[], rfl, fun i h => absurd h (Nat.not_lt_zero i)⟩
  | n + 1, h => by
    obtain ⟨l, hl, hr⟩ := list_of n fun i hi => h i (by omega)
    obtain ⟨a, ha⟩ := h n (by omega)
    refine ⟨l ++ [a], by simp [hl], fun i hi => ?_⟩
    rcases Nat.lt_or_ge i l.length with h' | h'
    · rw [List.getElem_append_left h']; exact hr i h'
    · have : i = n := by simp at hi; omega
      subst this
      rw [List.getElem_append_right h']
      simpa [hl] using ha

theorem acts_in {v : Value} {d : DataW H} {ps : List MemPlace} (hv : ∃ a len cap, v = .slice a len cap) (h : DataW.Trod enc Try.prog w 0 (fun _ => true) true 38 v d ps) :
    ∃ al : List Act, Sl w v 6 al.length (rows Act.cells al) ∧ (∀ a ∈ al, i64 a.Do ∧ i64 a.F ∧ i64 a.G ∧ i64 a.N ∧ Sl w a.kv 1 a.ks.length (ints a.ks)) ∧
      (al = [] ∨ ∃ (D : List (DataW H)) (sp : List (DataW H)), d = .slice D sp ∧ D.length = al.length ∧ ∀ i (h1 : i < al.length) (h2 : i < D.length), ActD al[i] D[i]) := by
  obtain ⟨a, len, cap, rfl⟩ := hv
  obtain ⟨fuel, hf⟩ := h
  rcases open_slice Try.underlying38 hf with ⟨hcs, -⟩ | ⟨x, l, c, m, n, D, Pl, hcs, -, hl, -, hm, hx, hall⟩
  · simp [Value.cells] at hcs
    obtain ⟨rfl, rfl, rfl⟩ := hcs
    exact ⟨[], (Own.nil w 0 6).sl, fun n hn => (nomatch hn), .inl rfl⟩
  · simp [Value.cells] at hcs
    obtain ⟨rfl, rfl, rfl⟩ := hcs
    have hm : m = cap := by simpa using hm
    subst hm
    simp only [cells42] at hall
    obtain ⟨al, hal, hR⟩ := list_of (R := fun i (a : Act) => (∀ j, j < 6 → w.cell? ((x.add (i * 6)).add j) = a.cells[j]?) ∧ (i64 a.Do ∧ i64 a.F ∧ i64 a.G ∧ i64 a.N ∧ Sl w a.kv 1 a.ks.length (ints a.ks)) ∧ ActD a (D i)) len fun i hi => by
      obtain ⟨cs', h1, h2⟩ := hall i (by omega)
      obtain ⟨a, rfl, a1, a2, a3, a4, a5, a6⟩ := act_in h2
      obtain ⟨-, -, hc⟩ := World.cells?_some h1
      exact ⟨a, hc, ⟨a1, a2, a3, a4, a5⟩, a6⟩
    refine ⟨al, ?_, fun a ha => ?_, ?_⟩
    · subst hal
      refine ⟨rows_len Act.cells_len al, some x, m, rfl, hl, fun h0 => ?_⟩
      have hs : x.spot = none := by
        have := (hR 0 h0).1 0 (by omega)
        have e : (x.add (0 * 6)).add 0 = x := rfl
        rw [e] at this
        exact World.cell?_spot this
      obtain ⟨b, o, s⟩ := x
      simp only at hs
      subst hs
      refine ⟨b, o, rfl, fun j hj => ?_⟩
      have hj6 : j / 6 < al.length := by omega
      have := (hR (j / 6) hj6).1 (j % 6) (Nat.mod_lt _ (by omega))
      rw [e_add, e_add] at this
      rw [show o + j = o + j / 6 * 6 + j % 6 by omega, this, ← rows_get Act.cells_len al (j / 6) (j % 6) hj6 (Nat.mod_lt _ (by omega))]
      congr 1; omega
    · obtain ⟨i, hi, rfl⟩ := List.getElem_of_mem ha
      exact (hR i hi).2.1
    · right
      have hd := congrArg Prod.fst hx
      simp only at hd
      refine ⟨_, _, hd, by simp [hal], fun i h1 h2 => ?_⟩
      have := (hR i h1).2.2
      simpa using this
end

theorem heft_mem : ∀ {al : List Act} {a : Act}, a ∈ al → a.S.length + a.ks.length ≤ heft al
  | x :: al, a, h => by
    simp only [heft, List.map_cons, List.sum_cons]
    rcases List.mem_cons.1 h with rfl | h
    · omega
    · have := heft_mem h; simp only [heft] at this; omega
theorem cells_agg {v : Value} {l : List Value} (h : v.cells.toList = l) (hl : l.length ≠ 1) : v = .agg l.toArray := by
  subst h
  cases v <;> first | rfl | exact absurd rfl hl | simp [Value.cells]
end Go.Proofs.Y

/- JN: deeds: few, pick, found. -/
namespace Go.Proofs.Y
open Go Go.HL Go.Proofs

structure Deed where
  Do : Int
  Row : Bytes
  rv : Value
  rows : List Bytes
  kv : Value
  ks : List Int
  N : Int
def Deed.cells (a : Deed) : List Value := [.int .i64 a.Do, str a.Row, a.rv, a.kv, .int .i64 a.N]
theorem Deed.cells_len (a : Deed) : a.cells.length = 5 := rfl
structure Deed.OK (w : World) (a : Deed) : Prop where
  d : i64 a.Do
  n : i64 a.N
  r : Sl w a.rv 1 a.rows.length (a.rows.map str)
  k : Sl w a.kv 1 a.ks.length (ints a.ks)
theorem Deed.OK.mod0 {w w' : World} {a : Deed} (h : a.OK w) (m : Mod none' w w') : a.OK w' := ⟨h.d, h.n, h.r.mod m fun _ _ h => h, h.k.mod m fun _ _ h => h⟩
theorem Deed.one {w : World} {a : Deed} (h : a.OK w) : ∀ v ∈ a.cells, v.oneCell' = true := by
  obtain ⟨x, c, hk, -⟩ := h.k.form
  obtain ⟨y, c', hr, -⟩ := h.r.form
  intro v hv
  simp only [Deed.cells, List.mem_cons, List.not_mem_nil, or_false] at hv
  rcases hv with rfl | rfl | rfl | rfl | rfl
  · rfl
  · rfl
  · rw [hr]; rfl
  · rw [hk]; rfl
  · rfl

def Deed.few1 (a : Deed) : Bool := decide (a.Row.length ≤ 200) && decide (a.rows.length ≤ 6) && decide (a.ks.length ≤ 60) && a.rows.all fun r => decide (r.length ≤ 200)
def fewJ (l : List Deed) : Bool := decide (l.length ≤ 30) && l.all Deed.few1

theorem deed_at {w : World} {v : Value} {l : List Deed} {i : Nat} (hv : Sl w v 5 l.length (rows Deed.cells l)) (hi : i < l.length) : ∃ gb o c, v = .slice (some ⟨gb, o, none⟩) l.length c ∧
    ∀ w', Mod none' w w' → loadN w' ⟨gb, o + i * 5, none⟩ 5 = l[i].cells.toArray ∧ (∀ j, j < 5 → (w'.cell? ⟨gb, o + i * 5 + j, none⟩).isSome = true) ∧ w'.cell? ⟨gb, o + i * 5 + 1, none⟩ = some (str l[i].Row) ∧ w'.cell? ⟨gb, o + i * 5 + 2, none⟩ = some l[i].rv ∧ w'.cell? ⟨gb, o + i * 5 + 3, none⟩ = some l[i].kv := by
  obtain ⟨gb, o, c, hva, hcc, hcell⟩ := hv.get Deed.cells_len rfl (by omega)
  refine ⟨gb, o, c, hva, fun w' m => ?_⟩
  have hc : ∀ j, j < 5 → w'.cell? ⟨gb, o + i * 5 + j, none⟩ = l[i].cells[j]? := fun j hj => by
    have h1 := hcell i j hi hj
    rw [List.getElem?_eq_getElem (by rw [Deed.cells_len]; exact hj)] at h1 ⊢
    exact m.cell h1 fun h => h
  exact ⟨loadN_of rfl fun j hj => by rw [e_add]; exact hc j hj, fun j hj => by rw [hc j hj]; simp [Deed.cells_len, hj], hc 1 (by omega), hc 2 (by omega), hc 3 (by omega)⟩

section
variable {w : World} {next : Value → World → Prop} {QP : List PanicEntry → World → Prop}

theorem fewJ_ {v : Value} {l : List Deed} (hv : Sl w v 5 l.length (rows Deed.cells l)) (ha : ∀ a ∈ l, a.OK w) (k : next (.bool (fewJ l)) w) : callvK Try.prog (.func (.func 48) #[] #[]) [v] w next QP := by
  refine r48 rfl ?_
  obtain ⟨va, vc, rfl, hvc, -⟩ := hv.form
  unfold h48
  try simp only [go_sem, ↓reduceIte, Nat.reduceEqDiff, Nat.reduceAdd, Nat.reduceLT, List.length_cons, List.length_nil, List.getElem?_cons_zero, List.getElem?_cons_succ, Nat.mul_one, Bool.true_eq_false, Bool.false_eq_true, false_implies, true_implies, Bool.not_true, Bool.not_false, decide_true, decide_false, Int.reduceToNat, Int.cast_ofNat_Int, Int.reduceLT, Int.reduceLE, Int.reduceEq, Int.reduceNeg, eq_self, Option.isNone_some, Option.isNone_none, Bool.bne_false, Bool.bne_true]
  refine ⟨fun h30 => ?_, fun h30 => ?_⟩
  · have h30 : 30 < l.length := by
      have : (30 : Int) < l.length := by simpa using h30
      omega
    have : fewJ l = false := by simp only [fewJ, decide_eq_false (show ¬ l.length ≤ 30 by omega), Bool.false_and]
    rw [this] at k; exact k
  have h30 : l.length ≤ 30 := by
    have : ¬ (30 : Int) < l.length := by simpa using h30
    omega
  unfold h48_1
  try simp only [go_sem, ↓reduceIte, Nat.reduceEqDiff, Nat.reduceAdd, Nat.reduceLT, List.length_cons, List.length_nil, List.getElem?_cons_zero, List.getElem?_cons_succ, Nat.mul_one, Bool.true_eq_false, Bool.false_eq_true, false_implies, true_implies, Bool.not_true, Bool.not_false, decide_true, decide_false, Int.reduceToNat, Int.cast_ofNat_Int, Int.reduceLT, Int.reduceLE, Int.reduceEq, Int.reduceNeg, eq_self, Option.isNone_some, Option.isNone_none, Bool.bne_false, Bool.bne_true]
  refine loopN l.length (fun i τ w' => w' = w ∧ τ 0 = .slice va l.length vc ∧ τ 3 = .int .i64 i ∧ (l.take i).all Deed.few1 = true) ⟨0, by omega, rfl, rfl, rfl, by simp⟩ ?_
  rintro i τ w1 hi ⟨rfl, t0, t3, hall⟩
  unfold h48_2
  try simp only [go_sem, ↓reduceIte, Nat.reduceEqDiff, Nat.reduceAdd, Nat.reduceLT, List.length_cons, List.length_nil, List.getElem?_cons_zero, List.getElem?_cons_succ, Nat.mul_one, Bool.true_eq_false, Bool.false_eq_true, false_implies, true_implies, Bool.not_true, Bool.not_false, decide_true, decide_false, Int.reduceToNat, Int.cast_ofNat_Int, Int.reduceLT, Int.reduceLE, Int.reduceEq, Int.reduceNeg, eq_self, Option.isNone_some, Option.isNone_none, Bool.bne_false, Bool.bne_true, t0, t3]
  refine ⟨fun hlt => ?_, fun hge => ?_⟩
  · have hil : i < l.length := by
      have : (i : Int) < l.length := by simpa using hlt
      omega
    obtain ⟨gb, o, c', hva, hA⟩ := deed_at hv hil
    simp only [Value.slice.injEq] at hva
    obtain ⟨rfl, -, rfl⟩ := hva
    obtain ⟨-, -, x1, x2, x3⟩ := hA w1 (Mod.refl _ _)
    have hok := ha _ (List.getElem_mem hil)
    obtain ⟨ra, rc, hrv, -, hrcell⟩ := hok.r.form
    obtain ⟨ka, kc, hkv, -, -⟩ := hok.k.form
    rw [hrv] at x2
    rw [hkv] at x3
    have bad : Deed.few1 l[i] = false → fewJ l = false := by
      intro h
      simp only [fewJ, Bool.and_eq_false_iff]
      right
      rw [List.all_eq_false]
      exact ⟨l[i], List.getElem_mem hil, by simp [h]⟩
    have eb : (if (if decide ((200 : Int) < l[i].Row.length) = true then true else decide ((6 : Int) < l[i].rows.length)) = true then true else decide ((60 : Int) < l[i].ks.length)) = decide (200 < l[i].Row.length ∨ 6 < l[i].rows.length ∨ 60 < l[i].ks.length) := by
      have g1 : decide ((200 : Int) < l[i].Row.length) = decide (200 < l[i].Row.length) := by congr 1; apply propext; omega
      have g2 : decide ((6 : Int) < l[i].rows.length) = decide (6 < l[i].rows.length) := by congr 1; apply propext; omega
      have g3 : decide ((60 : Int) < l[i].ks.length) = decide (60 < l[i].ks.length) := by congr 1; apply propext; omega
      rw [g1, g2, g3]
      by_cases c1 : 200 < l[i].Row.length <;> by_cases c2 : 6 < l[i].rows.length <;> by_cases c3 : 60 < l[i].ks.length <;> simp [c1, c2, c3]
    unfold h48_3
    try simp only [go_sem, ↓reduceIte, Nat.reduceEqDiff, Nat.reduceAdd, Nat.reduceLT, List.length_cons, List.length_nil, List.getElem?_cons_zero, List.getElem?_cons_succ, Nat.mul_one, Bool.true_eq_false, Bool.false_eq_true, false_implies, true_implies, Bool.not_true, Bool.not_false, decide_true, decide_false, Int.reduceToNat, Int.cast_ofNat_Int, Int.reduceLT, Int.reduceLE, Int.reduceEq, Int.reduceNeg, eq_self, Option.isNone_some, Option.isNone_none, Bool.bne_false, Bool.bne_true, t0, t3, x1, x2, x3, eb]
    repeat refine ⟨⟨by omega, by omega⟩, ?_⟩
    refine ⟨fun _ => ⟨by omega, by omega⟩, fun _ => ⟨by omega, by omega⟩, fun hb => ?_, fun hb => ?_⟩
    · have hb : 200 < l[i].Row.length ∨ 6 < l[i].rows.length ∨ 60 < l[i].ks.length := by simpa using hb
      have : Deed.few1 l[i] = false := by
        simp only [Deed.few1, Bool.and_eq_false_iff, decide_eq_false_iff_not]
        rcases hb with h | h | h
        · left; left; left; omega
        · left; left; right; omega
        · left; right; omega
      rw [bad this] at k; exact k
    have hb : ¬ (200 < l[i].Row.length ∨ 6 < l[i].rows.length ∨ 60 < l[i].ks.length) := by simpa using hb
    unfold h48_4
    try simp only [go_sem, ↓reduceIte, Nat.reduceEqDiff, Nat.reduceAdd, Nat.reduceLT, List.length_cons, List.length_nil, List.getElem?_cons_zero, List.getElem?_cons_succ, Nat.mul_one, Bool.true_eq_false, Bool.false_eq_true, false_implies, true_implies, Bool.not_true, Bool.not_false, decide_true, decide_false, Int.reduceToNat, Int.cast_ofNat_Int, Int.reduceLT, Int.reduceLE, Int.reduceEq, Int.reduceNeg, eq_self, Option.isNone_some, Option.isNone_none, Bool.bne_false, Bool.bne_true, t0, t3]
    refine loopN l[i].rows.length (fun j τ w' => w' = w1 ∧ τ 0 = .slice (some ⟨gb, o, none⟩) l.length vc ∧ τ 3 = .int .i64 i ∧ τ 4 = .int .i64 j ∧ (l[i].rows.take j).all (fun r => decide (r.length ≤ 200)) = true) ⟨0, by omega, rfl, t0, t3, rfl, by simp⟩ ?_
    rintro j τ w2 hj ⟨rfl, t0, t3, t4, hallj⟩
    unfold h48_5
    try simp only [go_sem, ↓reduceIte, Nat.reduceEqDiff, Nat.reduceAdd, Nat.reduceLT, List.length_cons, List.length_nil, List.getElem?_cons_zero, List.getElem?_cons_succ, Nat.mul_one, Bool.true_eq_false, Bool.false_eq_true, false_implies, true_implies, Bool.not_true, Bool.not_false, decide_true, decide_false, Int.reduceToNat, Int.cast_ofNat_Int, Int.reduceLT, Int.reduceLE, Int.reduceEq, Int.reduceNeg, eq_self, Option.isNone_some, Option.isNone_none, Bool.bne_false, Bool.bne_true, t0, t3, t4, x2]
    repeat refine ⟨⟨by omega, by omega⟩, ?_⟩
    refine ⟨fun hltj => ?_, fun hgej => ?_⟩
    · have hjl : j < l[i].rows.length := by
        have : (j : Int) < l[i].rows.length := by simpa using hltj
        omega
      obtain ⟨gr, or, rfl, hrc⟩ := hrcell (by omega)
      have xr : w2.cell? ⟨gr, or + j, none⟩ = some (str l[i].rows[j]) := by
        rw [hrc j (by omega), List.getElem?_map, List.getElem?_eq_getElem hjl]; rfl
      unfold h48_6
      try simp only [go_sem, ↓reduceIte, Nat.reduceEqDiff, Nat.reduceAdd, Nat.reduceLT, List.length_cons, List.length_nil, List.getElem?_cons_zero, List.getElem?_cons_succ, Nat.mul_one, Bool.true_eq_false, Bool.false_eq_true, false_implies, true_implies, Bool.not_true, Bool.not_false, decide_true, decide_false, Int.reduceToNat, Int.cast_ofNat_Int, Int.reduceLT, Int.reduceLE, Int.reduceEq, Int.reduceNeg, eq_self, Option.isNone_some, Option.isNone_none, Bool.bne_false, Bool.bne_true, t0, t3, t4, x2, xr]
      repeat refine ⟨⟨by omega, by omega⟩, ?_⟩
      refine ⟨fun hg => ?_, fun hg => ?_⟩
      · have hg : 200 < l[i].rows[j].length := by
          have : (200 : Int) < l[i].rows[j].length := by simpa using hg
          omega
        have : Deed.few1 l[i] = false := by
          simp only [Deed.few1, Bool.and_eq_false_iff]
          right
          rw [List.all_eq_false]
          exact ⟨l[i].rows[j], List.getElem_mem hjl, by simp; omega⟩
        rw [bad this] at k; exact k
      · have hg : l[i].rows[j].length ≤ 200 := by
          have : ¬ (200 : Int) < l[i].rows[j].length := by simpa using hg
          omega
        unfold h48_7
        try simp only [go_sem, ↓reduceIte, Nat.reduceEqDiff, Nat.reduceAdd, Nat.reduceLT, List.length_cons, List.length_nil, List.getElem?_cons_zero, List.getElem?_cons_succ, Nat.mul_one, Bool.true_eq_false, Bool.false_eq_true, false_implies, true_implies, Bool.not_true, Bool.not_false, decide_true, decide_false, Int.reduceToNat, Int.cast_ofNat_Int, Int.reduceLT, Int.reduceLE, Int.reduceEq, Int.reduceNeg, eq_self, Option.isNone_some, Option.isNone_none, Bool.bne_false, Bool.bne_true, t0, t3, t4]
        rw [w64 (by omega) (by omega)]
        refine ⟨j + 1, by omega, by omega, rfl, ?_⟩
        rw [List.take_succ_eq_append_getElem hjl, List.all_append, hallj]
        simp [hg]
    · have hjo : j = l[i].rows.length := by
        have : ¬ (j : Int) < l[i].rows.length := by simpa using hgej
        omega
      subst hjo
      rw [List.take_length] at hallj
      unfold h48_8
      try simp only [go_sem, ↓reduceIte, Nat.reduceEqDiff, Nat.reduceAdd, Nat.reduceLT, List.length_cons, List.length_nil, List.getElem?_cons_zero, List.getElem?_cons_succ, Nat.mul_one, Bool.true_eq_false, Bool.false_eq_true, false_implies, true_implies, Bool.not_true, Bool.not_false, decide_true, decide_false, Int.reduceToNat, Int.cast_ofNat_Int, Int.reduceLT, Int.reduceLE, Int.reduceEq, Int.reduceNeg, eq_self, Option.isNone_some, Option.isNone_none, Bool.bne_false, Bool.bne_true, t0, t3]
      rw [w64 (by omega) (by omega)]
      refine ⟨i + 1, by omega, by omega, rfl, ?_⟩
      rw [List.take_succ_eq_append_getElem hil, List.all_append, hall]
      have h1 : Deed.few1 l[i] = true := by simp only [Deed.few1, hallj, Bool.and_true, Bool.and_eq_true, decide_eq_true_eq]; omega
      simp [h1]
  · have hio : i = l.length := by
      have : ¬ (i : Int) < l.length := by simpa using hge
      omega
    subst hio
    rw [List.take_length] at hall
    unfold h48_9
    try simp only [go_sem, ↓reduceIte, Nat.reduceEqDiff, Nat.reduceAdd, Nat.reduceLT, List.length_cons, List.length_nil, List.getElem?_cons_zero, List.getElem?_cons_succ, Nat.mul_one, Bool.true_eq_false, Bool.false_eq_true, false_implies, true_implies, Bool.not_true, Bool.not_false, decide_true, decide_false, Int.reduceToNat, Int.cast_ofNat_Int, Int.reduceLT, Int.reduceLE, Int.reduceEq, Int.reduceNeg, eq_self, Option.isNone_some, Option.isNone_none, Bool.bne_false, Bool.bne_true]
    have : fewJ l = true := by simp [fewJ, h30, hall]
    rw [this] at k; exact k

theorem jpick_ {n m : Int} (hn : i64 n) (hm : 0 < m ∧ m ≤ 1000) (k : next (.int .i64 (n % m)) w) : callvK Try.prog (.func (.func 50) #[] #[]) [.int .i64 n, .int .i64 m] w next QP := by
  refine r50 rfl ?_
  have h1 := hn.1
  have h2 := hn.2
  have hne : m ≠ 0 := by omega
  unfold h50
  try simp only [go_sem, ↓reduceIte, Nat.reduceEqDiff, Nat.reduceAdd, Nat.reduceLT, List.length_cons, List.length_nil, List.getElem?_cons_zero, List.getElem?_cons_succ, Nat.mul_one, Bool.true_eq_false, Bool.false_eq_true, false_implies, true_implies, Bool.not_true, Bool.not_false, decide_true, decide_false, Int.reduceToNat, Int.cast_ofNat_Int, Int.reduceLT, Int.reduceLE, Int.reduceEq, Int.reduceNeg, eq_self, Option.isNone_some, Option.isNone_none, Bool.bne_false, Bool.bne_true]
  refine ⟨hne, ?_⟩
  have hb1 : n.tmod m < m := Int.tmod_lt_of_pos _ (by omega)
  have hb2 : -m < n.tmod m := by
    have := Int.lt_tmod_of_pos n (show 0 < m by omega)
    exact this
  have hemod : n % m = if n.tmod m < 0 then n.tmod m + m else n.tmod m := by
    by_cases h0 : 0 ≤ n
    · rw [Int.tmod_eq_emod_of_nonneg h0, if_neg (by have := Int.emod_nonneg n hne; omega)]
    · have h3 := Int.tmod_add_mul_tdiv n m
      have e : n % m = (n.tmod m) % m := by
        conv => lhs; rw [← h3]
        rw [Int.add_mul_emod_self_left]
      rw [e]
      split
      · rw [← Int.add_emod_right, Int.emod_eq_of_lt (by omega) (by omega)]
      · exact Int.emod_eq_of_lt (by omega) hb1
  refine ⟨fun hneg => ?_, fun hpos => ?_⟩
  · have hneg : n.tmod m < 0 := by simpa using hneg
    rw [w64 (by omega) (by omega)]
    unfold h50_1
    try simp only [go_sem, ↓reduceIte, Nat.reduceEqDiff, Nat.reduceAdd, Nat.reduceLT, List.length_cons, List.length_nil, List.getElem?_cons_zero, List.getElem?_cons_succ, Nat.mul_one, Bool.true_eq_false, Bool.false_eq_true, false_implies, true_implies, Bool.not_true, Bool.not_false, decide_true, decide_false, Int.reduceToNat, Int.cast_ofNat_Int, Int.reduceLT, Int.reduceLE, Int.reduceEq, Int.reduceNeg, eq_self, Option.isNone_some, Option.isNone_none, Bool.bne_false, Bool.bne_true]
    rw [hemod, if_pos hneg] at k; exact k
  · have hpos : ¬ n.tmod m < 0 := by simpa using hpos
    unfold h50_1
    try simp only [go_sem, ↓reduceIte, Nat.reduceEqDiff, Nat.reduceAdd, Nat.reduceLT, List.length_cons, List.length_nil, List.getElem?_cons_zero, List.getElem?_cons_succ, Nat.mul_one, Bool.true_eq_false, Bool.false_eq_true, false_implies, true_implies, Bool.not_true, Bool.not_false, decide_true, decide_false, Int.reduceToNat, Int.cast_ofNat_Int, Int.reduceLT, Int.reduceLE, Int.reduceEq, Int.reduceNeg, eq_self, Option.isNone_some, Option.isNone_none, Bool.bne_false, Bool.bne_true]
    rw [hemod, if_neg hpos] at k; exact k
end
end Go.Proofs.Y

/- JO: plain laws: files left alone, and rewritings. -/
namespace Go.Proofs.Y
open Go Go.HL

/-- file f holds s, and all of it is durable -/
structure Clean (d : Dk) (f : Nat) (s : Bytes) : Prop where
  last : d.last f = s
  file : d.file f = s
  none : ∀ p ∈ d.queue, p.file ≠ f
structure Len (d : Dk) : Prop where
  nl : d.lasts.length = 12
  nf : d.files.length = 12

section
variable {d : Dk} {f : Nat} {s : Bytes}

theorem Len.tick (h : Len d) : Len d.tick := by unfold Dk.tick; split <;> exact ⟨h.nl, h.nf⟩
theorem Len.crash (h : Len d) (ks : List Int) : Len (d.crash ks) := by
  unfold Dk.crash; split
  · exact h
  · exact ⟨by simp only [survs_len]; exact h.nl, by simp only [survs_len]; exact h.nl⟩
theorem Len.endW (h : Len d) (e : Bool) : Len (Dk.endW e d) := by unfold Dk.endW; split; exact h.crash _; exact h
theorem Len.pre (h : Len d) : Len d.pre := h.tick.endW _
theorem Len.settle (h : Len d) (g : Nat) (t : Bytes) : Len (d.settle g t) := ⟨by simp [Dk.settle, h.nl], by simp [Dk.settle, h.nf]⟩
theorem Len.writeD (h : Len d) (g a : Int) (t : Bytes) : Len (d.writeD g a t) := by
  unfold Dk.writeD; split
  · exact h
  · exact ⟨h.nl, by simp [h.nf]⟩
theorem Len.write (h : Len d) (g a : Int) (t : Bytes) : Len (d.write g a t) := (h.tick.writeD g a t).endW _
theorem Len.flush (h : Len d) (g : Int) : Len (d.flush g) := by
  unfold Dk.flush; dsimp only; split
  · exact h.pre
  · split
    · exact ⟨h.pre.nl, h.pre.nf⟩
    · exact h.pre.settle _ _
theorem Len.cut (h : Len d) (g n : Int) : Len (d.cut g n) := by
  unfold Dk.cut; dsimp only; split
  · exact h.pre
  · split
    · exact h.pre
    · exact h.pre.settle _ _
theorem Len.turn (h : Len d) (g n : Int) : Len (d.turn g n) := by
  unfold Dk.turn; dsimp only; split
  · exact h.pre
  · split
    · exact h.pre
    · split
      · exact h.pre
      · exact (h.pre.settle _ _).settle _ _

theorem Clean.tick (h : Clean d f s) : Clean d.tick f s := by unfold Dk.tick; split <;> exact ⟨h.last, h.file, h.none⟩
theorem Clean.crash (h : Clean d f s) (ks : List Int) : Clean (d.crash ks) f s := by
  unfold Dk.crash; split
  · exact h
  · have : (survs d.lasts d.queue ks).getD f [] = s := (survs_other d.queue d.lasts ks h.none).trans h.last
    exact ⟨this, this, fun p hp => (nomatch hp)⟩
theorem Clean.endW (h : Clean d f s) (e : Bool) : Clean (Dk.endW e d) f s := by unfold Dk.endW; split; exact h.crash _; exact h
theorem Clean.pre (h : Clean d f s) : Clean d.pre f s := h.tick.endW _
theorem Clean.start (h : Clean d f s) : Clean d.start f s := ⟨h.last, h.file, h.none⟩
theorem Clean.arm (h : Clean d f s) (n : Int) (ks : List Int) : Clean (d.arm n ks) f s := ⟨h.last, h.file, h.none⟩
theorem Clean.lose (h : Clean d f s) (n : Int) : Clean (d.lose n) f s := ⟨h.last, h.file, h.none⟩
theorem Clean.settle (h : Clean d f s) {g : Nat} (hg : g ≠ f) (t : Bytes) : Clean (d.settle g t) f s := by
  refine ⟨?_, ?_, fun p hp => h.none p (List.mem_filter.1 hp).1⟩
  · have : (d.settle g t).last f = d.last f := by simp [Dk.settle, Dk.last, List.getElem?_set_ne hg]
    rw [this]; exact h.last
  · have : (d.settle g t).file f = d.file f := by simp [Dk.settle, Dk.file, List.getElem?_set_ne hg]
    rw [this]; exact h.file
theorem clean_settle (h : Len d) {g : Nat} (hg : g < 12) (t : Bytes) : Clean (d.settle g t) g t := by
  refine ⟨by simp [Dk.settle, Dk.last, h.nl, hg], by simp [Dk.settle, Dk.file, h.nf, hg], fun p hp => ?_⟩
  have := (List.mem_filter.1 hp).2
  simpa using this
theorem Clean.writeD (h : Clean d f s) {g : Nat} (hg : g ≠ f) (a : Int) (t : Bytes) : Clean (d.writeD g a t) f s := by
  unfold Dk.writeD; split
  · exact h
  · refine ⟨h.last, ?_, fun p hp => ?_⟩
    · have : (d.files.set (g : Int).toNat (put (d.file (g : Int).toNat) a.toNat t)).getD f [] = d.file f := by
        simp [Dk.file, List.getElem?_set_ne hg]
      exact this.trans h.file
    · rcases List.mem_append.1 hp with h' | h'
      · exact h.none p h'
      · rw [pieces_file _ _ _ _ p h']; simpa using hg
theorem Clean.write (h : Clean d f s) {g : Nat} (hg : g ≠ f) (a : Int) (t : Bytes) : Clean (d.write g a t) f s := (h.tick.writeD hg a t).endW _
theorem Clean.flush (h : Clean d f s) {g : Nat} (hg : g ≠ f) : Clean (d.flush g) f s := by
  unfold Dk.flush; dsimp only; split
  · exact h.pre
  · split
    · exact ⟨h.pre.last, h.pre.file, h.pre.none⟩
    · exact h.pre.settle (by simpa using hg) _
theorem Clean.cut (h : Clean d f s) {g : Nat} (hg : g ≠ f) (n : Int) : Clean (d.cut g n) f s := by
  unfold Dk.cut; dsimp only; split
  · exact h.pre
  · split
    · exact h.pre
    · exact h.pre.settle (by simpa using hg) _

theorem may_zero {d : Dk} {l : List Int} (h : d.may l = 0) : d.down = false := by
  unfold Dk.may at h; split at h
  · omega
  · rename_i hd; simpa using hd
/-- a call that is let through was no crash -/
theorem pre_up (h : d.pre.down = false) : d.pre = d.tick ∧ d.ends = false := by
  unfold Dk.pre Dk.endW at h ⊢
  cases he : d.ends with
  | false => exact ⟨rfl, rfl⟩
  | true =>
    rw [he] at h
    simp only [if_true] at h
    have hd : d.tick.down = false := by
      have : d.down = false := by unfold Dk.ends at he; simp at he; exact he.1
      unfold Dk.tick; split <;> exact this
    simp [Dk.crash, hd] at h
theorem tick_file : d.tick.file f = d.file f := by unfold Dk.tick; split <;> rfl
theorem tick_last : d.tick.last f = d.last f := by unfold Dk.tick; split <;> rfl

theorem cut_ok (hl : Len d) {g : Nat} (hg : g < 12) (h : d.cutR g 0 = 0) : Clean (d.cut g 0) g [] ∧ (d.cut g 0).down = false := by
  unfold Dk.cutR at h; dsimp only at h
  split at h
  · rename_i h1; exact absurd h h1
  · rename_i h1
    split at h
    · omega
    · rename_i h2
      have hm : d.pre.may [(g : Int)] = 0 := Decidable.byContradiction fun hn => h1 hn
      have hd := may_zero hm
      unfold Dk.cut; dsimp only
      rw [if_neg h1, if_neg h2]
      refine ⟨?_, hd⟩
      have := clean_settle hl.pre hg ((d.pre.file g).take 0)
      simpa using this
theorem write_ok (hl : Len d) {g : Nat} (hg : g < 12) {t : Bytes} (ht : t ≠ []) (h0 : d.file g = []) (h : d.writeR g 0 t = 0) : (d.write g 0 t).file g = t ∧ (d.write g 0 t).down = false := by
  unfold Dk.writeR at h
  split at h
  · omega
  · rename_i he
    have he : d.ends = false := by simpa using he
    have hm : d.tick.may [(g : Int)] = 0 := by
      unfold Dk.writeE at h; split at h
      · rename_i h1; exact absurd h h1
      · rename_i h1; exact Decidable.byContradiction fun hn => h1 hn
    have hd := may_zero hm
    unfold Dk.write Dk.endW
    rw [he]
    simp only [Bool.false_eq_true, if_false]
    unfold Dk.writeD
    rw [if_neg (by simp [h, ht])]
    refine ⟨?_, hd⟩
    have : d.tick.file g = [] := tick_file.trans h0
    have hgl : g < d.tick.files.length := by rw [hl.tick.nf]; exact hg
    show (d.tick.files.set g (put (d.tick.file g) (0 : Int).toNat t)).getD g [] = t
    rw [List.getD_eq_getElem?_getD, List.getElem?_set_self hgl, this]
    exact put_nil t
theorem flush_ok (hl : Len d) {g : Nat} (hg : g < 12) (h : d.flushR g = 0) : Clean (d.flush g) g (d.file g) ∧ (d.flush g).down = false := by
  unfold Dk.flushR at h; dsimp only at h
  split at h
  · rename_i h1; exact absurd h h1
  · rename_i h1
    split at h
    · omega
    · rename_i h2
      have hm : d.pre.may [(g : Int)] = 0 := Decidable.byContradiction fun hn => h1 hn
      have hd := may_zero hm
      unfold Dk.flush; dsimp only
      rw [if_neg h1, if_neg h2]
      refine ⟨?_, hd⟩
      have := clean_settle hl.pre hg (d.pre.file g)
      rw [(pre_up hd).1, tick_file] at this
      rw [(pre_up hd).1]
      simpa [tick_file] using this
theorem turn_ok (hl : Len d) {g : Nat} (hf : f < 12) (hg : g < 12) (hne : g ≠ f) (h : d.turnR f g = 0) : Clean (d.turn f g) f (d.last g) ∧ (d.turn f g).down = false := by
  unfold Dk.turnR at h; dsimp only at h
  split at h
  · rename_i h1; exact absurd h h1
  · rename_i h1
    split at h
    · omega
    · rename_i h2
      split at h
      · omega
      · rename_i h3
        have hm : d.pre.may [(f : Int), (g : Int)] = 0 := Decidable.byContradiction fun hn => h1 hn
        have hd := may_zero hm
        unfold Dk.turn; dsimp only
        rw [if_neg h1, if_neg h2, if_neg h3]
        refine ⟨?_, hd⟩
        have h4 := clean_settle hl.pre hf (d.pre.last g)
        have h5 := h4.settle hne []
        rw [(pre_up hd).1, tick_last] at h5
        rw [(pre_up hd).1]
        simpa [tick_last] using h5
theorem turn_no (hc : Clean d f s) {g : Nat} (h : d.turnR f g ≠ 0) : Clean (d.turn f g) f s := by
  unfold Dk.turnR at h; unfold Dk.turn; dsimp only at h ⊢
  split at h
  · rename_i h1; rw [if_pos h1]; exact hc.pre
  · rename_i h1
    rw [if_neg h1]
    split at h
    · rename_i h2; rw [if_pos h2]; exact hc.pre
    · rename_i h2
      rw [if_neg h2]
      split at h
      · rename_i h3; rw [if_pos h3]; exact hc.pre
      · exact absurd rfl h

theorem head_ne (e m : Int) (t : Bytes) : header e m ++ t ≠ [] := by
  intro h
  have := congrArg List.length h
  rw [List.length_append, header_len] at this
  simp at this

/-- a rewriting: the old rows or the new ones -/
theorem rewr_clean (hl : Len d) (hf : f ≤ 6) (hc : Clean d f s) (rows : List Bytes) : ((rewr d f rows).2 = 0 → Clean (rewr d f rows).1 f (header (16 + (formsB rows).length : Nat) rows.length ++ formsB rows) ∧ (rewr d f rows).1.down = false) ∧ ((rewr d f rows).2 ≠ 0 → Clean (rewr d f rows).1 f s) ∧ Len (rewr d f rows).1 := by
  have hne : f + 1 ≠ f := by omega
  unfold rewr
  dsimp only
  generalize ht : header (16 + (formsB rows).length : Nat) rows.length ++ formsB rows = t
  have htn : t ≠ [] := ht ▸ head_ne _ _ _
  have c1 := hc.cut hne 0
  have l1 := hl.cut (f + 1 : Nat) 0
  split
  · rename_i h1; exact ⟨fun h => absurd h h1, fun _ => c1, l1⟩
  · rename_i h1
    have h1 : d.cutR (f + 1 : Nat) 0 = 0 := Decidable.byContradiction fun hn => h1 hn
    obtain ⟨g1, -⟩ := cut_ok hl (g := f + 1) (by omega) h1
    have c2 := c1.write hne 0 t
    have l2 := l1.write (f + 1 : Nat) 0 t
    split
    · rename_i h2; exact ⟨fun h => absurd h h2, fun _ => c2, l2⟩
    · rename_i h2
      have h2 : (d.cut (f + 1 : Nat) 0).writeR (f + 1 : Nat) 0 t = 0 := Decidable.byContradiction fun hn => h2 hn
      obtain ⟨g2, -⟩ := write_ok l1 (g := f + 1) (by omega) htn g1.file h2
      have c3 := c2.flush hne
      have l3 := l2.flush (f + 1 : Nat)
      split
      · rename_i h3; exact ⟨fun h => absurd h h3, fun _ => c3, l3⟩
      · rename_i h3
        have h3 : ((d.cut (f + 1 : Nat) 0).write (f + 1 : Nat) 0 t).flushR (f + 1 : Nat) = 0 := Decidable.byContradiction fun hn => h3 hn
        obtain ⟨g3, -⟩ := flush_ok l2 (g := f + 1) (by omega) h3
        rw [g2] at g3
        refine ⟨fun h4 => ?_, fun h4 => turn_no c3 h4, l3.turn _ _⟩
        have := turn_ok l3 (f := f) (g := f + 1) (by omega) (by omega) hne h4
        rw [g3.last] at this
        exact this
end
end Go.Proofs.Y

/- JP: plain laws: the errors of a rewriting. -/
namespace Go.Proofs.Y
open Go Go.HL
section
variable {d : Dk} {f : Nat} {s : Bytes}

theorem may_range {l : List Int} (hl : l.all isF = true) : d.may l = 0 ∨ d.may l = 8 := by
  cases hd : d.down <;> simp [Dk.may, hd, hl]
theorem may_two' {f g : Int} : d.may [f, g] = if d.may [f] ≠ 0 then d.may [f] else d.may [g] := by
  unfold Dk.may
  cases d.down <;> cases hf : isF f <;> cases hg : isF g <;> simp [hf, hg]
theorem isF_nat {g : Nat} (h : g < 12) : isF (g : Int) = true := by simp [isF]; omega
theorem pre_idle' (hd : d.down = false) (he : d.ends = false) : d.pre = d.tick ∧ d.tick.down = false := by
  refine ⟨by simp [Dk.pre, Dk.endW, he], ?_⟩
  unfold Dk.tick; split <;> exact hd
theorem pre_lost : d.pre.lost = d.lost := by
  unfold Dk.pre Dk.endW
  have ht : d.tick.lost = d.lost := by unfold Dk.tick; split <;> rfl
  split
  · unfold Dk.crash; split
    · exact ht
    · exact ht
  · exact ht
theorem tick_lost : d.tick.lost = d.lost := by unfold Dk.tick; split <;> rfl
theorem writeD_lost (g a : Int) (t : Bytes) : (d.writeD g a t).lost = d.lost := by unfold Dk.writeD; split <;> rfl
theorem crash_lost (ks : List Int) : (d.crash ks).lost = d.lost := by unfold Dk.crash; split <;> rfl
theorem write_lost (g a : Int) (t : Bytes) : (d.write g a t).lost = d.lost := by
  unfold Dk.write Dk.endW; split
  · rw [crash_lost, writeD_lost, tick_lost]
  · rw [writeD_lost, tick_lost]
theorem cut_lost (g n : Int) : (d.cut g n).lost = d.lost := by
  unfold Dk.cut; dsimp only; split
  · exact pre_lost
  · split
    · exact pre_lost
    · exact pre_lost
theorem turn_lost (g n : Int) : (d.turn g n).lost = d.lost := by
  unfold Dk.turn; dsimp only; split
  · exact pre_lost
  · split
    · exact pre_lost
    · split
      · exact pre_lost
      · exact pre_lost
theorem flush_lost (h : d.lost = 0) (g : Int) : (d.flush g).lost = 0 := by
  have hp : d.pre.lost = 0 := pre_lost.trans h
  unfold Dk.flush; dsimp only; split
  · exact hp
  · split
    · omega
    · exact hp

theorem cutR_cases {g : Nat} (hg : g < 12) : (d.cutR g 0 = 0 ∨ d.cutR g 0 = 8) ∧ (d.down = false → d.ends = false → d.cutR g 0 = 0) := by
  have hm := may_range (d := d.pre) (l := [(g : Int)]) (by simp [isF_nat hg])
  have key : d.pre.may [(g : Int)] = 0 → d.cutR g 0 = 0 := by
    intro h
    unfold Dk.cutR; dsimp only
    rw [if_neg (by simp [h]), if_neg (by omega)]
  refine ⟨?_, fun hd he => key ?_⟩
  · rcases hm with h | h
    · exact .inl (key h)
    · right; unfold Dk.cutR; dsimp only; rw [if_pos (by rw [h]; decide), h]
  · obtain ⟨h1, h2⟩ := pre_idle' hd he
    rw [h1]; exact may_up h2 hg
theorem writeR_cases {g : Nat} (hg : g < 12) {t : Bytes} (hd : d.down = false) (ht : t.length ≤ 16777216) : (d.writeR g 0 t = 0 ∨ d.writeR g 0 t = 8) ∧ (d.ends = false → d.writeR g 0 t = 0) := by
  have key : d.ends = false → d.writeR g 0 t = 0 := by
    intro he
    obtain ⟨-, h2⟩ := pre_idle' hd he
    unfold Dk.writeR Dk.writeE
    rw [he]
    rw [if_neg (by decide), if_neg (by simp [may_up h2 hg]), if_neg (by omega), if_neg (by omega)]
  refine ⟨?_, key⟩
  cases he : d.ends with
  | false => exact .inl (key he)
  | true => right; simp [Dk.writeR, he]
theorem flushR_cases {g : Nat} (hg : g < 12) (hl : d.lost = 0) : (d.flushR g = 0 ∨ d.flushR g = 8) ∧ (d.down = false → d.ends = false → d.flushR g = 0) := by
  have hm := may_range (d := d.pre) (l := [(g : Int)]) (by simp [isF_nat hg])
  have hpl : d.pre.lost = 0 := pre_lost.trans hl
  have key : d.pre.may [(g : Int)] = 0 → d.flushR g = 0 := by
    intro h
    unfold Dk.flushR; dsimp only
    rw [if_neg (by simp [h]), if_neg (by omega)]
  refine ⟨?_, fun hd he => key ?_⟩
  · rcases hm with h | h
    · exact .inl (key h)
    · right; unfold Dk.flushR; dsimp only; rw [if_pos (by rw [h]; decide), h]
  · obtain ⟨h1, h2⟩ := pre_idle' hd he
    rw [h1]; exact may_up h2 hg
theorem turnR_cases {g : Nat} (hf : f < 12) (hg : g < 12) (hne : g ≠ f) (hn : ∀ p ∈ d.queue, p.file ≠ g) : (d.turnR f g = 0 ∨ d.turnR f g = 8) ∧ (d.down = false → d.ends = false → d.turnR f g = 0) := by
  have hm := may_range (d := d.pre) (l := [(f : Int), (g : Int)]) (by simp [isF_nat hg, isF_nat hf])
  have hnp : d.pre.pends g = false := by
    unfold Dk.pends
    rw [List.any_eq_false]
    intro p hp
    have hpq : p ∈ d.queue := by
      unfold Dk.pre Dk.endW at hp
      split at hp
      · unfold Dk.crash at hp; split at hp
        · rwa [tick_queue] at hp
        · cases hp
      · rwa [tick_queue] at hp
    have := hn p hpq
    simp; omega
  have key : d.pre.may [(f : Int), (g : Int)] = 0 → d.turnR f g = 0 := by
    intro h
    unfold Dk.turnR; dsimp only
    rw [if_neg (by simp [h]), if_neg (by omega), hnp]; rfl
  refine ⟨?_, fun hd he => key ?_⟩
  · rcases hm with h | h
    · exact .inl (key h)
    · right; unfold Dk.turnR; dsimp only; rw [if_pos (by rw [h]; decide), h]
  · obtain ⟨h1, h2⟩ := pre_idle' hd he
    rw [h1, may_two', may_up h2 hf]
    simp [may_up h2 hg]

theorem ends_of (h : d.armed = 0) : d.ends = false := Dk.ends_idle h
theorem tick_armed (h : d.armed = 0) : d.tick.armed = 0 := by rw [Dk.tick_idle h]; exact h
theorem cut_armed (h : d.armed = 0) (g n : Int) : (d.cut g n).armed = 0 := by
  rw [Dk.cut_idle h]; split
  · exact h
  · split
    · exact h
    · exact h
theorem write_armed (h : d.armed = 0) (g a : Int) (t : Bytes) : (d.write g a t).armed = 0 := by
  rw [Dk.write_idle h]; unfold Dk.writeD; split <;> exact h
theorem flush_armed (h : d.armed = 0) (g : Int) : (d.flush g).armed = 0 := by
  rw [Dk.flush_idle h]; split
  · exact h
  · split <;> exact h
theorem turn_armed (h : d.armed = 0) (g n : Int) : (d.turn g n).armed = 0 := by
  rw [Dk.turn_idle h]; split
  · exact h
  · split
    · exact h
    · split <;> exact h

theorem rewr_err (hl : Len d) (hf : f ≤ 6) (hlost : d.lost = 0) (rows : List Bytes) (hsz : (formsB rows).length ≤ 1000000) : ((rewr d f rows).2 = 0 ∨ (rewr d f rows).2 = 8) ∧ (d.down = false → d.armed = 0 → (rewr d f rows).2 = 0 ∧ (rewr d f rows).1.armed = 0) ∧ (rewr d f rows).1.lost = 0 := by
  have hne : f + 1 ≠ f := by omega
  have hh := header_len (16 + (formsB rows).length : Nat) rows.length
  unfold rewr
  dsimp only
  generalize ht : header (16 + (formsB rows).length : Nat) rows.length ++ formsB rows = t
  have htl : t.length ≤ 16777216 := by rw [← ht, List.length_append, hh]; omega
  have htn : t ≠ [] := ht ▸ head_ne _ _ _
  obtain ⟨r1, i1⟩ := cutR_cases (d := d) (g := f + 1) (by omega)
  have s1 : (d.cut (f + 1 : Nat) 0).lost = 0 := (cut_lost _ _).trans hlost
  have l1 := hl.cut (f + 1 : Nat) 0
  split
  · rename_i h1
    refine ⟨r1, fun hd ha => absurd (i1 hd (ends_of ha)) h1, s1⟩
  · rename_i h1
    have h1 : d.cutR (f + 1 : Nat) 0 = 0 := Decidable.byContradiction fun hn => h1 hn
    obtain ⟨g1, u1⟩ := cut_ok hl (g := f + 1) (by omega) h1
    obtain ⟨r2, i2⟩ := writeR_cases (d := d.cut (f + 1 : Nat) 0) (g := f + 1) (by omega) u1 htl
    have s2 : ((d.cut (f + 1 : Nat) 0).write (f + 1 : Nat) 0 t).lost = 0 := (write_lost _ _ _).trans s1
    have l2 := l1.write (f + 1 : Nat) 0 t
    split
    · rename_i h2
      exact ⟨r2, fun hd ha => absurd (i2 (ends_of (cut_armed ha _ _))) h2, s2⟩
    · rename_i h2
      have h2 : (d.cut (f + 1 : Nat) 0).writeR (f + 1 : Nat) 0 t = 0 := Decidable.byContradiction fun hn => h2 hn
      obtain ⟨-, u2⟩ := write_ok l1 (g := f + 1) (by omega) htn g1.file h2
      obtain ⟨r3, i3⟩ := flushR_cases (d := (d.cut (f + 1 : Nat) 0).write (f + 1 : Nat) 0 t) (g := f + 1) (by omega) s2
      have s3 := flush_lost s2 (f + 1 : Nat)
      split
      · rename_i h3
        exact ⟨r3, fun hd ha => absurd (i3 u2 (ends_of (write_armed (cut_armed ha _ _) _ _ _))) h3, s3⟩
      · rename_i h3
        have h3 : ((d.cut (f + 1 : Nat) 0).write (f + 1 : Nat) 0 t).flushR (f + 1 : Nat) = 0 := Decidable.byContradiction fun hn => h3 hn
        obtain ⟨g3, u3⟩ := flush_ok l2 (g := f + 1) (by omega) h3
        obtain ⟨r4, i4⟩ := turnR_cases (d := ((d.cut (f + 1 : Nat) 0).write (f + 1 : Nat) 0 t).flush (f + 1 : Nat)) (f := f) (g := f + 1) (by omega) (by omega) hne g3.none
        exact ⟨r4, fun hd ha => ⟨i4 u3 (ends_of (flush_armed (write_armed (cut_armed ha _ _) _ _ _) _)), turn_armed (flush_armed (write_armed (cut_armed ha _ _) _ _ _) _) _ _⟩, (turn_lost _ _).trans s3⟩
end
end Go.Proofs.Y
