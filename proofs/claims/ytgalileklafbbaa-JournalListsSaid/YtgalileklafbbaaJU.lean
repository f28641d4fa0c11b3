/- JU: JournalLists. -/
import Derived.Test.YtgalileklafbbaaJR
set_option linter.unusedSimpArgs false
set_option linter.unusedVariables false
set_option maxRecDepth 100000
namespace Go.Proofs.Y
open Go Go.HL Go.Proofs

def base (w0 w : World) (B : Nat → Prop) (hw : w0.heap.size ≤ w.heap.size) (hB : ∀ k, B k → k < w.heap.size) : Base := ⟨w, fun k => k < w0.heap.size ∨ B k, fun k hk => by rcases hk with hk | hk; omega; exact hB k hk⟩
/-- a value's block, apart from disk and log -/
def Apart (w0 : World) (v : Value) (F : FP) (S : Nat → Prop) : Prop := ∀ k, v.ownBlock = some k → w0.heap.size ≤ k ∧ ¬ F.R k ∧ ¬ S k

section
variable {w0 w w' : World} {p q f : Nat} {d d' : Dk} {L L' : Lg} {F F' : FP} {S S' B : Nat → Prop} {v v' : Value}
theorem JS.base (h : JS w0 w p q f d L F S) (ha : ∀ k, B k → ¬ F.R k ∧ ¬ S k) (hw : w0.heap.size ≤ w.heap.size) (hB : ∀ k, B k → k < w.heap.size) : GS (base w0 w B hw hB) w p q f d L F S :=
  ⟨h.dr, h.lg, h.ap, fun k hk hA => hA.elim (fun h1 => by have := h.f0 k hk; omega) fun h1 => (ha k h1).1 hk, fun k hk hA => hA.elim (fun h1 => by have := h.s0 k hk; omega) fun h1 => (ha k h1).2 hk, Mod.refl _ _⟩
theorem GS.back {hw : w0.heap.size ≤ w.heap.size} {hB : ∀ k, B k → k < w.heap.size} (g : GS (Y.base w0 w B hw hB) w' p q f d' L' F' S') (m : Mod none' w0 w) :
    JS w0 w' p q f d' L' F' S' ∧ (∀ k, B k → ¬ F'.R k ∧ ¬ S' k) ∧ Mod (fun k => ¬ (k < w0.heap.size ∨ B k)) w w' := by
  refine ⟨⟨g.dr, g.lg, g.ap, fun k hk => Nat.not_lt.1 fun h => g.f0 k hk (.inl h), fun k hk => Nat.not_lt.1 fun h => g.s0 k hk (.inl h), m.trans g.m fun k hk h => h (.inl hk)⟩, fun k hk => ⟨fun h => g.f0 k h (.inr hk), fun h => g.s0 k h (.inr hk)⟩, g.m⟩
theorem JS.held (h : JS w0 w p q f d L F S) (ha : Apart w0 v F S) (m : Mod (ownS v) w w') : JS w0 w' p q f d L F S :=
  ⟨h.dr.mod m fun k hk hT => (ha k hT).2.1 hk, h.lg.mod m fun k hk hT => (ha k hT).2.2 hk, h.ap, h.f0, h.s0, h.m.trans m fun k hk hT => by have := (ha k hT).1; omega⟩
theorem Apart.next (h : JS w0 w p q f d L F S) (ha : Apart w0 v F S) (hb : ∀ k, v'.ownBlock = some k → v.ownBlock = some k ∨ w.heap.size ≤ k) : Apart w0 v' F S := by
  intro k hk
  rcases hb k hk with h' | h'
  · exact ha k h'
  · have := h.m.size
    exact ⟨by omega, fun hR => by have := h.dr.lt k hR; omega, fun hS => by have := h.lg.lt k hS; omega⟩
end

/-- disk, log, and the rows that were kept by -/
def Tr (w0 w : World) (p q f : Nat) (L : Lg) (v : Value) (b n : Nat) : Prop :=
  ∃ F S d, JS w0 w p q f d L F S ∧ At d ∧ Own w v 9 1 L.rows.length (L.rows.map str) ∧ Apart w0 v F S ∧ L.end_ = 16 + (formsB L.rows).length ∧ (formsB L.rows).length ≤ b ∧ d.queue.length ≤ n

section
variable {w : World} {next : Value → World → Prop} {QP : List PanicEntry → World → Prop}

theorem and_i64 (a b : Int) : ∃ t, intV .and .i64 a b = .int .i64 t := ⟨_, rfl⟩

theorem Tr.mod0 {w0 w w' : World} {p q f b n : Nat} {L : Lg} {v : Value} (h : Tr w0 w p q f L v b n) (m : Mod none' w w') : Tr w0 w' p q f L v b n := by
  obtain ⟨F, S, d, h, a, o, ap, r⟩ := h
  exact ⟨F, S, d, h.mod0 m, a, o.mod m fun _ _ h => h, ap, r⟩

theorem jlists6 {p q b n : Nat} {L : Lg} {v7 : Value} {w1 : World} {τ : Env} {X : HX → Env → World → Prop} (hT : Tr w w1 p q 0 L v7 b n) (t5 : τ 5 = ptr q) (t6 : τ 6 = .int .i64 0) (t7 : τ 7 = v7) (t8 : τ 8 = .int .i64 L.sure)
    (k : ∀ σ' w', Tr w w' p q 0 L v7 b n → (∀ j, j < 10 → σ' j = τ j) → X .normal σ' w') : hw Try.prog noPanic h12_6 X τ w1 := by
  have hT' := hT
  obtain ⟨F, S, d, h, hat, own7, hap, hend, hb, hq⟩ := hT'
  have hrb := h.lg.rb
  have hbd := h.lg.bd
  unfold h12_6
  try simp only [go_sem, ↓reduceIte, Nat.reduceEqDiff, Nat.reduceAdd, Nat.reduceLT, List.length_cons, List.length_nil, List.getElem?_cons_zero, List.getElem?_cons_succ, Nat.mul_one, Bool.true_eq_false, Bool.false_eq_true, false_implies, true_implies, Bool.not_true, Bool.not_false, decide_true, decide_false, Int.reduceToNat, Int.cast_ofNat_Int, Int.reduceLT, Int.reduceLE, Int.reduceEq, Int.reduceNeg, eq_self, Option.isNone_some, Option.isNone_none, Bool.bne_false, Bool.bne_true, t5, t6, t7, t8]
  refine jall_ h.lg ?_
  intro v2 w2 own2 m2 _
  try simp only [go_sem, ↓reduceIte, Nat.reduceEqDiff, Nat.reduceAdd, Nat.reduceLT, List.length_cons, List.length_nil, List.getElem?_cons_zero, List.getElem?_cons_succ, Nat.mul_one, Bool.true_eq_false, Bool.false_eq_true, false_implies, true_implies, Bool.not_true, Bool.not_false, decide_true, decide_false, Int.reduceToNat, Int.cast_ofNat_Int, Int.reduceLT, Int.reduceLE, Int.reduceEq, Int.reduceNeg, eq_self, Option.isNone_some, Option.isNone_none, Bool.bne_false, Bool.bne_true, t5, t6, t7, t8]
  refine same__ own2.sl (own7.mod m2 fun _ _ h => h).sl (by omega) ?_
  intro w3 m3
  try simp only [go_sem, ↓reduceIte, Nat.reduceEqDiff, Nat.reduceAdd, Nat.reduceLT, List.length_cons, List.length_nil, List.getElem?_cons_zero, List.getElem?_cons_succ, Nat.mul_one, Bool.true_eq_false, Bool.false_eq_true, false_implies, true_implies, Bool.not_true, Bool.not_false, decide_true, decide_false, Int.reduceToNat, Int.cast_ofNat_Int, Int.reduceLT, Int.reduceLE, Int.reduceEq, Int.reduceNeg, eq_self, Option.isNone_some, Option.isNone_none, Bool.bne_false, Bool.bne_true, t5, t6, t7, t8]
  refine jsure_ ((h.lg.mod0 m2).mod0 m3) ?_
  try simp only [go_sem, ↓reduceIte, Nat.reduceEqDiff, Nat.reduceAdd, Nat.reduceLT, List.length_cons, List.length_nil, List.getElem?_cons_zero, List.getElem?_cons_succ, Nat.mul_one, Bool.true_eq_false, Bool.false_eq_true, false_implies, true_implies, Bool.not_true, Bool.not_false, decide_true, decide_false, Int.reduceToNat, Int.cast_ofNat_Int, Int.reduceLT, Int.reduceLE, Int.reduceEq, Int.reduceNeg, eq_self, Option.isNone_some, Option.isNone_none, Bool.bne_false, Bool.bne_true, t5, t6, t7, t8, bne_self_eq_false]
  refine k _ _ ((hT.mod0 m2).mod0 m3) fun j hj => ?_
  simp only [upd]
  repeat rw [if_neg (by omega)]

theorem jlists67 {p q b n i m : Nat} {L : Lg} {v7 v0 : Value} {w1 : World} {τ : Env} {X : HX → Env → World → Prop} (hT : Tr w w1 p q 0 L v7 b n) (hi : i ≤ 30) (t0 : τ 0 = v0) (t3 : τ 3 = .bool true) (t5 : τ 5 = ptr q) (t6 : τ 6 = .int .i64 0) (t7 : τ 7 = v7) (t8 : τ 8 = .int .i64 L.sure) (t9 : τ 9 = .int .i64 i)
    (k : ∀ σ' w' L' v', Tr w w' p q 0 L' v' b n → σ' 0 = v0 → σ' 3 = .bool true → σ' 5 = ptr q → σ' 7 = v' → σ' 8 = .int .i64 L'.sure → σ' 9 = .int .i64 ((i + 1 : Nat) : Int) → X .normal σ' w') : hw Try.prog noPanic h12_6 (blockX m (seqX (hw Try.prog noPanic h12_7 X) X)) τ w1 := by
  refine jlists6 hT t5 t6 t7 t8 ?_
  intro σ' w' T' e
  show hw Try.prog noPanic h12_7 X σ' w'
  have e9 := (e 9 (by omega)).trans t9
  have e0 := (e 0 (by omega)).trans t0
  have e3 := (e 3 (by omega)).trans t3
  have e5 := (e 5 (by omega)).trans t5
  have e7 := (e 7 (by omega)).trans t7
  have e8 := (e 8 (by omega)).trans t8
  unfold h12_7
  try simp only [go_sem, ↓reduceIte, Nat.reduceEqDiff, Nat.reduceAdd, Nat.reduceLT, List.length_cons, List.length_nil, List.getElem?_cons_zero, List.getElem?_cons_succ, Nat.mul_one, Bool.true_eq_false, Bool.false_eq_true, false_implies, true_implies, Bool.not_true, Bool.not_false, decide_true, decide_false, Int.reduceToNat, Int.cast_ofNat_Int, Int.reduceLT, Int.reduceLE, Int.reduceEq, Int.reduceNeg, eq_self, Option.isNone_some, Option.isNone_none, Bool.bne_false, Bool.bne_true, e9]
  rw [w64 (by omega) (by omega)]
  exact k _ _ _ _ T' e0 e3 e5 e7 e8 rfl

theorem jlists4 {al : List Deed} {gb o c i p q : Nat} {L : Lg} {v7 : Value} {w1 : World} {τ : Env} {X : HX → Env → World → Prop} (hi : i < al.length) (hl : Sl w (.slice (some ⟨gb, o, none⟩) al.length c) 5 al.length (rows Deed.cells al)) (ha : ∀ a ∈ al, a.OK w) (hn : al.length ≤ 30) (hf : ∀ a ∈ al, a.few1 = true)
    (hT : Tr w w1 p q 0 L v7 (i * 1296) (i * 1400)) (t0 : τ 0 = .slice (some ⟨gb, o, none⟩) al.length c) (t3 : τ 3 = .bool true) (t5 : τ 5 = ptr q) (t7 : τ 7 = v7) (t8 : τ 8 = .int .i64 L.sure) (t9 : τ 9 = .int .i64 i)
    (k : ∀ σ' w' L' v', Tr w w' p q 0 L' v' ((i + 1) * 1296) ((i + 1) * 1400) → σ' 0 = .slice (some ⟨gb, o, none⟩) al.length c → σ' 3 = .bool true → σ' 5 = ptr q → σ' 7 = v' → σ' 8 = .int .i64 L'.sure → σ' 9 = .int .i64 ((i + 1 : Nat) : Int) → X .normal σ' w') :
    hw Try.prog noPanic h12_4 X τ w1 := by
  obtain ⟨F, S, d, h, hat, own7, hap, hend, hb, hq⟩ := hT
  obtain ⟨gb', o', c', hva, hA⟩ := deed_at hl hi
  simp only [Value.slice.injEq, Option.some.injEq, Addr.mk.injEq] at hva
  obtain ⟨⟨rfl, rfl, -⟩, -, rfl⟩ := hva
  obtain ⟨x0, xs, x1, x2, x3⟩ := hA w1 h.m
  have hmem := List.getElem_mem hi
  have hok := (ha _ hmem).mod0 h.m
  have hfe := Deed.few1_le (hf _ hmem)
  have hone := Deed.one (ha _ hmem)
  generalize al[i] = a at *
  obtain ⟨hf1, hf2, hf3, hf4, hf5⟩ := hfe
  unfold h12_4
  try simp only [go_sem, ↓reduceIte, Nat.reduceEqDiff, Nat.reduceAdd, Nat.reduceLT, List.length_cons, List.length_nil, List.getElem?_cons_zero, List.getElem?_cons_succ, Nat.mul_one, Bool.true_eq_false, Bool.false_eq_true, false_implies, true_implies, Bool.not_true, Bool.not_false, decide_true, decide_false, Int.reduceToNat, Int.cast_ofNat_Int, Int.reduceLT, Int.reduceLE, Int.reduceEq, Int.reduceNeg, eq_self, Option.isNone_some, Option.isNone_none, Bool.bne_false, Bool.bne_true, t0, t9, x0]
  refine ⟨⟨by omega, by omega⟩, xs, ?_⟩
  refine alloc_ (z := .agg #[.int .i64 0, str [], .slice none 0 0, .slice none 0 0, .int .i64 0]) (cs := [.int .i64 0, str [], .slice none 0 0, .slice none 0 0, .int .i64 0]) (by kernel_rfl) rfl ?_
  intro b2 w2 hb2 blk2 m2 hs2
  refine storeN (n := 5) (vs := a.cells) (by kernel_rfl) rfl blk2 (by simp) hone ?_
  intro w3 blk3 m3 hs3
  have m13 : Mod none' w1 w3 := m2.trans m3 fun k hk (e : k = b2) => by omega
  simp only [List.take_zero, List.nil_append, Nat.zero_add, List.drop_of_length_le (show ([Value.int IntKind.i64 0, str [], .slice none 0 0, .slice none 0 0, .int .i64 0] : List Value).length ≤ 5 by simp), List.append_nil] at blk3
  have y0 : w3.cell? ⟨b2, 0, none⟩ = some (.int .i64 a.Do) := by rw [blk3.cell]; rfl
  have y1 : w3.cell? ⟨b2, 1, none⟩ = some (str a.Row) := by rw [blk3.cell]; rfl
  have y2 : w3.cell? ⟨b2, 2, none⟩ = some a.rv := by rw [blk3.cell]; rfl
  have h3 := h.mod0 m13
  have own3 := own7.mod m13 fun _ _ h => h
  have hw3 := h3.m.size
  have hB3 : ∀ k, (v7.ownBlock = some k ∨ k = b2) → k < w3.heap.size := fun k hk => by
    rcases hk with hk | rfl
    · exact own3.lt k hk
    · omega
  have hA3 : ∀ k, (v7.ownBlock = some k ∨ k = b2) → ¬ F.R k ∧ ¬ S k := fun k hk => by
    rcases hk with hk | rfl
    · exact (hap k hk).2
    · exact ⟨fun hR => by have := h.dr.lt k hR; omega, fun hS => by have := h.lg.lt k hS; omega⟩
  have g3 := h3.base hA3 hw3 hB3
  have hr3 := hok.r.mod m13 fun _ _ h => h
  obtain ⟨t, ht⟩ := and_i64 a.Do 7
  try simp only [go_sem, ↓reduceIte, Nat.reduceEqDiff, Nat.reduceAdd, Nat.reduceLT, List.length_cons, List.length_nil, List.getElem?_cons_zero, List.getElem?_cons_succ, Nat.mul_one, Bool.true_eq_false, Bool.false_eq_true, false_implies, true_implies, Bool.not_true, Bool.not_false, decide_true, decide_false, Int.reduceToNat, Int.cast_ofNat_Int, Int.reduceLT, Int.reduceLE, Int.reduceEq, Int.reduceNeg, eq_self, Option.isNone_some, Option.isNone_none, Bool.bne_false, Bool.bne_true, t0, t3, t5, t7, t8, t9, y0, ht]
  obtain ⟨va, vc, rfl, -⟩ := own7.form
  have lr := fun hn => (ha a hmem).r.lt (by omega) hn
  have nF : ∀ k, k < w.heap.size → ¬ F.R k := fun k hk hR => by have := h.f0 k hR; omega
  have hlrows := formsB_rows a.rows
  have hrr := h.lg.rb
  have hbd := h.lg.bd
  have bb : ∀ {w4 : World} {F4 : FP} {S4 : Nat → Prop}, (∀ k, ((Value.slice va L.rows.length vc).ownBlock = some k ∨ k = b2) → ¬ F4.R k ∧ ¬ S4 k) → Mod (fun k => ¬ (k < w.heap.size ∨ ((Value.slice va L.rows.length vc).ownBlock = some k ∨ k = b2))) w3 w4 →
      Apart w (.slice va L.rows.length vc) F4 S4 ∧ Own w4 (.slice va L.rows.length vc) 9 1 L.rows.length (L.rows.map str) ∧ w4.cell? ⟨b2, 1, none⟩ = some (str a.Row) ∧ w4.cell? ⟨b2, 2, none⟩ = some a.rv ∧ Sl w4 a.rv 1 a.rows.length (a.rows.map str) := by
    intro w4 F4 S4 ha4 m4
    exact ⟨fun k hk => ⟨(hap k hk).1, ha4 k (.inl hk)⟩, own3.mod m4 fun k hk h => h (.inr (.inl hk)), m4.cell y1 fun h => h (.inr (.inr rfl)), m4.cell y2 fun h => h (.inr (.inr rfl)), hr3.mod' m4 fun hn k hk h => h (.inl (lr hn k hk))⟩
  refine ⟨fun c3 => ?_, fun c3 => ?_⟩
  · refine gflushJ_ g3 (by omega) ?_
    intro w4 ⟨F4, S4, g4⟩
    obtain ⟨e1, e2, e3⟩ := hat.flushJ (f := 0) (by omega) L
    rw [e2] at g4
    obtain ⟨h4, ap4, m4⟩ := g4.back h3.m
    obtain ⟨ap4, own4, -, -, -⟩ := bb ap4 m4
    have hq4 := flushJ_queue d L 0
    rw [e1]
    try simp only [go_sem, ↓reduceIte, Nat.reduceEqDiff, Nat.reduceAdd, Nat.reduceLT, List.length_cons, List.length_nil, List.getElem?_cons_zero, List.getElem?_cons_succ, Nat.mul_one, Bool.true_eq_false, Bool.false_eq_true, false_implies, true_implies, Bool.not_true, Bool.not_false, decide_true, decide_false, Int.reduceToNat, Int.cast_ofNat_Int, Int.reduceLT, Int.reduceLE, Int.reduceEq, Int.reduceNeg, eq_self, Option.isNone_some, Option.isNone_none, Bool.bne_false, Bool.bne_true, t0, t3, t5, t7, t8, t9]
    exact jlists67 (L := ⟨L.rows, L.rows.length, L.end_⟩) ⟨F4, S4, _, h4, e3, own4, ap4, hend, by dsimp only; omega, by omega⟩ (by omega) t0 t3 t5 rfl t7 rfl t9 k
  refine ⟨fun c4 => ?_, fun c4 => ?_⟩
  · try simp only [go_sem, ↓reduceIte, Nat.reduceEqDiff, Nat.reduceAdd, Nat.reduceLT, List.length_cons, List.length_nil, List.getElem?_cons_zero, List.getElem?_cons_succ, Nat.mul_one, Bool.true_eq_false, Bool.false_eq_true, false_implies, true_implies, Bool.not_true, Bool.not_false, decide_true, decide_false, Int.reduceToNat, Int.cast_ofNat_Int, Int.reduceLT, Int.reduceLE, Int.reduceEq, Int.reduceNeg, eq_self, Option.isNone_some, Option.isNone_none, Bool.bne_false, Bool.bne_true, t0, t3, t5, t7, t8, t9, y2]
    refine gbatch_ g3 hr3 (fun hn k hk => nF k (lr hn k hk)) (by omega) ?_
    intro w4 ⟨F4, S4, g4⟩
    obtain ⟨e1, e2, e3⟩ := hat.batch (f := 0) (by omega) L a.rows (by omega)
    rw [e2] at g4
    obtain ⟨h4, ap4, m4⟩ := g4.back h3.m
    obtain ⟨ap4, own4, -, z2, hr4⟩ := bb ap4 m4
    have hq4 := batchJ_queue d L 0 a.rows
    rw [e1]
    try simp only [go_sem, ↓reduceIte, Nat.reduceEqDiff, Nat.reduceAdd, Nat.reduceLT, List.length_cons, List.length_nil, List.getElem?_cons_zero, List.getElem?_cons_succ, Nat.mul_one, Bool.true_eq_false, Bool.false_eq_true, false_implies, true_implies, Bool.not_true, Bool.not_false, decide_true, decide_false, Int.reduceToNat, Int.cast_ofNat_Int, Int.reduceLT, Int.reduceLE, Int.reduceEq, Int.reduceNeg, eq_self, Option.isNone_some, Option.isNone_none, Bool.bne_false, Bool.bne_true, t0, t3, t5, t7, t8, t9, z2]
    refine append_ sl40 own4 hr4 (by intro u hu; obtain ⟨x, -, rfl⟩ := List.mem_map.1 hu; rfl) (by omega) (by unfold maxLen; omega) ?_
    intro v5 w5 own5 m5 hv5 _
    have h5 := h4.held ap4 m5
    have ap5 := Apart.next h4 ap4 hv5
    rw [← List.length_append, ← List.map_append] at own5
    obtain ⟨va5, vc5, rfl, -⟩ := own5.form
    try simp only [go_sem, ↓reduceIte, Nat.reduceEqDiff, Nat.reduceAdd, Nat.reduceLT, List.length_cons, List.length_nil, List.getElem?_cons_zero, List.getElem?_cons_succ, Nat.mul_one, Bool.true_eq_false, Bool.false_eq_true, false_implies, true_implies, Bool.not_true, Bool.not_false, decide_true, decide_false, Int.reduceToNat, Int.cast_ofNat_Int, Int.reduceLT, Int.reduceLE, Int.reduceEq, Int.reduceNeg, eq_self, Option.isNone_some, Option.isNone_none, Bool.bne_false, Bool.bne_true, t0, t3, t5, t7, t8, t9]
    have hfa := formsB_app L.rows a.rows
    have hfl := congrArg List.length hfa
    rw [List.length_append] at hfl
    exact jlists67 (L := ⟨L.rows ++ a.rows, (L.rows ++ a.rows).length, L.end_ + (formsB a.rows).length⟩) ⟨F4, S4, _, h5, e3, own5, ap5, by dsimp only; omega, by dsimp only; omega, by omega⟩ (by omega) t0 t3 t5 rfl rfl rfl t9 k
  refine ⟨fun c5 => ?_, fun c5 => ?_⟩
  · try simp only [go_sem, ↓reduceIte, Nat.reduceEqDiff, Nat.reduceAdd, Nat.reduceLT, List.length_cons, List.length_nil, List.getElem?_cons_zero, List.getElem?_cons_succ, Nat.mul_one, Bool.true_eq_false, Bool.false_eq_true, false_implies, true_implies, Bool.not_true, Bool.not_false, decide_true, decide_false, Int.reduceToNat, Int.cast_ofNat_Int, Int.reduceLT, Int.reduceLE, Int.reduceEq, Int.reduceNeg, eq_self, Option.isNone_some, Option.isNone_none, Bool.bne_false, Bool.bne_true, t0, t3, t5, t7, t8, t9, y2]
    refine grewrite_ g3 (by omega) hr3 (fun hn k hk => ⟨nF k (lr hn k hk), by have := lr hn k hk; omega⟩) (by omega) ?_
    intro w4 ⟨F4, S4, g4⟩
    obtain ⟨e1, e3⟩ := hat.rewr (f := 0) (by omega) a.rows (by omega)
    have e2 : (rewriteJ d L 0 a.rows).2.1 = ⟨a.rows, a.rows.length, 16 + (formsB a.rows).length⟩ := if_pos e1
    have e4 : (rewriteJ d L 0 a.rows).2.2 = 0 := e1
    rw [e2] at g4
    obtain ⟨h4, ap4, m4⟩ := g4.back h3.m
    obtain ⟨ap4, own4, -, z2, hr4⟩ := bb ap4 m4
    have hq4 := rewr_queue d 0 a.rows
    rw [e4]
    try simp only [go_sem, ↓reduceIte, Nat.reduceEqDiff, Nat.reduceAdd, Nat.reduceLT, List.length_cons, List.length_nil, List.getElem?_cons_zero, List.getElem?_cons_succ, Nat.mul_one, Bool.true_eq_false, Bool.false_eq_true, false_implies, true_implies, Bool.not_true, Bool.not_false, decide_true, decide_false, Int.reduceToNat, Int.cast_ofNat_Int, Int.reduceLT, Int.reduceLE, Int.reduceEq, Int.reduceNeg, eq_self, Option.isNone_some, Option.isNone_none, Bool.bne_false, Bool.bne_true, t0, t3, t5, t7, t8, t9, z2]
    refine bsl0 sl40 ?_
    intro b5 w5 hb5 own5 m5 hs5
    have z5 := m5.cell z2 fun h => h
    have h5 := h4.mod0 m5
    have ap5 : Apart w (.slice (some ⟨b5, 0, none⟩) 0 0) F4 S4 := fun k hk => by
      have e : b5 = k := by simpa [Value.ownBlock] using hk
      have := h4.m.size
      exact ⟨by omega, fun hR => by have := h4.dr.lt k hR; omega, fun hS => by have := h4.lg.lt k hS; omega⟩
    try simp only [go_sem, ↓reduceIte, Nat.reduceEqDiff, Nat.reduceAdd, Nat.reduceLT, List.length_cons, List.length_nil, List.getElem?_cons_zero, List.getElem?_cons_succ, Nat.mul_one, Bool.true_eq_false, Bool.false_eq_true, false_implies, true_implies, Bool.not_true, Bool.not_false, decide_true, decide_false, Int.reduceToNat, Int.cast_ofNat_Int, Int.reduceLT, Int.reduceLE, Int.reduceEq, Int.reduceNeg, eq_self, Option.isNone_some, Option.isNone_none, Bool.bne_false, Bool.bne_true, t0, t3, t5, t7, t8, t9, z5]
    refine append_ sl40 (xs := []) own5 (hr4.mod m5 fun _ _ h => h) (by intro u hu; obtain ⟨x, -, rfl⟩ := List.mem_map.1 hu; rfl) (by omega) (by unfold maxLen; omega) ?_
    intro v6 w6 own6 m6 hv6 _
    rw [Nat.zero_add, List.nil_append] at own6
    have h6 := h5.held ap5 m6
    have ap6 := Apart.next h5 ap5 hv6
    obtain ⟨va6, vc6, rfl, -⟩ := own6.form
    try simp only [go_sem, ↓reduceIte, Nat.reduceEqDiff, Nat.reduceAdd, Nat.reduceLT, List.length_cons, List.length_nil, List.getElem?_cons_zero, List.getElem?_cons_succ, Nat.mul_one, Bool.true_eq_false, Bool.false_eq_true, false_implies, true_implies, Bool.not_true, Bool.not_false, decide_true, decide_false, Int.reduceToNat, Int.cast_ofNat_Int, Int.reduceLT, Int.reduceLE, Int.reduceEq, Int.reduceNeg, eq_self, Option.isNone_some, Option.isNone_none, Bool.bne_false, Bool.bne_true, t0, t3, t5, t7, t8, t9]
    exact jlists67 (L := ⟨a.rows, a.rows.length, 16 + (formsB a.rows).length⟩) ⟨F4, S4, _, h6, e3, own6, ap6, rfl, by dsimp only; omega, by show (rewr d 0 a.rows).1.queue.length ≤ _; omega⟩ (by omega) t0 t3 t5 rfl rfl rfl t9 k
  have T3 : Tr w w3 p q 0 L (.slice va L.rows.length vc) ((i + 1) * 1296) ((i + 1) * 1400) := ⟨F, S, d, h3, hat, own3, hap, hend, by omega, by omega⟩
  refine ⟨fun c6 => ?_, fun c6 => ?_⟩
  · unfold h12_5
    have c6 : t = 6 := by simpa using c6
    try simp only [go_sem, ↓reduceIte, Nat.reduceEqDiff, Nat.reduceAdd, Nat.reduceLT, List.length_cons, List.length_nil, List.getElem?_cons_zero, List.getElem?_cons_succ, Nat.mul_one, Bool.true_eq_false, Bool.false_eq_true, false_implies, true_implies, Bool.not_true, Bool.not_false, decide_true, decide_false, Int.reduceToNat, Int.cast_ofNat_Int, Int.reduceLT, Int.reduceLE, Int.reduceEq, Int.reduceNeg, eq_self, Option.isNone_some, Option.isNone_none, Bool.bne_false, Bool.bne_true, t0, t3, t5, t7, t8, t9, c6]
    exact jlists67 T3 (by omega) t0 t3 t5 rfl t7 t8 t9 k
  unfold h12_5
  try simp only [go_sem, ↓reduceIte, Nat.reduceEqDiff, Nat.reduceAdd, Nat.reduceLT, List.length_cons, List.length_nil, List.getElem?_cons_zero, List.getElem?_cons_succ, Nat.mul_one, Bool.true_eq_false, Bool.false_eq_true, false_implies, true_implies, Bool.not_true, Bool.not_false, decide_true, decide_false, Int.reduceToNat, Int.cast_ofNat_Int, Int.reduceLT, Int.reduceLE, Int.reduceEq, Int.reduceNeg, eq_self, Option.isNone_some, Option.isNone_none, Bool.bne_false, Bool.bne_true, t0, t3, t5, t7, t8, t9, y1]
  refine ⟨fun c7 => ?_, fun c7 => ?_⟩
  · exact jlists67 T3 (by omega) t0 t3 t5 rfl t7 t8 t9 k
  have hf1' : (formsB [a.Row]).length = 16 + a.Row.length := by simp [formsB, formB_len]
  refine gappend1_ g3 (by omega) ?_
  intro w4 ⟨F4, S4, g4⟩
  obtain ⟨e1, e3⟩ := hat.add (f := 0) (by omega) L [a.Row] (by omega)
  rw [if_pos e1] at g4
  obtain ⟨h4, ap4, m4⟩ := g4.back h3.m
  obtain ⟨ap4, own4, z1, -, -⟩ := bb ap4 m4
  have hq4 := addD_queue d L 0 [a.Row]
  rw [e1]
  try simp only [go_sem, ↓reduceIte, Nat.reduceEqDiff, Nat.reduceAdd, Nat.reduceLT, List.length_cons, List.length_nil, List.getElem?_cons_zero, List.getElem?_cons_succ, Nat.mul_one, Bool.true_eq_false, Bool.false_eq_true, false_implies, true_implies, Bool.not_true, Bool.not_false, decide_true, decide_false, Int.reduceToNat, Int.cast_ofNat_Int, Int.reduceLT, Int.reduceLE, Int.reduceEq, Int.reduceNeg, eq_self, Option.isNone_some, Option.isNone_none, Bool.bne_false, Bool.bne_true, t0, t3, t5, t7, t8, t9, z1]
  refine bsl1 sl40 (cs := [str a.Row]) rfl rfl (by omega) ?_
  intro b5 w5 hb5 own5 _ m5 hs5
  have h5 := h4.mod0 m5
  try simp only [go_sem, ↓reduceIte, Nat.reduceEqDiff, Nat.reduceAdd, Nat.reduceLT, List.length_cons, List.length_nil, List.getElem?_cons_zero, List.getElem?_cons_succ, Nat.mul_one, Bool.true_eq_false, Bool.false_eq_true, false_implies, true_implies, Bool.not_true, Bool.not_false, decide_true, decide_false, Int.reduceToNat, Int.cast_ofNat_Int, Int.reduceLT, Int.reduceLE, Int.reduceEq, Int.reduceNeg, eq_self, Option.isNone_some, Option.isNone_none, Bool.bne_false, Bool.bne_true, t0, t3, t5, t7, t8, t9]
  refine append_ sl40 (own4.mod m5 fun _ _ h => h) own5.sl (by intro u hu; rw [List.mem_singleton.1 hu]; rfl) (by omega) (by unfold maxLen; omega) ?_
  intro v6 w6 own6 m6 hv6 _
  have e6 : L.rows.map str ++ [str a.Row] = (L.rows ++ [a.Row]).map str := by simp
  have e7 : L.rows.length + 1 = (L.rows ++ [a.Row]).length := by simp
  rw [e6, e7] at own6
  have h6 := h5.held ap4 m6
  have ap6 := Apart.next h5 ap4 hv6
  have hfa := formsB_app L.rows [a.Row]
  have hfl := congrArg List.length hfa
  rw [List.length_append] at hfl
  try simp only [go_sem, ↓reduceIte, Nat.reduceEqDiff, Nat.reduceAdd, Nat.reduceLT, List.length_cons, List.length_nil, List.getElem?_cons_zero, List.getElem?_cons_succ, Nat.mul_one, Bool.true_eq_false, Bool.false_eq_true, false_implies, true_implies, Bool.not_true, Bool.not_false, decide_true, decide_false, Int.reduceToNat, Int.cast_ofNat_Int, Int.reduceLT, Int.reduceLE, Int.reduceEq, Int.reduceNeg, eq_self, Option.isNone_some, Option.isNone_none, Bool.bne_false, Bool.bne_true, t0, t3, t5, t7, t8, t9]
  exact jlists67 (L := L.add [a.Row]) ⟨F4, S4, _, h6, e3, own6, ap6, by show L.end_ + (formsB [a.Row]).length = 16 + (formsB (L.rows ++ [a.Row])).length; omega, by show (formsB (L.rows ++ [a.Row])).length ≤ _; omega, by omega⟩ (by omega) t0 t3 t5 rfl rfl t8 t9 k

theorem jlists_ {v : Value} {al : List Deed} (hl : Sl w v 5 al.length (rows Deed.cells al)) (ha : ∀ a ∈ al, a.OK w) (k : ∀ w', Mod none' w w' → next (.bool true) w') : callK Try.prog 12 [v] w next QP := by
  refine q12 rfl ?_
  unfold h12
  try simp only [go_sem, ↓reduceIte, Nat.reduceEqDiff, Nat.reduceAdd, Nat.reduceLT, List.length_cons, List.length_nil, List.getElem?_cons_zero, List.getElem?_cons_succ, Nat.mul_one, Bool.true_eq_false, Bool.false_eq_true, false_implies, true_implies, Bool.not_true, Bool.not_false, decide_true, decide_false, Int.reduceToNat, Int.cast_ofNat_Int, Int.reduceLT, Int.reduceLE, Int.reduceEq, Int.reduceNeg, eq_self, Option.isNone_some, Option.isNone_none, Bool.bne_false, Bool.bne_true]
  refine jsmall_ ?_
  intro w1 m1
  try simp only [go_sem, ↓reduceIte, Nat.reduceEqDiff, Nat.reduceAdd, Nat.reduceLT, List.length_cons, List.length_nil, List.getElem?_cons_zero, List.getElem?_cons_succ, Nat.mul_one, Bool.true_eq_false, Bool.false_eq_true, false_implies, true_implies, Bool.not_true, Bool.not_false, decide_true, decide_false, Int.reduceToNat, Int.cast_ofNat_Int, Int.reduceLT, Int.reduceLE, Int.reduceEq, Int.reduceNeg, eq_self, Option.isNone_some, Option.isNone_none, Bool.bne_false, Bool.bne_true]
  refine fewJ_ (hl.mod m1 fun _ _ h => h) (fun a h => (ha a h).mod0 m1) ?_
  try simp only [go_sem, ↓reduceIte, Nat.reduceEqDiff, Nat.reduceAdd, Nat.reduceLT, List.length_cons, List.length_nil, List.getElem?_cons_zero, List.getElem?_cons_succ, Nat.mul_one, Bool.true_eq_false, Bool.false_eq_true, false_implies, true_implies, Bool.not_true, Bool.not_false, decide_true, decide_false, Int.reduceToNat, Int.cast_ofNat_Int, Int.reduceLT, Int.reduceLE, Int.reduceEq, Int.reduceNeg, eq_self, Option.isNone_some, Option.isNone_none, Bool.bne_false, Bool.bne_true]
  refine ⟨fun _ => k _ m1, fun hf => ?_⟩
  have hf : fewJ al = true := by simpa using hf
  simp only [fewJ, Bool.and_eq_true, decide_eq_true_eq, List.all_eq_true] at hf
  unfold h12_1
  try simp only [go_sem, ↓reduceIte, Nat.reduceEqDiff, Nat.reduceAdd, Nat.reduceLT, List.length_cons, List.length_nil, List.getElem?_cons_zero, List.getElem?_cons_succ, Nat.mul_one, Bool.true_eq_false, Bool.false_eq_true, false_implies, true_implies, Bool.not_true, Bool.not_false, decide_true, decide_false, Int.reduceToNat, Int.cast_ofNat_Int, Int.reduceLT, Int.reduceLE, Int.reduceEq, Int.reduceNeg, eq_self, Option.isNone_some, Option.isNone_none, Bool.bne_false, Bool.bne_true]
  refine jnew_ ?_
  intro p w3 F3 dr3 f3 m3
  have s1 := m1.size
  try simp only [go_sem, ↓reduceIte, Nat.reduceEqDiff, Nat.reduceAdd, Nat.reduceLT, List.length_cons, List.length_nil, List.getElem?_cons_zero, List.getElem?_cons_succ, Nat.mul_one, Bool.true_eq_false, Bool.false_eq_true, false_implies, true_implies, Bool.not_true, Bool.not_false, decide_true, decide_false, Int.reduceToNat, Int.cast_ofNat_Int, Int.reduceLT, Int.reduceLE, Int.reduceEq, Int.reduceNeg, eq_self, Option.isNone_some, Option.isNone_none, Bool.bne_false, Bool.bne_true]
  refine jopen_ (g := 0) dr3 (fun k hk => by have := f3 k hk; omega) (m1.trans' m3) rfl (by omega) rfl (openB_core (s := []) .nil (by decide)) ?_
  intro q4 w4 S4 h4 m4
  try simp only [go_sem, ↓reduceIte, Nat.reduceEqDiff, Nat.reduceAdd, Nat.reduceLT, List.length_cons, List.length_nil, List.getElem?_cons_zero, List.getElem?_cons_succ, Nat.mul_one, Bool.true_eq_false, Bool.false_eq_true, false_implies, true_implies, Bool.not_true, Bool.not_false, decide_true, decide_false, Int.reduceToNat, Int.cast_ofNat_Int, Int.reduceLT, Int.reduceLE, Int.reduceEq, Int.reduceNeg, eq_self, Option.isNone_some, Option.isNone_none, Bool.bne_false, Bool.bne_true]
  unfold h12_2
  try simp only [go_sem, ↓reduceIte, Nat.reduceEqDiff, Nat.reduceAdd, Nat.reduceLT, List.length_cons, List.length_nil, List.getElem?_cons_zero, List.getElem?_cons_succ, Nat.mul_one, Bool.true_eq_false, Bool.false_eq_true, false_implies, true_implies, Bool.not_true, Bool.not_false, decide_true, decide_false, Int.reduceToNat, Int.cast_ofNat_Int, Int.reduceLT, Int.reduceLE, Int.reduceEq, Int.reduceNeg, eq_self, Option.isNone_some, Option.isNone_none, Bool.bne_false, Bool.bne_true]
  obtain ⟨va, vc, rfl, -, hvc⟩ := hl.form
  refine loopN al.length (fun i τ w' => ∃ L v7, Tr w w' p q4 0 L v7 (i * 1296) (i * 1400) ∧ τ 0 = .slice va al.length vc ∧ τ 3 = .bool true ∧ τ 5 = ptr q4 ∧ τ 7 = v7 ∧ τ 8 = .int .i64 L.sure ∧ τ 9 = .int .i64 i)
    ⟨0, by omega, ⟨[], 0, 16⟩, .slice none 0 0, ⟨F3, S4, Dk.new, h4, at_new, Own.nil _ _ _, (by intro k hk; exact nomatch (hk : none = some k)), rfl, Nat.le_refl _, Nat.le_refl _⟩, rfl, rfl, rfl, rfl, rfl, rfl⟩ ?_
  rintro i τ w5 hi ⟨L, v7, hT, t0, t3, t5, t7, t8, t9⟩
  unfold h12_3
  try simp only [go_sem, ↓reduceIte, Nat.reduceEqDiff, Nat.reduceAdd, Nat.reduceLT, List.length_cons, List.length_nil, List.getElem?_cons_zero, List.getElem?_cons_succ, Nat.mul_one, Bool.true_eq_false, Bool.false_eq_true, false_implies, true_implies, Bool.not_true, Bool.not_false, decide_true, decide_false, Int.reduceToNat, Int.cast_ofNat_Int, Int.reduceLT, Int.reduceLE, Int.reduceEq, Int.reduceNeg, eq_self, Option.isNone_some, Option.isNone_none, Bool.bne_false, Bool.bne_true, t0, t9]
  refine ⟨fun hlt => ?_, fun hge => ?_⟩
  · have hil : i < al.length := by
      have : (i : Int) < al.length := by simpa using hlt
      omega
    obtain ⟨gb, o, rfl, -⟩ := hvc (by omega)
    refine jlists4 hil hl ha hf.1 hf.2 hT t0 t3 t5 t7 t8 t9 ?_
    intro σ' w' L' v' T' x0 x3 x5 x7 x8 x9
    exact ⟨i + 1, by omega, by omega, L', v', T', x0, x3, x5, x7, x8, x9⟩
  · unfold h12_8
    try simp only [go_sem, ↓reduceIte, Nat.reduceEqDiff, Nat.reduceAdd, Nat.reduceLT, List.length_cons, List.length_nil, List.getElem?_cons_zero, List.getElem?_cons_succ, Nat.mul_one, Bool.true_eq_false, Bool.false_eq_true, false_implies, true_implies, Bool.not_true, Bool.not_false, decide_true, decide_false, Int.reduceToNat, Int.cast_ofNat_Int, Int.reduceLT, Int.reduceLE, Int.reduceEq, Int.reduceNeg, eq_self, Option.isNone_some, Option.isNone_none, Bool.bne_false, Bool.bne_true, t3]
    obtain ⟨F, S, d, h, -⟩ := hT
    exact k _ h.m
end
end Go.Proofs.Y
