/- RG: the reference's disk: the scheduled crash, and the calls. -/
import Derived.Test.YtgalileklafbbaaRF
set_option linter.unusedSimpArgs false
set_option linter.unusedVariables false
set_option maxRecDepth 100000
namespace Go.Proofs.Y
open Go Go.HL Go.Proofs

section
variable {w : World} {next : Value → World → Prop} {QP : List PanicEntry → World → Prop} {p : Nat} {d : Dk} {S : Nat → Prop}

theorem RT.afterS {w0 w' : World} (m : Mod S w w0) (h : RT S w0 w' p d) : RT S w w' p d := by
  have hs := m.size
  exact ⟨h.foot, h.rr, fun k hk => (h.footS k hk).imp id fun h => by omega, m.trans h.mod fun _ _ h => h⟩

/-- whether a write is carried out -/
def fitsB (f a : Int) (s : Bytes) : Bool := isF f && (decide (0 ≤ a) && decide (a ≤ 16777216) && decide (a + s.length ≤ 16777216))
theorem writeE_fits (hd : d.down = false) (f a : Int) (s : Bytes) : d.writeE f a s = 0 ↔ fitsB f a s = true := by
  unfold Dk.writeE fitsB Dk.may
  simp only [hd, List.all_cons, List.all_nil, Bool.and_true]
  cases hf : isF f
  · simp
  · simp only [Bool.false_eq_true, if_false, if_true, ne_eq, not_true, Bool.true_and, Bool.and_eq_true, decide_eq_true_eq]
    split
    · omega
    · split <;> omega
theorem writeD_fits (hd : d.down = false) (f a : Int) (s : Bytes) : d.writeD f a s = if fitsB f a s = true then d.addD f.toNat a.toNat s else d := by
  unfold Dk.writeD Dk.addD
  have := writeE_fits hd f a s
  by_cases hs : s = []
  · simp [hs]
  · by_cases h0 : d.writeE f a s = 0
    · rw [if_neg (by simp [h0, hs]), if_pos (this.1 h0), if_neg hs]
    · rw [if_pos (.inl h0), if_neg fun h => h0 (this.2 h)]

def Dk.comes (d : Dk) (f a : Int) (s : Bytes) : Dk := if d.ends = true then (d.tick.writeD f a s).crash d.keep else d.tick

theorem OK.tick (ok : d.OK) : d.tick.OK := by
  unfold Dk.tick; split
  · exact ok
  · exact ⟨ok.nl, ok.nf, ok.bl, ok.bf, ok.bq, ok.lost, by have := ok.armed; simp only; omega⟩

theorem rcomes_ (h : RR w p d S) {f a : Int} {s : Bytes} (hqn : d.queue.length + s.length ≤ 1000000000000) (k : ∀ w', RT S w w' p (d.comes f a s) → next (.tuple #[]) w') :
    callvK Try.prog (.func (.func 101) #[] #[]) [ptr p, .int .i64 f, .int .i64 a, str s] w next QP := by
  refine r101 rfl ?_
  obtain ⟨lv, qv, kv, hb, hl, hq, hk, h1, h2, h3, c0, c1, c2, c3, c4, c5⟩ := h.parts
  have hov := h.ok.armed
  unfold h101
  try simp only [go_sem, ↓reduceIte, Nat.reduceEqDiff, Nat.reduceAdd, Nat.reduceLT, List.length_cons, List.length_nil, List.getElem?_cons_zero, List.getElem?_cons_succ, Nat.mul_one, Bool.true_eq_false, Bool.false_eq_true, false_implies, true_implies, Bool.not_true, Bool.not_false, decide_true, decide_false, Int.reduceToNat, Int.cast_ofNat_Int, Int.reduceLT, Int.reduceLE, Int.reduceEq, Int.reduceNeg, eq_self, Option.isNone_some, Option.isNone_none, Bool.bne_false, Bool.bne_true, c3, c4]
  refine ⟨fun hx => ?_, fun hx => ?_⟩
  · have e : d.comes f a s = d := by
      unfold Dk.comes Dk.ends Dk.tick
      cases hd : d.down <;> simp_all
    refine k _ ?_
    rw [e]; exact .refl h
  · have hd : d.down = false := by cases hd : d.down <;> simp_all
    have ha : ¬ d.armed = 0 := by rw [hd] at hx; simpa using hx
    unfold h101_1
    try simp only [go_sem, ↓reduceIte, Nat.reduceEqDiff, Nat.reduceAdd, Nat.reduceLT, List.length_cons, List.length_nil, List.getElem?_cons_zero, List.getElem?_cons_succ, Nat.mul_one, Bool.true_eq_false, Bool.false_eq_true, false_implies, true_implies, Bool.not_true, Bool.not_false, decide_true, decide_false, Int.reduceToNat, Int.cast_ofNat_Int, Int.reduceLT, Int.reduceLE, Int.reduceEq, Int.reduceNeg, eq_self, Option.isNone_some, Option.isNone_none, Bool.bne_false, Bool.bne_true, c4]
    rw [w64 (by omega) (by omega)]
    refine store1 sz3 hb (by simp) rfl ?_
    intro w1 hb1 m1 hs1
    have ht : d.tick = { d with armed := d.armed - 1 } := by simp [Dk.tick, hd, ha]
    have hb1 : Blk w1 p 99 [lv, qv, .int .i64 d.lost, .bool d.down, .int .i64 ((d.armed - 1 : Nat) : Int), kv] := by
      rw [show ((d.armed - 1 : Nat) : Int) = (d.armed : Int) - 1 by omega]; simpa using hb1
    have h' : RR w1 p d.tick S := by
      rw [ht]
      exact h.again (d' := { d with armed := d.armed - 1 }) m1 (by rw [← ht]; exact OK.tick h.ok) h.sync hb1 hl hq hk (fun k hk => ⟨(h1 k hk).1, (h1 k hk).2.1⟩) (fun k hk => ⟨(h2 k hk).1, (h2 k hk).2.1⟩) (fun k hk => ⟨(h3 k hk).1, (h3 k hk).2.1⟩)
    have mS : Mod S w w1 := m1.mono fun k _ (e : k = p) => e ▸ h.self
    have x4 : w1.cell? ⟨p, 4, none⟩ = some (.int .i64 ((d.armed - 1 : Nat) : Int)) := hb1.cell 4
    try simp only [go_sem, ↓reduceIte, Nat.reduceEqDiff, Nat.reduceAdd, Nat.reduceLT, List.length_cons, List.length_nil, List.getElem?_cons_zero, List.getElem?_cons_succ, Nat.mul_one, Bool.true_eq_false, Bool.false_eq_true, false_implies, true_implies, Bool.not_true, Bool.not_false, decide_true, decide_false, Int.reduceToNat, Int.cast_ofNat_Int, Int.reduceLT, Int.reduceLE, Int.reduceEq, Int.reduceNeg, eq_self, Option.isNone_some, Option.isNone_none, Bool.bne_false, Bool.bne_true, x4]
    refine ⟨fun hx => ?_, fun hx => ?_⟩
    · have hx : 0 < d.armed - 1 := by simpa using hx
      have e : d.comes f a s = d.tick := by
        unfold Dk.comes Dk.ends
        have : ¬ d.armed = 1 := by omega
        simp [this]
      refine k _ ?_
      rw [e]; exact .of h' mS
    · have hx : ¬ 0 < d.armed - 1 := by simpa using hx
      have h1' : d.armed = 1 := by omega
      have hdt : d.tick.down = false := by rw [ht]; exact hd
      have he : d.comes f a s = (d.tick.writeD f a s).crash d.keep := by simp [Dk.comes, Dk.ends, hd, h1']
      have hkt : d.tick.keep = d.keep := by rw [ht]
      have hqt : d.tick.queue = d.queue := by rw [ht]
      -- the crash that ends the call
      have fin : ∀ (σ : Env) (w2 : World) (d2 : Dk), σ 0 = ptr p → RT S w w2 p d2 → d2.keep = d.keep → d2.queue.length ≤ 1000000000000 → d2 = d.tick.writeD f a s → hw Try.prog noPanic h101_3 (endV [] next) σ w2 := by
        rintro σ w2 d2 s0 rt hkeep hql rfl
        obtain ⟨lv2, qv2, kv2, -, -, -, hk2, -, -, h32, -, -, -, -, -, c52⟩ := rt.rr.parts
        unfold h101_3
        try simp only [go_sem, ↓reduceIte, Nat.reduceEqDiff, Nat.reduceAdd, Nat.reduceLT, List.length_cons, List.length_nil, List.getElem?_cons_zero, List.getElem?_cons_succ, Nat.mul_one, Bool.true_eq_false, Bool.false_eq_true, false_implies, true_implies, Bool.not_true, Bool.not_false, decide_true, decide_false, Int.reduceToNat, Int.cast_ofNat_Int, Int.reduceLT, Int.reduceLE, Int.reduceEq, Int.reduceNeg, eq_self, Option.isNone_some, Option.isNone_none, Bool.bne_false, Bool.bne_true, s0, c52]
        refine rcrash_ rt.rr hk2.sl (fun _ e => (h32 p e).2.1 rfl) hql ?_
        intro w3 rt3
        try simp only [go_sem, ↓reduceIte, Nat.reduceEqDiff, Nat.reduceAdd, Nat.reduceLT, List.length_cons, List.length_nil, List.getElem?_cons_zero, List.getElem?_cons_succ, Nat.mul_one, Bool.true_eq_false, Bool.false_eq_true, false_implies, true_implies, Bool.not_true, Bool.not_false, decide_true, decide_false, Int.reduceToNat, Int.cast_ofNat_Int, Int.reduceLT, Int.reduceLE, Int.reduceEq, Int.reduceNeg, eq_self, Option.isNone_some, Option.isNone_none, Bool.bne_false, Bool.bne_true]
        refine k _ ?_
        rw [he, ← hkeep]
        exact rt.trans rt3
      have ef : (if decide (0 ≤ f) = true then decide (f ≤ 11) else false) = isF f := by
        unfold isF
        by_cases h0 : 0 ≤ f
        · simp only [h0, decide_true, if_true, Bool.true_and]; congr 1; apply propext; omega
        · simp [h0]
      unfold h101_2
      try simp only [go_sem, ↓reduceIte, Nat.reduceEqDiff, Nat.reduceAdd, Nat.reduceLT, List.length_cons, List.length_nil, List.getElem?_cons_zero, List.getElem?_cons_succ, Nat.mul_one, Bool.true_eq_false, Bool.false_eq_true, false_implies, true_implies, Bool.not_true, Bool.not_false, decide_true, decide_false, Int.reduceToNat, Int.cast_ofNat_Int, Int.reduceLT, Int.reduceLE, Int.reduceEq, Int.reduceNeg, eq_self, Option.isNone_some, Option.isNone_none, Bool.bne_false, Bool.bne_true, ef]
      refine ⟨fun hF => ?_, fun hF => ?_⟩
      · refine rfits_ (by omega) ?_
        try simp only [go_sem, ↓reduceIte, Nat.reduceEqDiff, Nat.reduceAdd, Nat.reduceLT, List.length_cons, List.length_nil, List.getElem?_cons_zero, List.getElem?_cons_succ, Nat.mul_one, Bool.true_eq_false, Bool.false_eq_true, false_implies, true_implies, Bool.not_true, Bool.not_false, decide_true, decide_false, Int.reduceToNat, Int.cast_ofNat_Int, Int.reduceLT, Int.reduceLE, Int.reduceEq, Int.reduceNeg, eq_self, Option.isNone_some, Option.isNone_none, Bool.bne_false, Bool.bne_true, hF]
        refine ⟨fun hfit => ?_, fun hfit => ?_⟩
        · have hfit' : fitsB f a s = true := by simp only [fitsB, hF, Bool.true_and]; exact hfit
          have hw' := writeD_fits hdt f a s
          rw [if_pos hfit'] at hw'
          obtain ⟨h0, h12⟩ : 0 ≤ f ∧ f < 12 := by simpa [isF] using hF
          obtain ⟨⟨ha0, ha1⟩, ha2⟩ : (0 ≤ a ∧ a ≤ 16777216) ∧ a + s.length ≤ 16777216 := by simpa using hfit
          obtain ⟨g, rfl⟩ := Int.eq_ofNat_of_zero_le h0
          obtain ⟨b, rfl⟩ := Int.eq_ofNat_of_zero_le ha0
          refine radd_ h' (f := g) (a := b) (by omega) (by omega) (by rw [hqt]; exact hqn) ?_
          intro w3 rt
          refine fin _ _ _ rfl (.afterS mS rt) (by rw [addD_keep]; exact hkt) ?_ (by rw [hw']; rfl)
          rw [addD_queue, hqt, List.length_append]
          have := pieces_len g s.length b s
          omega
        · have hfit' : ¬ fitsB f a s = true := by simp only [fitsB, hF, Bool.true_and]; rw [hfit]; decide
          have hw' := writeD_fits hdt f a s
          rw [if_neg hfit'] at hw'
          exact fin _ _ _ rfl (.of h' mS) hkt (by rw [hqt]; omega) hw'.symm
      · try simp only [go_sem, ↓reduceIte, Nat.reduceEqDiff, Nat.reduceAdd, Nat.reduceLT, List.length_cons, List.length_nil, List.getElem?_cons_zero, List.getElem?_cons_succ, Nat.mul_one, Bool.true_eq_false, Bool.false_eq_true, false_implies, true_implies, Bool.not_true, Bool.not_false, decide_true, decide_false, Int.reduceToNat, Int.cast_ofNat_Int, Int.reduceLT, Int.reduceLE, Int.reduceEq, Int.reduceNeg, eq_self, Option.isNone_some, Option.isNone_none, Bool.bne_false, Bool.bne_true, hF]
        have hfit' : ¬ fitsB f a s = true := by simp [fitsB, hF]
        have hw' := writeD_fits hdt f a s
        rw [if_neg hfit'] at hw'
        exact fin _ _ _ rfl (.of h' mS) hkt (by rw [hqt]; omega) hw'.symm

theorem rwrite_ (h : RR w p d S) {f a : Int} {s : Bytes} (hqn : d.queue.length + s.length ≤ 1000000000000) (k : ∀ w', RT S w w' p (d.write f a s) → next (.int .i64 (d.writeR f a s)) w') :
    callvK Try.prog (.func (.func 73) #[] #[]) [ptr p, .int .i64 f, .int .i64 a, str s] w next QP := by
  refine r73 rfl ?_
  unfold h73
  try simp only [go_sem, ↓reduceIte, Nat.reduceEqDiff, Nat.reduceAdd, Nat.reduceLT, List.length_cons, List.length_nil, List.getElem?_cons_zero, List.getElem?_cons_succ, Nat.mul_one, Bool.true_eq_false, Bool.false_eq_true, false_implies, true_implies, Bool.not_true, Bool.not_false, decide_true, decide_false, Int.reduceToNat, Int.cast_ofNat_Int, Int.reduceLT, Int.reduceLE, Int.reduceEq, Int.reduceNeg, eq_self, Option.isNone_some, Option.isNone_none, Bool.bne_false, Bool.bne_true]
  refine rcomes_ h hqn ?_
  intro w1 rt
  try simp only [go_sem, ↓reduceIte, Nat.reduceEqDiff, Nat.reduceAdd, Nat.reduceLT, List.length_cons, List.length_nil, List.getElem?_cons_zero, List.getElem?_cons_succ, Nat.mul_one, Bool.true_eq_false, Bool.false_eq_true, false_implies, true_implies, Bool.not_true, Bool.not_false, decide_true, decide_false, Int.reduceToNat, Int.cast_ofNat_Int, Int.reduceLT, Int.reduceLE, Int.reduceEq, Int.reduceNeg, eq_self, Option.isNone_some, Option.isNone_none, Bool.bne_false, Bool.bne_true]
  refine rmay_ rt.rr f ?_
  have hT : (d.tick.writeD f a s).keep = d.keep := by
    unfold Dk.writeD; split <;> exact tick_keep d
  cases hE : d.ends with
  | true =>
    have hc : d.comes f a s = (d.tick.writeD f a s).crash d.keep := by simp [Dk.comes, hE]
    have hcd : (d.comes f a s).down = true := by
      rw [hc]; unfold Dk.crash; split
      · assumption
      · rfl
    have hm : (d.comes f a s).may [f] = 8 := by simp [Dk.may, hcd]
    have e8 : (8 : Int) ≠ 0 := by decide
    try simp only [go_sem, ↓reduceIte, Nat.reduceEqDiff, Nat.reduceAdd, Nat.reduceLT, List.length_cons, List.length_nil, List.getElem?_cons_zero, List.getElem?_cons_succ, Nat.mul_one, Bool.true_eq_false, Bool.false_eq_true, false_implies, true_implies, Bool.not_true, Bool.not_false, decide_true, decide_false, Int.reduceToNat, Int.cast_ofNat_Int, Int.reduceLT, Int.reduceLE, Int.reduceEq, Int.reduceNeg, eq_self, Option.isNone_some, Option.isNone_none, Bool.bne_false, Bool.bne_true, hm, decide_eq_true e8]
    have h1 : d.write f a s = d.comes f a s := by rw [hc]; simp [Dk.write, Dk.endW, hE, hT]
    have h2 : d.writeR f a s = 8 := by simp [Dk.writeR, hE]
    rw [h1, h2] at k
    exact k _ rt
  | false =>
    have hc : d.comes f a s = d.tick := by simp [Dk.comes, hE]
    rw [hc] at rt ⊢
    have h1 : d.write f a s = d.tick.writeD f a s := by simp [Dk.write, Dk.endW, hE]
    have h2 : d.writeR f a s = d.tick.writeE f a s := by simp [Dk.writeR, hE]
    rw [h1, h2] at k
    have hqt := tick_queue d
    try simp only [go_sem, ↓reduceIte, Nat.reduceEqDiff, Nat.reduceAdd, Nat.reduceLT, List.length_cons, List.length_nil, List.getElem?_cons_zero, List.getElem?_cons_succ, Nat.mul_one, Bool.true_eq_false, Bool.false_eq_true, false_implies, true_implies, Bool.not_true, Bool.not_false, decide_true, decide_false, Int.reduceToNat, Int.cast_ofNat_Int, Int.reduceLT, Int.reduceLE, Int.reduceEq, Int.reduceNeg, eq_self, Option.isNone_some, Option.isNone_none, Bool.bne_false, Bool.bne_true]
    refine ⟨fun hm => ?_, fun hm => ?_⟩
    · have hm : ¬ d.tick.may [f] = 0 := by simpa using hm
      have h3 : d.tick.writeE f a s = d.tick.may [f] := by simp [Dk.writeE, hm]
      have h4 : d.tick.writeD f a s = d.tick := by simp [Dk.writeD, h3, hm]
      rw [h3, h4] at k
      exact k _ rt
    · have hm : d.tick.may [f] = 0 := by simpa using hm
      have hdt : d.tick.down = false := by
        cases hd : d.tick.down
        · rfl
        · simp [Dk.may, hd] at hm
      have hF : isF f = true := by
        cases hF : isF f
        · simp [Dk.may, hdt, hF] at hm
        · rfl
      have hfE := writeE_fits hdt f a s
      have hfD := writeD_fits hdt f a s
      unfold h73_1
      try simp only [go_sem, ↓reduceIte, Nat.reduceEqDiff, Nat.reduceAdd, Nat.reduceLT, List.length_cons, List.length_nil, List.getElem?_cons_zero, List.getElem?_cons_succ, Nat.mul_one, Bool.true_eq_false, Bool.false_eq_true, false_implies, true_implies, Bool.not_true, Bool.not_false, decide_true, decide_false, Int.reduceToNat, Int.cast_ofNat_Int, Int.reduceLT, Int.reduceLE, Int.reduceEq, Int.reduceNeg, eq_self, Option.isNone_some, Option.isNone_none, Bool.bne_false, Bool.bne_true]
      refine ⟨fun ha => ?_, fun ha => ?_⟩
      · have ha : a < 0 := by simpa using ha
        have h3 : d.tick.writeE f a s = 1 := by simp [Dk.writeE, hm, ha]
        have h4 : d.tick.writeD f a s = d.tick := by simp [Dk.writeD, h3]
        rw [h3, h4] at k
        exact k _ rt
      · have ha : ¬ a < 0 := by simpa using ha
        unfold h73_2
        try simp only [go_sem, ↓reduceIte, Nat.reduceEqDiff, Nat.reduceAdd, Nat.reduceLT, List.length_cons, List.length_nil, List.getElem?_cons_zero, List.getElem?_cons_succ, Nat.mul_one, Bool.true_eq_false, Bool.false_eq_true, false_implies, true_implies, Bool.not_true, Bool.not_false, decide_true, decide_false, Int.reduceToNat, Int.cast_ofNat_Int, Int.reduceLT, Int.reduceLE, Int.reduceEq, Int.reduceNeg, eq_self, Option.isNone_some, Option.isNone_none, Bool.bne_false, Bool.bne_true]
        refine rfits_ (by omega) ?_
        try simp only [go_sem, ↓reduceIte, Nat.reduceEqDiff, Nat.reduceAdd, Nat.reduceLT, List.length_cons, List.length_nil, List.getElem?_cons_zero, List.getElem?_cons_succ, Nat.mul_one, Bool.true_eq_false, Bool.false_eq_true, false_implies, true_implies, Bool.not_true, Bool.not_false, decide_true, decide_false, Int.reduceToNat, Int.cast_ofNat_Int, Int.reduceLT, Int.reduceLE, Int.reduceEq, Int.reduceNeg, eq_self, Option.isNone_some, Option.isNone_none, Bool.bne_false, Bool.bne_true]
        refine ⟨fun hft => ?_, fun hft => ?_⟩
        · have hft : ¬ fitsB f a s = true := by
            simp only [fitsB, hF, Bool.true_and]
            intro h; rw [h] at hft; cases hft
          have h3 : d.tick.writeE f a s = 6 := by
            have : ¬ d.tick.writeE f a s = 0 := fun h => hft (hfE.1 h)
            unfold Dk.writeE at this ⊢
            simp only [hm, ne_eq, not_true, if_false, if_neg ha] at this ⊢
            split at this
            · rw [if_pos (by assumption)]
            · exact absurd rfl this
          have h4 : d.tick.writeD f a s = d.tick := by rw [hfD, if_neg hft]
          rw [h3, h4] at k
          exact k _ rt
        · have hft : fitsB f a s = true := by
            simp only [fitsB, hF, Bool.true_and]
            simpa using hft
          have h3 := hfE.2 hft
          rw [hfD, if_pos hft, h3] at k
          obtain ⟨h0, h12⟩ : 0 ≤ f ∧ f < 12 := by simpa [isF] using hF
          obtain ⟨⟨ha0, ha1⟩, ha2⟩ : (0 ≤ a ∧ a ≤ 16777216) ∧ a + s.length ≤ 16777216 := by simpa [fitsB, hF] using hft
          obtain ⟨g, rfl⟩ := Int.eq_ofNat_of_zero_le h0
          obtain ⟨b, rfl⟩ := Int.eq_ofNat_of_zero_le ha0
          unfold h73_3
          try simp only [go_sem, ↓reduceIte, Nat.reduceEqDiff, Nat.reduceAdd, Nat.reduceLT, List.length_cons, List.length_nil, List.getElem?_cons_zero, List.getElem?_cons_succ, Nat.mul_one, Bool.true_eq_false, Bool.false_eq_true, false_implies, true_implies, Bool.not_true, Bool.not_false, decide_true, decide_false, Int.reduceToNat, Int.cast_ofNat_Int, Int.reduceLT, Int.reduceLE, Int.reduceEq, Int.reduceNeg, eq_self, Option.isNone_some, Option.isNone_none, Bool.bne_false, Bool.bne_true]
          refine radd_ rt.rr (f := g) (a := b) (by omega) (by omega) (by rw [hqt]; exact hqn) ?_
          intro w3 rt3
          try simp only [go_sem, ↓reduceIte, Nat.reduceEqDiff, Nat.reduceAdd, Nat.reduceLT, List.length_cons, List.length_nil, List.getElem?_cons_zero, List.getElem?_cons_succ, Nat.mul_one, Bool.true_eq_false, Bool.false_eq_true, false_implies, true_implies, Bool.not_true, Bool.not_false, decide_true, decide_false, Int.reduceToNat, Int.cast_ofNat_Int, Int.reduceLT, Int.reduceLE, Int.reduceEq, Int.reduceNeg, eq_self, Option.isNone_some, Option.isNone_none, Bool.bne_false, Bool.bne_true]
          exact k _ (rt.trans rt3)
end
end Go.Proofs.Y
