/- RH: the reference's disk: flush, cut, turn. -/
import Derived.Test.YtgalileklafbbaaRG
set_option linter.unusedSimpArgs false
set_option linter.unusedVariables false
set_option maxRecDepth 100000
namespace Go.Proofs.Y
open Go Go.HL Go.Proofs

section
variable {w : World} {next : Value → World → Prop} {QP : List PanicEntry → World → Prop} {p : Nat} {d : Dk} {S : Nat → Prop}

theorem comes_pre : d.comes 0 0 [] = d.pre := by
  simp [Dk.comes, Dk.pre, Dk.endW, Dk.writeD, tick_keep]

theorem last_at {lv : Value} {l : List Bytes} (hl : Own w lv 9 1 12 (l.map str)) : ∃ g c, lv = .slice (some ⟨g, 0, none⟩) 12 c ∧ ∀ f, f < 12 → w.cell? ⟨g, f, none⟩ = some (str (l.getD f [])) := by
  rcases hl.blk with ⟨-, h0, -⟩ | ⟨g, c, rest, rfl, hb, hr, hc, hm⟩
  · omega
  have hlen : l.length = 12 := by have := hl.len; simpa using this
  refine ⟨g, c, rfl, fun f hf => ?_⟩
  rw [hb.cell, List.getElem?_append_left (by simp; omega)]
  simp [hlen, hf]

/-- a durable part stored -/
theorem last_st {g c : Nat} {l : List Bytes} (hl : Own w (.slice (some ⟨g, 0, none⟩) 12 c) 9 1 12 (l.map str)) {f : Nat} (hf : f < 12) (s : Bytes)
    (k : ∀ w', Own w' (.slice (some ⟨g, 0, none⟩) 12 c) 9 1 12 ((l.set f s).map str) → Mod (fun k => k = g) w w' → next undef w') : storeK Try.prog 9 (.pointer (some ⟨g, f, none⟩)) (str s) w next QP := by
  rcases hl.blk with ⟨-, h0, -⟩ | ⟨g', c', rest, e, hb, hr, hc, hm⟩
  · omega
  simp only [Value.slice.injEq, Option.some.injEq, Addr.mk.injEq] at e
  obtain ⟨⟨rfl, -⟩, -, rfl⟩ := e
  have hlen : l.length = 12 := by have := hl.len; simpa using this
  refine store1 sz9 hb (by simp; omega) rfl ?_
  intro w' hb' m hsz
  refine k w' ?_ m
  rw [List.set_append_left _ _ (by simp; omega)] at hb'
  have e : (l.map str).set f (str s) = (l.set f s).map str := by rw [List.map_set]
  rw [e] at hb'
  exact Own.of_blk (by simp [hlen]) hb' hr hc hm

theorem isF_of_may {f : Int} (hm : d.may [f] = 0) : d.down = false ∧ ∃ g : Nat, f = g ∧ g < 12 := by
  unfold Dk.may at hm
  split at hm
  · omega
  · rename_i hd
    split at hm
    · rename_i hh
      obtain ⟨h0, h12⟩ : 0 ≤ f ∧ f < 12 := by simpa [isF] using hh
      obtain ⟨g, rfl⟩ := Int.eq_ofNat_of_zero_le h0
      exact ⟨by simpa using hd, g, rfl, by omega⟩
    · omega

/-- the end of a settling: the pending writes of the file go -/
theorem settle_end {next : Value → Value → World → Prop} {w0 : World} {d' : Dk} {lv qv kv : Value} {q : List Pd} {f : Nat} (h : RR w0 p d S) (m : Mod S w0 w) (hb : Blk w p 99 [lv, qv, .int .i64 d'.lost, .bool d'.down, .int .i64 d'.armed, kv]) (hl : Own w lv 9 1 12 (d'.lasts.map str))
    (hq : Own w qv 118 3 q.length (rows Pd.cells q)) (hk : Own w kv 3 1 d'.keep.length (ints d'.keep)) (hqn : q.length ≤ 1000000000000) (ok : d'.OK) (sy : Sync d') (hq' : d'.queue = wo q f)
    (h1 : ∀ k, lv.ownBlock = some k → (S k ∨ w0.heap.size ≤ k) ∧ k ≠ p) (h3 : ∀ k, kv.ownBlock = some k → (S k ∨ w0.heap.size ≤ k) ∧ k ≠ p)
    (k : ∀ w' u v, RT S w0 w' p d' → next u v w') : callvK Try.prog (.func (.func 104) #[] #[]) [ptr p, .int .i64 f] w (fun v w' => storeK Try.prog 97 (.pointer (some ⟨p, 1, none⟩)) v w' (next v) QP) QP := by
  refine rwithout_ (qv := qv) (hb.cell 1) hq hqn ?_
  intro v w1 m1 own1 hn1
  obtain ⟨ua, uc, rfl, -, -⟩ := own1.form
  refine store1 sz97 (hb.mod m1 fun h => h) (by simp) rfl ?_
  intro w2 hb2 m2 hs2
  have hpw := hb.lt
  have hs := m.size
  refine k w2 _ _ (.build (lv := lv) (qv := .slice ua (wo q f).length uc) (kv := kv) h ((m.trans m1 fun _ _ h => h.elim).trans m2 fun k _ (e : k = p) => e ▸ h.self) ok sy ?_ ?_ ?_ ?_ (fun k hk => (h1 k hk).1) (fun k hk => .inr ?_) (fun k hk => (h3 k hk).1))
  · simpa using hb2
  · exact (hl.mod m1 fun _ _ h => h).mod m2 fun k hk (e : k = p) => (h1 k hk).2 e
  · rw [hq']; exact own1.mod m2 fun k hk (e : k = p) => by have := hn1 k hk; omega
  · exact (hk.mod m1 fun _ _ h => h).mod m2 fun k hk (e : k = p) => (h3 k hk).2 e
  · have := hn1 k hk; omega

theorem rflush_ (h : RR w p d S) {f : Int} (hqn : d.queue.length ≤ 1000000000000) (k : ∀ w', RT S w w' p (d.flush f) → next (.int .i64 (d.flushR f)) w') :
    callvK Try.prog (.func (.func 74) #[] #[]) [ptr p, .int .i64 f] w next QP := by
  refine r74 rfl ?_
  unfold h74
  try simp only [go_sem, ↓reduceIte, Nat.reduceEqDiff, Nat.reduceAdd, Nat.reduceLT, List.length_cons, List.length_nil, List.getElem?_cons_zero, List.getElem?_cons_succ, Nat.mul_one, Bool.true_eq_false, Bool.false_eq_true, false_implies, true_implies, Bool.not_true, Bool.not_false, decide_true, decide_false, Int.reduceToNat, Int.cast_ofNat_Int, Int.reduceLT, Int.reduceLE, Int.reduceEq, Int.reduceNeg, eq_self, Option.isNone_some, Option.isNone_none, Bool.bne_false, Bool.bne_true]
  refine rcomes_ h (f := 0) (a := 0) (s := []) (by simpa using hqn) ?_
  rw [comes_pre]
  intro w1 rt
  have hqp := pre_queue d
  try simp only [go_sem, ↓reduceIte, Nat.reduceEqDiff, Nat.reduceAdd, Nat.reduceLT, List.length_cons, List.length_nil, List.getElem?_cons_zero, List.getElem?_cons_succ, Nat.mul_one, Bool.true_eq_false, Bool.false_eq_true, false_implies, true_implies, Bool.not_true, Bool.not_false, decide_true, decide_false, Int.reduceToNat, Int.cast_ofNat_Int, Int.reduceLT, Int.reduceLE, Int.reduceEq, Int.reduceNeg, eq_self, Option.isNone_some, Option.isNone_none, Bool.bne_false, Bool.bne_true]
  refine rmay_ rt.rr f ?_
  have k' := k
  simp only [Dk.flush, Dk.flushR] at k
  try simp only [go_sem, ↓reduceIte, Nat.reduceEqDiff, Nat.reduceAdd, Nat.reduceLT, List.length_cons, List.length_nil, List.getElem?_cons_zero, List.getElem?_cons_succ, Nat.mul_one, Bool.true_eq_false, Bool.false_eq_true, false_implies, true_implies, Bool.not_true, Bool.not_false, decide_true, decide_false, Int.reduceToNat, Int.cast_ofNat_Int, Int.reduceLT, Int.reduceLE, Int.reduceEq, Int.reduceNeg, eq_self, Option.isNone_some, Option.isNone_none, Bool.bne_false, Bool.bne_true]
  refine ⟨fun hm => ?_, fun hm => ?_⟩
  · have hm : ¬ d.pre.may [f] = 0 := by simpa using hm
    simp only [if_pos hm] at k
    exact k _ rt
  · have hm : d.pre.may [f] = 0 := by simpa using hm
    obtain ⟨hd, g, rfl, hg⟩ := isF_of_may hm
    obtain ⟨lv, qv, kv, hb, hl, hq, hk, h1, h2, h3, c0, c1, c2, c3, c4, c5⟩ := rt.rr.parts
    have hlo := rt.rr.ok.lost
    have hself := rt.rr.self
    unfold h74_1
    try simp only [go_sem, ↓reduceIte, Nat.reduceEqDiff, Nat.reduceAdd, Nat.reduceLT, List.length_cons, List.length_nil, List.getElem?_cons_zero, List.getElem?_cons_succ, Nat.mul_one, Bool.true_eq_false, Bool.false_eq_true, false_implies, true_implies, Bool.not_true, Bool.not_false, decide_true, decide_false, Int.reduceToNat, Int.cast_ofNat_Int, Int.reduceLT, Int.reduceLE, Int.reduceEq, Int.reduceNeg, eq_self, Option.isNone_some, Option.isNone_none, Bool.bne_false, Bool.bne_true, c2]
    refine ⟨fun hx => ?_, fun hx => ?_⟩
    · have hx : 0 < d.pre.lost := by simpa using hx
      rw [w64 (by omega) (by omega)]
      refine store1 sz3 hb (by simp) rfl ?_
      intro w2 hb2 m2 hs2
      try simp only [go_sem, ↓reduceIte, Nat.reduceEqDiff, Nat.reduceAdd, Nat.reduceLT, List.length_cons, List.length_nil, List.getElem?_cons_zero, List.getElem?_cons_succ, Nat.mul_one, Bool.true_eq_false, Bool.false_eq_true, false_implies, true_implies, Bool.not_true, Bool.not_false, decide_true, decide_false, Int.reduceToNat, Int.cast_ofNat_Int, Int.reduceLT, Int.reduceLE, Int.reduceEq, Int.reduceNeg, eq_self, Option.isNone_some, Option.isNone_none, Bool.bne_false, Bool.bne_true]
      have hne : ¬ (d.pre.may [(g : Int)] ≠ 0) := fun h => h hm
      simp only [if_neg hne, if_pos hx] at k
      refine k _ (rt.trans (.of (rt.rr.again (d' := { d.pre with lost := d.pre.lost - 1 }) m2 ⟨rt.rr.ok.nl, rt.rr.ok.nf, rt.rr.ok.bl, rt.rr.ok.bf, rt.rr.ok.bq, by simp only; omega, rt.rr.ok.armed⟩ rt.rr.sync ?_ hl hq hk (fun k hk => ⟨(h1 k hk).1, (h1 k hk).2.1⟩) (fun k hk => ⟨(h2 k hk).1, (h2 k hk).2.1⟩) (fun k hk => ⟨(h3 k hk).1, (h3 k hk).2.1⟩)) (m2.mono fun k _ (e : k = p) => e ▸ hself)))
      rw [show (((d.pre.lost - 1 : Nat) : Nat) : Int) = (d.pre.lost : Int) - 1 by omega]
      simpa using hb2
    · have hx : ¬ 0 < d.pre.lost := by simpa using hx
      have hne : ¬ (d.pre.may [(g : Int)] ≠ 0) := fun h => h hm
      simp only [if_neg hne, if_neg hx, Int.toNat_natCast] at k
      unfold h74_2
      try simp only [go_sem, ↓reduceIte, Nat.reduceEqDiff, Nat.reduceAdd, Nat.reduceLT, List.length_cons, List.length_nil, List.getElem?_cons_zero, List.getElem?_cons_succ, Nat.mul_one, Bool.true_eq_false, Bool.false_eq_true, false_implies, true_implies, Bool.not_true, Bool.not_false, decide_true, decide_false, Int.reduceToNat, Int.cast_ofNat_Int, Int.reduceLT, Int.reduceLE, Int.reduceEq, Int.reduceNeg, eq_self, Option.isNone_some, Option.isNone_none, Bool.bne_false, Bool.bne_true, c0]
      refine rread0_ (rt.rr.mod0 (Mod.drew none' w1)) hg (by omega) ?_
      intro w2 m2
      have m12 : Mod none' w1 w2 := (Mod.drew none' w1).trans' m2
      have c0' := m12.cell c0 fun h => h
      obtain ⟨gg, c, rfl, x0⟩ := last_at hl
      try simp only [go_sem, ↓reduceIte, Nat.reduceEqDiff, Nat.reduceAdd, Nat.reduceLT, List.length_cons, List.length_nil, List.getElem?_cons_zero, List.getElem?_cons_succ, Nat.mul_one, Bool.true_eq_false, Bool.false_eq_true, false_implies, true_implies, Bool.not_true, Bool.not_false, decide_true, decide_false, Int.reduceToNat, Int.cast_ofNat_Int, Int.reduceLT, Int.reduceLE, Int.reduceEq, Int.reduceNeg, eq_self, Option.isNone_some, Option.isNone_none, Bool.bne_false, Bool.bne_true, c0']
      repeat refine ⟨⟨by omega, by omega⟩, ?_⟩
      have hgS := h1 gg rfl
      refine last_st (hl.mod m12 fun _ _ h => h) hg (d.pre.file g) ?_
      intro w3 hl3 m3
      try simp only [go_sem, ↓reduceIte, Nat.reduceEqDiff, Nat.reduceAdd, Nat.reduceLT, List.length_cons, List.length_nil, List.getElem?_cons_zero, List.getElem?_cons_succ, Nat.mul_one, Bool.true_eq_false, Bool.false_eq_true, false_implies, true_implies, Bool.not_true, Bool.not_false, decide_true, decide_false, Int.reduceToNat, Int.cast_ofNat_Int, Int.reduceLT, Int.reduceLE, Int.reduceEq, Int.reduceNeg, eq_self, Option.isNone_some, Option.isNone_none, Bool.bne_false, Bool.bne_true]
      have m13 : Mod (fun k => k = gg) w1 w3 := (m12.mono fun _ _ h => h.elim).trans' m3
      refine settle_end (d' := d.pre.settle g (d.pre.file g)) rt.rr (m13.mono fun k _ (e : k = gg) => e ▸ hgS.1) (hb.mod m13 fun e => hgS.2.1 e.symm) hl3 (hq.mod m13 fun k hk (e : k = gg) => hgS.2.2.1 (e ▸ hk)) (hk.mod m13 fun k hk (e : k = gg) => hgS.2.2.2 (e ▸ hk)) (by omega)
        (rt.rr.ok.settle g (file_le rt.rr.ok g)) (rt.rr.sync.settle rt.rr.ok hg _) rfl (fun k hk => ⟨.inl (h1 k hk).1, (h1 k hk).2.1⟩) (fun k hk => ⟨.inl (h3 k hk).1, (h3 k hk).2.1⟩) ?_
      intro w4 u4 v4 rt4
      unfold h74_3
      try simp only [go_sem, ↓reduceIte, Nat.reduceEqDiff, Nat.reduceAdd, Nat.reduceLT, List.length_cons, List.length_nil, List.getElem?_cons_zero, List.getElem?_cons_succ, Nat.mul_one, Bool.true_eq_false, Bool.false_eq_true, false_implies, true_implies, Bool.not_true, Bool.not_false, decide_true, decide_false, Int.reduceToNat, Int.cast_ofNat_Int, Int.reduceLT, Int.reduceLE, Int.reduceEq, Int.reduceNeg, eq_self, Option.isNone_some, Option.isNone_none, Bool.bne_false, Bool.bne_true]
      exact k _ (rt.trans rt4)

theorem rcut_ (h : RR w p d S) {f n : Int} (hqn : d.queue.length ≤ 1000000000000) (k : ∀ w', RT S w w' p (d.cut f n) → next (.int .i64 (d.cutR f n)) w') :
    callvK Try.prog (.func (.func 75) #[] #[]) [ptr p, .int .i64 f, .int .i64 n] w next QP := by
  refine r75 rfl ?_
  unfold h75
  try simp only [go_sem, ↓reduceIte, Nat.reduceEqDiff, Nat.reduceAdd, Nat.reduceLT, List.length_cons, List.length_nil, List.getElem?_cons_zero, List.getElem?_cons_succ, Nat.mul_one, Bool.true_eq_false, Bool.false_eq_true, false_implies, true_implies, Bool.not_true, Bool.not_false, decide_true, decide_false, Int.reduceToNat, Int.cast_ofNat_Int, Int.reduceLT, Int.reduceLE, Int.reduceEq, Int.reduceNeg, eq_self, Option.isNone_some, Option.isNone_none, Bool.bne_false, Bool.bne_true]
  refine rcomes_ h (f := 0) (a := 0) (s := []) (by simpa using hqn) ?_
  rw [comes_pre]
  intro w1 rt
  have hqp := pre_queue d
  try simp only [go_sem, ↓reduceIte, Nat.reduceEqDiff, Nat.reduceAdd, Nat.reduceLT, List.length_cons, List.length_nil, List.getElem?_cons_zero, List.getElem?_cons_succ, Nat.mul_one, Bool.true_eq_false, Bool.false_eq_true, false_implies, true_implies, Bool.not_true, Bool.not_false, decide_true, decide_false, Int.reduceToNat, Int.cast_ofNat_Int, Int.reduceLT, Int.reduceLE, Int.reduceEq, Int.reduceNeg, eq_self, Option.isNone_some, Option.isNone_none, Bool.bne_false, Bool.bne_true]
  refine rmay_ rt.rr f ?_
  simp only [Dk.cut, Dk.cutR] at k
  try simp only [go_sem, ↓reduceIte, Nat.reduceEqDiff, Nat.reduceAdd, Nat.reduceLT, List.length_cons, List.length_nil, List.getElem?_cons_zero, List.getElem?_cons_succ, Nat.mul_one, Bool.true_eq_false, Bool.false_eq_true, false_implies, true_implies, Bool.not_true, Bool.not_false, decide_true, decide_false, Int.reduceToNat, Int.cast_ofNat_Int, Int.reduceLT, Int.reduceLE, Int.reduceEq, Int.reduceNeg, eq_self, Option.isNone_some, Option.isNone_none, Bool.bne_false, Bool.bne_true]
  refine ⟨fun hm => ?_, fun hm => ?_⟩
  · have hm : ¬ d.pre.may [f] = 0 := by simpa using hm
    simp only [if_pos hm] at k
    exact k _ rt
  · have hm : d.pre.may [f] = 0 := by simpa using hm
    have hne : ¬ (d.pre.may [f] ≠ 0) := fun h => h hm
    simp only [if_neg hne] at k
    obtain ⟨hd, g, rfl, hg⟩ := isF_of_may hm
    have hsz : d.pre.size (g : Int) = (d.pre.file g).length := by
      have : isF (g : Int) = true := by simp [isF]; omega
      simp [Dk.size, this]
    rw [hsz] at k
    unfold h75_1
    try simp only [go_sem, ↓reduceIte, Nat.reduceEqDiff, Nat.reduceAdd, Nat.reduceLT, List.length_cons, List.length_nil, List.getElem?_cons_zero, List.getElem?_cons_succ, Nat.mul_one, Bool.true_eq_false, Bool.false_eq_true, false_implies, true_implies, Bool.not_true, Bool.not_false, decide_true, decide_false, Int.reduceToNat, Int.cast_ofNat_Int, Int.reduceLT, Int.reduceLE, Int.reduceEq, Int.reduceNeg, eq_self, Option.isNone_some, Option.isNone_none, Bool.bne_false, Bool.bne_true]
    refine rread0_ rt.rr hg (by omega) ?_
    intro w2 m2
    have rt2 := rt.mod0 m2
    have ec : (if decide (n < 0) = true then true else decide (((d.pre.file g).length : Int) < n)) = decide (n < 0 ∨ ((d.pre.file g).length : Int) < n) := by
      by_cases h : n < 0 <;> simp [h]
    try simp only [go_sem, ↓reduceIte, Nat.reduceEqDiff, Nat.reduceAdd, Nat.reduceLT, List.length_cons, List.length_nil, List.getElem?_cons_zero, List.getElem?_cons_succ, Nat.mul_one, Bool.true_eq_false, Bool.false_eq_true, false_implies, true_implies, Bool.not_true, Bool.not_false, decide_true, decide_false, Int.reduceToNat, Int.cast_ofNat_Int, Int.reduceLT, Int.reduceLE, Int.reduceEq, Int.reduceNeg, eq_self, Option.isNone_some, Option.isNone_none, Bool.bne_false, Bool.bne_true, ec]
    refine ⟨fun hx => ?_, fun hx => ?_⟩
    · have hx : n < 0 ∨ ((d.pre.file g).length : Int) < n := by simpa using hx
      simp only [if_pos hx] at k
      exact k _ rt2
    · have hx : ¬ (n < 0 ∨ ((d.pre.file g).length : Int) < n) := by simpa using hx
      simp only [if_neg hx, Int.toNat_natCast] at k
      obtain ⟨b, rfl⟩ := Int.eq_ofNat_of_zero_le (show 0 ≤ n by omega)
      have rt2' := rt2.mod0 (Mod.drew none' w2)
      obtain ⟨lv, qv, kv, hb, hl, hq, hk, h1, h2, h3, c0, c1, c2, c3, c4, c5⟩ := rt2'.rr.parts
      obtain ⟨gg, c, rfl, x0⟩ := last_at hl
      have c0' : w2.cell? ⟨p, 0, none⟩ = _ := c0
      unfold h75_2
      try simp only [go_sem, ↓reduceIte, Nat.reduceEqDiff, Nat.reduceAdd, Nat.reduceLT, List.length_cons, List.length_nil, List.getElem?_cons_zero, List.getElem?_cons_succ, Nat.mul_one, Bool.true_eq_false, Bool.false_eq_true, false_implies, true_implies, Bool.not_true, Bool.not_false, decide_true, decide_false, Int.reduceToNat, Int.cast_ofNat_Int, Int.reduceLT, Int.reduceLE, Int.reduceEq, Int.reduceNeg, eq_self, Option.isNone_some, Option.isNone_none, Bool.bne_false, Bool.bne_true, c0']
      repeat refine ⟨⟨by omega, by omega⟩, ?_⟩
      have hgS := h1 gg rfl
      have hfl := file_le rt2'.rr.ok g
      refine last_st hl hg ((d.pre.file g).take b) ?_
      intro w3 hl3 m3
      try simp only [go_sem, ↓reduceIte, Nat.reduceEqDiff, Nat.reduceAdd, Nat.reduceLT, List.length_cons, List.length_nil, List.getElem?_cons_zero, List.getElem?_cons_succ, Nat.mul_one, Bool.true_eq_false, Bool.false_eq_true, false_implies, true_implies, Bool.not_true, Bool.not_false, decide_true, decide_false, Int.reduceToNat, Int.cast_ofNat_Int, Int.reduceLT, Int.reduceLE, Int.reduceEq, Int.reduceNeg, eq_self, Option.isNone_some, Option.isNone_none, Bool.bne_false, Bool.bne_true]
      refine settle_end (next := fun _ _ w' => next (.int .i64 0) w') (d' := d.pre.settle g ((d.pre.file g).take b)) rt2'.rr (m3.mono fun k _ (e : k = gg) => e ▸ hgS.1) (hb.mod m3 fun e => hgS.2.1 e.symm) hl3 (hq.mod m3 fun k hk (e : k = gg) => hgS.2.2.1 (e ▸ hk)) (hk.mod m3 fun k hk (e : k = gg) => hgS.2.2.2 (e ▸ hk)) (by omega)
        (rt2'.rr.ok.settle g (by rw [List.length_take]; omega)) (rt2'.rr.sync.settle rt2'.rr.ok hg _) rfl (fun k hk => ⟨.inl (h1 k hk).1, (h1 k hk).2.1⟩) (fun k hk => ⟨.inl (h3 k hk).1, (h3 k hk).2.1⟩) ?_
      intro w4 u4 v4 rt4
      exact k _ (rt2'.trans rt4)
end
end Go.Proofs.Y
