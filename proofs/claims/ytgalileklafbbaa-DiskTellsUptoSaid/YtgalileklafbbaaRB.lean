/- RB: the reference's disk in memory, and the walks of its small functions. -/
import Derived.Test.YtgalileklafbbaaRA
import Derived.Test.YtgalileklafbbaaDU
import Derived.Test.YtgalileklafbbaaYRef
import Derived.Test.YtgalileklafbbaaHLM
set_option linter.unusedSimpArgs false
set_option linter.unusedVariables false
set_option maxRecDepth 100000
namespace Go.Proofs.Y
open Go Go.HL Go.Proofs

structure RR (w : World) (p : Nat) (d : Dk) (S : Nat → Prop) : Prop where
  ok : d.OK
  sync : Sync d
  inv : ∃ lv qv kv, Blk w p 99 [lv, qv, .int .i64 d.lost, .bool d.down, .int .i64 d.armed, kv] ∧ Own w lv 9 1 12 (d.lasts.map str) ∧ Own w qv 118 3 d.queue.length (rows Pd.cells d.queue) ∧ Own w kv 3 1 d.keep.length (ints d.keep) ∧
    (∀ k, lv.ownBlock = some k → S k) ∧ (∀ k, qv.ownBlock = some k → S k) ∧ (∀ k, kv.ownBlock = some k → S k)
  self : S p
  lt : ∀ k, S k → k < w.heap.size

theorem RR.mod {w w' : World} {p : Nat} {d : Dk} {S T : Nat → Prop} (h : RR w p d S) (m : Mod T w w') (hd : ∀ k, S k → ¬ T k) : RR w' p d S := by
  obtain ⟨ok, sy, ⟨lv, qv, kv, hb, hl, hq, hk, h1, h2, h3⟩, hp, hlt⟩ := h
  exact ⟨ok, sy, ⟨lv, qv, kv, hb.mod m (hd _ hp), hl.mod m fun k hk => hd _ (h1 k hk), hq.mod m fun k hk => hd _ (h2 k hk), hk.mod m fun k hk => hd _ (h3 k hk), h1, h2, h3⟩, hp, fun k hk => Nat.lt_of_lt_of_le (hlt k hk) m.size⟩
theorem RR.mod0 {w w' : World} {p : Nat} {d : Dk} {S : Nat → Prop} (h : RR w p d S) (m : Mod none' w w') : RR w' p d S := h.mod m fun _ _ h => h

/-- a step that turned the reference's disk -/
def RT (S : Nat → Prop) (w w' : World) (p : Nat) (d : Dk) : Prop := ∃ S', RR w' p d S' ∧ (∀ k, S' k → S k ∨ w.heap.size ≤ k) ∧ Mod S w w'
noncomputable def RT.foot {S : Nat → Prop} {w w' : World} {p : Nat} {d : Dk} (h : RT S w w' p d) : Nat → Prop := Classical.choose h
theorem RT.rr {S : Nat → Prop} {w w' : World} {p : Nat} {d : Dk} (h : RT S w w' p d) : RR w' p d h.foot := (Classical.choose_spec h).1
theorem RT.footS {S : Nat → Prop} {w w' : World} {p : Nat} {d : Dk} (h : RT S w w' p d) : ∀ k, h.foot k → S k ∨ w.heap.size ≤ k := (Classical.choose_spec h).2.1
theorem RT.mod {S : Nat → Prop} {w w' : World} {p : Nat} {d : Dk} (h : RT S w w' p d) : Mod S w w' := (Classical.choose_spec h).2.2
theorem RT.of {S : Nat → Prop} {w w' : World} {p : Nat} {d : Dk} (h : RR w' p d S) (m : Mod S w w') : RT S w w' p d := ⟨S, h, fun _ h => .inl h, m⟩
theorem RT.refl {S : Nat → Prop} {w : World} {p : Nat} {d : Dk} (h : RR w p d S) : RT S w w p d := .of h (Mod.refl _ _)
theorem RT.trans {S : Nat → Prop} {w w1 w2 : World} {p : Nat} {d d' : Dk} (h : RT S w w1 p d) (h' : RT h.foot w1 w2 p d') : RT S w w2 p d' := by
  have m1 := h.mod.size
  refine ⟨h'.foot, h'.rr, fun k hk => ?_, h.mod.trans h'.mod fun i hi hg => ?_⟩
  · rcases h'.footS k hk with hk | hk
    · exact h.footS k hk
    · exact .inr (by omega)
  · rcases h.footS i hg with hg | hg
    · exact hg
    · omega
theorem RT.mod0 {S : Nat → Prop} {w w1 w2 : World} {p : Nat} {d : Dk} (h : RT S w w1 p d) (m : Mod none' w1 w2) : RT S w w2 p d :=
  h.trans (.of (h.rr.mod0 m) (m.mono fun _ _ h => h.elim))
theorem RT.after {S : Nat → Prop} {w w0 w' : World} {p : Nat} {d : Dk} (m : Mod none' w w0) (h : RT S w0 w' p d) : RT S w w' p d := by
  have hs := m.size
  exact ⟨h.foot, h.rr, fun k hk => (h.footS k hk).imp id fun h => by omega, (m.mono (T := S) fun _ _ h => h.elim).trans h.mod fun _ _ h => h⟩

theorem RR.parts {w : World} {p : Nat} {d : Dk} {S : Nat → Prop} (h : RR w p d S) : ∃ lv qv kv, Blk w p 99 [lv, qv, .int .i64 d.lost, .bool d.down, .int .i64 d.armed, kv] ∧ Own w lv 9 1 12 (d.lasts.map str) ∧ Own w qv 118 3 d.queue.length (rows Pd.cells d.queue) ∧ Own w kv 3 1 d.keep.length (ints d.keep) ∧
    (∀ k, lv.ownBlock = some k → S k ∧ k ≠ p ∧ qv.ownBlock ≠ some k ∧ kv.ownBlock ≠ some k) ∧ (∀ k, qv.ownBlock = some k → S k ∧ k ≠ p ∧ lv.ownBlock ≠ some k ∧ kv.ownBlock ≠ some k) ∧ (∀ k, kv.ownBlock = some k → S k ∧ k ≠ p ∧ lv.ownBlock ≠ some k ∧ qv.ownBlock ≠ some k) ∧
    w.cell? ⟨p, 0, none⟩ = some lv ∧ w.cell? ⟨p, 1, none⟩ = some qv ∧ w.cell? ⟨p, 2, none⟩ = some (.int .i64 d.lost) ∧ w.cell? ⟨p, 3, none⟩ = some (.bool d.down) ∧ w.cell? ⟨p, 4, none⟩ = some (.int .i64 d.armed) ∧ w.cell? ⟨p, 5, none⟩ = some kv := by
  obtain ⟨ok, sy, ⟨lv, qv, kv, hb, hl, hq, hk, h1, h2, h3⟩, hp, hlt⟩ := h
  refine ⟨lv, qv, kv, hb, hl, hq, hk, fun k hk' => ⟨h1 k hk', ?_, own_ne hl hq (by decide) hk', own_ne hl hk (by decide) hk'⟩, fun k hk' => ⟨h2 k hk', ?_, own_ne hq hl (by decide) hk', own_ne hq hk (by decide) hk'⟩,
    fun k hk' => ⟨h3 k hk', ?_, own_ne hk hl (by decide) hk', own_ne hk hq (by decide) hk'⟩, hb.cell 0, hb.cell 1, hb.cell 2, hb.cell 3, hb.cell 4, hb.cell 5⟩
  · rintro rfl; exact own_neb hl hb (by decide) hk'
  · rintro rfl; exact own_neb hq hb (by decide) hk'
  · rintro rfl; exact own_neb hk hb (by decide) hk'

theorem lay_one {α : Type} (z x : List α) (o : Nat) (b : α) (h : o + x.length < z.length) : lay z o (x ++ [b]) = (lay z o x).set (o + x.length) b := by
  unfold lay
  have h1 : (z.take o ++ x).length = o + x.length := by simp; omega
  rw [List.set_append_right _ _ (by omega)]
  have h2 : o + x.length - (z.take o ++ x).length = 0 := by omega
  rw [h2, List.drop_eq_getElem_cons h, List.set_cons_zero]
  simp [Nat.add_assoc]

/-- the disk again, its own block alone written -/
theorem RR.again {w w' : World} {p : Nat} {d d' : Dk} {S : Nat → Prop} {lv qv kv : Value} (h : RR w p d S) (m : Mod (fun k => k = p) w w') (ok : d'.OK) (sy : Sync d') (hb : Blk w' p 99 [lv, qv, .int .i64 d'.lost, .bool d'.down, .int .i64 d'.armed, kv])
    (hl : Own w lv 9 1 12 (d'.lasts.map str)) (hq : Own w qv 118 3 d'.queue.length (rows Pd.cells d'.queue)) (hk : Own w kv 3 1 d'.keep.length (ints d'.keep))
    (h1 : ∀ k, lv.ownBlock = some k → S k ∧ k ≠ p) (h2 : ∀ k, qv.ownBlock = some k → S k ∧ k ≠ p) (h3 : ∀ k, kv.ownBlock = some k → S k ∧ k ≠ p) : RR w' p d' S :=
  ⟨ok, sy, ⟨lv, qv, kv, hb, hl.mod m fun k hk => (h1 k hk).2, hq.mod m fun k hk => (h2 k hk).2, hk.mod m fun k hk => (h3 k hk).2, fun k hk => (h1 k hk).1, fun k hk => (h2 k hk).1, fun k hk => (h3 k hk).1⟩, h.self, fun k hk => Nat.lt_of_lt_of_le (h.lt k hk) m.size⟩

theorem u36 : Try.prog.underlying 36 = some (.slice 5) := by kernel_rfl
theorem u9 : Try.prog.underlying 9 = some .string := by kernel_rfl
theorem u5 : Try.prog.underlying 5 = some (.int .u8) := by kernel_rfl
theorem sz5 : szOf Try.prog 5 = some 1 := by kernel_rfl

section
variable {w : World} {next : Value → World → Prop} {QP : List PanicEntry → World → Prop}

theorem rput_ (s t : Bytes) (o : Nat) (h1 : s.length ≤ 16777216) (h2 : o + t.length ≤ 16777216) (k : ∀ w', Mod none' w w' → next (str (put s o t)) w') :
    callvK Try.prog (.func (.func 105) #[] #[]) [str s, .int .i64 o, str t] w next QP := by
  refine r105 rfl ?_
  unfold h105
  try simp only [go_sem, ↓reduceIte, Nat.reduceEqDiff, Nat.reduceAdd, Nat.reduceLT, List.length_cons, List.length_nil, List.getElem?_cons_zero, List.getElem?_cons_succ, Nat.mul_one, Bool.true_eq_false, Bool.false_eq_true, false_implies, true_implies, Bool.not_true, Bool.not_false, decide_true, decide_false, Int.reduceToNat, Int.cast_ofNat_Int, Int.reduceLT, Int.reduceLE, Int.reduceEq, Int.reduceNeg, eq_self, Option.isNone_some, Option.isNone_none, Bool.bne_false, Bool.bne_true]
  refine s2b u9 u36 u5 (by unfold maxLen; omega) ?_
  intro b0 c0 w1 hb0 own1 m1 _
  try simp only [go_sem, ↓reduceIte, Nat.reduceEqDiff, Nat.reduceAdd, Nat.reduceLT, List.length_cons, List.length_nil, List.getElem?_cons_zero, List.getElem?_cons_succ, Nat.mul_one, Bool.true_eq_false, Bool.false_eq_true, false_implies, true_implies, Bool.not_true, Bool.not_false, decide_true, decide_false, Int.reduceToNat, Int.cast_ofNat_Int, Int.reduceLT, Int.reduceLE, Int.reduceEq, Int.reduceNeg, eq_self, Option.isNone_some, Option.isNone_none, Bool.bne_false, Bool.bne_true]
  refine loopN (max s.length (o + t.length)) (fun i τ w' => s.length ≤ i ∧ τ 0 = str s ∧ τ 1 = .int .i64 o ∧ τ 2 = str t ∧ Mod none' w w' ∧ ∃ v, τ 7 = v ∧ Own w' v 5 1 i (bys (s ++ List.replicate (i - s.length) 0)) ∧ (∀ k, v.ownBlock = some k → w.heap.size ≤ k))
    ⟨s.length, by omega, Nat.le_refl _, rfl, rfl, rfl, m1, .slice (some ⟨b0, 0, none⟩) s.length c0, rfl, by simpa using own1, fun k hk => by simp [Value.ownBlock] at hk; omega⟩ ?_
  rintro i τ w2 hi ⟨hsi, t0, t1, t2, m2, v, t7, own2, hv⟩
  obtain ⟨va, vc, rfl, hvc, -⟩ := own2.form
  unfold h105_1
  try simp only [go_sem, ↓reduceIte, Nat.reduceEqDiff, Nat.reduceAdd, Nat.reduceLT, List.length_cons, List.length_nil, List.getElem?_cons_zero, List.getElem?_cons_succ, Nat.mul_one, Bool.true_eq_false, Bool.false_eq_true, false_implies, true_implies, Bool.not_true, Bool.not_false, decide_true, decide_false, Int.reduceToNat, Int.cast_ofNat_Int, Int.reduceLT, Int.reduceLE, Int.reduceEq, Int.reduceNeg, eq_self, Option.isNone_some, Option.isNone_none, Bool.bne_false, Bool.bne_true, t0, t1, t2, t7]
  rw [w64 (by omega) (by omega)]
  refine ⟨fun hlt => ?_, fun hge => ?_⟩
  · have hlt : i < o + t.length := by have : (i : Int) < o + t.length := by simpa using hlt
                                      omega
    unfold h105_2
    try simp only [go_sem, ↓reduceIte, Nat.reduceEqDiff, Nat.reduceAdd, Nat.reduceLT, List.length_cons, List.length_nil, List.getElem?_cons_zero, List.getElem?_cons_succ, Nat.mul_one, Bool.true_eq_false, Bool.false_eq_true, false_implies, true_implies, Bool.not_true, Bool.not_false, decide_true, decide_false, Int.reduceToNat, Int.cast_ofNat_Int, Int.reduceLT, Int.reduceLE, Int.reduceEq, Int.reduceNeg, eq_self, Option.isNone_some, Option.isNone_none, Bool.bne_false, Bool.bne_true, t0, t1, t2, t7]
    refine bsl1 sl36 (cs := [.int .u8 0]) rfl rfl (by omega) ?_
    intro b3 w3 hb3 own3 _ m3 _
    refine append_ sl36 (own2.mod m3 fun _ _ h => h) own3.sl (by simp; rfl) (by omega) (by unfold maxLen; omega) ?_
    intro v4 w4 own4 m4 hb4 _
    try simp only [go_sem, ↓reduceIte, Nat.reduceEqDiff, Nat.reduceAdd, Nat.reduceLT, List.length_cons, List.length_nil, List.getElem?_cons_zero, List.getElem?_cons_succ, Nat.mul_one, Bool.true_eq_false, Bool.false_eq_true, false_implies, true_implies, Bool.not_true, Bool.not_false, decide_true, decide_false, Int.reduceToNat, Int.cast_ofNat_Int, Int.reduceLT, Int.reduceLE, Int.reduceEq, Int.reduceNeg, eq_self, Option.isNone_some, Option.isNone_none, Bool.bne_false, Bool.bne_true, t0, t1, t2, t7]
    refine ⟨i + 1, by omega, by omega, by omega, (m2.trans' m3).trans m4 fun k hk hS => ?_, v4, rfl, ?_, ?_⟩
    · have := hv k hS; omega
    · have : bys (s ++ List.replicate (i + 1 - s.length) 0) = bys (s ++ List.replicate (i - s.length) 0) ++ [.int .u8 0] := by
        rw [show i + 1 - s.length = (i - s.length) + 1 by omega, List.replicate_succ', ← List.append_assoc]
        simp [bys]
      rw [this]; exact own4
    · intro k hk
      rcases hb4 k hk with h | h
      · exact hv k h
      · have := m2.size; have := m3.size; omega
  · have hge : ¬ (i : Int) < o + t.length := by simpa using hge
    have hio : i = max s.length (o + t.length) := by omega
    unfold h105_3
    try simp only [go_sem, ↓reduceIte, Nat.reduceEqDiff, Nat.reduceAdd, Nat.reduceLT, List.length_cons, List.length_nil, List.getElem?_cons_zero, List.getElem?_cons_succ, Nat.mul_one, Bool.true_eq_false, Bool.false_eq_true, false_implies, true_implies, Bool.not_true, Bool.not_false, decide_true, decide_false, Int.reduceToNat, Int.cast_ofNat_Int, Int.reduceLT, Int.reduceLE, Int.reduceEq, Int.reduceNeg, eq_self, Option.isNone_some, Option.isNone_none, Bool.bne_false, Bool.bne_true, t0, t1, t2, t7]
    subst hio
    generalize hz : s ++ List.replicate (max s.length (o + t.length) - s.length) (0 : UInt8) = z at own2
    have hzl : z.length = max s.length (o + t.length) := by rw [← hz]; simp; omega
    refine loopN t.length (fun j τ w' => τ 1 = .int .i64 o ∧ τ 2 = str t ∧ τ 7 = .slice va (max s.length (o + t.length)) vc ∧ τ 8 = .int .i64 j ∧ Mod none' w w' ∧ Own w' (.slice va (max s.length (o + t.length)) vc) 5 1 (max s.length (o + t.length)) (bys (lay z o (t.take j))))
      ⟨0, by omega, t1, t2, t7, rfl, m2, by rw [List.take_zero, lay_nil]; exact own2⟩ ?_
    rintro j τ w3 hj ⟨t1, t2, t7, t8, m3, own3⟩
    unfold h105_4
    try simp only [go_sem, ↓reduceIte, Nat.reduceEqDiff, Nat.reduceAdd, Nat.reduceLT, List.length_cons, List.length_nil, List.getElem?_cons_zero, List.getElem?_cons_succ, Nat.mul_one, Bool.true_eq_false, Bool.false_eq_true, false_implies, true_implies, Bool.not_true, Bool.not_false, decide_true, decide_false, Int.reduceToNat, Int.cast_ofNat_Int, Int.reduceLT, Int.reduceLE, Int.reduceEq, Int.reduceNeg, eq_self, Option.isNone_some, Option.isNone_none, Bool.bne_false, Bool.bne_true, t1, t2, t7, t8]
    refine ⟨fun hlt => ?_, fun hge2 => ?_⟩
    · have hjl : j < t.length := by have : (j : Int) < t.length := by simpa using hlt
                                    omega
      rcases own3.blk with ⟨-, h0, -⟩ | ⟨g, c, rest, e, hb, hr, hc, hm⟩
      · omega
      simp only [Value.slice.injEq] at e
      obtain ⟨rfl, -, rfl⟩ := e
      have hll : (lay z o (t.take j)).length = z.length := lay_len (by rw [List.length_take]; omega)
      unfold h105_5
      try simp only [go_sem, ↓reduceIte, Nat.reduceEqDiff, Nat.reduceAdd, Nat.reduceLT, List.length_cons, List.length_nil, List.getElem?_cons_zero, List.getElem?_cons_succ, Nat.mul_one, Bool.true_eq_false, Bool.false_eq_true, false_implies, true_implies, Bool.not_true, Bool.not_false, decide_true, decide_false, Int.reduceToNat, Int.cast_ofNat_Int, Int.reduceLT, Int.reduceLE, Int.reduceEq, Int.reduceNeg, eq_self, Option.isNone_some, Option.isNone_none, Bool.bne_false, Bool.bne_true, t1, t2, t7, t8]
      rw [w64 (by omega) (by omega)]
      refine ⟨⟨by omega, by omega⟩, ⟨by omega, by omega⟩, ?_⟩
      have e1 : ((o : Int) + (j : Int)).toNat = o + j := by omega
      simp only [e1]
      have hgv : w.heap.size ≤ g := hv g rfl
      refine store1 sz5 hb (by rw [List.length_append, bys_len, hll]; omega) rfl ?_
      intro w4 hb4 m4 hsz4
      unfold h105_6
      try simp only [go_sem, ↓reduceIte, Nat.reduceEqDiff, Nat.reduceAdd, Nat.reduceLT, List.length_cons, List.length_nil, List.getElem?_cons_zero, List.getElem?_cons_succ, Nat.mul_one, Bool.true_eq_false, Bool.false_eq_true, false_implies, true_implies, Bool.not_true, Bool.not_false, decide_true, decide_false, Int.reduceToNat, Int.cast_ofNat_Int, Int.reduceLT, Int.reduceLE, Int.reduceEq, Int.reduceNeg, eq_self, Option.isNone_some, Option.isNone_none, Bool.bne_false, Bool.bne_true, t1, t2, t7, t8]
      rw [w64 (by omega) (by omega)]
      refine ⟨j + 1, by omega, by omega, rfl, m3.trans m4 fun k hk (e : k = g) => by omega, ?_⟩
      have e2 : t.take (j + 1) = t.take j ++ [t[j]] := by rw [List.take_succ_eq_append_getElem hjl]
      have e3 : lay z o (t.take (j + 1)) = (lay z o (t.take j)).set (o + j) t[j] := by
        rw [e2, lay_one z _ o _ (by rw [List.length_take]; omega), List.length_take, Nat.min_eq_left (by omega)]
      have e4 : bys (lay z o (t.take (j + 1))) ++ rest = (bys (lay z o (t.take j)) ++ rest).set (o + j) (.int .u8 (t[j]).toNat) := by
        rw [e3, List.set_append_left _ _ (by rw [bys_len, hll]; omega)]
        simp [bys, List.map_set]
      refine Own.of_blk (by rw [bys_len, lay_len (by rw [List.length_take]; omega)]; omega) (rest := rest) ?_ hr hc hm
      rw [e4]
      simpa [hjl] using hb4
    · have hjo : j = t.length := by have : ¬ (j : Int) < t.length := by simpa using hge2
                                    omega
      subst hjo
      rw [List.take_length] at own3
      unfold h105_7
      try simp only [go_sem, ↓reduceIte, Nat.reduceEqDiff, Nat.reduceAdd, Nat.reduceLT, List.length_cons, List.length_nil, List.getElem?_cons_zero, List.getElem?_cons_succ, Nat.mul_one, Bool.true_eq_false, Bool.false_eq_true, false_implies, true_implies, Bool.not_true, Bool.not_false, decide_true, decide_false, Int.reduceToNat, Int.cast_ofNat_Int, Int.reduceLT, Int.reduceLE, Int.reduceEq, Int.reduceNeg, eq_self, Option.isNone_some, Option.isNone_none, Bool.bne_false, Bool.bne_true, t1, t2, t7, t8]
      refine b2s u36 u9 u5 own3.sl ?_
      try simp only [go_sem, ↓reduceIte, Nat.reduceEqDiff, Nat.reduceAdd, Nat.reduceLT, List.length_cons, List.length_nil, List.getElem?_cons_zero, List.getElem?_cons_succ, Nat.mul_one, Bool.true_eq_false, Bool.false_eq_true, false_implies, true_implies, Bool.not_true, Bool.not_false, decide_true, decide_false, Int.reduceToNat, Int.cast_ofNat_Int, Int.reduceLT, Int.reduceLE, Int.reduceEq, Int.reduceNeg, eq_self, Option.isNone_some, Option.isNone_none, Bool.bne_false, Bool.bne_true, t1, t2, t7, t8]
      have : put s o t = lay z o t := by rw [← hz]; rfl
      rw [← this]
      exact k _ m3
end
end Go.Proofs.Y
