/- RB: the reference's disk in memory, and the walks of its small functions. -/
import Derived.Test.YtgalileklafbbaaDD
import Derived.Test.YtgalileklafbbaaJC
import Derived.Test.YtgalileklafbbaaDU
import Derived.Test.YtgalileklafbbaaYRef
import Derived.Test.YtgalileklafbbaaHLT
import Derived.SliceStrings
import Derived.ChangeSlices
import Derived.WideShapes
import Derived.Deep.Slices
set_option linter.unusedSimpArgs false
set_option linter.unusedVariables false
set_option maxRecDepth 100000
namespace Go.Proofs.Y
open Go Go.HL Go.Proofs

structure RR (w : World) (p : Nat) (d : Dk) (S : Nat → Prop) : Prop where
  ok : d.OK
  sync : Sync d
  inv : ∃ lv qv kv, Blk w p 99 [lv, qv, .int .i64 d.lost, .bool d.down, .int .i64 d.armed, kv] ∧ Own w lv 9 1 12 (d.lasts.map str) ∧ Own w qv 118 3 d.queue.length (rows Pd.cells d.queue) ∧ Own w kv 3 1 d.keep.length (ints d.keep) ∧
    (∀ k, lv.ownBlock = some k → S k) ∧ (∀ k, qv.ownBlock = some k → S k) ∧ (∀ k, kv.ownBlock = some k → S k)
  self : S p
  lt : ∀ k, S k → k < w.heap.size

theorem RR.mod {w w' : World} {p : Nat} {d : Dk} {S T : Nat → Prop} (h : RR w p d S) (m : Mod T w w') (hd : ∀ k, S k → ¬ T k) : RR w' p d S := by
  obtain ⟨ok, sy, ⟨lv, qv, kv, hb, hl, hq, hk, h1, h2, h3⟩, hp, hlt⟩ := h
  exact ⟨ok, sy, ⟨lv, qv, kv, hb.mod m (hd _ hp), hl.mod m fun k hk => hd _ (h1 k hk), hq.mod m fun k hk => hd _ (h2 k hk), hk.mod m fun k hk => hd _ (h3 k hk), h1, h2, h3⟩, hp, fun k hk => Nat.lt_of_lt_of_le (hlt k hk) m.size⟩
theorem RR.mod0 {w w' : World} {p : Nat} {d : Dk} {S : Nat → Prop} (h : RR w p d S) (m : Mod none' w w') : RR w' p d S := h.mod m fun _ _ h => h

/-- a step that turned the reference's disk -/
def RT (S : Nat → Prop) (w w' : World) (p : Nat) (d : Dk) : Prop := ∃ S', RR w' p d S' ∧ (∀ k, S' k → S k ∨ w.heap.size ≤ k) ∧ Mod S w w'
noncomputable def RT.foot {S : Nat → Prop} {w w' : World} {p : Nat} {d : Dk} (h : RT S w w' p d) : Nat → Prop := Classical.choose h
theorem RT.rr {S : Nat → Prop} {w w' : World} {p : Nat} {d : Dk} (h : RT S w w' p d) : RR w' p d h.foot := (Classical.choose_spec h).1
theorem RT.footS {S : Nat → Prop} {w w' : World} {p : Nat} {d : Dk} (h : RT S w w' p d) : ∀ k, h.foot k → S k ∨ w.heap.size ≤ k := (Classical.choose_spec h).2.1
theorem RT.mod {S : Nat → Prop} {w w' : World} {p : Nat} {d : Dk} (h : RT S w w' p d) : Mod S w w' := (Classical.choose_spec h).2.2
theorem RT.of {S : Nat → Prop} {w w' : World} {p : Nat} {d : Dk} (h : RR w' p d S) (m : Mod S w w') : RT S w w' p d := ⟨S, h, fun _ h => .inl h, m⟩
theorem RT.refl {S : Nat → Prop} {w : World} {p : Nat} {d : Dk} (h : RR w p d S) : RT S w w p d := .of h (Mod.refl _ _)
theorem RT.trans {S : Nat → Prop} {w w1 w2 : World} {p : Nat} {d d' : Dk} (h : RT S w w1 p d) (h' : RT h.foot w1 w2 p d') : RT S w w2 p d' := by
  have m1 := h.mod.size
  refine ⟨h'.foot, h'.rr, fun k hk => ?_, h.mod.trans h'.mod fun i hi hg => ?_⟩
  · rcases h'.footS k hk with hk | hk
    · exact h.footS k hk
    · exact .inr (by omega)
  · rcases h.footS i hg with hg | hg
    · exact hg
    · omega
theorem RT.mod0 {S : Nat → Prop} {w w1 w2 : World} {p : Nat} {d : Dk} (h : RT S w w1 p d) (m : Mod none' w1 w2) : RT S w w2 p d :=
  h.trans (.of (h.rr.mod0 m) (m.mono fun _ _ h => h.elim))
theorem RT.after {S : Nat → Prop} {w w0 w' : World} {p : Nat} {d : Dk} (m : Mod none' w w0) (h : RT S w0 w' p d) : RT S w w' p d := by
  have hs := m.size
  exact ⟨h.foot, h.rr, fun k hk => (h.footS k hk).imp id fun h => by omega, (m.mono (T := S) fun _ _ h => h.elim).trans h.mod fun _ _ h => h⟩

theorem RR.parts {w : World} {p : Nat} {d : Dk} {S : Nat → Prop} (h : RR w p d S) : ∃ lv qv kv, Blk w p 99 [lv, qv, .int .i64 d.lost, .bool d.down, .int .i64 d.armed, kv] ∧ Own w lv 9 1 12 (d.lasts.map str) ∧ Own w qv 118 3 d.queue.length (rows Pd.cells d.queue) ∧ Own w kv 3 1 d.keep.length (ints d.keep) ∧
    (∀ k, lv.ownBlock = some k → S k ∧ k ≠ p ∧ qv.ownBlock ≠ some k ∧ kv.ownBlock ≠ some k) ∧ (∀ k, qv.ownBlock = some k → S k ∧ k ≠ p ∧ lv.ownBlock ≠ some k ∧ kv.ownBlock ≠ some k) ∧ (∀ k, kv.ownBlock = some k → S k ∧ k ≠ p ∧ lv.ownBlock ≠ some k ∧ qv.ownBlock ≠ some k) ∧
    w.cell? ⟨p, 0, none⟩ = some lv ∧ w.cell? ⟨p, 1, none⟩ = some qv ∧ w.cell? ⟨p, 2, none⟩ = some (.int .i64 d.lost) ∧ w.cell? ⟨p, 3, none⟩ = some (.bool d.down) ∧ w.cell? ⟨p, 4, none⟩ = some (.int .i64 d.armed) ∧ w.cell? ⟨p, 5, none⟩ = some kv := by
  obtain ⟨ok, sy, ⟨lv, qv, kv, hb, hl, hq, hk, h1, h2, h3⟩, hp, hlt⟩ := h
  refine ⟨lv, qv, kv, hb, hl, hq, hk, fun k hk' => ⟨h1 k hk', ?_, own_ne hl hq (by decide) hk', own_ne hl hk (by decide) hk'⟩, fun k hk' => ⟨h2 k hk', ?_, own_ne hq hl (by decide) hk', own_ne hq hk (by decide) hk'⟩,
    fun k hk' => ⟨h3 k hk', ?_, own_ne hk hl (by decide) hk', own_ne hk hq (by decide) hk'⟩, hb.cell 0, hb.cell 1, hb.cell 2, hb.cell 3, hb.cell 4, hb.cell 5⟩
  · rintro rfl; exact own_neb hl hb (by decide) hk'
  · rintro rfl; exact own_neb hq hb (by decide) hk'
  · rintro rfl; exact own_neb hk hb (by decide) hk'

theorem lay_one {α : Type} (z x : List α) (o : Nat) (b : α) (h : o + x.length < z.length) : lay z o (x ++ [b]) = (lay z o x).set (o + x.length) b := by
  unfold lay
  have h1 : (z.take o ++ x).length = o + x.length := by simp; omega
  rw [List.set_append_right _ _ (by omega)]
  have h2 : o + x.length - (z.take o ++ x).length = 0 := by omega
  rw [h2, List.drop_eq_getElem_cons h, List.set_cons_zero]
  simp [Nat.add_assoc]

/-- the disk again, its own block alone written -/
theorem RR.again {w w' : World} {p : Nat} {d d' : Dk} {S : Nat → Prop} {lv qv kv : Value} (h : RR w p d S) (m : Mod (fun k => k = p) w w') (ok : d'.OK) (sy : Sync d') (hb : Blk w' p 99 [lv, qv, .int .i64 d'.lost, .bool d'.down, .int .i64 d'.armed, kv])
    (hl : Own w lv 9 1 12 (d'.lasts.map str)) (hq : Own w qv 118 3 d'.queue.length (rows Pd.cells d'.queue)) (hk : Own w kv 3 1 d'.keep.length (ints d'.keep))
    (h1 : ∀ k, lv.ownBlock = some k → S k ∧ k ≠ p) (h2 : ∀ k, qv.ownBlock = some k → S k ∧ k ≠ p) (h3 : ∀ k, kv.ownBlock = some k → S k ∧ k ≠ p) : RR w' p d' S :=
  ⟨ok, sy, ⟨lv, qv, kv, hb, hl.mod m fun k hk => (h1 k hk).2, hq.mod m fun k hk => (h2 k hk).2, hk.mod m fun k hk => (h3 k hk).2, fun k hk => (h1 k hk).1, fun k hk => (h2 k hk).1, fun k hk => (h3 k hk).1⟩, h.self, fun k hk => Nat.lt_of_lt_of_le (h.lt k hk) m.size⟩


section
variable {w : World} {next : Value → World → Prop} {QP : List PanicEntry → World → Prop}

theorem rput_ (s t : Bytes) (o : Nat) (h1 : s.length ≤ 16777216) (h2 : o + t.length ≤ 16777216) (k : ∀ w', Mod none' w w' → next (str (put s o t)) w') :
    callvK Try.prog (.func (.func 105) #[] #[]) [str s, .int .i64 o, str t] w next QP := by
  refine r105 rfl ?_
  unfold h105
  try simp only [go_sem]
  refine s2b u9 u36 u5 (by unfold maxLen; omega) ?_
  intro b0 c0 w1 hb0 own1 m1 _
  try simp only [go_sem]
  refine loopN (max s.length (o + t.length)) (fun i τ w' => s.length ≤ i ∧ τ 0 = str s ∧ τ 1 = .int .i64 o ∧ τ 2 = str t ∧ Mod none' w w' ∧ ∃ v, τ 7 = v ∧ Own w' v 5 1 i (bys (s ++ List.replicate (i - s.length) 0)) ∧ (∀ k, v.ownBlock = some k → w.heap.size ≤ k))
    ⟨s.length, by omega, Nat.le_refl _, rfl, rfl, rfl, m1, .slice (some ⟨b0, 0, none⟩) s.length c0, rfl, by simpa using own1, fun k hk => by simp [Value.ownBlock] at hk; omega⟩ ?_
  rintro i τ w2 hi ⟨hsi, t0, t1, t2, m2, v, t7, own2, hv⟩
  obtain ⟨va, vc, rfl, hvc, -⟩ := own2.form
  unfold h105_1
  try simp only [go_sem, t0, t1, t2, t7]
  rw [w64 (by omega) (by omega)]
  refine ⟨fun hlt => ?_, fun hge => ?_⟩
  · have hlt : i < o + t.length := by have : (i : Int) < o + t.length := by simpa using hlt
                                      omega
    unfold h105_2
    try simp only [go_sem, t0, t1, t2, t7]
    refine bsl1 sl36 (cs := [.int .u8 0]) rfl rfl (by omega) ?_
    intro b3 w3 hb3 own3 _ m3 _
    refine append_ sl36 (own2.mod m3 fun _ _ h => h) own3.sl (by simp; rfl) (by omega) (by unfold maxLen; omega) ?_
    intro v4 w4 own4 m4 hb4 _
    try simp only [go_sem, t0, t1, t2, t7]
    refine ⟨i + 1, by omega, by omega, by omega, (m2.trans' m3).trans m4 fun k hk hS => ?_, v4, rfl, ?_, ?_⟩
    · have := hv k hS; omega
    · have : bys (s ++ List.replicate (i + 1 - s.length) 0) = bys (s ++ List.replicate (i - s.length) 0) ++ [.int .u8 0] := by
        rw [show i + 1 - s.length = (i - s.length) + 1 by omega, List.replicate_succ', ← List.append_assoc]
        simp [bys]
      rw [this]; exact own4
    · intro k hk
      rcases hb4 k hk with h | h
      · exact hv k h
      · have := m2.size; have := m3.size; omega
  · have hge : ¬ (i : Int) < o + t.length := by simpa using hge
    have hio : i = max s.length (o + t.length) := by omega
    unfold h105_3
    try simp only [go_sem, t0, t1, t2, t7]
    subst hio
    generalize hz : s ++ List.replicate (max s.length (o + t.length) - s.length) (0 : UInt8) = z at own2
    have hzl : z.length = max s.length (o + t.length) := by rw [← hz]; simp; omega
    refine loopN t.length (fun j τ w' => τ 1 = .int .i64 o ∧ τ 2 = str t ∧ τ 7 = .slice va (max s.length (o + t.length)) vc ∧ τ 8 = .int .i64 j ∧ Mod none' w w' ∧ Own w' (.slice va (max s.length (o + t.length)) vc) 5 1 (max s.length (o + t.length)) (bys (lay z o (t.take j))))
      ⟨0, by omega, t1, t2, t7, rfl, m2, by rw [List.take_zero, lay_nil]; exact own2⟩ ?_
    rintro j τ w3 hj ⟨t1, t2, t7, t8, m3, own3⟩
    unfold h105_4
    try simp only [go_sem, t1, t2, t7, t8]
    refine ⟨fun hlt => ?_, fun hge2 => ?_⟩
    · have hjl : j < t.length := by have : (j : Int) < t.length := by simpa using hlt
                                    omega
      rcases own3.blk with ⟨-, h0, -⟩ | ⟨g, c, rest, e, hb, hr, hc, hm⟩
      · omega
      simp only [Value.slice.injEq] at e
      obtain ⟨rfl, -, rfl⟩ := e
      have hll : (lay z o (t.take j)).length = z.length := lay_len (by rw [List.length_take]; omega)
      unfold h105_5
      try simp only [go_sem, t1, t2, t7, t8]
      rw [w64 (by omega) (by omega)]
      refine ⟨⟨by omega, by omega⟩, ⟨by omega, by omega⟩, ?_⟩
      have e1 : ((o : Int) + (j : Int)).toNat = o + j := by omega
      simp only [e1]
      have hgv : w.heap.size ≤ g := hv g rfl
      refine store1 sz5 hb (by rw [List.length_append, bys_len, hll]; omega) rfl ?_
      intro w4 hb4 m4 hsz4
      unfold h105_6
      try simp only [go_sem, t1, t2, t7, t8]
      rw [w64 (by omega) (by omega)]
      refine ⟨j + 1, by omega, by omega, rfl, m3.trans m4 fun k hk (e : k = g) => by omega, ?_⟩
      have e2 : t.take (j + 1) = t.take j ++ [t[j]] := by rw [List.take_succ_eq_append_getElem hjl]
      have e3 : lay z o (t.take (j + 1)) = (lay z o (t.take j)).set (o + j) t[j] := by
        rw [e2, lay_one z _ o _ (by rw [List.length_take]; omega), List.length_take, Nat.min_eq_left (by omega)]
      have e4 : bys (lay z o (t.take (j + 1))) ++ rest = (bys (lay z o (t.take j)) ++ rest).set (o + j) (.int .u8 (t[j]).toNat) := by
        rw [e3, List.set_append_left _ _ (by rw [bys_len, hll]; omega)]
        simp [bys, List.map_set]
      refine Own.of_blk (by rw [bys_len, lay_len (by rw [List.length_take]; omega)]; omega) (rest := rest) ?_ hr hc hm
      rw [e4]
      simpa [hjl] using hb4
    · have hjo : j = t.length := by have : ¬ (j : Int) < t.length := by simpa using hge2
                                    omega
      subst hjo
      rw [List.take_length] at own3
      unfold h105_7
      try simp only [go_sem, t1, t2, t7, t8]
      refine b2s u36 u9 u5 own3.sl ?_
      try simp only [go_sem, t1, t2, t7, t8]
      have : put s o t = lay z o t := by rw [← hz]; rfl
      rw [← this]
      exact k _ m3
end
end Go.Proofs.Y

/- RC: the reference's disk: small functions. -/
namespace Go.Proofs.Y
open Go Go.HL Go.Proofs
theorem sl118 : SlTy Try.prog 97 118 3 32 (.agg #[.int .i64 0, .int .i64 0, str []]) := ⟨by kernel_rfl, by kernel_rfl, rfl, by decide⟩
theorem sz97 : szOf Try.prog 97 = some 1 := by kernel_rfl
theorem sz118 : szOf Try.prog 118 = some 3 := by kernel_rfl

section
variable {w : World} {next : Value → World → Prop} {QP : List PanicEntry → World → Prop} {p : Nat} {d : Dk} {S : Nat → Prop}

theorem isF_int (f : Int) : (if decide (f < 0) = true then true else decide (11 < f)) = !isF f := by
  unfold isF
  by_cases h : f < 0
  · have : ¬ 0 ≤ f := by omega
    simp [h, this]
  · have h0 : 0 ≤ f := by omega
    by_cases h2 : 11 < f
    · have : ¬ f < 12 := by omega
      simp [h, h0, h2, this]
    · have : f < 12 := by omega
      simp [h, h0, h2, this]

theorem rmay_ (h : RR w p d S) (f : Int) (k : next (.int .i64 (d.may [f])) w) : callvK Try.prog (.func (.func 79) #[] #[]) [ptr p, .int .i64 f] w next QP := by
  refine r79 rfl ?_
  obtain ⟨lv, qv, kv, hb, hl, hq, hk, h1, h2, h3, c0, c1, c2, c3, c4, c5⟩ := h.parts
  unfold h79
  try simp only [go_sem, c3]
  refine ⟨fun hd => by simpa [Dk.may, hd, go_sem] using k, fun hd => ?_⟩
  unfold h79_1
  try simp only [go_sem, isF_int]
  refine ⟨fun hf => ?_, fun hf => ?_⟩
  · have hf : isF f = false := by simpa using hf
    simpa [Dk.may, hd, hf] using k
  · have hf : isF f = true := by simpa using hf
    unfold h79_2
    try simp only [go_sem]
    simpa [Dk.may, hd, hf] using k

theorem rdown_ (h : RR w p d S) (k : next (.bool d.down) w) : callvK Try.prog (.func (.func 38) #[] #[]) [ptr p] w next QP := by
  refine r38 rfl ?_
  obtain ⟨lv, qv, kv, hb, hl, hq, hk, h1, h2, h3, c0, c1, c2, c3, c4, c5⟩ := h.parts
  unfold h38
  try simp only [go_sem, c3]
  exact k

theorem OK.start (ok : d.OK) : d.start.OK := ⟨ok.nl, ok.nf, ok.bl, ok.bf, ok.bq, ok.lost, ok.armed⟩

theorem rstart_ (h : RR w p d S) (k : ∀ w', RR w' p d.start S → Mod S w w' → next (.tuple #[]) w') : callvK Try.prog (.func (.func 40) #[] #[]) [ptr p] w next QP := by
  refine r40 rfl ?_
  obtain ⟨lv, qv, kv, hb, hl, hq, hk, h1, h2, h3, c0, c1, c2, c3, c4, c5⟩ := h.parts
  unfold h40
  try simp only [go_sem]
  refine store1 sz4 hb (by simp) rfl ?_
  intro w1 hb1 m1 _
  try simp only [go_sem]
  exact k _ (h.again m1 (OK.start h.ok) h.sync hb1 hl hq hk (fun k hk => ⟨(h1 k hk).1, (h1 k hk).2.1⟩) (fun k hk => ⟨(h2 k hk).1, (h2 k hk).2.1⟩) (fun k hk => ⟨(h3 k hk).1, (h3 k hk).2.1⟩)) (m1.mono fun k _ (e : k = p) => e ▸ h.self)

theorem rlose_ (h : RR w p d S) {n : Int} (hn : n ≤ 9223372036854775807) (k : ∀ w', RR w' p (d.lose n) S → Mod S w w' → next (.tuple #[]) w') : callvK Try.prog (.func (.func 60) #[] #[]) [ptr p, .int .i64 n] w next QP := by
  refine r60 rfl ?_
  obtain ⟨lv, qv, kv, hb, hl, hq, hk, h1, h2, h3, c0, c1, c2, c3, c4, c5⟩ := h.parts
  unfold h60
  try simp only [go_sem]
  refine store1 sz3 hb (by simp) rfl ?_
  intro w1 hb1 m1 _
  try simp only [go_sem]
  have e : (if n < 0 then 0 else n) = (n.toNat : Int) := by split <;> omega
  refine k _ (h.again m1 (d' := d.lose n) ⟨h.ok.nl, h.ok.nf, h.ok.bl, h.ok.bf, h.ok.bq, by simp only [Dk.lose]; omega, h.ok.armed⟩ h.sync ?_ hl hq hk (fun k hk => ⟨(h1 k hk).1, (h1 k hk).2.1⟩) (fun k hk => ⟨(h2 k hk).1, (h2 k hk).2.1⟩) (fun k hk => ⟨(h3 k hk).1, (h3 k hk).2.1⟩)) (m1.mono fun k _ (e : k = p) => e ▸ h.self)
  simpa [e, Dk.lose] using hb1

theorem OK.new : Dk.new.OK := by
  refine ⟨rfl, rfl, ?_, ?_, ?_, by simp [Dk.new], by simp [Dk.new]⟩
  · intro s hs; rw [List.eq_of_mem_replicate hs]; simp
  · intro s hs; rw [List.eq_of_mem_replicate hs]; simp
  · intro p hp; cases hp

theorem rnew_ (k : ∀ p w', w.heap.size ≤ p → RT none' w w' p Dk.new → next (ptr p) w') : callvK Try.prog (.func (.func 35) #[] #[]) [] w next QP := by
  refine r35 rfl ?_
  unfold h35
  try simp only [go_sem]
  refine msl1 sl40 rfl 12 rfl (by omega) (by unfold maxLen; omega) ?_
  intro b w1 hb own1 _ m1 hs1
  try simp only [go_sem]
  refine ⟨by omega, ?_⟩
  refine box_ (cs := [.slice (some ⟨b, 0, none⟩) 12 12, .slice none 0 0, .int .i64 0, .bool false, .int .i64 0, .slice none 0 0]) rfl ?_
  intro p w2 hp blk2 m2 hs2
  try simp only [go_sem]
  refine k p w2 (by have := m1.size; omega) ⟨fun k => k = p ∨ k = b, ⟨OK.new, Sync.new, ⟨_, _, _, blk2, ?_, Own.nil _ _ _, Own.nil _ _ _, fun k hk => ?_, fun k hk => (nomatch (hk : none = some k)), fun k hk => (nomatch (hk : none = some k))⟩, .inl rfl, ?_⟩, ?_, m1.trans' m2⟩
  · have : Dk.new.lasts.map str = List.replicate 12 (str []) := by simp [Dk.new]
    rw [this]; exact own1.mod m2 fun _ _ h => h
  · right; simpa [Value.ownBlock, eq_comm] using hk
  · rintro k (rfl | rfl) <;> omega
  · rintro k (rfl | rfl) <;> right <;> omega

theorem rfits_ {a : Int} {s : Bytes} (hs : (s.length : Int) ≤ 1000000000000) (k : next (.bool (decide (0 ≤ a) && decide (a ≤ 16777216) && decide (a + s.length ≤ 16777216))) w) : callvK Try.prog (.func (.func 102) #[] #[]) [.int .i64 a, str s] w next QP := by
  refine r102 rfl ?_
  unfold h102
  try simp only [go_sem]
  have e : (if (if decide (0 ≤ a) = true then decide (a ≤ 16777216) else false) = true then decide (IntKind.i64.wrap (a + (s.length : Int)) ≤ 16777216) else false) = (decide (0 ≤ a) && decide (a ≤ 16777216) && decide (a + s.length ≤ 16777216)) := by
    by_cases h0 : 0 ≤ a
    · by_cases h1 : a ≤ 16777216
      · rw [w64 (by omega) (by omega)]; simp [h0, h1]
      · simp [h0, h1]
    · simp [h0]
  rw [e]; exact k

/-- the file out of the durable part and what is pending -/
theorem rread0_ (h : RR w p d S) {f : Nat} (hf : f < 12) (hqn : d.queue.length ≤ 1000000000000) (k : ∀ w', Mod none' w w' → next (str (d.file f)) w') : callvK Try.prog (.func (.func 78) #[] #[]) [ptr p, .int .i64 f] w next QP := by
  refine r78 rfl ?_
  obtain ⟨lv, qv, kv, hb, hl, hq, hk, h1, h2, h3, c0, c1, c2, c3, c4, c5⟩ := h.parts
  rcases hl.blk with ⟨-, h0, -⟩ | ⟨g, c, rest, rfl, hlb, hr, hc, hm⟩
  · omega
  have hlf : w.cell? ⟨g, f, none⟩ = some (str (d.last f)) := by
    rw [hlb.cell, List.getElem?_append_left (by simp [h.ok.nl]; omega)]
    simp [Dk.last, h.ok.nl, hf]
  obtain ⟨qa, qc, rfl, hqc, -⟩ := hq.form
  unfold h78
  try simp only [go_sem, c0, hlf]
  refine ⟨⟨by omega, by omega⟩, ?_⟩
  have hlast : (d.last f).length ≤ 16777216 := by
    have : d.last f = d.lasts[f]'(by rw [h.ok.nl]; exact hf) := by simp [Dk.last, h.ok.nl, hf]
    rw [this]; exact h.ok.bl _ (List.getElem_mem _)
  refine loopN d.queue.length (fun i τ w' => τ 0 = ptr p ∧ τ 1 = .int .i64 f ∧ τ 5 = str (putAll (d.last f) (d.queue.take i) f) ∧ τ 6 = .int .i64 i ∧ Mod none' w w') ⟨0, by omega, rfl, rfl, rfl, rfl, Mod.refl _ _⟩ ?_
  rintro i τ w1 hi ⟨t0, t1, t5, t6, m1⟩
  have c1 : w1.cell? ⟨p, 1, none⟩ = _ := m1.cell c1 fun h => h
  unfold h78_1
  try simp only [go_sem, t0, t1, t5, t6, c1]
  refine ⟨fun hlt => ?_, fun hge => ?_⟩
  · have hil : i < d.queue.length := by have : (i : Int) < d.queue.length := by simpa using hlt
                                        omega
    obtain ⟨gb, o, c', hva, hcc, hcell⟩ := (hq.mod m1 fun _ _ h => h).sl.get Pd.cells_len rfl (by omega)
    simp only [Value.slice.injEq] at hva
    obtain ⟨rfl, -, rfl⟩ := hva
    have x0 : w1.cell? ⟨gb, o + i * 3, none⟩ = some (.int .i64 d.queue[i].file) := (hcell i 0 hil (by omega)).trans rfl
    have x1 : w1.cell? ⟨gb, o + i * 3 + 1, none⟩ = some (.int .i64 d.queue[i].at_) := (hcell i 1 hil (by omega)).trans rfl
    have x2 : w1.cell? ⟨gb, o + i * 3 + 2, none⟩ = some (str d.queue[i].bytes) := (hcell i 2 hil (by omega)).trans rfl
    have hbq := h.ok.bq _ (List.getElem_mem hil)
    have hput : putAll (d.last f) (d.queue.take (i + 1)) f = if d.queue[i].file = f then put (putAll (d.last f) (d.queue.take i) f) d.queue[i].at_ d.queue[i].bytes else putAll (d.last f) (d.queue.take i) f := by
      rw [List.take_succ_eq_append_getElem hil, putAll_app]; rfl
    have hple : (putAll (d.last f) (d.queue.take i) f).length ≤ 16777216 := putAll_le _ _ hlast fun p hp => (h.ok.bq p (List.mem_of_mem_take hp)).2
    unfold h78_2
    try simp only [go_sem, t0, t1, t5, t6, c1, x0, x1, x2]
    repeat refine ⟨⟨by omega, by omega⟩, ?_⟩
    refine ⟨fun he => ?_, fun he => ?_⟩
    · have he : (d.queue[i].file : Int) = f := by simpa using he
      repeat refine ⟨⟨by omega, by omega⟩, ?_⟩
      refine rput_ _ _ _ hple hbq.2 ?_
      intro w2 m2
      unfold h78_3
      try simp only [go_sem, t0, t1, t5, t6]
      rw [w64 (by omega) (by omega)]
      exact ⟨i + 1, by omega, by omega, by rw [hput, if_pos (by omega)], rfl, m1.trans' ((Mod.drew none' w1).trans' m2)⟩
    · have he : ¬ (d.queue[i].file : Int) = f := by simpa using he
      unfold h78_3
      try simp only [go_sem, t0, t1, t5, t6]
      rw [w64 (by omega) (by omega)]
      exact ⟨i + 1, by omega, by omega, by rw [hput, if_neg (by omega)], rfl, m1⟩
  · have hio : i = d.queue.length := by have : ¬ (i : Int) < d.queue.length := by simpa using hge
                                        omega
    subst hio
    unfold h78_4
    try simp only [go_sem, t5]
    rw [List.take_length, ← h.sync f hf]
    exact k _ m1

theorem rsize_ (h : RR w p d S) (f : Int) (hqn : d.queue.length ≤ 1000000000000) (k : ∀ w', Mod none' w w' → next (.int .i64 (d.size f)) w') : callvK Try.prog (.func (.func 39) #[] #[]) [ptr p, .int .i64 f] w next QP := by
  refine r39 rfl ?_
  unfold h39
  try simp only [go_sem, isF_int]
  refine ⟨fun hf => ?_, fun hf => ?_⟩
  · have hf : isF f = false := by simpa using hf
    have := k w (Mod.refl _ _)
    simpa [Dk.size, hf] using this
  · have hf : isF f = true := by simpa using hf
    obtain ⟨h0, h12⟩ : 0 ≤ f ∧ f < 12 := by simpa [isF] using hf
    obtain ⟨g, rfl⟩ := Int.eq_ofNat_of_zero_le h0
    unfold h39_1
    try simp only [go_sem]
    refine rread0_ h (f := g) (by omega) hqn ?_
    intro w1 m1
    try simp only [go_sem]
    have := k w1 m1
    simpa [Dk.size, hf] using this

theorem rread_ (h : RR w p d S) (f : Int) (hqn : d.queue.length ≤ 1000000000000) (k : ∀ w', Mod none' w w' → next (.tuple #[str (d.read f), .int .i64 (d.may [f])]) w') : callvK Try.prog (.func (.func 41) #[] #[]) [ptr p, .int .i64 f] w next QP := by
  refine r41 rfl ?_
  unfold h41
  try simp only [go_sem]
  refine rmay_ h f ?_
  try simp only [go_sem]
  refine ⟨fun hm => ?_, fun hm => ?_⟩
  · have hm : ¬ d.may [f] = 0 := by simpa using hm
    have := k w (Mod.refl _ _)
    simpa [Dk.read, hm] using this
  · have hm : d.may [f] = 0 := by simpa using hm
    have hf : 0 ≤ f ∧ f < 12 := by
      unfold Dk.may at hm
      split at hm
      · omega
      · split at hm
        · rename_i hh; simpa [isF] using hh
        · omega
    obtain ⟨g, rfl⟩ := Int.eq_ofNat_of_zero_le hf.1
    unfold h41_1
    try simp only [go_sem]
    refine rread0_ h (f := g) (by omega) hqn ?_
    intro w1 m1
    try simp only [go_sem]
    have := k w1 m1
    simpa [Dk.read, hm] using this
end
end Go.Proofs.Y

/- RD: the reference's disk: the pending writes of the other files; a file behind a crash; pieces. -/
namespace Go.Proofs.Y
open Go Go.HL Go.Proofs

theorem pd_at {w : World} {v : Value} {q : List Pd} {i : Nat} (hv : Sl w v 3 q.length (rows Pd.cells q)) (hi : i < q.length) : ∃ gb o c, v = .slice (some ⟨gb, o, none⟩) q.length c ∧
    w.cell? ⟨gb, o + i * 3, none⟩ = some (.int .i64 q[i].file) ∧ w.cell? ⟨gb, o + i * 3 + 1, none⟩ = some (.int .i64 q[i].at_) ∧ w.cell? ⟨gb, o + i * 3 + 2, none⟩ = some (str q[i].bytes) ∧
    loadN w ⟨gb, o + i * 3, none⟩ 3 = q[i].cells.toArray ∧ (∀ j, j < 3 → (w.cell? ⟨gb, o + i * 3 + j, none⟩).isSome = true) := by
  obtain ⟨gb, o, c', hva, hcc, hcell⟩ := hv.get Pd.cells_len rfl (by omega)
  have h : ∀ j, j < 3 → w.cell? ((⟨gb, o + i * 3, none⟩ : Addr).add j) = q[i].cells[j]? := fun j hj => by rw [e_add]; exact hcell i j hi hj
  exact ⟨gb, o, c', hva, (hcell i 0 hi (by omega)).trans rfl, (hcell i 1 hi (by omega)).trans rfl, (hcell i 2 hi (by omega)).trans rfl, loadN_of (Pd.cells_len _) h, fun j hj => by have := loadN_some (Pd.cells_len _) h j hj; rwa [e_add] at this⟩
theorem Pd.one (x : Pd) : ∀ v ∈ x.cells, v.oneCell' = true := by
  intro v hv
  simp only [Pd.cells, List.mem_cons, List.not_mem_nil, or_false] at hv
  rcases hv with rfl | rfl | rfl <;> rfl

section
variable {w : World} {next : Value → World → Prop} {QP : List PanicEntry → World → Prop} {p : Nat} {d : Dk} {S : Nat → Prop}

/-- the pending writes of the other files -/
def wo (q : List Pd) (f : Nat) : List Pd := q.filter fun p => !decide (p.file = f)

theorem rwithout_ {q : List Pd} {qv : Value} (c1 : w.cell? ⟨p, 1, none⟩ = some qv) (hq : Own w qv 118 3 q.length (rows Pd.cells q)) {f : Nat} (hqn : q.length ≤ 1000000000000) (k : ∀ v w', Mod none' w w' → Own w' v 118 3 (wo q f).length (rows Pd.cells (wo q f)) → (∀ k, v.ownBlock = some k → w.heap.size ≤ k) → next v w') :
    callvK Try.prog (.func (.func 104) #[] #[]) [ptr p, .int .i64 f] w next QP := by
  refine r104 rfl ?_
  obtain ⟨qa, qc, rfl, hqc, -⟩ := hq.form
  unfold h104
  try simp only [go_sem]
  refine loopN q.length (fun i τ w' => τ 0 = ptr p ∧ τ 1 = .int .i64 f ∧ τ 6 = .int .i64 i ∧ Mod none' w w' ∧ ∃ v, τ 5 = v ∧ Own w' v 118 3 (wo (q.take i) f).length (rows Pd.cells (wo (q.take i) f)) ∧ (∀ k, v.ownBlock = some k → w.heap.size ≤ k))
    ⟨0, by omega, rfl, rfl, rfl, Mod.refl _ _, .slice none 0 0, rfl, Own.nil _ _ _, fun k hk => (nomatch (hk : none = some k))⟩ ?_
  rintro i τ w1 hi ⟨t0, t1, t6, m1, v, t5, hv, hv2⟩
  have c1 : w1.cell? ⟨p, 1, none⟩ = _ := m1.cell c1 fun h => h
  have hq1 := hq.mod m1 fun _ _ h => h
  have hfl : (wo (q.take i) f).length ≤ q.length := Nat.le_trans (List.length_filter_le _ _) (by rw [List.length_take]; omega)
  unfold h104_1
  try simp only [go_sem, t0, t1, t5, t6, c1]
  refine ⟨fun hlt => ?_, fun hge => ?_⟩
  · have hil : i < q.length := by
        have : (i : Int) < q.length := by simpa using hlt
        omega
    obtain ⟨gb, o, c', hva, x0, x1, x2, hld, hsome⟩ := pd_at hq1.sl hil
    simp only [Value.slice.injEq] at hva
    obtain ⟨rfl, -, rfl⟩ := hva
    have hwo : wo (q.take (i + 1)) f = if q[i].file = f then wo (q.take i) f else wo (q.take i) f ++ [q[i]] := by
      unfold wo
      rw [List.take_succ_eq_append_getElem hil, List.filter_append]
      by_cases hf : q[i].file = f <;> simp [hf]
    unfold h104_2
    try simp only [go_sem, t0, t1, t5, t6, c1, x0, x1, x2]
    repeat refine ⟨⟨by omega, by omega⟩, ?_⟩
    refine ⟨fun he => ?_, fun he => ?_⟩
    · have he : ¬ (q[i].file : Int) = f := by simpa using he
      try simp only [go_sem, hld]
      repeat refine ⟨⟨by omega, by omega⟩, ?_⟩
      refine ⟨hsome, ?_⟩
      refine bsl1 sl118 (cs := q[i].cells) rfl rfl (by omega) ?_
      intro b2 w2 hb2 own2 _ m2 _
      refine append_ sl118 (hv.mod m2 fun _ _ h => h) own2.sl (Pd.one _) (by omega) (by unfold maxLen; omega) ?_
      intro v3 w3 own3 m3 hb3 _
      unfold h104_3
      try simp only [go_sem, t0, t1, t5, t6]
      rw [w64 (by omega) (by omega)]
      rw [if_neg (by omega)] at hwo
      refine ⟨i + 1, by omega, by omega, rfl, (m1.trans' m2).trans m3 fun k hk hS => ?_, v3, rfl, ?_, ?_⟩
      · have := hv2 k hS; omega
      · rw [hwo, rows_app, List.length_append]; exact own3
      · intro k hk
        rcases hb3 k hk with h | h
        · exact hv2 k h
        · have := m1.size; have := m2.size; omega
    · have he : (q[i].file : Int) = f := by simpa using he
      unfold h104_3
      try simp only [go_sem, t0, t1, t5, t6]
      rw [w64 (by omega) (by omega)]
      rw [if_pos (by omega)] at hwo
      exact ⟨i + 1, by omega, by omega, rfl, m1, v, rfl, by rw [hwo]; exact hv, hv2⟩
  · have hio : i = q.length := by
        have : ¬ (i : Int) < q.length := by simpa using hge
        omega
    subst hio
    unfold h104_4
    try simp only [go_sem, t5]
    rw [List.take_length] at hv
    exact k _ _ m1 hv hv2

theorem survF_nil {f : Nat} : ∀ (q : List Pd) (s : Bytes), survF s q [] f = s
  | [], _ => rfl
  | p :: q, s => by simp only [survF, List.getElem?_nil, kept, List.tail_nil, ite_self, survF_nil q]
theorem survF_take {f : Nat} : ∀ (q : List Pd) (s : Bytes) (ks : List Int) (i : Nat), ks.length ≤ i → survF s (q.take i) ks f = survF s q ks f
  | [], _, _, _, _ => by simp
  | p :: q, s, ks, 0, h => by
    obtain rfl : ks = [] := List.eq_nil_of_length_eq_zero (by omega)
    rw [survF_nil, survF_nil]
  | p :: q, s, ks, i + 1, h => by
    simp only [List.take_succ_cons, survF]
    exact survF_take q _ _ i (by simp; omega)

/-- a file behind a crash -/
theorem rafter_ (h : RR w p d S) {f : Nat} (hf : f < 12) {kv : Value} {ks : List Int} {n : Nat} (hk : Sl w kv 1 n (ints ks)) (hqn : d.queue.length ≤ 1000000000000) (k : ∀ w', Mod none' w w' → next (str (survF (d.last f) d.queue ks f)) w') :
    callvK Try.prog (.func (.func 97) #[] #[]) [ptr p, .int .i64 f, kv] w next QP := by
  refine r97 rfl ?_
  obtain ⟨lv, qv, kv0, hb, hl, hq, hk0, h1, h2, h3, c0, c1, c2, c3, c4, c5⟩ := h.parts
  rcases hl.blk with ⟨-, h0, -⟩ | ⟨g, c, rest, rfl, hlb, hr, hc, hm⟩
  · omega
  have hlf : w.cell? ⟨g, f, none⟩ = some (str (d.last f)) := by
    rw [hlb.cell, List.getElem?_append_left (by simp [h.ok.nl]; omega)]
    simp [Dk.last, h.ok.nl, hf]
  obtain ⟨qa, qc, rfl, hqc, -⟩ := hq.form
  have hlast : (d.last f).length ≤ 16777216 := by
    have : d.last f = d.lasts[f]'(by rw [h.ok.nl]; exact hf) := by simp [Dk.last, h.ok.nl, hf]
    rw [this]; exact h.ok.bl _ (List.getElem_mem _)
  have hkl : ks.length = n := by have := hk.len; rw [ints_len] at this; omega
  obtain ⟨-, ka, kc, rfl, hkc, hkcell⟩ := id hk
  unfold h97
  try simp only [go_sem, c0, hlf]
  refine ⟨⟨by omega, by omega⟩, ?_⟩
  refine loopN d.queue.length (fun i τ w' => τ 0 = ptr p ∧ τ 1 = .int .i64 f ∧ τ 2 = .slice ka n kc ∧ τ 7 = str (survF (d.last f) (d.queue.take i) ks f) ∧ τ 8 = .int .i64 i ∧ Mod none' w w') ⟨0, by omega, rfl, rfl, rfl, rfl, rfl, Mod.refl _ _⟩ ?_
  rintro i τ w1 hi ⟨t0, t1, t2, t7, t8, m1⟩
  have c1 : w1.cell? ⟨p, 1, none⟩ = _ := m1.cell c1 fun h => h
  have hq1 := hq.mod m1 fun _ _ h => h
  unfold h97_1
  try simp only [go_sem, t0, t1, t2, t7, t8, c1]
  by_cases hil : i < d.queue.length
  · by_cases hin : i < n
    · have e1 : decide ((i : Int) < d.queue.length) = true := by simpa using by omega
      have e2 : decide ((i : Int) < n) = true := by simpa using by omega
      try simp only [go_sem, e1, e2]
      obtain ⟨gb, o, c', hva, x0, x1, x2, hld, hsome⟩ := pd_at hq1.sl hil
      simp only [Value.slice.injEq] at hva
      obtain ⟨rfl, -, rfl⟩ := hva
      unfold h97_2
      try simp only [go_sem, t0, t1, t2, t7, t8, c1, hld]
      repeat refine ⟨⟨by omega, by omega⟩, ?_⟩
      refine ⟨hsome, ?_⟩
      refine alloc_ (z := .agg #[.int .i64 0, .int .i64 0, str []]) (cs := [.int .i64 0, .int .i64 0, str []]) (by kernel_rfl) rfl ?_
      intro b2 w2 hb2 blk2 m2 hs2
      refine storeN sz118 (Pd.cells_len d.queue[i]) blk2 (by simp) (Pd.one _) ?_
      intro w3 blk3 m3 hs3
      have m3' : Mod none' w w3 := (m1.trans' m2).trans m3 fun k hk (e : k = b2) => by have := m1.size; omega
      have blk3 : Blk w3 b2 118 d.queue[i].cells := by simpa [Pd.cells] using blk3
      have y0 : w3.cell? ⟨b2, 0, none⟩ = some (.int .i64 d.queue[i].file) := blk3.cell 0
      have y1 : w3.cell? ⟨b2, 1, none⟩ = some (.int .i64 d.queue[i].at_) := blk3.cell 1
      have y2 : w3.cell? ⟨b2, 2, none⟩ = some (str d.queue[i].bytes) := blk3.cell 2
      have hsnoc : survF (d.last f) (d.queue.take (i + 1)) ks f = (if d.queue[i].file = f then (match kept ks[i]? d.queue[i].bytes with | none => survF (d.last f) (d.queue.take i) ks f | some b => put (survF (d.last f) (d.queue.take i) ks f) d.queue[i].at_ b) else survF (d.last f) (d.queue.take i) ks f) := by
        rw [List.take_succ_eq_append_getElem hil, survF_snoc, List.length_take, Nat.min_eq_left (by omega)]; rfl
      have hbq := h.ok.bq _ (List.getElem_mem hil)
      have hsle : (survF (d.last f) (d.queue.take i) ks f).length ≤ 16777216 := survF_le _ _ _ hlast fun p hp => (h.ok.bq p (List.mem_of_mem_take hp)).2
      try simp only [go_sem, t0, t1, t2, t7, t8, y0]
      refine ⟨fun he => ?_, fun he => ?_⟩
      · have he : ¬ (d.queue[i].file : Int) = f := by simpa using he
        unfold h97_5
        try simp only [go_sem, t0, t1, t2, t7, t8]
        rw [w64 (by omega) (by omega)]
        exact ⟨i + 1, by omega, by omega, by rw [hsnoc, if_neg (by omega)], rfl, m3'⟩
      · have he : (d.queue[i].file : Int) = f := by simpa using he
        rw [if_pos (by omega)] at hsnoc
        obtain ⟨kb, ko, rfl, hkc2⟩ := hkcell (by omega)
        have hki : w.cell? ⟨kb, ko + i, none⟩ = some (.int .i64 ks[i]) := by rw [hkc2 i (by omega)]; simp [ints, hkl, hin]
        have hki3 := m3'.cell hki fun h => h
        have hks : ks[i]? = some ks[i] := by simp [hkl, hin]
        unfold h97_3
        try simp only [go_sem, t0, t1, t2, t7, t8, hki3]
        repeat refine ⟨⟨by omega, by omega⟩, ?_⟩
        refine ⟨fun h1 => ?_, fun h1 => ?_⟩
        · have h1 : ks[i] = 1 := by simpa using h1
          try simp only [go_sem, t0, t1, t2, t7, t8, y1, y2]
          refine rput_ _ _ _ hsle hbq.2 ?_
          intro w4 m4
          have hki4 := m4.cell hki3 fun h => h
          have e5 : decide ((1 : Int) = 2) = false := by decide
          unfold h97_4
          try simp only [go_sem, t0, t1, t2, t7, t8, hki4, h1, e5]
          repeat refine ⟨⟨by omega, by omega⟩, ?_⟩
          unfold h97_5
          try simp only [go_sem, t0, t1, t2, t7, t8]
          rw [w64 (by omega) (by omega)]
          exact ⟨i + 1, by omega, by omega, by rw [hsnoc, hks, h1]; rfl, rfl, m3'.trans' m4⟩
        · have h1 : ¬ ks[i] = 1 := by simpa using h1
          unfold h97_4
          try simp only [go_sem, t0, t1, t2, t7, t8, hki3]
          repeat refine ⟨⟨by omega, by omega⟩, ?_⟩
          refine ⟨fun h2 => ?_, fun h2 => ?_⟩
          · have h2 : ks[i] = 2 := by simpa using h2
            try simp only [go_sem, t0, t1, t2, t7, t8, y1, y2]
            have e24 : (if (d.queue[i].bytes.length : Int) < 24 then (d.queue[i].bytes.length : Int) else 24) = ((min d.queue[i].bytes.length 24 : Nat) : Int) := by split <;> omega
            simp only [e24, Int.toNat_natCast]
            refine ⟨⟨by omega, by omega⟩, ?_⟩
            have e25 : d.queue[i].bytes.take (min d.queue[i].bytes.length 24) = d.queue[i].bytes.take 24 := by
              rcases Nat.le_total d.queue[i].bytes.length 24 with h | h
              · rw [Nat.min_eq_left h, List.take_of_length_le (Nat.le_refl _), List.take_of_length_le h]
              · rw [Nat.min_eq_right h]
            rw [e25]
            refine rput_ _ _ _ hsle (by have := hbq.2; rw [List.length_take]; omega) ?_
            intro w4 m4
            unfold h97_5
            try simp only [go_sem, t0, t1, t2, t7, t8]
            rw [w64 (by omega) (by omega)]
            exact ⟨i + 1, by omega, by omega, by rw [hsnoc, hks, h2]; rfl, rfl, m3'.trans' ((Mod.drew none' w3).trans' m4)⟩
          · have h2 : ¬ ks[i] = 2 := by simpa using h2
            unfold h97_5
            try simp only [go_sem, t0, t1, t2, t7, t8]
            rw [w64 (by omega) (by omega)]
            exact ⟨i + 1, by omega, by omega, by rw [hsnoc, hks]; simp [kept, h1, h2], rfl, m3'⟩
    · have e1 : decide ((i : Int) < d.queue.length) = true := by simpa using by omega
      have e2 : decide ((i : Int) < n) = false := by simpa using by omega
      try simp only [go_sem, e1, e2]
      unfold h97_6
      try simp only [go_sem, t7]
      rw [survF_take _ _ _ _ (by omega)]
      exact k _ m1
  · have hio : i = d.queue.length := by omega
    subst hio
    have e1 : decide ((d.queue.length : Int) < d.queue.length) = false := by simp
    try simp only [go_sem, e1]
    unfold h97_6
    try simp only [go_sem, t7]
    rw [List.take_length]
    exact k _ m1
end
end Go.Proofs.Y

/- RE: the reference's disk: pieces, the crash, the scheduled crash. -/
namespace Go.Proofs.Y
open Go Go.HL Go.Proofs

section
variable {w : World} {next : Value → World → Prop} {QP : List PanicEntry → World → Prop} {p : Nat} {d : Dk} {S : Nat → Prop}

theorem RT.build {w' : World} {d' : Dk} {lv qv kv : Value} (h : RR w p d S) (m : Mod S w w') (ok : d'.OK) (sy : Sync d') (hb : Blk w' p 99 [lv, qv, .int .i64 d'.lost, .bool d'.down, .int .i64 d'.armed, kv])
    (hl : Own w' lv 9 1 12 (d'.lasts.map str)) (hq : Own w' qv 118 3 d'.queue.length (rows Pd.cells d'.queue)) (hk : Own w' kv 3 1 d'.keep.length (ints d'.keep))
    (h1 : ∀ k, lv.ownBlock = some k → S k ∨ w.heap.size ≤ k) (h2 : ∀ k, qv.ownBlock = some k → S k ∨ w.heap.size ≤ k) (h3 : ∀ k, kv.ownBlock = some k → S k ∨ w.heap.size ≤ k) : RT S w w' p d' := by
  have hs := m.size
  refine ⟨fun k => S k ∨ (w.heap.size ≤ k ∧ k < w'.heap.size), ⟨ok, sy, ⟨lv, qv, kv, hb, hl, hq, hk, fun k hk' => ?_, fun k hk' => ?_, fun k hk' => ?_⟩, .inl h.self, fun k hk' => ?_⟩, fun k hk' => ?_, m⟩
  · exact (h1 k hk').imp id fun e => ⟨e, hl.lt k hk'⟩
  · exact (h2 k hk').imp id fun e => ⟨e, hq.lt k hk'⟩
  · exact (h3 k hk').imp id fun e => ⟨e, hk.lt k hk'⟩
  · rcases hk' with h' | h'
    · have := h.lt k h'; omega
    · exact h'.2
  · exact hk'.imp id fun e => e.1

theorem pieces_step {f n a : Nat} {s : Bytes} (hs : s ≠ []) (hn : s.length ≤ n) : pieces f n a s = ⟨f, a, s.take (piece s.length a)⟩ :: pieces f n (a + piece s.length a) (s.drop (piece s.length a)) := by
  have h0 : 0 < s.length := List.length_pos_iff.2 hs
  have hp := piece_pos (a := a) h0
  have hl := piece_le (n := s.length) (a := a)
  cases n with
  | zero => omega
  | succ n =>
    simp only [pieces, if_neg hs]
    congr 1
    exact pieces_fuel f n (n + 1) _ _ (by simp; omega) (by simp; omega)

def Dk.addD (d : Dk) (f a : Nat) (s : Bytes) : Dk := if s = [] then d else { d with files := d.files.set f (put (d.file f) a s), queue := d.queue ++ pieces f s.length a s }

theorem addD_queue (f a : Nat) (s : Bytes) : (d.addD f a s).queue = d.queue ++ pieces f s.length a s := by
  unfold Dk.addD; split
  · rename_i hs; subst hs; rw [pieces_none, List.append_nil]
  · rfl
theorem addD_lost (f a : Nat) (s : Bytes) : (d.addD f a s).lost = d.lost := by unfold Dk.addD; split <;> rfl
theorem addD_down (f a : Nat) (s : Bytes) : (d.addD f a s).down = d.down := by unfold Dk.addD; split <;> rfl
theorem addD_armed (f a : Nat) (s : Bytes) : (d.addD f a s).armed = d.armed := by unfold Dk.addD; split <;> rfl
theorem addD_lasts (f a : Nat) (s : Bytes) : (d.addD f a s).lasts = d.lasts := by unfold Dk.addD; split <;> rfl
theorem addD_keep (f a : Nat) (s : Bytes) : (d.addD f a s).keep = d.keep := by unfold Dk.addD; split <;> rfl
theorem addD_sync (h : Sync d) (ok : d.OK) (f a : Nat) (s : Bytes) : Sync (d.addD f a s) := by
  unfold Dk.addD
  split
  · exact h
  · rename_i hs
    intro g hg
    have hb := h g hg
    show (d.files.set f _).getD g [] = putAll (d.last g) (d.queue ++ _) g
    rw [putAll_app, ← hb]
    by_cases hgf : g = f
    · subst hgf
      rw [putAll_pieces _ _ _ _ hs (Nat.le_refl _)]
      simp [ok.nf, hg]
    · rw [putAll_other _ _ fun p hp => by rw [pieces_file _ _ _ _ p hp]; exact fun e => hgf e.symm]
      simp [List.getElem?_set_ne (Ne.symm hgf), Dk.file]
theorem file_le (ok : d.OK) (f : Nat) : (d.file f).length ≤ 16777216 := by
  by_cases hf : f < 12
  · have : d.file f = d.files[f]'(by rw [ok.nf]; exact hf) := by simp [Dk.file, ok.nf, hf]
    rw [this]; exact ok.bf _ (List.getElem_mem _)
  · have : d.file f = [] := by simp [Dk.file, ok.nf, hf]
    simp [this]
theorem addD_ok (ok : d.OK) {f a : Nat} {s : Bytes} (hf : f < 12) (ha : a + s.length ≤ 16777216) : (d.addD f a s).OK := by
  unfold Dk.addD
  split
  · exact ok
  · refine ⟨ok.nl, by simp [ok.nf], ok.bl, fun t ht => ?_, fun x hx => ?_, ok.lost, ok.armed⟩
    · rcases List.mem_or_eq_of_mem_set ht with h | rfl
      · exact ok.bf t h
      · have := file_le ok f; rw [put_len]; omega
    · rcases List.mem_append.1 hx with h | h
      · exact ok.bq x h
      · have := pieces_bound _ _ _ _ x h
        rw [pieces_file _ _ _ _ x h]; omega

theorem radd_ (h : RR w p d S) {f a : Nat} {s : Bytes} (hf : f < 12) (ha : a + s.length ≤ 16777216) (hqn : d.queue.length + s.length ≤ 1000000000000) (k : ∀ w', RT S w w' p (d.addD f a s) → next (.tuple #[]) w') :
    callvK Try.prog (.func (.func 103) #[] #[]) [ptr p, .int .i64 f, .int .i64 a, str s] w next QP := by
  refine r103 rfl ?_
  obtain ⟨lv, qv, kv, hb, hl, hq, hk, h1, h2, h3, c0, c1, c2, c3, c4, c5⟩ := h.parts
  unfold h103
  try simp only [go_sem]
  refine loopN s.length (fun i τ w' => τ 0 = ptr p ∧ τ 1 = .int .i64 f ∧ τ 2 = .int .i64 a ∧ τ 3 = str s ∧ τ 10 = .int .i64 i ∧ Mod S w w' ∧ ∃ (x : Nat) (E : List Pd) (qv' : Value), x ≤ i ∧ τ 8 = str ((s.drop x).take (i - x)) ∧ τ 9 = .int .i64 (a + x : Nat) ∧
      E ++ pieces f s.length (a + x) (s.drop x) = pieces f s.length a s ∧ (i < s.length → i - x < piece (s.length - x) (a + x)) ∧ (i = s.length → x = i) ∧ E.length ≤ i ∧
      Blk w' p 99 [lv, qv', .int .i64 d.lost, .bool d.down, .int .i64 d.armed, kv] ∧ Own w' qv' 118 3 (d.queue ++ E).length (rows Pd.cells (d.queue ++ E)) ∧ (∀ k, qv'.ownBlock = some k → (S k ∨ w.heap.size ≤ k) ∧ lv.ownBlock ≠ some k ∧ kv.ownBlock ≠ some k) ∧
      Own w' lv 9 1 12 (d.lasts.map str) ∧ Own w' kv 3 1 d.keep.length (ints d.keep))
    ⟨0, by omega, rfl, rfl, rfl, rfl, rfl, Mod.refl _ _, 0, [], qv, Nat.le_refl _, rfl, rfl, rfl, ?_, ?_, Nat.le_refl _, hb, by simpa using hq, ?_, hl, hk⟩ ?_
  · intro h0; rw [Nat.sub_self]; exact piece_pos h0
  · exact fun _ => rfl
  · exact fun k hk => ⟨.inl (h2 k hk).1, (h2 k hk).2.2⟩
  rintro i τ w1 hi ⟨t0, t1, t2, t3, t10, m1, x, E, qv', hx, t8, t9, hE, hpi, hend, hEi, hb1, hq1, hqs, hl1, hk1⟩
  unfold h103_1
  try simp only [go_sem, t0, t1, t2, t3, t8, t9, t10]
  refine ⟨fun hlt => ?_, fun hge => ?_⟩
  · have hil : i < s.length := by have : (i : Int) < s.length := by simpa using hlt
                                  omega
    have hpi := hpi hil
    unfold h103_2
    try simp only [go_sem, t0, t1, t2, t3, t8, t9, t10]
    have v1 : IntKind.i64.wrap ((i : Int) + 1) = (i + 1 : Nat) := by rw [w64 (by omega) (by omega)]; rfl
    have v2 : IntKind.i64.wrap ((a : Int) + i) = (a + i : Nat) := by rw [w64 (by omega) (by omega)]; rfl
    have v3 : IntKind.i64.wrap (((a + i : Nat) : Int) + 1) = (a + i + 1 : Nat) := by rw [w64 (by omega) (by omega)]; rfl
    have v4 : IntKind.i64.wrap ((s.length : Int) - 1) = (s.length - 1 : Nat) := by rw [w64 (by omega) (by omega)]; omega
    have hcur : (s.drop x).take (i - x) ++ (s.drop i).take (i + 1 - i) = (s.drop x).take (i + 1 - x) := by
      rw [show i + 1 - i = 1 by omega, show i + 1 - x = (i - x) + 1 by omega, List.take_add, List.drop_drop, show x + (i - x) = i by omega]
    have hcl : ((s.drop x).take (i + 1 - x)).length ≤ s.length := by rw [List.length_take, List.length_drop]; omega
    have ec : (if decide (((a + i + 1 : Nat) : Int).tmod 64 = 0) = true then true else decide ((i : Int) = (s.length - 1 : Nat))) = decide (i + 1 - x = piece (s.length - x) (a + x)) := by
      rw [Int.tmod_eq_emod_of_nonneg (by omega), Bool.eq_iff_iff]
      have : ∀ A B : Prop, [Decidable A] → [Decidable B] → ((if decide A = true then true else decide B) = true ↔ A ∨ B) := by
        intro A B _ _; by_cases hA : A <;> simp [hA]
      rw [this, decide_eq_true_iff]
      unfold piece at hpi ⊢
      omega
    simp only [v1, v2, v3, v4, Int.toNat_natCast, hcur, ec]
    refine ⟨⟨⟨by omega, by omega⟩, by omega, by omega⟩, ?_, by decide, fun hf => ?_, fun hf => ?_⟩
    · have := congrArg List.length hcur; rw [List.length_append] at this; omega
    · have hf : i + 1 - x = piece (s.length - x) (a + x) := by simpa using hf
      have hne : s.drop x ≠ [] := by intro h; have := congrArg List.length h; simp at this; omega
      have hst := pieces_step (f := f) (a := a + x) hne (n := s.length) (by simp)
      rw [List.length_drop, ← hf, List.drop_drop, show a + x + (i + 1 - x) = a + (i + 1) by omega, show x + (i + 1 - x) = i + 1 by omega] at hst
      rw [hb1.cell 1]
      refine ⟨rfl, by omega, by simp, by simp, ?_⟩
      refine bsl1 sl118 (cs := Pd.cells (⟨f, a + x, (s.drop x).take (i + 1 - x)⟩ : Pd)) rfl rfl (by omega) ?_
      intro b2 w2 hb2 own2 _ m2 _
      have hEl : (d.queue ++ E).length ≤ 1000000000000 := by rw [List.length_append]; omega
      refine append_ sl118 (hq1.mod m2 fun _ _ h => h) own2.sl (Pd.one _) (by omega) (by unfold maxLen; omega) ?_
      intro v3 w3 own3 m3 hb3 _
      have hpS : ∀ k, (Value.ownBlock qv' = some k → k ≠ p) := fun k hk e => own_neb hq1 hb1 (by decide) (e ▸ hk)
      have hb3' : Blk w3 p 99 [lv, qv', .int .i64 d.lost, .bool d.down, .int .i64 d.armed, kv] := (hb1.mod m2 fun h => h).mod m3 fun hS => hpS p hS rfl
      obtain ⟨ua, uc, rfl, -, -⟩ := own3.form
      refine store1 sz97 hb3' (by simp) rfl ?_
      intro w4 hb4 m4 hs4
      have hb4 : Blk w4 p 99 [lv, .slice ua ((d.queue ++ E).length + 1) uc, .int .i64 d.lost, .bool d.down, .int .i64 d.armed, kv] := by simpa using hb4
      have hold : ∀ k, (Value.slice ua ((d.queue ++ E).length + 1) uc).ownBlock = some k → (S k ∨ w.heap.size ≤ k) ∧ k ≠ p ∧ lv.ownBlock ≠ some k ∧ kv.ownBlock ≠ some k := by
        intro k hk'
        rcases hb3 k hk' with h' | h'
        · exact ⟨(hqs k h').1, hpS k h', (hqs k h').2⟩
        · have := m1.size; have := m2.size
          refine ⟨.inr (by omega), ?_, fun e => ?_, fun e => ?_⟩
          · rintro rfl; have := hb1.lt; omega
          · have := hl1.lt k e; omega
          · have := hk1.lt k e; omega
      have m34 : Mod S w w4 := by
        refine ((m1.trans m2 fun _ _ h => h.elim).trans m3 fun k hk hS => ?_).trans m4 fun k hk (e : k = p) => e ▸ h.self
        rcases (hqs k hS).1 with h' | h'
        · exact h'
        · omega
      have hqz : (d.queue ++ (E ++ [(⟨f, a + x, (s.drop x).take (i + 1 - x)⟩ : Pd)])).length = (d.queue ++ E).length + 1 := by simp [Nat.add_assoc]
      have hrz : rows Pd.cells (d.queue ++ (E ++ [(⟨f, a + x, (s.drop x).take (i + 1 - x)⟩ : Pd)])) = rows Pd.cells (d.queue ++ E) ++ Pd.cells (⟨f, a + x, (s.drop x).take (i + 1 - x)⟩ : Pd) := by
        rw [← List.append_assoc, rows_app]; simp [rows]
      unfold h103_3
      try simp only [go_sem, t0, t1, t2, t3, t10]
      rw [w64 (by omega) (by omega)]
      refine ⟨i + 1, by omega, by omega, rfl, m34, i + 1, E ++ [(⟨f, a + x, (s.drop x).take (i + 1 - x)⟩ : Pd)], .slice ua ((d.queue ++ E).length + 1) uc, Nat.le_refl _, ?_, rfl, ?_, fun hh => ?_, fun _ => rfl, ?_, hb4, ?_, ?_, ?_, ?_⟩
      · rw [Nat.sub_self, List.take_zero]
      · rw [List.append_assoc, List.singleton_append, ← hst]; exact hE
      · rw [Nat.sub_self]; exact piece_pos (by omega)
      · simp; omega
      · rw [hqz, hrz]; exact own3.mod m4 fun k hk' (e : k = p) => (hold k hk').2.1 e
      · exact fun k hk' => ⟨(hold k hk').1, (hold k hk').2.2⟩
      · exact ((hl1.mod m2 fun _ _ h => h).mod m3 fun k hk' hS => (hqs k hS).2.1 hk').mod m4 fun k hk' (e : k = p) => (h1 k hk').2.1 e
      · exact ((hk1.mod m2 fun _ _ h => h).mod m3 fun k hk' hS => (hqs k hS).2.2 hk').mod m4 fun k hk' (e : k = p) => (h3 k hk').2.1 e
    · have hf : ¬ i + 1 - x = piece (s.length - x) (a + x) := by simpa using hf
      unfold h103_3
      try simp only [go_sem, t0, t1, t2, t3, t8, t9, t10]
      rw [w64 (by omega) (by omega)]
      refine ⟨i + 1, by omega, by omega, rfl, m1, x, E, qv', by omega, rfl, rfl, hE, fun _ => ?_, fun he => ?_, by omega, hb1, hq1, hqs, hl1, hk1⟩
      · unfold piece at *; omega
      · unfold piece at *; omega
  · have hio : i = s.length := by have : ¬ (i : Int) < s.length := by simpa using hge
                                  omega
    obtain rfl := hend hio
    subst hio
    rw [List.drop_length, pieces_none, List.append_nil] at hE
    subst hE
    try simp only [go_sem]
    refine k _ (.build (lv := lv) (qv := qv') (kv := kv) h m1 (addD_ok h.ok hf ha) (addD_sync h.sync h.ok f a s) ?_ ?_ ?_ ?_ (fun k hk' => .inl (h1 k hk').1) (fun k hk' => (hqs k hk').1) (fun k hk' => .inl (h3 k hk').1))
    · rw [addD_lost, addD_down, addD_armed]; exact hb1
    · rw [addD_lasts]; exact hl1
    · rw [addD_queue]; exact hq1
    · rw [addD_keep]; exact hk1
end
end Go.Proofs.Y

/- RF: the reference's disk: arm, crash, the scheduled crash. -/
namespace Go.Proofs.Y
open Go Go.HL Go.Proofs

section
variable {w : World} {next : Value → World → Prop} {QP : List PanicEntry → World → Prop} {p : Nat} {d : Dk} {S : Nat → Prop}

theorem rarm_ (h : RR w p d S) {n : Int} (hn : n ≤ 9223372036854775807) {v : Value} {l : List Int} {m : Nat} (hv : Sl w v 1 m (ints l)) (hvp : 0 < m → v.ownBlock ≠ some p) (hm : m ≤ 9000000000000) (k : ∀ w', RT S w w' p (d.arm n l) → next (.tuple #[]) w') :
    callvK Try.prog (.func (.func 77) #[] #[]) [ptr p, .int .i64 n, v] w next QP := by
  refine r77 rfl ?_
  obtain ⟨lv, qv, kv, hb, hl, hq, hk, h1, h2, h3, c0, c1, c2, c3, c4, c5⟩ := h.parts
  have e : (if n < 0 then 0 else n) = (n.toNat : Int) := by split <;> omega
  unfold h77
  try simp only [go_sem]
  refine store1 sz3 hb (by simp) rfl ?_
  intro w1 hb1 m1 hs1
  try simp only [go_sem]
  refine bsl0 sl22 ?_
  intro b2 w2 hb2 own2 m2 hs2
  refine append_ sl22 own2 ((hv.mod' m1 fun hm k hk (e : k = p) => hvp hm (e ▸ hk)).mod m2 fun _ _ h => h) (by intro u hu; obtain ⟨x, -, rfl⟩ := List.mem_map.1 hu; rfl) (by omega) (by unfold maxLen; omega) ?_
  intro v3 w3 own3 m3 hb3 _
  obtain ⟨ua, uc, rfl, -, -⟩ := own3.form
  have hpb : p < w.heap.size := hb.lt
  have hbS : ∀ k, ownS (.slice (some ⟨b2, 0, none⟩) 0 0) k → w.heap.size ≤ k := by
    intro k hk
    have : b2 = k := by simpa [ownS, Value.ownBlock] using hk
    omega
  have hb3p : Blk w3 p 99 _ := (hb1.mod m2 fun h => h).mod m3 fun hS => by have := hbS p hS; omega
  refine store1 sz22 hb3p (by simp) rfl ?_
  intro w4 hb4 m4 hs4
  try simp only [go_sem]
  have hnew : ∀ k, (Value.slice ua (0 + m) uc).ownBlock = some k → w.heap.size ≤ k := by
    intro k hk
    rcases hb3 k hk with h' | h'
    · exact hbS k h'
    · have := m2.size; omega
  have keep : ∀ {u : Value} {e n : Nat} {xs : List Value}, Own w u e 1 n xs → (∀ k, u.ownBlock = some k → k ≠ p) → Own w4 u e 1 n xs := by
    intro u e n xs ho hp
    exact (((ho.mod m1 fun k hk (e : k = p) => hp k hk e).mod m2 fun _ _ h => h).mod m3 fun k hk hS => by have := hbS k hS; have := ho.lt k hk; omega).mod m4 fun k hk (e : k = p) => hp k hk e
  have hq4 : Own w4 qv 118 3 d.queue.length (rows Pd.cells d.queue) := (((hq.mod m1 fun k hk (e : k = p) => (h2 k hk).2.1 e).mod m2 fun _ _ h => h).mod m3 fun k hk hS => by have := hbS k hS; have := hq.lt k hk; omega).mod m4 fun k hk (e : k = p) => (h2 k hk).2.1 e
  have hlen : m = l.length := by have := hv.len; rw [ints_len] at this; omega
  refine k _ (.build (d' := d.arm n l) (lv := lv) (qv := qv) (kv := .slice ua (0 + m) uc) h ?_ ⟨h.ok.nl, h.ok.nf, h.ok.bl, h.ok.bf, h.ok.bq, h.ok.lost, by simp only [Dk.arm]; omega⟩ h.sync ?_ (keep hl fun k hk => (h1 k hk).2.1) hq4 ?_ (fun k hk' => .inl (h1 k hk').1) (fun k hk' => .inl (h2 k hk').1) (fun k hk' => .inr (hnew k hk')))
  · exact (((m1.mono fun k _ (e : k = p) => e ▸ h.self).trans m2 fun _ _ h => h.elim).trans m3 fun k hk hS => by have := hbS k hS; omega).trans m4 fun k _ (e : k = p) => e ▸ h.self
  · simpa [e, Dk.arm] using hb4
  · have := own3.mod m4 fun k hk' (e : k = p) => by have := hnew k hk'; omega
    simpa [Dk.arm, hlen] using this

/-- the disk that went down, its files not yet worked out -/
def Dk.fell (d : Dk) : Dk := { d with down := true, armed := 0 }

theorem rcrash_ (h : RR w p d S) {v : Value} {ks : List Int} {n : Nat} (hv : Sl w v 1 n (ints ks)) (hvp : 0 < n → v.ownBlock ≠ some p) (hqn : d.queue.length ≤ 1000000000000) (k : ∀ w', RT S w w' p (d.crash ks) → next (.tuple #[]) w') :
    callvK Try.prog (.func (.func 59) #[] #[]) [ptr p, v] w next QP := by
  refine r59 rfl ?_
  obtain ⟨lv, qv, kv, hb, hl, hq, hk, h1, h2, h3, c0, c1, c2, c3, c4, c5⟩ := h.parts
  unfold h59
  try simp only [go_sem, c3]
  refine ⟨fun hd => ?_, fun hd => ?_⟩
  · have : d.crash ks = d := by simp [Dk.crash, hd]
    refine k _ ?_
    rw [this]; exact .refl h
  unfold h59_1
  try simp only [go_sem]
  refine store1 sz4 hb (by simp) rfl ?_
  intro w1 hb1 m1 hs1
  try simp only [go_sem]
  refine store1 sz3 hb1 (by simp) rfl ?_
  intro w2 hb2 m2 hs2
  have m12 : Mod (fun k => k = p) w w2 := m1.trans' m2
  have hv2 : Sl w2 v 1 n (ints ks) := hv.mod' m12 fun hn k hk (e : k = p) => hvp hn (e ▸ hk)
  have hb2 : Blk w2 p 99 [lv, qv, .int .i64 d.lost, .bool true, .int .i64 0, kv] := by simpa using hb2
  have h' : RR w2 p d.fell S := h.again m12 ⟨h.ok.nl, h.ok.nf, h.ok.bl, h.ok.bf, h.ok.bq, h.ok.lost, by simp [Dk.fell]⟩ h.sync hb2 hl hq hk (fun k hk => ⟨(h1 k hk).1, (h1 k hk).2.1⟩) (fun k hk => ⟨(h2 k hk).1, (h2 k hk).2.1⟩) (fun k hk => ⟨(h3 k hk).1, (h3 k hk).2.1⟩)
  have hcr : d.crash ks = ⟨survs d.lasts d.queue ks, survs d.lasts d.queue ks, [], d.lost, true, 0, d.keep⟩ := by simp [Dk.crash, hd]
  have hpw := hb.lt
  try simp only [go_sem]
  refine loopN 12 (fun i τ w' => τ 0 = ptr p ∧ τ 1 = v ∧ τ 5 = .int .i64 i ∧ Mod none' w2 w' ∧ ∃ v4, τ 4 = v4 ∧ Own w' v4 9 1 i (((survs d.lasts d.queue ks).take i).map str) ∧ (∀ k, v4.ownBlock = some k → w2.heap.size ≤ k))
    ⟨0, by omega, rfl, rfl, rfl, Mod.refl _ _, .slice none 0 0, rfl, Own.nil _ _ _, fun k hk => (nomatch (hk : none = some k))⟩ ?_
  rintro i τ w3 hi ⟨t0, t1, t5, m3, v4, t4, hv4, hvn⟩
  unfold h59_2
  try simp only [go_sem, t0, t1, t4, t5]
  refine ⟨fun hlt => ?_, fun hge => ?_⟩
  · have hi12 : i < 12 := by have : (i : Int) < 12 := by simpa using hlt
                             omega
    unfold h59_3
    try simp only [go_sem, t0, t1, t4, t5]
    refine rafter_ (h'.mod0 m3) hi12 (hv2.mod m3 fun _ _ h => h) (by simpa [Dk.fell] using hqn) ?_
    intro w4 m4
    have hsv : survF (d.fell.last i) d.fell.queue ks i = (survs d.lasts d.queue ks).getD i [] := (survF_eq hi12 d.queue d.lasts ks h.ok.nl).symm
    rw [hsv]
    refine bsl1 sl40 (cs := [str ((survs d.lasts d.queue ks).getD i [])]) rfl rfl (by omega) ?_
    intro b5 w5 hb5 own5 _ m5 _
    refine append_ sl40 ((hv4.mod m4 fun _ _ h => h).mod m5 fun _ _ h => h) own5.sl (by intro u hu; rw [List.mem_singleton.1 hu]; rfl) (by omega) (by unfold maxLen; omega) ?_
    intro v6 w6 own6 m6 hb6 _
    unfold h59_4
    try simp only [go_sem, t0, t1, t4, t5]
    rw [w64 (by omega) (by omega)]
    refine ⟨i + 1, by omega, by omega, rfl, ((m3.trans' m4).trans' m5).trans m6 fun k hk hS => ?_, v6, rfl, ?_, ?_⟩
    · have := hvn k hS; omega
    · have hl12 : (survs d.lasts d.queue ks).length = 12 := by rw [survs_len]; exact h.ok.nl
      have : ((survs d.lasts d.queue ks).take (i + 1)).map str = ((survs d.lasts d.queue ks).take i).map str ++ [str ((survs d.lasts d.queue ks).getD i [])] := by
        rw [List.take_succ_eq_append_getElem (by omega), List.map_append]
        congr 1
        simp [hl12, hi12]
      rw [this]; exact own6
    · intro k hk
      rcases hb6 k hk with h | h
      · exact hvn k h
      · have := m3.size; have := m4.size; have := m5.size; omega
  · have hio : i = 12 := by have : ¬ (i : Int) < 12 := by simpa using hge
                            omega
    subst hio
    obtain ⟨ua, uc, rfl, -, -⟩ := hv4.form
    have hb3 := hb2.mod m3 fun h => h
    unfold h59_5
    try simp only [go_sem, t0, t1, t4, t5]
    refine store1 sz40 hb3 (by simp) rfl ?_
    intro w4 hb4 m4 hs4
    try simp only [go_sem]
    refine store1 sz97 hb4 (by simp) rfl ?_
    intro w5 hb5 m5 hs5
    try simp only [go_sem]
    have hl12 : (survs d.lasts d.queue ks).length = 12 := by rw [survs_len]; exact h.ok.nl
    have m45 : Mod (fun k => k = p) w3 w5 := m4.trans' m5
    have hnp : ∀ k, (Value.slice ua 12 uc).ownBlock = some k → k ≠ p := by
      intro k hk e
      have := hvn k hk
      have := m12.size
      omega
    have mw : Mod S w w5 := ((m12.mono fun k _ (e : k = p) => e ▸ h.self).trans m3 fun _ _ h => h.elim).trans m45 fun k _ (e : k = p) => e ▸ h.self
    refine k _ (.build (lv := .slice ua 12 uc) (qv := .slice none 0 0) (kv := kv) h mw (h.ok.crash ks) (h.sync.crash ks) ?_ ?_ ?_ ?_ (fun k hk => .inr ?_) (fun k hk => (nomatch (hk : none = some k))) (fun k hk' => .inl (h3 k hk').1))
    · rw [hcr]; simpa using hb5
    · rw [hcr]; rw [List.take_of_length_le (by omega)] at hv4; exact hv4.mod m45 fun k hk e => hnp k hk e
    · rw [hcr]; exact Own.nil _ _ _
    · rw [hcr]
      exact ((hk.mod m12 fun k hk (e : k = p) => (h3 k hk).2.1 e).mod m3 fun _ _ h => h).mod m45 fun k hk (e : k = p) => (h3 k hk).2.1 e
    · have := hvn k hk; have := m12.size; omega
end
end Go.Proofs.Y

/- RG: the reference's disk: the scheduled crash, and the calls. -/
namespace Go.Proofs.Y
open Go Go.HL Go.Proofs

section
variable {w : World} {next : Value → World → Prop} {QP : List PanicEntry → World → Prop} {p : Nat} {d : Dk} {S : Nat → Prop}

theorem RT.afterS {w0 w' : World} (m : Mod S w w0) (h : RT S w0 w' p d) : RT S w w' p d := by
  have hs := m.size
  exact ⟨h.foot, h.rr, fun k hk => (h.footS k hk).imp id fun h => by omega, m.trans h.mod fun _ _ h => h⟩

/-- whether a write is carried out -/
def fitsB (f a : Int) (s : Bytes) : Bool := isF f && (decide (0 ≤ a) && decide (a ≤ 16777216) && decide (a + s.length ≤ 16777216))
theorem writeE_fits (hd : d.down = false) (f a : Int) (s : Bytes) : d.writeE f a s = 0 ↔ fitsB f a s = true := by
  unfold Dk.writeE fitsB Dk.may
  simp only [hd, List.all_cons, List.all_nil, Bool.and_true]
  cases hf : isF f
  · simp
  · simp only [Bool.false_eq_true, if_false, if_true, ne_eq, not_true, Bool.true_and, Bool.and_eq_true, decide_eq_true_eq]
    split
    · omega
    · split <;> omega
theorem writeD_fits (hd : d.down = false) (f a : Int) (s : Bytes) : d.writeD f a s = if fitsB f a s = true then d.addD f.toNat a.toNat s else d := by
  unfold Dk.writeD Dk.addD
  have := writeE_fits hd f a s
  by_cases hs : s = []
  · simp [hs]
  · by_cases h0 : d.writeE f a s = 0
    · rw [if_neg (by simp [h0, hs]), if_pos (this.1 h0), if_neg hs]
    · rw [if_pos (.inl h0), if_neg fun h => h0 (this.2 h)]

def Dk.comes (d : Dk) (f a : Int) (s : Bytes) : Dk := if d.ends = true then (d.tick.writeD f a s).crash d.keep else d.tick

theorem OK.tick (ok : d.OK) : d.tick.OK := by
  unfold Dk.tick; split
  · exact ok
  · exact ⟨ok.nl, ok.nf, ok.bl, ok.bf, ok.bq, ok.lost, by have := ok.armed; simp only; omega⟩

theorem rcomes_ (h : RR w p d S) {f a : Int} {s : Bytes} (hqn : d.queue.length + s.length ≤ 1000000000000) (k : ∀ w', RT S w w' p (d.comes f a s) → next (.tuple #[]) w') :
    callvK Try.prog (.func (.func 101) #[] #[]) [ptr p, .int .i64 f, .int .i64 a, str s] w next QP := by
  refine r101 rfl ?_
  obtain ⟨lv, qv, kv, hb, hl, hq, hk, h1, h2, h3, c0, c1, c2, c3, c4, c5⟩ := h.parts
  have hov := h.ok.armed
  unfold h101
  try simp only [go_sem, c3, c4]
  refine ⟨fun hx => ?_, fun hx => ?_⟩
  · have e : d.comes f a s = d := by
      unfold Dk.comes Dk.ends Dk.tick
      cases hd : d.down <;> simp_all
    refine k _ ?_
    rw [e]; exact .refl h
  · have hd : d.down = false := by cases hd : d.down <;> simp_all
    have ha : ¬ d.armed = 0 := by rw [hd] at hx; simpa using hx
    unfold h101_1
    try simp only [go_sem, c4]
    rw [w64 (by omega) (by omega)]
    refine store1 sz3 hb (by simp) rfl ?_
    intro w1 hb1 m1 hs1
    have ht : d.tick = { d with armed := d.armed - 1 } := by simp [Dk.tick, hd, ha]
    have hb1 : Blk w1 p 99 [lv, qv, .int .i64 d.lost, .bool d.down, .int .i64 ((d.armed - 1 : Nat) : Int), kv] := by
      rw [show ((d.armed - 1 : Nat) : Int) = (d.armed : Int) - 1 by omega]; simpa using hb1
    have h' : RR w1 p d.tick S := by
      rw [ht]
      exact h.again (d' := { d with armed := d.armed - 1 }) m1 (by rw [← ht]; exact OK.tick h.ok) h.sync hb1 hl hq hk (fun k hk => ⟨(h1 k hk).1, (h1 k hk).2.1⟩) (fun k hk => ⟨(h2 k hk).1, (h2 k hk).2.1⟩) (fun k hk => ⟨(h3 k hk).1, (h3 k hk).2.1⟩)
    have mS : Mod S w w1 := m1.mono fun k _ (e : k = p) => e ▸ h.self
    have x4 : w1.cell? ⟨p, 4, none⟩ = some (.int .i64 ((d.armed - 1 : Nat) : Int)) := hb1.cell 4
    try simp only [go_sem, x4]
    refine ⟨fun hx => ?_, fun hx => ?_⟩
    · have hx : 0 < d.armed - 1 := by simpa using hx
      have e : d.comes f a s = d.tick := by
        unfold Dk.comes Dk.ends
        have : ¬ d.armed = 1 := by omega
        simp [this]
      refine k _ ?_
      rw [e]; exact .of h' mS
    · have hx : ¬ 0 < d.armed - 1 := by simpa using hx
      have h1' : d.armed = 1 := by omega
      have hdt : d.tick.down = false := by rw [ht]; exact hd
      have he : d.comes f a s = (d.tick.writeD f a s).crash d.keep := by simp [Dk.comes, Dk.ends, hd, h1']
      have hkt : d.tick.keep = d.keep := by rw [ht]
      have hqt : d.tick.queue = d.queue := by rw [ht]
      -- the crash that ends the call
      have fin : ∀ (σ : Env) (w2 : World) (d2 : Dk), σ 0 = ptr p → RT S w w2 p d2 → d2.keep = d.keep → d2.queue.length ≤ 1000000000000 → d2 = d.tick.writeD f a s → hw Try.prog noPanic h101_3 (endV [] next) σ w2 := by
        rintro σ w2 d2 s0 rt hkeep hql rfl
        obtain ⟨lv2, qv2, kv2, -, -, -, hk2, -, -, h32, -, -, -, -, -, c52⟩ := rt.rr.parts
        unfold h101_3
        try simp only [go_sem, s0, c52]
        refine rcrash_ rt.rr hk2.sl (fun _ e => (h32 p e).2.1 rfl) hql ?_
        intro w3 rt3
        try simp only [go_sem]
        refine k _ ?_
        rw [he, ← hkeep]
        exact rt.trans rt3
      have ef : (if decide (0 ≤ f) = true then decide (f ≤ 11) else false) = isF f := by
        unfold isF
        by_cases h0 : 0 ≤ f
        · simp only [h0, decide_true, if_true, Bool.true_and]; congr 1; apply propext; omega
        · simp [h0]
      unfold h101_2
      try simp only [go_sem, ef]
      refine ⟨fun hF => ?_, fun hF => ?_⟩
      · refine rfits_ (by omega) ?_
        try simp only [go_sem, hF]
        refine ⟨fun hfit => ?_, fun hfit => ?_⟩
        · have hfit' : fitsB f a s = true := by simp only [fitsB, hF, Bool.true_and]; exact hfit
          have hw' := writeD_fits hdt f a s
          rw [if_pos hfit'] at hw'
          obtain ⟨h0, h12⟩ : 0 ≤ f ∧ f < 12 := by simpa [isF] using hF
          obtain ⟨⟨ha0, ha1⟩, ha2⟩ : (0 ≤ a ∧ a ≤ 16777216) ∧ a + s.length ≤ 16777216 := by simpa using hfit
          obtain ⟨g, rfl⟩ := Int.eq_ofNat_of_zero_le h0
          obtain ⟨b, rfl⟩ := Int.eq_ofNat_of_zero_le ha0
          refine radd_ h' (f := g) (a := b) (by omega) (by omega) (by rw [hqt]; exact hqn) ?_
          intro w3 rt
          refine fin _ _ _ rfl (.afterS mS rt) (by rw [addD_keep]; exact hkt) ?_ (by rw [hw']; rfl)
          rw [addD_queue, hqt, List.length_append]
          have := pieces_len g s.length b s
          omega
        · have hfit' : ¬ fitsB f a s = true := by simp only [fitsB, hF, Bool.true_and]; rw [hfit]; decide
          have hw' := writeD_fits hdt f a s
          rw [if_neg hfit'] at hw'
          exact fin _ _ _ rfl (.of h' mS) hkt (by rw [hqt]; omega) hw'.symm
      · try simp only [go_sem, hF]
        have hfit' : ¬ fitsB f a s = true := by simp [fitsB, hF]
        have hw' := writeD_fits hdt f a s
        rw [if_neg hfit'] at hw'
        exact fin _ _ _ rfl (.of h' mS) hkt (by rw [hqt]; omega) hw'.symm

theorem rwrite_ (h : RR w p d S) {f a : Int} {s : Bytes} (hqn : d.queue.length + s.length ≤ 1000000000000) (k : ∀ w', RT S w w' p (d.write f a s) → next (.int .i64 (d.writeR f a s)) w') :
    callvK Try.prog (.func (.func 73) #[] #[]) [ptr p, .int .i64 f, .int .i64 a, str s] w next QP := by
  refine r73 rfl ?_
  unfold h73
  try simp only [go_sem]
  refine rcomes_ h hqn ?_
  intro w1 rt
  try simp only [go_sem]
  refine rmay_ rt.rr f ?_
  have hT : (d.tick.writeD f a s).keep = d.keep := by
    unfold Dk.writeD; split <;> exact tick_keep d
  cases hE : d.ends with
  | true =>
    have hc : d.comes f a s = (d.tick.writeD f a s).crash d.keep := by simp [Dk.comes, hE]
    have hcd : (d.comes f a s).down = true := by
      rw [hc]; unfold Dk.crash; split
      · assumption
      · rfl
    have hm : (d.comes f a s).may [f] = 8 := by simp [Dk.may, hcd]
    have e8 : (8 : Int) ≠ 0 := by decide
    try simp only [go_sem, hm, decide_eq_true e8]
    have h1 : d.write f a s = d.comes f a s := by rw [hc]; simp [Dk.write, Dk.endW, hE, hT]
    have h2 : d.writeR f a s = 8 := by simp [Dk.writeR, hE]
    rw [h1, h2] at k
    exact k _ rt
  | false =>
    have hc : d.comes f a s = d.tick := by simp [Dk.comes, hE]
    rw [hc] at rt ⊢
    have h1 : d.write f a s = d.tick.writeD f a s := by simp [Dk.write, Dk.endW, hE]
    have h2 : d.writeR f a s = d.tick.writeE f a s := by simp [Dk.writeR, hE]
    rw [h1, h2] at k
    have hqt := tick_queue d
    try simp only [go_sem]
    refine ⟨fun hm => ?_, fun hm => ?_⟩
    · have hm : ¬ d.tick.may [f] = 0 := by simpa using hm
      have h3 : d.tick.writeE f a s = d.tick.may [f] := by simp [Dk.writeE, hm]
      have h4 : d.tick.writeD f a s = d.tick := by simp [Dk.writeD, h3, hm]
      rw [h3, h4] at k
      exact k _ rt
    · have hm : d.tick.may [f] = 0 := by simpa using hm
      have hdt : d.tick.down = false := by
        cases hd : d.tick.down
        · rfl
        · simp [Dk.may, hd] at hm
      have hF : isF f = true := by
        cases hF : isF f
        · simp [Dk.may, hdt, hF] at hm
        · rfl
      have hfE := writeE_fits hdt f a s
      have hfD := writeD_fits hdt f a s
      unfold h73_1
      try simp only [go_sem]
      refine ⟨fun ha => ?_, fun ha => ?_⟩
      · have ha : a < 0 := by simpa using ha
        have h3 : d.tick.writeE f a s = 1 := by simp [Dk.writeE, hm, ha]
        have h4 : d.tick.writeD f a s = d.tick := by simp [Dk.writeD, h3]
        rw [h3, h4] at k
        exact k _ rt
      · have ha : ¬ a < 0 := by simpa using ha
        unfold h73_2
        try simp only [go_sem]
        refine rfits_ (by omega) ?_
        try simp only [go_sem]
        refine ⟨fun hft => ?_, fun hft => ?_⟩
        · have hft : ¬ fitsB f a s = true := by
            simp only [fitsB, hF, Bool.true_and]
            intro h; rw [h] at hft; cases hft
          have h3 : d.tick.writeE f a s = 6 := by
            have : ¬ d.tick.writeE f a s = 0 := fun h => hft (hfE.1 h)
            unfold Dk.writeE at this ⊢
            simp only [hm, ne_eq, not_true, if_false, if_neg ha] at this ⊢
            split at this
            · rw [if_pos (by assumption)]
            · exact absurd rfl this
          have h4 : d.tick.writeD f a s = d.tick := by rw [hfD, if_neg hft]
          rw [h3, h4] at k
          exact k _ rt
        · have hft : fitsB f a s = true := by
            simp only [fitsB, hF, Bool.true_and]
            simpa using hft
          have h3 := hfE.2 hft
          rw [hfD, if_pos hft, h3] at k
          obtain ⟨h0, h12⟩ : 0 ≤ f ∧ f < 12 := by simpa [isF] using hF
          obtain ⟨⟨ha0, ha1⟩, ha2⟩ : (0 ≤ a ∧ a ≤ 16777216) ∧ a + s.length ≤ 16777216 := by simpa [fitsB, hF] using hft
          obtain ⟨g, rfl⟩ := Int.eq_ofNat_of_zero_le h0
          obtain ⟨b, rfl⟩ := Int.eq_ofNat_of_zero_le ha0
          unfold h73_3
          try simp only [go_sem]
          refine radd_ rt.rr (f := g) (a := b) (by omega) (by omega) (by rw [hqt]; exact hqn) ?_
          intro w3 rt3
          try simp only [go_sem]
          exact k _ (rt.trans rt3)
end
end Go.Proofs.Y

/- RH: the reference's disk: flush, cut, turn. -/
namespace Go.Proofs.Y
open Go Go.HL Go.Proofs

section
variable {w : World} {next : Value → World → Prop} {QP : List PanicEntry → World → Prop} {p : Nat} {d : Dk} {S : Nat → Prop}

theorem comes_pre : d.comes 0 0 [] = d.pre := by
  simp [Dk.comes, Dk.pre, Dk.endW, Dk.writeD, tick_keep]

theorem last_at {lv : Value} {l : List Bytes} (hl : Own w lv 9 1 12 (l.map str)) : ∃ g c, lv = .slice (some ⟨g, 0, none⟩) 12 c ∧ ∀ f, f < 12 → w.cell? ⟨g, f, none⟩ = some (str (l.getD f [])) := by
  rcases hl.blk with ⟨-, h0, -⟩ | ⟨g, c, rest, rfl, hb, hr, hc, hm⟩
  · omega
  have hlen : l.length = 12 := by have := hl.len; simpa using this
  refine ⟨g, c, rfl, fun f hf => ?_⟩
  rw [hb.cell, List.getElem?_append_left (by simp; omega)]
  simp [hlen, hf]

/-- a durable part stored -/
theorem last_st {g c : Nat} {l : List Bytes} (hl : Own w (.slice (some ⟨g, 0, none⟩) 12 c) 9 1 12 (l.map str)) {f : Nat} (hf : f < 12) (s : Bytes)
    (k : ∀ w', Own w' (.slice (some ⟨g, 0, none⟩) 12 c) 9 1 12 ((l.set f s).map str) → Mod (fun k => k = g) w w' → next undef w') : storeK Try.prog 9 (.pointer (some ⟨g, f, none⟩)) (str s) w next QP := by
  rcases hl.blk with ⟨-, h0, -⟩ | ⟨g', c', rest, e, hb, hr, hc, hm⟩
  · omega
  simp only [Value.slice.injEq, Option.some.injEq, Addr.mk.injEq] at e
  obtain ⟨⟨rfl, -⟩, -, rfl⟩ := e
  have hlen : l.length = 12 := by have := hl.len; simpa using this
  refine store1 sz9 hb (by simp; omega) rfl ?_
  intro w' hb' m hsz
  refine k w' ?_ m
  rw [List.set_append_left _ _ (by simp; omega)] at hb'
  have e : (l.map str).set f (str s) = (l.set f s).map str := by rw [List.map_set]
  rw [e] at hb'
  exact Own.of_blk (by simp [hlen]) hb' hr hc hm

theorem isF_of_may {f : Int} (hm : d.may [f] = 0) : d.down = false ∧ ∃ g : Nat, f = g ∧ g < 12 := by
  unfold Dk.may at hm
  split at hm
  · omega
  · rename_i hd
    split at hm
    · rename_i hh
      obtain ⟨h0, h12⟩ : 0 ≤ f ∧ f < 12 := by simpa [isF] using hh
      obtain ⟨g, rfl⟩ := Int.eq_ofNat_of_zero_le h0
      exact ⟨by simpa using hd, g, rfl, by omega⟩
    · omega

/-- the end of a settling: the pending writes of the file go -/
theorem settle_end {next : Value → Value → World → Prop} {w0 : World} {d' : Dk} {lv qv kv : Value} {q : List Pd} {f : Nat} (h : RR w0 p d S) (m : Mod S w0 w) (hb : Blk w p 99 [lv, qv, .int .i64 d'.lost, .bool d'.down, .int .i64 d'.armed, kv]) (hl : Own w lv 9 1 12 (d'.lasts.map str))
    (hq : Own w qv 118 3 q.length (rows Pd.cells q)) (hk : Own w kv 3 1 d'.keep.length (ints d'.keep)) (hqn : q.length ≤ 1000000000000) (ok : d'.OK) (sy : Sync d') (hq' : d'.queue = wo q f)
    (h1 : ∀ k, lv.ownBlock = some k → (S k ∨ w0.heap.size ≤ k) ∧ k ≠ p) (h3 : ∀ k, kv.ownBlock = some k → (S k ∨ w0.heap.size ≤ k) ∧ k ≠ p)
    (k : ∀ w' u v, RT S w0 w' p d' → next u v w') : callvK Try.prog (.func (.func 104) #[] #[]) [ptr p, .int .i64 f] w (fun v w' => storeK Try.prog 97 (.pointer (some ⟨p, 1, none⟩)) v w' (next v) QP) QP := by
  refine rwithout_ (qv := qv) (hb.cell 1) hq hqn ?_
  intro v w1 m1 own1 hn1
  obtain ⟨ua, uc, rfl, -, -⟩ := own1.form
  refine store1 sz97 (hb.mod m1 fun h => h) (by simp) rfl ?_
  intro w2 hb2 m2 hs2
  have hpw := hb.lt
  have hs := m.size
  refine k w2 _ _ (.build (lv := lv) (qv := .slice ua (wo q f).length uc) (kv := kv) h ((m.trans m1 fun _ _ h => h.elim).trans m2 fun k _ (e : k = p) => e ▸ h.self) ok sy ?_ ?_ ?_ ?_ (fun k hk => (h1 k hk).1) (fun k hk => .inr ?_) (fun k hk => (h3 k hk).1))
  · simpa using hb2
  · exact (hl.mod m1 fun _ _ h => h).mod m2 fun k hk (e : k = p) => (h1 k hk).2 e
  · rw [hq']; exact own1.mod m2 fun k hk (e : k = p) => by have := hn1 k hk; omega
  · exact (hk.mod m1 fun _ _ h => h).mod m2 fun k hk (e : k = p) => (h3 k hk).2 e
  · have := hn1 k hk; omega

theorem rflush_ (h : RR w p d S) {f : Int} (hqn : d.queue.length ≤ 1000000000000) (k : ∀ w', RT S w w' p (d.flush f) → next (.int .i64 (d.flushR f)) w') :
    callvK Try.prog (.func (.func 74) #[] #[]) [ptr p, .int .i64 f] w next QP := by
  refine r74 rfl ?_
  unfold h74
  try simp only [go_sem]
  refine rcomes_ h (f := 0) (a := 0) (s := []) (by simpa using hqn) ?_
  rw [comes_pre]
  intro w1 rt
  have hqp := pre_queue d
  try simp only [go_sem]
  refine rmay_ rt.rr f ?_
  have k' := k
  simp only [Dk.flush, Dk.flushR] at k
  try simp only [go_sem]
  refine ⟨fun hm => ?_, fun hm => ?_⟩
  · have hm : ¬ d.pre.may [f] = 0 := by simpa using hm
    simp only [if_pos hm] at k
    exact k _ rt
  · have hm : d.pre.may [f] = 0 := by simpa using hm
    obtain ⟨hd, g, rfl, hg⟩ := isF_of_may hm
    obtain ⟨lv, qv, kv, hb, hl, hq, hk, h1, h2, h3, c0, c1, c2, c3, c4, c5⟩ := rt.rr.parts
    have hlo := rt.rr.ok.lost
    have hself := rt.rr.self
    unfold h74_1
    try simp only [go_sem, c2]
    refine ⟨fun hx => ?_, fun hx => ?_⟩
    · have hx : 0 < d.pre.lost := by simpa using hx
      rw [w64 (by omega) (by omega)]
      refine store1 sz3 hb (by simp) rfl ?_
      intro w2 hb2 m2 hs2
      try simp only [go_sem]
      have hne : ¬ (d.pre.may [(g : Int)] ≠ 0) := fun h => h hm
      simp only [if_neg hne, if_pos hx] at k
      refine k _ (rt.trans (.of (rt.rr.again (d' := { d.pre with lost := d.pre.lost - 1 }) m2 ⟨rt.rr.ok.nl, rt.rr.ok.nf, rt.rr.ok.bl, rt.rr.ok.bf, rt.rr.ok.bq, by simp only; omega, rt.rr.ok.armed⟩ rt.rr.sync ?_ hl hq hk (fun k hk => ⟨(h1 k hk).1, (h1 k hk).2.1⟩) (fun k hk => ⟨(h2 k hk).1, (h2 k hk).2.1⟩) (fun k hk => ⟨(h3 k hk).1, (h3 k hk).2.1⟩)) (m2.mono fun k _ (e : k = p) => e ▸ hself)))
      rw [show (((d.pre.lost - 1 : Nat) : Nat) : Int) = (d.pre.lost : Int) - 1 by omega]
      simpa using hb2
    · have hx : ¬ 0 < d.pre.lost := by simpa using hx
      have hne : ¬ (d.pre.may [(g : Int)] ≠ 0) := fun h => h hm
      simp only [if_neg hne, if_neg hx, Int.toNat_natCast] at k
      unfold h74_2
      try simp only [go_sem, c0]
      refine rread0_ (rt.rr.mod0 (Mod.drew none' w1)) hg (by omega) ?_
      intro w2 m2
      have m12 : Mod none' w1 w2 := (Mod.drew none' w1).trans' m2
      have c0' := m12.cell c0 fun h => h
      obtain ⟨gg, c, rfl, x0⟩ := last_at hl
      try simp only [go_sem, c0']
      repeat refine ⟨⟨by omega, by omega⟩, ?_⟩
      have hgS := h1 gg rfl
      refine last_st (hl.mod m12 fun _ _ h => h) hg (d.pre.file g) ?_
      intro w3 hl3 m3
      try simp only [go_sem]
      have m13 : Mod (fun k => k = gg) w1 w3 := (m12.mono fun _ _ h => h.elim).trans' m3
      refine settle_end (d' := d.pre.settle g (d.pre.file g)) rt.rr (m13.mono fun k _ (e : k = gg) => e ▸ hgS.1) (hb.mod m13 fun e => hgS.2.1 e.symm) hl3 (hq.mod m13 fun k hk (e : k = gg) => hgS.2.2.1 (e ▸ hk)) (hk.mod m13 fun k hk (e : k = gg) => hgS.2.2.2 (e ▸ hk)) (by omega)
        (rt.rr.ok.settle g (file_le rt.rr.ok g)) (rt.rr.sync.settle rt.rr.ok hg _) rfl (fun k hk => ⟨.inl (h1 k hk).1, (h1 k hk).2.1⟩) (fun k hk => ⟨.inl (h3 k hk).1, (h3 k hk).2.1⟩) ?_
      intro w4 u4 v4 rt4
      unfold h74_3
      try simp only [go_sem]
      exact k _ (rt.trans rt4)

theorem rcut_ (h : RR w p d S) {f n : Int} (hqn : d.queue.length ≤ 1000000000000) (k : ∀ w', RT S w w' p (d.cut f n) → next (.int .i64 (d.cutR f n)) w') :
    callvK Try.prog (.func (.func 75) #[] #[]) [ptr p, .int .i64 f, .int .i64 n] w next QP := by
  refine r75 rfl ?_
  unfold h75
  try simp only [go_sem]
  refine rcomes_ h (f := 0) (a := 0) (s := []) (by simpa using hqn) ?_
  rw [comes_pre]
  intro w1 rt
  have hqp := pre_queue d
  try simp only [go_sem]
  refine rmay_ rt.rr f ?_
  simp only [Dk.cut, Dk.cutR] at k
  try simp only [go_sem]
  refine ⟨fun hm => ?_, fun hm => ?_⟩
  · have hm : ¬ d.pre.may [f] = 0 := by simpa using hm
    simp only [if_pos hm] at k
    exact k _ rt
  · have hm : d.pre.may [f] = 0 := by simpa using hm
    have hne : ¬ (d.pre.may [f] ≠ 0) := fun h => h hm
    simp only [if_neg hne] at k
    obtain ⟨hd, g, rfl, hg⟩ := isF_of_may hm
    have hsz : d.pre.size (g : Int) = (d.pre.file g).length := by
      have : isF (g : Int) = true := by simp [isF]; omega
      simp [Dk.size, this]
    rw [hsz] at k
    unfold h75_1
    try simp only [go_sem]
    refine rread0_ rt.rr hg (by omega) ?_
    intro w2 m2
    have rt2 := rt.mod0 m2
    have ec : (if decide (n < 0) = true then true else decide (((d.pre.file g).length : Int) < n)) = decide (n < 0 ∨ ((d.pre.file g).length : Int) < n) := by
      by_cases h : n < 0 <;> simp [h]
    try simp only [go_sem, ec]
    refine ⟨fun hx => ?_, fun hx => ?_⟩
    · have hx : n < 0 ∨ ((d.pre.file g).length : Int) < n := by simpa using hx
      simp only [if_pos hx] at k
      exact k _ rt2
    · have hx : ¬ (n < 0 ∨ ((d.pre.file g).length : Int) < n) := by simpa using hx
      simp only [if_neg hx, Int.toNat_natCast] at k
      obtain ⟨b, rfl⟩ := Int.eq_ofNat_of_zero_le (show 0 ≤ n by omega)
      have rt2' := rt2.mod0 (Mod.drew none' w2)
      obtain ⟨lv, qv, kv, hb, hl, hq, hk, h1, h2, h3, c0, c1, c2, c3, c4, c5⟩ := rt2'.rr.parts
      obtain ⟨gg, c, rfl, x0⟩ := last_at hl
      have c0' : w2.cell? ⟨p, 0, none⟩ = _ := c0
      unfold h75_2
      try simp only [go_sem, c0']
      repeat refine ⟨⟨by omega, by omega⟩, ?_⟩
      have hgS := h1 gg rfl
      have hfl := file_le rt2'.rr.ok g
      refine last_st hl hg ((d.pre.file g).take b) ?_
      intro w3 hl3 m3
      try simp only [go_sem]
      refine settle_end (next := fun _ _ w' => next (.int .i64 0) w') (d' := d.pre.settle g ((d.pre.file g).take b)) rt2'.rr (m3.mono fun k _ (e : k = gg) => e ▸ hgS.1) (hb.mod m3 fun e => hgS.2.1 e.symm) hl3 (hq.mod m3 fun k hk (e : k = gg) => hgS.2.2.1 (e ▸ hk)) (hk.mod m3 fun k hk (e : k = gg) => hgS.2.2.2 (e ▸ hk)) (by omega)
        (rt2'.rr.ok.settle g (by rw [List.length_take]; omega)) (rt2'.rr.sync.settle rt2'.rr.ok hg _) rfl (fun k hk => ⟨.inl (h1 k hk).1, (h1 k hk).2.1⟩) (fun k hk => ⟨.inl (h3 k hk).1, (h3 k hk).2.1⟩) ?_
      intro w4 u4 v4 rt4
      exact k _ (rt2'.trans rt4)
end
end Go.Proofs.Y

/- RI: the reference's disk: turn, copy. -/
namespace Go.Proofs.Y
open Go Go.HL Go.Proofs

section
variable {w : World} {next : Value → World → Prop} {QP : List PanicEntry → World → Prop} {p : Nat} {d : Dk} {S : Nat → Prop}

theorem may_two (f g : Int) : d.may [f, g] = if d.may [f] ≠ 0 then d.may [f] else d.may [g] := by
  unfold Dk.may
  cases h1 : d.down <;> cases h2 : isF f <;> cases h3 : isF g <;> simp [h2, h3]
theorem wo_len (q : List Pd) (g : Nat) : decide ((wo q g).length = q.length) = !(q.any fun p => decide ((p.file : Int) = g)) := by
  induction q with
  | nil => rfl
  | cons x q ih =>
    have hle : (wo q g).length ≤ q.length := List.length_filter_le _ _
    unfold wo at *
    by_cases hx : x.file = g
    · rw [List.filter_cons_of_neg (by simp [hx])]
      have : ¬ (q.filter fun p => !decide (p.file = g)).length = (x :: q).length := by simp; omega
      rw [decide_eq_false this]; simp [hx]
    · rw [List.filter_cons_of_pos (by simp [hx])]
      have e : (x.file : Int) ≠ g := by omega
      simp only [List.length_cons, List.any_cons, Nat.add_right_cancel_iff]
      rw [ih]; simp [e]
theorem wo_none {q : List Pd} {g : Nat} (h : (q.any fun p => decide ((p.file : Int) = g)) = false) : wo q g = q := by
  unfold wo
  rw [List.filter_eq_self]
  intro x hx
  have := List.any_eq_false.1 h x hx
  simp at this ⊢; omega

theorem rturn_ (h : RR w p d S) {f g : Int} (hqn : d.queue.length ≤ 1000000000000) (k : ∀ w', RT S w w' p (d.turn f g) → next (.int .i64 (d.turnR f g)) w') :
    callvK Try.prog (.func (.func 76) #[] #[]) [ptr p, .int .i64 f, .int .i64 g] w next QP := by
  refine r76 rfl ?_
  unfold h76
  try simp only [go_sem]
  refine rcomes_ h (f := 0) (a := 0) (s := []) (by simpa using hqn) ?_
  rw [comes_pre]
  intro w1 rt
  have hqp := pre_queue d
  try simp only [go_sem]
  refine rmay_ rt.rr f ?_
  simp only [Dk.turn, Dk.turnR, may_two] at k
  try simp only [go_sem]
  refine ⟨fun hm => ?_, fun hm => ?_⟩
  · have hm : ¬ d.pre.may [f] = 0 := by simpa using hm
    simp only [if_pos hm] at k
    exact k _ rt
  · have hm : d.pre.may [f] = 0 := by simpa using hm
    have hne : ¬ (d.pre.may [f] ≠ 0) := fun h => h hm
    simp only [if_neg hne] at k
    unfold h76_1
    try simp only [go_sem]
    refine rmay_ rt.rr g ?_
    try simp only [go_sem]
    refine ⟨fun hm2 => ?_, fun hm2 => ?_⟩
    · have hm2 : ¬ d.pre.may [g] = 0 := by simpa using hm2
      simp only [if_pos hm2] at k
      exact k _ rt
    · have hm2 : d.pre.may [g] = 0 := by simpa using hm2
      have hne2 : ¬ (d.pre.may [g] ≠ 0) := fun h => h hm2
      simp only [if_neg hne2] at k
      obtain ⟨hd, f', rfl, hf⟩ := isF_of_may hm
      obtain ⟨-, g', rfl, hg⟩ := isF_of_may hm2
      unfold h76_2
      try simp only [go_sem]
      refine ⟨fun he => ?_, fun he => ?_⟩
      · have he : (f' : Int) = g' := by simpa using he
        simp only [if_pos he] at k
        exact k _ rt
      · have he : ¬ (f' : Int) = g' := by simpa using he
        simp only [if_neg he] at k
        have rt1 := rt.mod0 (Mod.drew none' w1)
        obtain ⟨lv, qv, kv, hb, hl, hq, hk, h1, h2, h3, c0, c1, c2, c3, c4, c5⟩ := rt1.rr.parts
        obtain ⟨qa, qc, rfl, hqc, -⟩ := hq.form
        have c1' : w1.cell? ⟨p, 1, none⟩ = _ := c1
        unfold h76_3
        try simp only [go_sem, c1']
        refine rwithout_ (p := p) c1 hq (f := g') (by omega) ?_
        intro v2 w2 m2 own2 hn2
        obtain ⟨va, vc, rfl, -, -⟩ := own2.form
        have c1'' := m2.cell c1 fun h => h
        have hwl := wo_len d.pre.queue g'
        have ew : decide (((wo d.pre.queue g').length : Int) = d.pre.queue.length) = !d.pre.pends g' := by
          rw [show decide (((wo d.pre.queue g').length : Int) = d.pre.queue.length) = decide ((wo d.pre.queue g').length = d.pre.queue.length) by congr 1; apply propext; omega]
          exact hwl
        try simp only [go_sem, c1'', ew, Bool.not_not]
        refine ⟨fun hp => ?_, fun hp => ?_⟩
        · simp only [hp, if_true] at k
          exact k _ (rt1.mod0 m2)
        · simp only [hp, Bool.false_eq_true, if_false, Int.toNat_natCast] at k
          have rt2 := (rt1.mod0 m2).mod0 (Mod.drew none' w2)
          obtain ⟨lv, qv, kv, hb, hl, hq, hk, h1, h2, h3, c0, c1, c2, c3, c4, c5⟩ := rt2.rr.parts
          obtain ⟨gg, c, rfl, x0⟩ := last_at hl
          have c0' : w2.cell? ⟨p, 0, none⟩ = _ := c0
          have xg : w2.cell? ⟨gg, g', none⟩ = _ := x0 g' hg
          have hgS := h1 gg rfl
          unfold h76_4
          try simp only [go_sem, c0', xg]
          repeat refine ⟨⟨by omega, by omega⟩, ?_⟩
          refine last_st hl hf _ ?_
          intro w3 hl3 m3
          have c03 := m3.cell c0 fun e => hgS.2.1 e.symm
          try simp only [go_sem, c03]
          repeat refine ⟨⟨by omega, by omega⟩, ?_⟩
          refine last_st hl3 hg [] ?_
          intro w4 hl4 m4
          try simp only [go_sem]
          have m24 := m3.trans' m4
          have hfl : (d.pre.lasts.getD g' []).length ≤ 16777216 := by
            have : d.pre.lasts.getD g' [] = d.pre.lasts[g']'(by rw [rt2.rr.ok.nl]; exact hg) := by simp [rt2.rr.ok.nl, hg]
            rw [this]; exact rt2.rr.ok.bl _ (List.getElem_mem _)
          refine settle_end (d' := (d.pre.settle f' (d.pre.last g')).settle g' []) rt2.rr (m24.mono fun k _ (e : k = gg) => e ▸ hgS.1) (hb.mod m24 fun e => hgS.2.1 e.symm) hl4 (hq.mod m24 fun k hk (e : k = gg) => hgS.2.2.1 (e ▸ hk)) (hk.mod m24 fun k hk (e : k = gg) => hgS.2.2.2 (e ▸ hk)) (by omega)
            ((rt2.rr.ok.settle f' hfl).settle g' (by simp)) ((rt2.rr.sync.settle rt2.rr.ok hf _).settle (rt2.rr.ok.settle f' hfl) hg _) ?_ (fun k hk => ⟨.inl (h1 k hk).1, (h1 k hk).2.1⟩) (fun k hk => ⟨.inl (h3 k hk).1, (h3 k hk).2.1⟩) ?_
          · show ((d.pre.queue.filter _).filter _) = _
            rw [List.filter_filter]
            unfold wo
            apply List.filter_congr
            intro x hx
            have := List.any_eq_false.1 hp x hx
            have hxg : x.file ≠ g' := by simp at this; omega
            simp [hxg]
          · intro w5 u5 v5 rt5
            unfold h76_5
            try simp only [go_sem]
            exact k _ (rt2.trans rt5)

/-- three copies in the making -/
structure CB (w0 w : World) (v1 v2 v3 : Value) (n1 n2 n3 : Nat) (x1 x2 x3 : List Value) : Prop where
  o1 : Own w v1 9 1 n1 x1
  o2 : Own w v2 118 3 n2 x2
  o3 : Own w v3 3 1 n3 x3
  f1 : ∀ k, v1.ownBlock = some k → w0.heap.size ≤ k
  f2 : ∀ k, v2.ownBlock = some k → w0.heap.size ≤ k
  f3 : ∀ k, v3.ownBlock = some k → w0.heap.size ≤ k
  m : Mod none' w0 w
section
variable {w0 : World} {v1 v2 v3 : Value} {n1 n2 n3 : Nat} {x1 x2 x3 : List Value}
theorem CB.start (w : World) : CB w w (.slice none 0 0) (.slice none 0 0) (.slice none 0 0) 0 0 0 [] [] [] :=
  ⟨Own.nil _ _ _, Own.nil _ _ _, Own.nil _ _ _, fun k hk => (nomatch (hk : none = some k)), fun k hk => (nomatch (hk : none = some k)), fun k hk => (nomatch (hk : none = some k)), Mod.refl _ _⟩
theorem CB.drew (h : CB w0 w v1 v2 v3 n1 n2 n3 x1 x2 x3) : CB w0 w.drew v1 v2 v3 n1 n2 n3 x1 x2 x3 :=
  ⟨h.o1, h.o2, h.o3, h.f1, h.f2, h.f3, h.m.trans' (Mod.drew _ _)⟩
theorem CB.b1 (h : CB w0 w v1 v2 v3 n1 n2 n3 x1 x2 x3) (k : ∀ w' b, CB w0 w' (.slice (some ⟨b, 0, none⟩) 0 0) v2 v3 0 n2 n3 [] x2 x3 → next (.slice (some ⟨b, 0, none⟩) 0 0) w') : bslK Try.prog 40 0 [] w next QP := by
  refine bsl0 sl40 ?_
  intro b w' hb own m hs
  exact k w' b ⟨own, h.o2.mod m fun _ _ h => h, h.o3.mod m fun _ _ h => h, fun k hk => by have := h.m.size; simp [Value.ownBlock] at hk; omega, h.f2, h.f3, h.m.trans' m⟩
theorem CB.b2 (h : CB w0 w v1 v2 v3 n1 n2 n3 x1 x2 x3) (k : ∀ w' b, CB w0 w' v1 (.slice (some ⟨b, 0, none⟩) 0 0) v3 n1 0 n3 x1 [] x3 → next (.slice (some ⟨b, 0, none⟩) 0 0) w') : bslK Try.prog 97 0 [] w next QP := by
  refine bsl0 sl118 ?_
  intro b w' hb own m hs
  exact k w' b ⟨h.o1.mod m fun _ _ h => h, own, h.o3.mod m fun _ _ h => h, h.f1, fun k hk => by have := h.m.size; simp [Value.ownBlock] at hk; omega, h.f3, h.m.trans' m⟩
theorem CB.b3 (h : CB w0 w v1 v2 v3 n1 n2 n3 x1 x2 x3) (k : ∀ w' b, CB w0 w' v1 v2 (.slice (some ⟨b, 0, none⟩) 0 0) n1 n2 0 x1 x2 [] → next (.slice (some ⟨b, 0, none⟩) 0 0) w') : bslK Try.prog 22 0 [] w next QP := by
  refine bsl0 sl22 ?_
  intro b w' hb own m hs
  exact k w' b ⟨h.o1.mod m fun _ _ h => h, h.o2.mod m fun _ _ h => h, own, h.f1, h.f2, fun k hk => by have := h.m.size; simp [Value.ownBlock] at hk; omega, h.m.trans' m⟩
theorem CB.a1 {xv : Value} {m : Nat} {ys : List Value} (h : CB w0 w v1 v2 v3 0 n2 n3 [] x2 x3) (hx : Sl w0 xv 1 m ys) (hy : ∀ u ∈ ys, u.oneCell' = true) (hm : m ≤ 1000000000000) (k : ∀ w' a c, CB w0 w' (.slice a m c) v2 v3 m n2 n3 ys x2 x3 → next (.slice a m c) w') : appK Try.prog #[40, 40] 40 v1 xv w next QP := by
  refine append_ sl40 h.o1 (hx.mod h.m fun _ _ h => h) hy (by omega) (by unfold maxLen; omega) ?_
  intro v' w' own m' hb _
  obtain ⟨a, c, rfl, -, -⟩ := own.form
  rw [Nat.zero_add] at own hb ⊢
  refine k w' a c ⟨by simpa using own, h.o2.mod m' fun k hk hS => own_ne h.o1 h.o2 (by decide) hS hk, h.o3.mod m' fun k hk hS => own_ne h.o1 h.o3 (by decide) hS hk, fun k hk => ?_, h.f2, h.f3, h.m.trans m' fun k hk hS => by have := h.f1 k hS; omega⟩
  rcases hb k hk with h' | h'
  · exact h.f1 k h'
  · have := h.m.size; omega
theorem CB.a2 {xv : Value} {m : Nat} {ys : List Value} (h : CB w0 w v1 v2 v3 n1 0 n3 x1 [] x3) (hx : Sl w0 xv 3 m ys) (hy : ∀ u ∈ ys, u.oneCell' = true) (hm : m ≤ 1000000000000) (k : ∀ w' a c, CB w0 w' v1 (.slice a m c) v3 n1 m n3 x1 ys x3 → next (.slice a m c) w') : appK Try.prog #[97, 97] 97 v2 xv w next QP := by
  refine append_ sl118 h.o2 (hx.mod h.m fun _ _ h => h) hy (by omega) (by unfold maxLen; omega) ?_
  intro v' w' own m' hb _
  obtain ⟨a, c, rfl, -, -⟩ := own.form
  rw [Nat.zero_add] at own hb ⊢
  refine k w' a c ⟨h.o1.mod m' fun k hk hS => own_ne h.o2 h.o1 (by decide) hS hk, by simpa using own, h.o3.mod m' fun k hk hS => own_ne h.o2 h.o3 (by decide) hS hk, h.f1, fun k hk => ?_, h.f3, h.m.trans m' fun k hk hS => by have := h.f2 k hS; omega⟩
  rcases hb k hk with h' | h'
  · exact h.f2 k h'
  · have := h.m.size; omega
theorem CB.a3 {xv : Value} {m : Nat} {ys : List Value} (h : CB w0 w v1 v2 v3 n1 n2 0 x1 x2 []) (hx : Sl w0 xv 1 m ys) (hy : ∀ u ∈ ys, u.oneCell' = true) (hm : m ≤ 9000000000000) (k : ∀ w' a c, CB w0 w' v1 v2 (.slice a m c) n1 n2 m x1 x2 ys → next (.slice a m c) w') : appK Try.prog #[22, 22] 22 v3 xv w next QP := by
  refine append_ sl22 h.o3 (hx.mod h.m fun _ _ h => h) hy (by omega) (by unfold maxLen; omega) ?_
  intro v' w' own m' hb _
  obtain ⟨a, c, rfl, -, -⟩ := own.form
  rw [Nat.zero_add] at own hb ⊢
  refine k w' a c ⟨h.o1.mod m' fun k hk hS => own_ne h.o3 h.o1 (by decide) hS hk, h.o2.mod m' fun k hk hS => own_ne h.o3 h.o2 (by decide) hS hk, by simpa using own, h.f1, h.f2, fun k hk => ?_, h.m.trans m' fun k hk hS => by have := h.f3 k hS; omega⟩
  rcases hb k hk with h' | h'
  · exact h.f3 k h'
  · have := h.m.size; omega
end

attribute [local irreducible] bslK appK boxK
set_option maxHeartbeats 1000000 in
theorem rcopy_ (h : RR w p d S) (hqn : d.queue.length ≤ 1000000000) (hkn : d.keep.length ≤ 9000000000000) (k : ∀ p' w', w.heap.size ≤ p' → RT none' w w' p' d → next (ptr p') w') : callvK Try.prog (.func (.func 36) #[] #[]) [ptr p] w next QP := by
  refine r36 rfl ?_
  obtain ⟨lv, qv, kv, hb, hl, hq, hk, h1, h2, h3, c0, c1, c2, c3, c4, c5⟩ := h.parts
  have y1 : ∀ u ∈ d.lasts.map str, u.oneCell' = true := by intro u hu; obtain ⟨x, -, rfl⟩ := List.mem_map.1 hu; rfl
  have y2 : ∀ u ∈ rows Pd.cells d.queue, u.oneCell' = true := by
    intro u hu; obtain ⟨x, -, hx⟩ := List.mem_flatMap.1 hu; exact Pd.one x u hx
  have y3 : ∀ u ∈ ints d.keep, u.oneCell' = true := by intro u hu; obtain ⟨x, -, rfl⟩ := List.mem_map.1 hu; rfl
  have fin : ∀ (w1 : World) (a b c : Value), CB w w1 a b c 12 d.queue.length d.keep.length (d.lasts.map str) (rows Pd.cells d.queue) (ints d.keep) →
      boxK Try.prog 99 (.agg #[a, b, .int .i64 d.lost, .bool d.down, .int .i64 d.armed, c]) w1 next noPanic := by
    intro w1 a b c H
    refine box_ (cs := [a, b, .int .i64 d.lost, .bool d.down, .int .i64 d.armed, c]) rfl ?_
    intro p' w2 hp' blk2 m2 hs2
    have hs := H.m.size
    refine k p' w2 (by omega) ⟨fun k => k = p' ∨ a.ownBlock = some k ∨ b.ownBlock = some k ∨ c.ownBlock = some k, ⟨h.ok, h.sync, ⟨a, b, c, blk2, H.o1.mod m2 fun _ _ h => h, H.o2.mod m2 fun _ _ h => h, H.o3.mod m2 fun _ _ h => h, fun k hk => .inr (.inl hk), fun k hk => .inr (.inr (.inl hk)), fun k hk => .inr (.inr (.inr hk))⟩, .inl rfl, ?_⟩, ?_, H.m.trans' m2⟩
    · rintro k (rfl | hk | hk | hk)
      · omega
      · have := H.o1.lt k hk; omega
      · have := H.o2.lt k hk; omega
      · have := H.o3.lt k hk; omega
    · rintro k (rfl | hk | hk | hk) <;> right
      · omega
      · exact H.f1 k hk
      · exact H.f2 k hk
      · exact H.f3 k hk
  have H := (CB.start w).drew
  unfold h36
  try simp only [go_sem, c0, c1, c2, c3, c4, c5]
  have k0 := H.m.cell c0 fun h => h
  have k1 := H.m.cell c1 fun h => h
  have k2 := H.m.cell c2 fun h => h
  have k3 := H.m.cell c3 fun h => h
  have k4 := H.m.cell c4 fun h => h
  have k5 := H.m.cell c5 fun h => h
  repeat' first
    | exact fin _ _ _ _ H
    | exact ⟨by decide, by simp, by simp, by simp, by simp, by simp, fin _ _ _ _ H⟩
    | refine ⟨?_, ?_⟩
    | (refine H.b1 ?_; intro w' b H; have k0 := H.m.cell c0 fun h => h; have k1 := H.m.cell c1 fun h => h; have k2 := H.m.cell c2 fun h => h; have k3 := H.m.cell c3 fun h => h; have k4 := H.m.cell c4 fun h => h; have k5 := H.m.cell c5 fun h => h; try simp only [go_sem, k0, k1, k2, k3, k4, k5])
    | (refine H.b2 ?_; intro w' b H; have k0 := H.m.cell c0 fun h => h; have k1 := H.m.cell c1 fun h => h; have k2 := H.m.cell c2 fun h => h; have k3 := H.m.cell c3 fun h => h; have k4 := H.m.cell c4 fun h => h; have k5 := H.m.cell c5 fun h => h; try simp only [go_sem, k0, k1, k2, k3, k4, k5])
    | (refine H.b3 ?_; intro w' b H; have k0 := H.m.cell c0 fun h => h; have k1 := H.m.cell c1 fun h => h; have k2 := H.m.cell c2 fun h => h; have k3 := H.m.cell c3 fun h => h; have k4 := H.m.cell c4 fun h => h; have k5 := H.m.cell c5 fun h => h; try simp only [go_sem, k0, k1, k2, k3, k4, k5])
    | (refine H.a1 hl.sl y1 (by omega) ?_; intro w' a c H; have k0 := H.m.cell c0 fun h => h; have k1 := H.m.cell c1 fun h => h; have k2 := H.m.cell c2 fun h => h; have k3 := H.m.cell c3 fun h => h; have k4 := H.m.cell c4 fun h => h; have k5 := H.m.cell c5 fun h => h; try simp only [go_sem, k0, k1, k2, k3, k4, k5])
    | (refine H.a2 hq.sl y2 (by omega) ?_; intro w' a c H; have k0 := H.m.cell c0 fun h => h; have k1 := H.m.cell c1 fun h => h; have k2 := H.m.cell c2 fun h => h; have k3 := H.m.cell c3 fun h => h; have k4 := H.m.cell c4 fun h => h; have k5 := H.m.cell c5 fun h => h; try simp only [go_sem, k0, k1, k2, k3, k4, k5])
    | (refine H.a3 hk.sl y3 hkn ?_; intro w' a c H; have k0 := H.m.cell c0 fun h => h; have k1 := H.m.cell c1 fun h => h; have k2 := H.m.cell c2 fun h => h; have k3 := H.m.cell c3 fun h => h; have k4 := H.m.cell c4 fun h => h; have k5 := H.m.cell c5 fun h => h; try simp only [go_sem, k0, k1, k2, k3, k4, k5])
    | (unfold t36_1; try simp only [go_sem, k0, k1, k2, k3, k4, k5])
    | (unfold t36_2; try simp only [go_sem, k0, k1, k2, k3, k4, k5])
    | (unfold t36_3; try simp only [go_sem, k0, k1, k2, k3, k4, k5])
    | (unfold t36_4; try simp only [go_sem, k0, k1, k2, k3, k4, k5])
    | (unfold t36_5; try simp only [go_sem, k0, k1, k2, k3, k4, k5])
    | (unfold t36_6; try simp only [go_sem, k0, k1, k2, k3, k4, k5])
    | (unfold t36_7; try simp only [go_sem, k0, k1, k2, k3, k4, k5])
    | (unfold t36_8; try simp only [go_sem, k0, k1, k2, k3, k4, k5])
    | (unfold t36_9; try simp only [go_sem, k0, k1, k2, k3, k4, k5])
    | (unfold t36_10; try simp only [go_sem, k0, k1, k2, k3, k4, k5])
    | (unfold t36_11; try simp only [go_sem, k0, k1, k2, k3, k4, k5])
    | (unfold t36_12; try simp only [go_sem, k0, k1, k2, k3, k4, k5])
    | (unfold t36_13; try simp only [go_sem, k0, k1, k2, k3, k4, k5])
    | (unfold t36_14; try simp only [go_sem, k0, k1, k2, k3, k4, k5])
    | (unfold t36_15; try simp only [go_sem, k0, k1, k2, k3, k4, k5])
    | (unfold t36_16; try simp only [go_sem, k0, k1, k2, k3, k4, k5])
    | (unfold t36_17; try simp only [go_sem, k0, k1, k2, k3, k4, k5])
    | (unfold t36_18; try simp only [go_sem, k0, k1, k2, k3, k4, k5])
    | (unfold t36_19; try simp only [go_sem, k0, k1, k2, k3, k4, k5])
    | (unfold t36_20; try simp only [go_sem, k0, k1, k2, k3, k4, k5])
    | (unfold t36_21; try simp only [go_sem, k0, k1, k2, k3, k4, k5])
    | (unfold t36_22; try simp only [go_sem, k0, k1, k2, k3, k4, k5])
    | (unfold t36_23; try simp only [go_sem, k0, k1, k2, k3, k4, k5])
    | (unfold t36_24; try simp only [go_sem, k0, k1, k2, k3, k4, k5])
    | (unfold t36_25; try simp only [go_sem, k0, k1, k2, k3, k4, k5])
    | (unfold t36_26; try simp only [go_sem, k0, k1, k2, k3, k4, k5])
    | (unfold t36_27; try simp only [go_sem, k0, k1, k2, k3, k4, k5])
    | (unfold t36_28; try simp only [go_sem, k0, k1, k2, k3, k4, k5])
  all_goals trace_state
end
end Go.Proofs.Y

/- RJ: an operation on the reference. -/
namespace Go.Proofs.Y
open Go Go.HL Go.Proofs
section
variable {w : World} {next : Value → World → Prop} {QP : List PanicEntry → World → Prop}
theorem twin_ {p : Nat} {d : Dk} {S : Nat → Prop} (h : RR w p d S) {a : Act} (ha : a.OK w) (hk0 : 0 < a.ks.length → a.kv.ownBlock ≠ some p) (hqn : d.queue.length ≤ 100000000)
    (k : ∀ w', RT S w w' p (d.act a) → next (.tuple #[str (d.actS a), .int .i64 (d.actE a)]) w') : callvK Try.prog (.func (.func 37) #[] #[]) [ptr p, .agg a.cells.toArray] w next QP := by
  refine r37 rfl ?_
  unfold h37
  try simp only [go_sem]
  refine box_ (cs := a.cells) rfl ?_
  intro b w1 hb hbb m1 hsz1
  obtain ⟨x0, x1, x2, x3, x4, x5⟩ := Act.get hbb
  have rr1 : RR w1 p d S := h.mod0 m1
  have ha1 := ha.mod0 m1
  have hr := pk_range a.Do
  try simp only [go_sem, x0]
  refine pick_ ha.d ?_
  try simp only [go_sem]
  have fin : ∀ (τ : Env) w', τ 4 = str [] → τ 5 = .int .i64 0 → RT S w w' p (d.act a) → d.actS a = [] → d.actE a = 0 → hw Try.prog noPanic h37_2 (endV [.tmp 4, .tmp 5] next) τ w' := by
    intro τ w' t4 t5 st e1 e2
    unfold h37_2
    try simp only [go_sem]
    have := k w' st
    rw [e1, e2] at this
    exact this
  have wr : ∀ τ : Env, τ 0 = ptr p → τ 3 = ptr b → τ 9 = .bool true → (pk a.Do = 0 ∨ pk a.Do = 1) → hw Try.prog noPanic h37_1 (blockX 0 (seqX (hw Try.prog noPanic h37_2 (endV [.tmp 4, .tmp 5] next)) (endV [.tmp 4, .tmp 5] next))) τ w1 := by
    intro τ t0 t3 t9 hk
    unfold h37_1
    try simp only [go_sem, t0, t3, t9, x0, x1, x2, x3, x4, x5]
    have hw := ha.sl
    refine rwrite_ rr1 (by omega) ?_
    intro w2 st2
    try simp only [go_sem]
    have := k w2
    simp only [Dk.act, Dk.actE, Dk.actS, if_pos hk, if_neg (show ¬ pk a.Do = 8 by omega)] at this
    exact this (RT.after m1 st2)
  refine ⟨fun h0 => ?_, fun h0 => ?_⟩
  · have h0 : pk a.Do = 0 := by simpa using h0
    exact wr _ rfl rfl (by simp [upd_at, h0]) (.inl h0)
  have h0 : pk a.Do ≠ 0 := by simpa using h0
  by_cases h1 : pk a.Do = 1
  · exact wr _ rfl rfl (by simp [upd_at, h1]) (.inr h1)
  have hn01 : ¬ (pk a.Do = 0 ∨ pk a.Do = 1) := by omega
  unfold h37_1
  have hd1 : decide (pk a.Do = 1) = false := by simp [h1]
  try simp only [go_sem, x0, x1, x2, x3, x4, x5, hd1]
  simp only [Dk.act, Dk.actE, Dk.actS, if_neg hn01] at k fin
  refine ⟨fun h2 => ?_, fun h2 => ?_⟩
  · have h2 : pk a.Do = 2 := by simpa using h2
    refine rflush_ rr1 (by omega) ?_
    intro w2 st2
    try simp only [go_sem]
    have := k w2
    simp only [h2, if_true, if_neg (show ¬ (2 : Int) = 8 by omega)] at this
    exact this (RT.after m1 st2)
  have h2 : ¬ pk a.Do = 2 := by simpa using h2
  simp only [if_neg h2] at k fin
  refine ⟨fun h3 => ?_, fun h3 => ?_⟩
  · have h3 : pk a.Do = 3 := by simpa using h3
    refine rcut_ rr1 (by omega) ?_
    intro w2 st2
    try simp only [go_sem]
    have := k w2
    simp only [h3, if_true, if_neg (show ¬ (3 : Int) = 8 by omega)] at this
    exact this (RT.after m1 st2)
  have h3 : ¬ pk a.Do = 3 := by simpa using h3
  simp only [if_neg h3] at k fin
  refine ⟨fun h4 => ?_, fun h4 => ?_⟩
  · have h4 : pk a.Do = 4 := by simpa using h4
    refine rturn_ rr1 (by omega) ?_
    intro w2 st2
    try simp only [go_sem]
    have := k w2
    simp only [h4, if_true, if_neg (show ¬ (4 : Int) = 8 by omega)] at this
    exact this (RT.after m1 st2)
  have h4 : ¬ pk a.Do = 4 := by simpa using h4
  simp only [if_neg h4] at k fin
  refine ⟨fun h5 => ?_, fun h5 => ?_⟩
  · have h5 : pk a.Do = 5 := by simpa using h5
    refine rcrash_ rr1 ha1.k hk0 (by omega) ?_
    intro w2 st2
    try simp only [go_sem]
    simp only [h5, if_true, if_neg (show ¬ (5 : Int) = 8 by omega), true_implies] at fin
    exact fin _ _ rfl rfl (RT.after m1 st2)
  have h5 : ¬ pk a.Do = 5 := by simpa using h5
  simp only [if_neg h5] at k fin
  refine ⟨fun h6 => ?_, fun h6 => ?_⟩
  · have h6 : pk a.Do = 6 := by simpa using h6
    refine rlose_ rr1 ha.n.2 ?_
    intro w2 dr2 m2
    try simp only [go_sem]
    simp only [h6, if_true, if_neg (show ¬ (6 : Int) = 8 by omega), true_implies] at fin
    exact fin _ _ rfl rfl (RT.after m1 (.of dr2 m2))
  have h6 : ¬ pk a.Do = 6 := by simpa using h6
  simp only [if_neg h6] at k fin
  refine ⟨fun h7 => ?_, fun h7 => ?_⟩
  · have h7 : pk a.Do = 7 := by simpa using h7
    refine rstart_ rr1 ?_
    intro w2 dr2 m2
    try simp only [go_sem]
    simp only [h7, if_true, if_neg (show ¬ (7 : Int) = 8 by omega), true_implies] at fin
    exact fin _ _ rfl rfl (RT.after m1 (.of dr2 m2))
  have h7 : ¬ pk a.Do = 7 := by simpa using h7
  simp only [if_neg h7] at k fin
  refine ⟨fun h8 => ?_, fun h8 => ?_⟩
  · have h8 : pk a.Do = 8 := by simpa using h8
    refine rread_ rr1 a.F (by omega) ?_
    intro w2 m2
    try simp only [go_sem]
    have := k w2
    simp only [h8, if_true] at this
    exact this (RT.after m1 (.of (rr1.mod0 m2) (m2.mono fun _ _ h => h.elim)))
  have h8 : ¬ pk a.Do = 8 := by simpa using h8
  simp only [if_neg h8] at k fin
  refine ⟨fun h10 => ?_, fun h10 => ?_⟩
  · have h10 : pk a.Do = 10 := by simpa using h10
    refine rarm_ rr1 ha.n.2 ha1.k hk0 (by have := ha.kl; omega) ?_
    intro w2 st2
    try simp only [go_sem]
    simp only [h10, if_true, true_implies] at fin
    exact fin _ _ rfl rfl (RT.after m1 st2)
  have h10 : ¬ pk a.Do = 10 := by simpa using h10
  simp only [if_neg h10, true_implies] at k fin
  exact fin _ _ rfl rfl (RT.after m1 (.refl rr1))

end
end Go.Proofs.Y

/- JL: the journal's small example. -/
namespace Go.Proofs.Y
open Go Go.HL Go.Proofs

theorem JS.opened {w0 w w' : World} {p q g : Nat} {d : Dk} {L : Lg} {F : FP} {S : Nat → Prop} (dr : DR w p d F) (f0 : ∀ k, F.R k → w0.heap.size ≤ k) (m : Mod none' w0 w) (lg : LG w' q p g L S) (hS : ∀ k, S k → w.heap.size ≤ k) (m' : Mod none' w w') : JS w0 w' p q g d L F S := by
  have hs := m.size
  exact ⟨dr.mod0 m', lg, fun k hk hS' => by have := dr.lt k hk; have := hS k hS'; omega, f0, fun k hk => by have := hS k hk; omega, m.trans' m'⟩

/-! ### the example's states -/
def L0 : Lg := ⟨[], 0, 16⟩
def dA : Dk := addD' Dk.new L0 2 [[97]]
def LA : Lg := L0.add [[97]]
def dB : Dk := (flushJ dA LA 2).1
def LB : Lg := ⟨[[97]], 1, 33⟩
def dC : Dk := addD' dB LB 2 [[98]]
def dD : Dk := (dC.crash []).start
def dE : Dk := (rewr dD 2 [[98], [99]]).1
def dF : Dk := (dE.crash []).start
theorem xA : addE Dk.new L0 2 [[97]] = 0 := by decide +kernel
theorem xB : (flushJ dA LA 2).2.2 = 0 := by decide +kernel
theorem xB2 : (flushJ dA LA 2).2.1 = LB := by
  have h1 : ¬ LA.sure = LA.rows.length := by decide
  have h2 : (flush3 dA LA 2).2 = 0 := by decide +kernel
  rw [flushJ, if_neg h1]
  simp only [h2, if_true]
  rfl
theorem xC : addE dB LB 2 [[98]] = 0 := by decide +kernel
theorem xD0 : dD.may [2] = 0 := by decide +kernel
theorem xD : dD.file 2 = header (16 + (formsB [[97]]).length : Nat) ([[97]] : List Bytes).length ++ formsB [[97]] ++ [] := by decide +kernel
theorem xDo : openB (dD.file 2) = some ⟨[[97]], 1, 33⟩ := by
  have h := openB_core (Core.full [[97]] []) (by decide +kernel)
  rw [← xD] at h
  have e : 16 + (formsB [[97]]).length = 33 := by decide +kernel
  rw [h, e]; rfl
theorem xE : (rewr dD 2 [[98], [99]]).2 = 0 := by decide +kernel
theorem xF0 : dF.may [2] = 0 := by decide +kernel
theorem xF : dF.file 2 = header (16 + (formsB [[98], [99]]).length : Nat) ([[98], [99]] : List Bytes).length ++ formsB [[98], [99]] ++ [] := by decide +kernel
theorem xFo : openB (dF.file 2) = some ⟨[[98], [99]], 2, 50⟩ := by
  have h := openB_core (Core.full [[98], [99]] []) (by decide +kernel)
  rw [← xF] at h
  have e : 16 + (formsB [[98], [99]]).length = 50 := by decide +kernel
  rw [h, e]; rfl

theorem St.reopen {w0 w w' : World} {p q f : Nat} {d d' : Dk} {L : Lg} {F : FP} {S : Nat → Prop} (h : JS w0 w p q f d L F S) (st : St F w w' p d') : ∃ F', DR w' p d' F' ∧ (∀ k, F'.R k → w0.heap.size ≤ k) ∧ Mod none' w0 w' := ⟨_, (h.disk st).dr, (h.disk st).f0, (h.disk st).m⟩

section
variable {w : World} {next : Value → World → Prop} {QP : List PanicEntry → World → Prop}

theorem jsmall5 {w1 : World} {p q : Nat} {L : Lg} {σ : Env} (h : JT w w1 p q 2 dF ⟨[[98], [99]], 2, 50⟩) (s2 : σ 4 = .int .i64 0) (s5 : σ 5 = .int .i64 0) (s6 : σ 6 = .int .i64 0) (s7 : σ 7 = .int .i64 1) (s10 : σ 10 = .bool true) (s11 : σ 11 = .int .i64 0) (s12 : σ 12 = ptr q) (k : ∀ w', Mod none' w w' → next (.bool true) w') :
    hw Try.prog noPanic h43_5 (endV [.tmp 0] next) σ w1 := by
  obtain ⟨F, S, h⟩ := h
  unfold h43_5
  try simp only [go_sem, s2, s5, s6, s7, s10, s11, s12]
  refine jall_ h.lg ?_
  intro v2 w2 own2 m2 _
  try simp only [go_sem, s2, s5, s6, s7, s10, s11, s12]
  refine bsl2 sl40 rfl rfl ?_
  intro b3 w3 _ own3 _ m3 _
  refine same__ (a := [[98], [99]]) (b := [[98], [99]]) (n := 2) (m := 2) (own2.sl.mod m3 fun _ _ h => h) own3.sl (by omega) ?_
  intro w4 m4
  have h4 := ((h.mod0 m2).mod0 m3).mod0 m4
  try simp only [go_sem, s2, s5, s6, s7, s10, s11, s12]
  refine jsure_ h4.lg ?_
  try simp only [go_sem]
  exact k _ h4.m

theorem jsmall3 {w1 : World} {p q : Nat} {σ : Env} (h : JT w w1 p q 2 dD ⟨[[97]], 1, 33⟩) (s1 : σ 1 = ptr p) (s2 : σ 4 = .int .i64 0) (s5 : σ 5 = .int .i64 0) (s6 : σ 6 = .int .i64 0) (s7 : σ 7 = .int .i64 1) (s8 : σ 8 = ptr q) (k : ∀ w', Mod none' w w' → next (.bool true) w') :
    hw Try.prog noPanic h43_3 (endV [.tmp 0] next) σ w1 := by
  obtain ⟨F, S, h⟩ := h
  unfold h43_3
  try simp only [go_sem, s1, s2, s5, s6, s7, s8]
  refine jall_ h.lg ?_
  intro v2 w2 own2 m2 _
  try simp only [go_sem, s1, s2, s5, s6, s7, s8]
  refine bsl1 sl40 (cs := [str [97]]) rfl rfl (by omega) ?_
  intro b3 w3 _ own3 _ m3 _
  refine same__ (a := [[97]]) (b := [[97]]) (n := 1) (m := 1) (own2.sl.mod m3 fun _ _ h => h) own3.sl (by omega) ?_
  intro w4 m4
  have h4 := ((h.mod0 m2).mod0 m3).mod0 m4
  try simp only [go_sem, s1, s2, s5, s6, s7, s8]
  refine bsl2 sl40 rfl rfl ?_
  intro b5 w5 hb5 own5 _ m5 hs5
  have h5 := h4.mod0 m5
  refine rewrite_ h5 (by omega) (rows := [[98], [99]]) (n := 2) own5.sl (fun _ k hk => ?_) (by decide +kernel) ?_
  · have e : b5 = k := by simpa [Value.ownBlock] using hk
    refine ⟨fun hR => ?_, by omega⟩
    have := h4.dr.lt k hR; omega
  intro w6 ⟨F6, S6, h6⟩
  have e6 : (rewriteJ dD ⟨[[97]], 1, 33⟩ 2 [[98], [99]]).2.2 = 0 := xE
  rw [e6]
  have h6 : JS w w6 p q 2 dE _ F6 S6 := h6
  unfold h43_4
  try simp only [go_sem, s1, s2, s5, s6, s7, s8]
  refine crash_ h6.dr sl_nil (fun h => by omega) (by decide +kernel) ?_
  intro w7 st7
  have h7 := h6.disk st7
  try simp only [go_sem, s1, s2, s5, s6, s7, s8]
  refine start_ h7.dr ?_
  intro w8 dr8 m8 _
  have h8 := h7.disk (.of dr8 m8)
  have h8d : DR w8 p dF _ := h8.dr
  try simp only [go_sem, s1, s2, s5, s6, s7, s8]
  have hE0 : openE dF 2 = 0 := by
    have := xF0
    simp only [openE, this, show ((2 : Int)).toNat = 2 from rfl, xFo]; decide
  refine open_ h8d (fun w9 m9 hne => absurd hE0 hne) ?_
  intro g L hg _ _ hL q9 w9 S9 lg9 hS9 m9
  obtain rfl : g = 2 := by omega
  rw [xFo] at hL
  obtain rfl := Option.some.inj hL
  have h9 := JS.opened h8d h8.f0 h8.m lg9 hS9 m9
  try simp only [go_sem, s1, s2, s5, s6, s7, s8]
  exact jsmall5 (L := L0) h9.jt s2 s5 s6 s7 rfl rfl rfl k

theorem jsmall_ (k : ∀ w', Mod none' w w' → next (.bool true) w') : callvK Try.prog (.func (.func 43) #[] #[]) [] w next QP := by
  refine r43 rfl ?_
  unfold h43
  try simp only [go_sem]
  refine new_ ?_
  intro p w1 hp st1
  try simp only [go_sem]
  have hE0 : openE Dk.new 2 = 0 := by decide +kernel
  have hO : openB (Dk.new.file 2) = some L0 := openB_core (s := []) .nil (by decide)
  refine open_ st1.dr (fun w9 m9 hne => absurd hE0 hne) ?_
  intro g L hg _ _ hL q w2 S2 lg2 hS2 m2
  obtain rfl : g = 2 := by omega
  rw [hO] at hL
  obtain rfl := Option.some.inj hL
  have h2 : JS w w2 p q 2 Dk.new L0 st1.foot S2 := JS.opened st1.dr (fun k hk => by rcases st1.footR k hk with h | h; exact h.elim; exact h) (st1.mod.mono fun _ _ h => h) lg2 hS2 m2
  try simp only [go_sem]
  unfold h43_1
  try simp only [go_sem]
  refine append1_ h2 (by decide +kernel) ?_
  intro w3 jt3
  rw [if_pos xA] at jt3
  rw [xA]
  obtain ⟨F3, S3, h3⟩ := jt3
  have h3 : JS w w3 p q 2 dA LA F3 S3 := h3
  try simp only [go_sem]
  refine flushJ_ h3 (by decide +kernel) ?_
  intro w4 jt4
  rw [xB2] at jt4
  rw [xB]
  obtain ⟨F4, S4, h4⟩ := jt4
  have h4 : JS w w4 p q 2 dB LB F4 S4 := h4
  try simp only [go_sem]
  refine append1_ h4 (by decide +kernel) ?_
  intro w5 jt5
  rw [if_pos xC] at jt5
  rw [xC]
  obtain ⟨F5, S5, h5⟩ := jt5
  have h5 : JS w w5 p q 2 dC (LB.add [[98]]) F5 S5 := h5
  try simp only [go_sem]
  refine jsure_ h5.lg ?_
  have e1 : (LB.add [[98]]).sure = 1 := rfl
  rw [e1]
  unfold h43_2
  try simp only [go_sem]
  refine crash_ h5.dr sl_nil (fun h => by omega) (by decide +kernel) ?_
  intro w7 st7
  have h7 := h5.disk st7
  try simp only [go_sem]
  refine start_ h7.dr ?_
  intro w8 dr8 m8 _
  have h8 := h7.disk (.of dr8 m8)
  have h8d : DR w8 p dD _ := h8.dr
  try simp only [go_sem]
  have hE1 : openE dD 2 = 0 := by
    have := xD0
    simp only [openE, this, show ((2 : Int)).toNat = 2 from rfl, xDo]; decide
  refine open_ h8d (fun w9 m9 hne => absurd hE1 hne) ?_
  intro g L hg _ _ hL q9 w9 S9 lg9 hS9 m9
  obtain rfl : g = 2 := by omega
  rw [xDo] at hL
  obtain rfl := Option.some.inj hL
  have h9 := JS.opened h8d h8.f0 h8.m lg9 hS9 m9
  try simp only [go_sem]
  exact jsmall3 h9.jt rfl rfl rfl rfl rfl rfl k
end
end Go.Proofs.Y

/- JM: JournalForms. -/
namespace Go.Proofs.Y
open Go Go.HL Go.Proofs

theorem val_app (s t : Bytes) (h : 8 ≤ s.length) : val (s ++ t) = val s := by
  have hv : ∀ i, i < 8 → valAt (s ++ t) i = valAt s i := by
    intro i hi
    unfold valAt
    rw [List.getElem?_append_left (by omega)]
  have key : ∀ k, k ≤ 8 → valFrom (s ++ t) k = valFrom s k := by
    intro k
    induction k with
    | zero => intro _; rfl
    | succ k ih =>
      intro hk
      show wr (valFrom _ k * 256 + valAt _ (7 - k)) = wr (valFrom _ k * 256 + valAt _ (7 - k))
      rw [ih (by omega), hv (7 - k) (by omega)]
  exact key 8 (Nat.le_refl _)
theorem openB_more {s : Bytes} {L : Lg} (h : openB s = some L) (h16 : 16 ≤ s.length) (t : Bytes) : openB (s ++ t) = some L := by
  have e1 : val (s ++ t) = val s := val_app s t (by omega)
  have e2 : val ((s ++ t).drop 8) = val (s.drop 8) := by rw [List.drop_append_of_le_length (by omega)]; exact val_app _ _ (by rw [List.length_drop]; omega)
  rw [openB] at h ⊢
  rw [e1, e2]
  by_cases h0 : val s = 0
  · rw [if_pos (.inr h0)] at h ⊢; exact h
  · rw [if_neg (by omega)] at h
    rw [if_neg (by rw [List.length_append]; omega)]
    by_cases hb : val s < 16 ∨ (s.length : Int) < val s
    · rw [if_pos hb] at h; cases h
    · rw [if_neg hb] at h
      rw [if_neg (by rw [List.length_append]; omega), List.take_append_of_le_length (by omega)]
      exact h

/-! ### the disk at rest -/
theorem idle_writeR {d : Dk} (ha : d.armed = 0) {f a : Int} {s : Bytes} (hm : d.may [f] = 0) (h0 : 0 ≤ a) (hfit : a + s.length ≤ 16777216) : d.writeR f a s = 0 := by
  rw [Dk.writeR_idle ha]
  unfold Dk.writeE
  rw [hm, if_neg (by simp), if_neg (by omega), if_neg (by omega)]
theorem idle_write {d : Dk} (ha : d.armed = 0) {f a : Int} {s : Bytes} (hm : d.may [f] = 0) (h0 : 0 ≤ a) (hfit : a + s.length ≤ 16777216) : d.write f a s = if s = [] then d else { d with files := d.files.set f.toNat (put (d.file f.toNat) a.toNat s), queue := d.queue ++ pieces f.toNat s.length a.toNat s } := by
  have h := idle_writeR ha hm h0 hfit
  rw [Dk.writeR_idle ha] at h
  rw [Dk.write_idle ha]
  unfold Dk.writeD
  by_cases hs : s = []
  · rw [if_pos (.inr hs), if_pos hs]
  · rw [if_neg (by simp [h, hs]), if_neg hs]
theorem idle_file {d : Dk} (ha : d.armed = 0) {f a : Nat} {s : Bytes} (hf : f < 12) (hn : d.files.length = 12) (hm : d.may [(f : Int)] = 0) (hfit : a + s.length ≤ 16777216) : (d.write f a s).file f = if s = [] then d.file f else put (d.file f) a s := by
  rw [idle_write ha hm (by omega) (by omega)]
  split
  · rfl
  · simp [Dk.file, hn, hf]
theorem idle_same {d : Dk} (ha : d.armed = 0) {f a : Int} {s : Bytes} (hm : d.may [f] = 0) (h0 : 0 ≤ a) (hfit : a + s.length ≤ 16777216) : (d.write f a s).armed = 0 ∧ (d.write f a s).down = d.down ∧ (d.write f a s).files.length = d.files.length := by
  rw [idle_write ha hm h0 hfit]
  split
  · exact ⟨ha, rfl, rfl⟩
  · exact ⟨ha, rfl, by simp⟩
theorem may_up {d : Dk} (h : d.down = false) {f : Nat} (hf : f < 12) : d.may [(f : Int)] = 0 := by
  have : isF (f : Int) = true := by simp [isF]; omega
  simp [Dk.may, h, this]

section
variable {w : World} {next : Value → World → Prop} {QP : List PanicEntry → World → Prop}

theorem forms2 {w1 : World} {p : Nat} {s m : Bytes} {d : Dk} {L : Lg} {vr : Value} {σ : Env} (hs : s.length ≤ 1000) (hm : m.length ≤ 1000) (h16 : 16 ≤ s.length) {F : FP} (dr : DR w1 p d F) (f0 : ∀ k, F.R k → w.heap.size ≤ k) (mw : Mod none' w w1)
    (ha : d.armed = 0) (hd : d.down = false) (hfs : d.file 1 = s) (hq : d.queue.length ≤ 1000) (hO : openB s = some L) (hv : Own w1 vr 9 1 L.rows.length (L.rows.map str)) (hvF : ∀ k, vr.ownBlock = some k → ¬ F.R k) (s0 : σ 0 = str s) (s1 : σ 1 = str m) (s5 : σ 5 = .bool true) (s6 : σ 6 = ptr p) (s9 : σ 9 = vr) (s11 : σ 11 = .bool true)
    (k : ∀ w', Mod none' w w' → next (.bool true) w') : hw Try.prog noPanic h10_5 (endV [.tmp 4] next) σ w1 := by
  have hm0 := may_up hd (f := 1) (by omega)
  have hm0 : d.may [(1 : Int)] = 0 := hm0
  have hr := idle_writeR ha hm0 (a := s.length) (s := m) (by omega) (by omega)
  have hfile : (d.write 1 s.length m).file 1 = s ++ m := by
    have := idle_file ha (f := 1) (a := s.length) (s := m) (by omega) dr.ok.nf hm0 (by omega)
    rw [show ((1 : Nat) : Int) = 1 from rfl, hfs] at this
    rw [this]
    split
    · rename_i h; simp [h]
    · have h2 := put_append s [] m (Nat.le_refl s.length)
      rw [List.append_nil, Nat.sub_self, put_nil] at h2
      exact h2
  have hsame := idle_same ha hm0 (a := s.length) (s := m) (by omega) (by omega)
  have hO2 := openB_more hO h16 m
  unfold h10_5
  try simp only [go_sem, s0, s1, s5, s6, s9, s11]
  refine write_ dr (by omega) (by omega) (by omega) ?_
  intro w2 st2
  rw [hr]
  have f2 : ∀ k, st2.foot.R k → w.heap.size ≤ k := fun k hk => by
    have := mw.size
    rcases st2.footR k hk with h | h
    · exact f0 k h
    · omega
  have m2 : Mod none' w w2 := mw.trans st2.mod fun k hk hW => by have := f0 k (dr.sub k hW); omega
  have hv2 := hv.mod st2.mod fun k hk hW => hvF k hk (dr.sub k hW)
  try simp only [go_sem, s0, s1, s5, s6, s9, s11]
  unfold h10_6
  try simp only [go_sem, s0, s1, s5, s6, s9, s11]
  have hm2 : (d.write 1 s.length m).may [(1 : Int)] = 0 := may_up (hsame.2.1.trans hd) (f := 1) (by omega)
  have hE : openE (d.write 1 s.length m) 1 = 0 := by
    have h1 : ¬ ((1 : Int) < 0 ∨ (6 : Int) < 1) := by decide
    have h2 : ¬ ((d.write 1 s.length m).may [(1 : Int)] ≠ 0) := fun h => h hm2
    simp only [openE, if_neg h1, if_neg h2, show ((1 : Int)).toNat = 1 from rfl, hfile, hO2]; rfl
  refine open_ st2.dr (fun w9 m9 hne => absurd hE hne) ?_
  intro g L' hg _ _ hL q9 w9 S9 lg9 hS9 m9
  obtain rfl : g = 1 := by omega
  rw [hfile, hO2] at hL
  obtain rfl := Option.some.inj hL
  try simp only [go_sem, s0, s1, s5, s6, s9, s11]
  unfold h10_7
  try simp only [go_sem, s0, s1, s5, s6, s9, s11]
  refine jall_ lg9 ?_
  intro v10 w10 own10 m10 _
  have hrb := lg9.rb
  have hbd := lg9.bd
  try simp only [go_sem, s0, s1, s5, s6, s9, s11]
  refine same__ own10.sl ((hv2.mod m9 fun _ _ h => h).mod m10 fun _ _ h => h).sl (by omega) ?_
  intro w11 m11
  try simp only [go_sem, s0, s1, s5, s6, s9, s11]
  exact k _ (((m2.trans' m9).trans' m10).trans' m11)

theorem jforms_ {s m : Bytes} (k : ∀ w', Mod none' w w' → next (.bool true) w') : callK Try.prog 10 [str s, str m] w next QP := by
  refine q10 rfl ?_
  unfold h10
  try simp only [go_sem]
  refine jsmall_ ?_
  intro w1 m1
  have ec : (if decide ((1000 : Int) < s.length) = true then true else decide ((1000 : Int) < m.length)) = decide (1000 < s.length ∨ 1000 < m.length) := by
    by_cases h : (1000 : Int) < s.length
    · simp only [h, decide_true, if_true]; symm; rw [decide_eq_true_eq]; omega
    · simp only [h, decide_false, Bool.false_eq_true, if_false]; congr 1; apply propext; omega
  try simp only [go_sem, ec]
  refine ⟨fun _ => k _ m1, fun hb => ?_⟩
  have hb : ¬ (1000 < s.length ∨ 1000 < m.length) := by simpa using hb
  unfold h10_1
  try simp only [go_sem]
  refine new_ ?_
  intro p w2 hp st0
  have st2 : St FP0 w w2 p Dk.new := st0.after m1
  try simp only [go_sem]
  have hr := idle_writeR (d := Dk.new) rfl (f := 1) (a := 0) (s := s) rfl (by omega) (by omega)
  have hfile : (Dk.new.write 1 0 s).file 1 = s := by
    have := idle_file (d := Dk.new) rfl (f := 1) (a := 0) (s := s) (by omega) rfl rfl (by omega)
    rw [show ((1 : Nat) : Int) = 1 from rfl, show ((0 : Nat) : Int) = 0 from rfl] at this
    rw [this]
    split
    · rename_i h; rw [h]; rfl
    · exact put_nil s
  have hsame := idle_same (d := Dk.new) rfl (f := 1) (a := 0) (s := s) rfl (by omega) (by omega)
  have hqn := write_queue Dk.new 1 0 s
  have hq0 : Dk.new.queue.length = 0 := rfl
  refine write_ st2.dr (by omega) (by omega) (by omega) ?_
  intro w3 st3
  have st3 := st2.trans st3
  rw [hr]
  try simp only [go_sem]
  have hm3 : (Dk.new.write 1 0 s).may [(1 : Int)] = 0 := may_up hsame.2.1 (f := 1) (by omega)
  generalize Dk.new.write 1 0 s = d at *
  have hE : openE d 1 = if (openB s).isNone = true then 2 else 0 := by
    have h1 : ¬ ((1 : Int) < 0 ∨ (6 : Int) < 1) := by decide
    have h2 : ¬ (d.may [(1 : Int)] ≠ 0) := fun h => h hm3
    simp only [openE, if_neg h1, if_neg h2, show ((1 : Int)).toNat = 1 from rfl, hfile]
  unfold h10_2
  try simp only [go_sem]
  refine open_ st3.dr (fun w4 m4 hne => ?_) (fun g L hg _ _ hL q4 w4 S4 lg4 hS4 m4 => ?_)
  · cases hO : openB s with
    | some L => rw [hE, hO] at hne; exact absurd rfl hne
    | none =>
      rw [hE, hO]
      try simp only [go_sem]
      refine rrows_ s (by omega) (fun _ w5 v5 m5 => ?_) (fun L hL => by rw [hO] at hL; cases hL)
      have m25 := (st3.mod.trans' (m4.mono fun _ _ h => h.elim)).trans' (m5.mono fun _ _ h => h.elim)
      try simp only [go_sem, beq_self_eq_true, Bool.true_beq, Bool.false_beq]
      unfold h10_3
      try simp only [go_sem]
      exact k _ (m25.mono fun _ _ h => h)
  · obtain rfl : g = 1 := by omega
    rw [hfile] at hL
    have hvF : ∀ k, st3.foot.R k → w.heap.size ≤ k := fun k hk => by
      rcases st3.footR k hk with h | h
      · exact h.elim
      · exact h
    have mw : Mod none' w w3 := st3.mod.mono fun _ _ h => h
    try simp only [go_sem]
    refine rrows_ s (by omega) (fun hn => by rw [hL] at hn; cases hn) (fun L' hL' v5 w5 m5 own5 hn5 => ?_)
    rw [hL] at hL'
    obtain rfl := Option.some.inj hL'
    have lg5 := lg4.mod0 m5
    try simp only [go_sem, beq_self_eq_true, Bool.true_beq, Bool.false_beq]
    unfold h10_3
    try simp only [go_sem]
    unfold h10_4
    try simp only [go_sem]
    refine jall_ lg5 ?_
    intro v6 w6 own6 m6 _
    have hrb := lg4.rb
    have hbd := lg4.bd
    try simp only [go_sem]
    refine same__ own6.sl (own5.mod m6 fun _ _ h => h).sl (by omega) ?_
    intro w7 m7
    have m37 := ((m4.trans' m5).trans' m6).trans' m7
    try simp only [go_sem]
    refine ⟨fun h16 => ?_, fun h16 => ?_⟩
    · exact k _ (mw.trans' m37)
    · have h16 : 16 ≤ s.length := by
        have : ¬ (s.length : Int) < 16 := by simpa using h16
        omega
      refine forms2 (by omega) (by omega) h16 (st3.dr.mod0 m37) hvF (mw.trans' m37) hsame.1 hsame.2.1 hfile (by omega) hL ((own5.mod m6 fun _ _ h => h).mod m7 fun _ _ h => h) (fun k hk hR => ?_) rfl rfl rfl rfl rfl rfl k
      have := hn5 k hk
      have := st3.dr.lt k hR
      have := m4.size
      omega
end
end Go.Proofs.Y

/- DP: plain laws for DiskLoses. -/
namespace Go.Proofs.Y
open Go Go.HL
theorem survs_nil : ∀ (q : List Pd) (l : List Bytes), survs l q [] = l
  | [], _ => rfl
  | p :: q, l => by
    have : surv l p ([] : List Int)[0]? = l := rfl
    rw [survs, this]; exact survs_nil q l
namespace Loses
def L (s : Bytes) (m : Nat) : Dk := { Dk.new with files := Dk.new.files.set 0 s, queue := pieces 0 s.length 0 s, lost := m }
def E (s : Bytes) : Dk := { Dk.new with lasts := Dk.new.lasts.set 0 s, files := Dk.new.files.set 0 s }
variable {s : Bytes} {m : Nat}
theorem wE (hs : s.length ≤ 50000) (n : Int) : (Dk.new.lose n).writeR 0 0 s = 0 := by
  rw [Dk.writeR_idle rfl]
  unfold Dk.writeE
  rw [show (Dk.new.lose n).may [0] = 0 from rfl, if_neg (by simp), if_neg (by omega), if_neg (by omega)]
theorem w (hs : s.length ≤ 50000) (n : Int) : (Dk.new.lose n).write 0 0 s = L s n.toNat := by
  have h0 : (Dk.new.lose n).writeE 0 0 s = 0 := by rw [← Dk.writeR_idle rfl]; exact wE hs n
  rw [Dk.write_idle rfl]
  unfold Dk.writeD
  by_cases hn : s = []
  · subst hn; rw [if_pos (.inr rfl)]; rfl
  · rw [if_neg (by simp [h0, hn])]
    have h4 : (Dk.new.lose n).file (0 : Int).toNat = [] := rfl
    have hz : (0 : Int).toNat = 0 := rfl
    rw [h4, hz, put_nil]; rfl
theorem fR : (L s (m + 1)).flushR 0 = 9 := by
  rw [Dk.flushR_idle rfl, if_neg (fun h => h rfl), if_pos (show 0 < (L s (m + 1)).lost from Nat.succ_pos m)]
theorem f : (L s (m + 1)).flush 0 = L s m := by
  rw [Dk.flush_idle rfl, if_neg (fun h => h rfl), if_pos (show 0 < (L s (m + 1)).lost from Nat.succ_pos m)]; rfl
theorem f0R : (L s 0).flushR 0 = 0 := rfl
theorem f0 : (L s 0).flush 0 = E s := by
  rw [Dk.flush_idle rfl, if_neg (fun h => h rfl), if_neg (show ¬ 0 < (L s 0).lost from Nat.lt_irrefl 0)]
  have : (L s 0).file (0 : Int).toNat = s := rfl
  rw [this, show (0 : Int).toNat = 0 from rfl]
  simp only [Dk.settle, L, E]
  rw [List.set_set]
  congr 1
  exact pieces_filter
theorem lost : (((L s m).crash []).start).read 0 = [] ∧ (((L s m).crash []).start).may [0] = 0 := by
  have e : ((L s m).crash []).start = ⟨survs Dk.new.lasts (pieces 0 s.length 0 s) [], survs Dk.new.lasts (pieces 0 s.length 0 s) [], [], m, false, 0, []⟩ := rfl
  rw [e, survs_nil]
  exact ⟨rfl, rfl⟩
theorem kept : (((E s).crash []).start).read 0 = s ∧ (((E s).crash []).start).may [0] = 0 := ⟨rfl, rfl⟩
end Loses
end Go.Proofs.Y

/- DV: plain laws of a machine that is down, and of invalid file numbers. -/
namespace Go.Proofs.Y
open Go Go.HL
namespace Dk
section
variable {d : Dk} (hd : d.down = true)
include hd
theorem dn_tick : d.tick = d := by simp [tick, hd]
theorem dn_ends : d.ends = false := by simp [ends, hd]
theorem dn_pre : d.pre = d := by simp [pre, endW, dn_ends hd, dn_tick hd]
theorem dn_may (l : List Int) : d.may l = 8 := by simp [may, hd]
theorem dn_write (f a : Int) (s : Bytes) : d.write f a s = d ∧ d.writeR f a s = 8 := by
  have hE : d.writeE f a s = 8 := by simp [writeE, dn_may hd]
  simp [write, writeR, endW, dn_ends hd, dn_tick hd, writeD, hE]
theorem dn_flush (f : Int) : d.flush f = d ∧ d.flushR f = 8 := by simp [flush, flushR, dn_pre hd, dn_may hd]
theorem dn_cut (f n : Int) : d.cut f n = d ∧ d.cutR f n = 8 := by simp [cut, cutR, dn_pre hd, dn_may hd]
theorem dn_turn (f g : Int) : d.turn f g = d ∧ d.turnR f g = 8 := by simp [turn, turnR, dn_pre hd, dn_may hd]
theorem dn_crash (ks : List Int) : d.crash ks = d := by simp [crash, hd]
theorem dn_read (f : Int) : d.read f = [] := by simp [read, dn_may hd]
end
section
variable {d : Dk} (hd : d.down = false) (ha : d.armed = 0) {f : Int} (hf : isF f = false)
include hd ha hf
theorem bad_write (a : Int) (s : Bytes) : d.write f a s = d ∧ d.writeR f a s = 1 := by
  have hm : d.may [f] = 1 := by simp [may, hd, hf]
  have hE : d.writeE f a s = 1 := by simp [writeE, hm]
  rw [write_idle ha, writeR_idle ha]
  simp [writeD, hE]
theorem bad_flush : d.flush f = d ∧ d.flushR f = 1 := by
  have hm : d.may [f] = 1 := by simp [may, hd, hf]
  rw [flush_idle ha, flushR_idle ha]; simp [hm]
theorem bad_cut (n : Int) : d.cut f n = d ∧ d.cutR f n = 1 := by
  have hm : d.may [f] = 1 := by simp [may, hd, hf]
  rw [cut_idle ha, cutR_idle ha]; simp [hm]
theorem bad_turn (g : Int) : d.turn f g = d ∧ d.turnR f g = 1 := by
  have hm : d.may [f, g] = 1 := by simp [may, hd, hf]
  rw [turn_idle ha, turnR_idle ha]; simp [hm]
theorem bad_turn2 (g : Int) : d.turn g f = d ∧ d.turnR g f = 1 := by
  have hm : d.may [g, f] = 1 := by simp [may, hd, hf]
  rw [turn_idle ha, turnR_idle ha]; simp [hm]
end
theorem bad_size {d : Dk} {f : Int} (hf : isF f = false) : d.size f = 0 := by simp [size, hf]
end Dk
end Go.Proofs.Y

/- DWa (of DW: what serves elsewhere): the walk of DiskDown. -/
namespace Go.Proofs.Y
open Go Go.HL Go.Proofs
section
variable {w : World} {next : Value → World → Prop} {QP : List PanicEntry → World → Prop}

theorem act_queue (d : Dk) (a : Act) : (d.act a).queue.length ≤ d.queue.length + a.S.length := by
  have hp := pre_queue d
  unfold Dk.act
  split
  · unfold Dk.write Dk.endW
    have := writeD_queue d.tick a.F a.N a.S
    rw [tick_queue] at this
    split
    · exact Nat.le_trans (crash_queue _ _) this
    · exact this
  split
  · unfold Dk.flush; dsimp only
    split
    · omega
    · split
      · show d.pre.queue.length ≤ _; omega
      · exact Nat.le_trans (List.length_filter_le _ _) (by omega)
  split
  · unfold Dk.cut; dsimp only
    split
    · omega
    · split
      · omega
      · exact Nat.le_trans (List.length_filter_le _ _) (by omega)
  split
  · unfold Dk.turn; dsimp only
    split
    · omega
    · split
      · omega
      · split
        · omega
        · exact Nat.le_trans (List.length_filter_le _ _) (Nat.le_trans (List.length_filter_le _ _) (by omega))
  split
  · have := crash_queue d a.ks; omega
  split
  · show d.queue.length ≤ _; omega
  split
  · show d.queue.length ≤ _; omega
  split
  · omega
  split
  · show d.queue.length ≤ _; omega
  · omega

theorem sl38 : SlTy Try.prog 38 42 6 72 (.agg #[.int .i64 0, .int .i64 0, .int .i64 0, .int .i64 0, str [], .slice none 0 0]) := ⟨by kernel_rfl, by kernel_rfl, rfl, by decide⟩

theorem few_le {al : List Act} (h : few al = true) : al.length ≤ 200 ∧ heft al ≤ 5000 := by
  simp [few] at h; exact ⟨h.1.2, h.2⟩

/-- an element of the operations that came in, read whole -/
theorem act_at {w w' : World} {v : Value} {al : List Act} {i : Nat} (hv : Sl w v 6 al.length (rows Act.cells al)) (m : Mod none' w w') (hi : i < al.length) : ∃ gb o c, v = .slice (some ⟨gb, o, none⟩) al.length c ∧
    loadN w' ⟨gb, o + i * 6, none⟩ 6 = al[i].cells.toArray ∧ (∀ j, j < 6 → (w'.cell? ⟨gb, o + i * 6 + j, none⟩).isSome = true) := by
  obtain ⟨gb, o, c, hva, hcc, hcell⟩ := (hv.mod m fun _ _ h => h).get Act.cells_len rfl (by omega)
  exact ⟨gb, o, c, hva, loadN_of rfl fun j hj => by rw [e_add]; exact hcell i j hi hj, fun j hj => by rw [hcell i j hi hj]; simp [Act.cells_len, hj]⟩

end
end Go.Proofs.Y

/- HLV: what came in with a call, out of the form's reading of it. -/
namespace Go.HL
open Go Go.ChangeShapes Go.WideShapes
section
variable {H : Type} {enc : TypeId × Value → H} {P : Program} {w : World}

theorem str_list (s : ByteArray) : Value.string s = str s.data.toList := rfl

theorem sl_of_cells {a : Addr} {len cap : Nat} {xs : List Value} (hx : len ≤ xs.length) (hlc : len ≤ cap) (hc : ∀ i, i < xs.length → w.cell? (a.add i) = xs[i]?) : Sl w (.slice (some a) len cap) 1 len (xs.take len) := by
  refine ⟨by rw [List.length_take]; omega, some a, cap, rfl, hlc, fun h0 => ?_⟩
  have hs : a.spot = none := by
    have := hc 0 (by omega)
    have e : a.add 0 = a := rfl
    rw [e, List.getElem?_eq_getElem (by omega)] at this
    exact World.cell?_spot this
  obtain ⟨b, o, s⟩ := a
  simp only at hs
  subst hs
  refine ⟨b, o, rfl, fun j hj => ?_⟩
  have := hc j (by omega)
  rw [e_add] at this
  rw [this, List.getElem?_take_of_lt (by omega)]

/-- a slice of strings that came in -/
theorem strs_in {t e : TypeId} {v : Value} {d : DataW H} {ps : List MemPlace} (ht : P.underlying t = some (.slice e)) (he : P.underlying e = some .string) (hc : P.cellsOf e = 1) (hv : ∃ a len cap, v = .slice a len cap)
    (h : DataW.Trod enc P w 0 (fun _ => true) true t v d ps) :
    ∃ ls : List (List UInt8), Sl w v 1 ls.length (ls.map str) ∧ (ls = [] ∨ ∃ spare, d = .slice (ls.map fun s => .lit (.string s)) spare) := by
  obtain ⟨a, len, cap, rfl⟩ := hv
  obtain ⟨fuel, hf⟩ := h
  rcases open_strings ht he hc hf with ⟨hcs, -⟩ | ⟨x, l, c, ss, hcs, -, hl, -, hz, hx, hcell, -⟩
  · simp [Value.cells] at hcs
    obtain ⟨rfl, rfl, rfl⟩ := hcs
    exact ⟨[], (Own.nil w 0 1).sl, .inl rfl⟩
  · simp [Value.cells] at hcs
    obtain ⟨rfl, rfl, rfl⟩ := hcs
    have hz : ss.length = cap := by simpa using hz
    refine ⟨(ss.take len).map fun s => s.data.toList, ?_, .inr ⟨strs (ss.drop len), ?_⟩⟩
    · have := sl_of_cells (w := w) (a := x) (len := len) (cap := cap) (xs := ss.map fun s => .string s) (by simp; omega) hl (by
        intro i hi
        simp only [List.length_map] at hi
        rw [hcell i hi]
        simp [List.getElem?_eq_getElem hi])
      have hlen : ((ss.take len).map fun s => s.data.toList).length = len := by simp; omega
      rw [hlen]
      have e : ((ss.take len).map fun s => s.data.toList).map str = (ss.map fun s => Value.string s).take len := by
        rw [List.map_map, ← List.map_take]; rfl
      rw [e]; exact this
    · have := congrArg Prod.fst hx
      simp only at this
      rw [this, strs, List.map_map]; rfl

/-- a slice of integers that came in -/
theorem ints_in {t e : TypeId} {k : IntKind} {v : Value} {d : DataW H} {ps : List MemPlace} (ht : P.underlying t = some (.slice e)) (he : P.underlying e = some (.int k)) (hc : P.cellsOf e = 1) (hv : ∃ a len cap, v = .slice a len cap)
    (h : DataW.Trod enc P w 0 (fun _ => true) true t v d ps) :
    ∃ zs : List Int, Sl w v 1 zs.length (zs.map fun n => .int k n) ∧ (∀ n ∈ zs, (Lit.int k n).wf = true) ∧ (zs = [] ∨ ∃ spare, d = .slice (zs.map fun n => .lit (.int k n)) spare) := by
  obtain ⟨a, len, cap, rfl⟩ := hv
  obtain ⟨fuel, hf⟩ := h
  rcases open_ints ht he hc hf with ⟨hcs, -⟩ | ⟨x, l, c, ss, hcs, -, hl, -, hz, hx, hcell, hw⟩
  · simp [Value.cells] at hcs
    obtain ⟨rfl, rfl, rfl⟩ := hcs
    exact ⟨[], (Own.nil w 0 1).sl, fun n hn => (nomatch hn), .inl rfl⟩
  · simp [Value.cells] at hcs
    obtain ⟨rfl, rfl, rfl⟩ := hcs
    have hz : ss.length = cap := by simpa using hz
    refine ⟨ss.take len, ?_, fun n hn => hw n (List.mem_of_mem_take hn), .inr ⟨lits k (ss.drop len), ?_⟩⟩
    · have := sl_of_cells (w := w) (a := x) (len := len) (cap := cap) (xs := ss.map fun n => .int k n) (by simp; omega) hl (by
        intro i hi
        simp only [List.length_map] at hi
        rw [hcell i hi]
        simp [List.getElem?_eq_getElem hi])
      have hlen : (ss.take len).length = len := by simp; omega
      rw [hlen, List.map_take]; exact this
    · have := congrArg Prod.fst hx
      simp only at this
      rw [this]; rfl
end
end Go.HL

/- DX: operations that came in with a call. -/
namespace Go.Proofs.Y
open Go Go.HL Go.Proofs Go.ChangeShapes Go.WideShapes Go.Deep

noncomputable def fs42 : Array Field := match Try.prog.underlying 42 with | some (.struct fs) => fs | _ => #[]
theorem u42 : Try.prog.underlying 42 = some (.struct fs42) := by kernel_rfl
theorem fs42_size : fs42.size = 6 := by kernel_rfl
theorem cells42 : Try.prog.cellsOf 42 = 6 := by kernel_rfl
theorem cells3 : Try.prog.cellsOf 3 = 1 := by kernel_rfl
theorem cells9 : Try.prog.cellsOf 9 = 1 := by kernel_rfl
theorem cells22 : Try.prog.cellsOf 22 = 1 := by kernel_rfl
theorem fld (i o t : Nat) (h : (fs42[i]?).map (fun f => (f.offset, f.type)) = some (o, t)) : ∃ f, fs42[i]? = some f ∧ f.offset = o ∧ f.type = t := by
  obtain ⟨f, hf, he⟩ := Option.map_eq_some_iff.1 h
  simp only [Prod.mk.injEq] at he
  exact ⟨f, hf, he.1, he.2⟩

section
variable {H : Type} {enc : TypeId × Value → H} {w : World}

/-- what a record's reading holds -/
def ActD (a : Act) (d : DataW H) : Prop := ∃ x0 x1 x2 x3 x5, d = .agg [x0, x1, x2, x3, .lit (.string a.S), x5] ∧ (a.ks = [] ∨ ∃ sp, x5 = .slice (a.ks.map fun n => .lit (.int .i64 n)) sp)

theorem act_in {fuel : Nat} {cs : List Value} {x : DataW H × List MemPlace} (h : DataW.trod enc Try.prog w 0 (fun _ => true) true fuel 42 cs = some x) :
    ∃ a : Act, cs = a.cells ∧ i64 a.Do ∧ i64 a.F ∧ i64 a.G ∧ i64 a.N ∧ Sl w a.kv 1 a.ks.length (ints a.ks) ∧ ActD a x.1 := by
  obtain ⟨xs, n, rfl, rfl, hlen, hxl, hf⟩ := DataW.trod_struct u42 h
  rw [cells42] at hlen
  rw [fs42_size] at hxl
  match cs, hlen with
  | [c0, c1, c2, c3, c4, c5], _ =>
  match xs, hxl with
  | [y0, y1, y2, y3, y4, y5], _ =>
  obtain ⟨f0, g0, o0, e0⟩ := fld 0 0 3 (by kernel_rfl)
  obtain ⟨f1, g1, o1, e1⟩ := fld 1 1 3 (by kernel_rfl)
  obtain ⟨f2, g2, o2, e2⟩ := fld 2 2 3 (by kernel_rfl)
  obtain ⟨f3, g3, o3, e3⟩ := fld 3 3 3 (by kernel_rfl)
  obtain ⟨f4, g4, o4, e4⟩ := fld 4 4 9 (by kernel_rfl)
  obtain ⟨f5, g5, o5, e5⟩ := fld 5 5 22 (by kernel_rfl)
  have h0 := hf 0 f0 g0
  have h1 := hf 1 f1 g1
  have h2 := hf 2 f2 g2
  have h3 := hf 3 f3 g3
  have h4 := hf 4 f4 g4
  have h5 := hf 5 f5 g5
  rw [o0, e0, cells3] at h0
  rw [o1, e1, cells3] at h1
  rw [o2, e2, cells3] at h2
  rw [o3, e3, cells3] at h3
  rw [o4, e4, cells9] at h4
  rw [o5, e5, cells22] at h5
  obtain ⟨n0, k0, rfl, w0⟩ := DataW.trod_int (x := y0) Try.underlying3 h0
  obtain ⟨n1, k1, rfl, w1⟩ := DataW.trod_int (x := y1) Try.underlying3 h1
  obtain ⟨n2, k2, rfl, w2⟩ := DataW.trod_int (x := y2) Try.underlying3 h2
  obtain ⟨n3, k3, rfl, w3⟩ := DataW.trod_int (x := y3) Try.underlying3 h3
  obtain ⟨s4, k4, rfl, w4⟩ := DataW.trod_string (x := y4) Try.underlying9 h4
  have hs : ∃ a len cap, c5 = .slice a len cap := by
    rcases open_ints (x := y5) Try.underlying22 Try.underlying3 (by kernel_rfl) h5 with ⟨hcs, -⟩ | ⟨x, l, c, ss, hcs, -⟩
    · simp at hcs; exact ⟨_, _, _, hcs⟩
    · simp at hcs; exact ⟨_, _, _, hcs⟩
  have hc5 : c5.cells.toList = [c5] := by obtain ⟨a, l, c, rfl⟩ := hs; rfl
  obtain ⟨zs, hz, -, hd⟩ := ints_in (enc := enc) (w := w) (d := y5.1) (ps := y5.2) Try.underlying22 Try.underlying3 (by kernel_rfl) hs ⟨n, by rw [hc5]; exact h5⟩
  simp at k0 k1 k2 k3 k4
  subst k0 k1 k2 k3 k4
  refine ⟨⟨n0, n1, n2, n3, s4.data.toList, c5, zs⟩, rfl, wf64 w0, wf64 w1, wf64 w2, wf64 w3, by rw [← ints_len zs] at hz ⊢; simpa [ints] using hz, ⟨_, _, _, _, _, rfl, hd⟩⟩

theorem list_of {α : Type} {R : Nat → α → Prop} : ∀ n : Nat, (∀ i, i < n → ∃ a, R i a) → ∃ l : List α, l.length = n ∧ ∀ i (h : i < l.length), R i l[i]
  | 0, _ => ⟨[], rfl, fun i h => absurd h (Nat.not_lt_zero i)⟩
  | n + 1, h => by
    obtain ⟨l, hl, hr⟩ := list_of n fun i hi => h i (by omega)
    obtain ⟨a, ha⟩ := h n (by omega)
    refine ⟨l ++ [a], by simp [hl], fun i hi => ?_⟩
    rcases Nat.lt_or_ge i l.length with h' | h'
    · rw [List.getElem_append_left h']; exact hr i h'
    · have : i = n := by simp at hi; omega
      subst this
      rw [List.getElem_append_right h']
      simpa [hl] using ha

theorem acts_in {v : Value} {d : DataW H} {ps : List MemPlace} (hv : ∃ a len cap, v = .slice a len cap) (h : DataW.Trod enc Try.prog w 0 (fun _ => true) true 38 v d ps) :
    ∃ al : List Act, Sl w v 6 al.length (rows Act.cells al) ∧ (∀ a ∈ al, i64 a.Do ∧ i64 a.F ∧ i64 a.G ∧ i64 a.N ∧ Sl w a.kv 1 a.ks.length (ints a.ks)) ∧
      (al = [] ∨ ∃ (D : List (DataW H)) (sp : List (DataW H)), d = .slice D sp ∧ D.length = al.length ∧ ∀ i (h1 : i < al.length) (h2 : i < D.length), ActD al[i] D[i]) := by
  obtain ⟨a, len, cap, rfl⟩ := hv
  obtain ⟨fuel, hf⟩ := h
  rcases open_slice Try.underlying38 hf with ⟨hcs, -⟩ | ⟨x, l, c, m, n, D, Pl, hcs, -, hl, -, hm, hx, hall⟩
  · simp [Value.cells] at hcs
    obtain ⟨rfl, rfl, rfl⟩ := hcs
    exact ⟨[], (Own.nil w 0 6).sl, fun n hn => (nomatch hn), .inl rfl⟩
  · simp [Value.cells] at hcs
    obtain ⟨rfl, rfl, rfl⟩ := hcs
    have hm : m = cap := by simpa using hm
    subst hm
    simp only [cells42] at hall
    obtain ⟨al, hal, hR⟩ := list_of (R := fun i (a : Act) => (∀ j, j < 6 → w.cell? ((x.add (i * 6)).add j) = a.cells[j]?) ∧ (i64 a.Do ∧ i64 a.F ∧ i64 a.G ∧ i64 a.N ∧ Sl w a.kv 1 a.ks.length (ints a.ks)) ∧ ActD a (D i)) len fun i hi => by
      obtain ⟨cs', h1, h2⟩ := hall i (by omega)
      obtain ⟨a, rfl, a1, a2, a3, a4, a5, a6⟩ := act_in h2
      obtain ⟨-, -, hc⟩ := World.cells?_some h1
      exact ⟨a, hc, ⟨a1, a2, a3, a4, a5⟩, a6⟩
    refine ⟨al, ?_, fun a ha => ?_, ?_⟩
    · subst hal
      refine ⟨rows_len Act.cells_len al, some x, m, rfl, hl, fun h0 => ?_⟩
      have hs : x.spot = none := by
        have := (hR 0 h0).1 0 (by omega)
        have e : (x.add (0 * 6)).add 0 = x := rfl
        rw [e] at this
        exact World.cell?_spot this
      obtain ⟨b, o, s⟩ := x
      simp only at hs
      subst hs
      refine ⟨b, o, rfl, fun j hj => ?_⟩
      have hj6 : j / 6 < al.length := by omega
      have := (hR (j / 6) hj6).1 (j % 6) (Nat.mod_lt _ (by omega))
      rw [e_add, e_add] at this
      rw [show o + j = o + j / 6 * 6 + j % 6 by omega, this, ← rows_get Act.cells_len al (j / 6) (j % 6) hj6 (Nat.mod_lt _ (by omega))]
      congr 1; omega
    · obtain ⟨i, hi, rfl⟩ := List.getElem_of_mem ha
      exact (hR i hi).2.1
    · right
      have hd := congrArg Prod.fst hx
      simp only at hd
      refine ⟨_, _, hd, by simp [hal], fun i h1 h2 => ?_⟩
      have := (hR i h1).2.2
      simpa using this
end

theorem heft_mem : ∀ {al : List Act} {a : Act}, a ∈ al → a.S.length + a.ks.length ≤ heft al
  | x :: al, a, h => by
    simp only [heft, List.map_cons, List.sum_cons]
    rcases List.mem_cons.1 h with rfl | h
    · omega
    · have := heft_mem h; simp only [heft] at this; omega
theorem cells_agg {v : Value} {l : List Value} (h : v.cells.toList = l) (hl : l.length ≠ 1) : v = .agg l.toArray := by
  subst h
  cases v <;> first | rfl | exact absurd rfl hl | simp [Value.cells]
end Go.Proofs.Y
