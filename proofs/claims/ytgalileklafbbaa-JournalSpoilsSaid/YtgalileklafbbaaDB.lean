/- DB: the disk in memory, and the walks of its small functions. -/
import Derived.Test.YtgalileklafbbaaHLH
import Derived.Test.YtgalileklafbbaaYCode
set_option linter.unusedSimpArgs false
set_option linter.unusedVariables false
set_option maxRecDepth 100000
namespace Go.Proofs.Y
open Go Go.HL Go.Proofs

/-- the blocks that a disk writes, and those that it reads -/
structure FP where
  W : Nat → Prop
  R : Nat → Prop
def FP0 : FP := ⟨none', none'⟩

structure DR (w : World) (p : Nat) (d : Dk) (S : FP) : Prop where
  ok : d.OK
  inv : ∃ qv kv, Blk w p 86 (d.cells qv kv) ∧ Own w qv 91 3 d.queue.length (rows Pd.cells d.queue) ∧ Sl w kv 1 d.keep.length (ints d.keep) ∧ (∀ k, qv.ownBlock = some k → S.W k) ∧ (0 < d.keep.length → ∀ k, kv.ownBlock = some k → S.R k ∧ ¬ S.W k)
  self : S.W p
  sub : ∀ k, S.W k → S.R k
  lt : ∀ k, S.R k → k < w.heap.size

abbrev ptr (p : Nat) : Value := .pointer (some ⟨p, 0, none⟩)

theorem DR.plt {w : World} {p : Nat} {d : Dk} {S : FP} (h : DR w p d S) : p < w.heap.size := h.lt p (h.sub p h.self)
theorem DR.mod {w w' : World} {p : Nat} {d : Dk} {S : FP} {T : Nat → Prop} (h : DR w p d S) (m : Mod T w w') (hd : ∀ k, S.R k → ¬ T k) : DR w' p d S := by
  obtain ⟨ok, ⟨qv, kv, hb, hq, hk, h1, h2⟩, hp, hs, hl⟩ := h
  exact ⟨ok, ⟨qv, kv, hb.mod m (hd _ (hs _ hp)), hq.mod m fun k hk => hd _ (hs _ (h1 k hk)), hk.mod' m fun hn k hk => hd _ (h2 hn k hk).1, h1, h2⟩, hp, hs, fun k hk => Nat.lt_of_lt_of_le (hl k hk) m.size⟩
theorem DR.mod0 {w w' : World} {p : Nat} {d : Dk} {S : FP} (h : DR w p d S) (m : Mod none' w w') : DR w' p d S := h.mod m fun _ _ h => h
theorem DR.drew {w : World} {p : Nat} {d : Dk} {S : FP} (h : DR w p d S) : DR w.drew p d S := h.mod0 (Mod.drew _ _)

theorem own_ne {w : World} {v u : Value} {e e' sz sz' n n' : Nat} {xs ys : List Value} (h : Own w v e sz n xs) (h' : Own w u e' sz' n' ys) (he : e ≠ e') {k : Nat} (hk : v.ownBlock = some k) : u.ownBlock ≠ some k := by
  intro hu
  rcases h.blk with ⟨rfl, _⟩ | ⟨g, c, r, rfl, hb, _⟩
  · cases hk
  rcases h'.blk with ⟨rfl, _⟩ | ⟨g', c', r', rfl, hb', _⟩
  · cases hu
  simp only [Value.ownBlock, Option.some.injEq] at hk hu
  subst hk; subst hu
  obtain ⟨_, hb, -⟩ := hb
  obtain ⟨_, hb', -⟩ := hb'
  rw [hb] at hb'
  simp at hb'
  exact he hb'.2.1
theorem own_neb {w : World} {v : Value} {e e' sz n p : Nat} {xs cs : List Value} (h : Own w v e sz n xs) (hp : Blk w p e' cs) (he : e ≠ e') : v.ownBlock ≠ some p := by
  intro hk
  rcases h.blk with ⟨rfl, _⟩ | ⟨g, c, r, rfl, hb, _⟩
  · cases hk
  simp only [Value.ownBlock, Option.some.injEq] at hk
  subst hk
  obtain ⟨_, hb, -⟩ := hb
  obtain ⟨_, hp, -⟩ := hp
  rw [hb] at hp
  simp at hp
  exact he hp.2.1

section
variable {w : World} {next : Value → World → Prop} {QP : List PanicEntry → World → Prop}

theorem is_ (f : Int) (k : next (.bool (isF f)) w) : callvK Try.prog (.func (.func 70) #[] #[]) [.int .i64 f] w next QP := by
  refine r70 rfl ?_
  unfold h70
  simp only [go_sem, ↓reduceIte, Nat.reduceEqDiff, Nat.reduceAdd]
  have : (if decide (0 ≤ f) = true then decide (f < 12) else false) = isF f := by
    unfold isF; cases decide (0 ≤ f) <;> rfl
  rw [this]; exact k

theorem may_ {p : Nat} {d : Dk} {S : FP} (h : DR w p d S) {v : Value} {l : List Int} {n : Nat} (hn : n < 9223372036854775807) (hl : Sl w v 1 n (ints l)) (k : next (.int .i64 (d.may l)) w) :
    callvK Try.prog (.func (.func 65) #[] #[]) [ptr p, v] w next QP := by
  refine r65 rfl ?_
  obtain ⟨ok, ⟨qv, kv, hb, -, -, -, -⟩, -, -⟩ := h
  have c26 : w.cell? ⟨p, 26, none⟩ = some (.bool d.down) := by rw [hb.cell, cells_tail ok.nl ok.nf 2]; rfl
  unfold h65
  simp only [go_sem, ↓reduceIte, Nat.reduceEqDiff, Nat.reduceAdd, c26]
  refine ⟨fun hd => by simpa [Dk.may, hd, go_sem] using k, fun hd => ?_⟩
  obtain ⟨hlen, a, c, rfl, hc, hcell⟩ := hl
  simp only [ints_len, Nat.mul_one] at hlen hcell
  unfold h65_1
  simp only [go_sem, ↓reduceIte, Nat.reduceEqDiff, Nat.reduceAdd]
  refine loopN n (fun i τ w' => w' = w ∧ τ 11 = .slice a n c ∧ τ 12 = .int .i64 n ∧ τ 13 = .int .i64 i ∧ ∀ f ∈ l.take i, isF f = true) ⟨0, by omega, by simp [go_sem]⟩ ?_
  rintro i τ _ hi ⟨rfl, t11, t12, t13, hall⟩
  unfold h65_2
  simp only [go_sem, ↓reduceIte, Nat.reduceEqDiff, Nat.reduceAdd, t11, t12, t13]
  refine ⟨fun hlt => ?_, fun hge => ?_⟩
  · have hlt : i < n := by simpa using hlt
    obtain ⟨b, o, rfl, hc'⟩ := hcell (by omega)
    have hci := hc' i hlt
    rw [show (ints l)[i]? = some (.int .i64 l[i]) by simp [ints]] at hci
    unfold h65_3
    simp only [go_sem, ↓reduceIte, Nat.reduceEqDiff, Nat.reduceAdd, t11, t12, t13, Nat.mul_one, hci]
    refine ⟨⟨by omega, by omega⟩, is_ _ ?_⟩
    simp only [go_sem, ↓reduceIte, Nat.reduceEqDiff, Nat.reduceAdd]
    refine ⟨fun hf => ?_, fun hf => ?_⟩
    · have hf : isF l[i] = false := by simpa using hf
      have : d.may l = 1 := by
        simp only [Dk.may, hd]
        rw [if_neg (by simp), if_neg]
        intro h
        have := List.all_eq_true.1 h _ (List.getElem_mem (by omega : i < l.length))
        rw [hf] at this; cases this
      rw [this] at k; exact k
    · have hf : isF l[i] = true := by simpa using hf
      unfold h65_4
      simp only [go_sem, ↓reduceIte, Nat.reduceEqDiff, Nat.reduceAdd, t11, t12, t13]
      refine ⟨i + 1, by omega, by omega, ?_⟩
      rw [w64 (by omega) (by omega)]
      refine ⟨rfl, ?_⟩
      rw [List.take_succ_eq_append_getElem (by omega)]
      intro f hfm
      rcases List.mem_append.1 hfm with h | h
      · exact hall f h
      · rw [List.mem_singleton.1 h]; exact hf
  · have hge : n ≤ i := by simpa using hge
    unfold h65_5
    simp only [go_sem, ↓reduceIte, Nat.reduceEqDiff, Nat.reduceAdd]
    have : d.may l = 0 := by
      simp only [Dk.may, hd]
      rw [if_neg (by simp), if_pos]
      rw [List.all_eq_true]
      intro f hf
      exact hall f (by rwa [List.take_of_length_le (by omega)])
    rw [this] at k; exact k

theorem DR.parts {w : World} {p : Nat} {d : Dk} {S : FP} (h : DR w p d S) : ∃ qv kv, Blk w p 86 (d.cells qv kv) ∧ Own w qv 91 3 d.queue.length (rows Pd.cells d.queue) ∧ Sl w kv 1 d.keep.length (ints d.keep) ∧
    (∀ k, qv.ownBlock = some k → S.W k ∧ k ≠ p) ∧ (0 < d.keep.length → ∀ k, kv.ownBlock = some k → S.R k ∧ ¬ S.W k) ∧
    w.cell? ⟨p, 24, none⟩ = some qv ∧ w.cell? ⟨p, 25, none⟩ = some (.int .i64 d.lost) ∧ w.cell? ⟨p, 26, none⟩ = some (.bool d.down) ∧ w.cell? ⟨p, 27, none⟩ = some (.int .i64 d.armed) ∧ w.cell? ⟨p, 28, none⟩ = some kv := by
  obtain ⟨ok, ⟨qv, kv, hb, hq, hk, h1, h2⟩, -, -, -⟩ := h
  refine ⟨qv, kv, hb, hq, hk, fun k hk => ⟨h1 k hk, ?_⟩, h2, ?_⟩
  · rintro rfl; exact own_neb hq hb (by decide) hk
  · have := cells_tail (qv := qv) (kv := kv) ok.nl ok.nf
    exact ⟨by rw [hb.cell, this 0]; rfl, by rw [hb.cell, this 1]; rfl, by rw [hb.cell, this 2]; rfl, by rw [hb.cell, this 3]; rfl, by rw [hb.cell, this 4]; rfl⟩

/-- the disk again, its own block alone written -/
theorem DR.again {w w' : World} {p : Nat} {d d' : Dk} {S : FP} {qv kv : Value} (h : DR w p d S) (m : Mod (fun k => k = p) w w') (ok : d'.OK) (hb : Blk w' p 86 (d'.cells qv kv)) (hq : Own w qv 91 3 d'.queue.length (rows Pd.cells d'.queue))
    (hk : Sl w kv 1 d'.keep.length (ints d'.keep)) (h1 : ∀ k, qv.ownBlock = some k → S.W k ∧ k ≠ p) (h2 : 0 < d'.keep.length → ∀ k, kv.ownBlock = some k → S.R k ∧ ¬ S.W k) : DR w' p d' S :=
  ⟨ok, ⟨qv, kv, hb, hq.mod m fun k hk => (h1 k hk).2, hk.mod' m fun hn k hk (e : k = p) => (h2 hn k hk).2 (e ▸ h.self), fun k hk => (h1 k hk).1, h2⟩, h.self, h.sub, fun k hk => Nat.lt_of_lt_of_le (h.lt k hk) m.size⟩

/-- a step that turned the disk: what it writes then was written before, or is new -/
def St (S : FP) (w w' : World) (p : Nat) (d : Dk) : Prop :=
  ∃ S' : FP, DR w' p d S' ∧ (∀ k, S'.R k → S.R k ∨ w.heap.size ≤ k) ∧ (∀ k, S'.W k → S.W k ∨ w.heap.size ≤ k) ∧ Mod S.W w w'

noncomputable def St.foot {S : FP} {w w' : World} {p : Nat} {d : Dk} (h : St S w w' p d) : FP := Classical.choose h
theorem St.dr {S : FP} {w w' : World} {p : Nat} {d : Dk} (h : St S w w' p d) : DR w' p d h.foot := (Classical.choose_spec h).1
theorem St.footR {S : FP} {w w' : World} {p : Nat} {d : Dk} (h : St S w w' p d) : ∀ k, h.foot.R k → S.R k ∨ w.heap.size ≤ k := (Classical.choose_spec h).2.1
theorem St.footW {S : FP} {w w' : World} {p : Nat} {d : Dk} (h : St S w w' p d) : ∀ k, h.foot.W k → S.W k ∨ w.heap.size ≤ k := (Classical.choose_spec h).2.2.1
theorem St.mod {S : FP} {w w' : World} {p : Nat} {d : Dk} (h : St S w w' p d) : Mod S.W w w' := (Classical.choose_spec h).2.2.2

theorem St.of {S : FP} {w w' : World} {p : Nat} {d : Dk} (h : DR w' p d S) (m : Mod S.W w w') : St S w w' p d := ⟨S, h, fun _ h => .inl h, fun _ h => .inl h, m⟩
theorem St.refl {S : FP} {w : World} {p : Nat} {d : Dk} (h : DR w p d S) : St S w w p d := .of h (Mod.refl _ _)
theorem St.trans {S : FP} {w w1 w2 : World} {p : Nat} {d d' : Dk} (h : St S w w1 p d) (h' : St h.foot w1 w2 p d') : St S w w2 p d' := by
  have m1 := h.mod.size
  refine ⟨h'.foot, h'.dr, fun k hk => ?_, fun k hk => ?_, h.mod.trans h'.mod fun i hi hg => ?_⟩
  · rcases h'.footR k hk with hk | hk
    · exact h.footR k hk
    · exact .inr (by omega)
  · rcases h'.footW k hk with hk | hk
    · exact h.footW k hk
    · exact .inr (by omega)
  · rcases h.footW i hg with hg | hg
    · exact hg
    · omega
theorem St.mod0 {S : FP} {w w1 w2 : World} {p : Nat} {d : Dk} (h : St S w w1 p d) (m : Mod none' w1 w2) : St S w w2 p d :=
  h.trans (.of (h.dr.mod0 m) (m.mono fun _ _ h => h.elim))
theorem St.after {S : FP} {w w0 w' : World} {p : Nat} {d : Dk} (m : Mod none' w w0) (h : St S w0 w' p d) : St S w w' p d := by
  have hs := m.size
  refine ⟨h.foot, h.dr, fun k hk => (h.footR k hk).imp id fun h => by omega, fun k hk => (h.footW k hk).imp id fun h => by omega, (m.mono (T := S.W) fun _ _ h => h.elim).trans h.mod fun _ _ h => h⟩
theorem St.drew {S : FP} {w w1 : World} {p : Nat} {d : Dk} (h : St S w w1 p d) : St S w w1.drew p d := h.mod0 (Mod.drew _ _)

theorem sz3 : szOf Try.prog 3 = some 1 := by kernel_rfl
theorem sz4 : szOf Try.prog 4 = some 1 := by kernel_rfl
theorem sz9 : szOf Try.prog 9 = some 1 := by kernel_rfl
theorem sz22 : szOf Try.prog 22 = some 1 := by kernel_rfl
theorem sz84 : szOf Try.prog 84 = some 1 := by kernel_rfl

theorem ends_ {p : Nat} {d : Dk} {S : FP} (h : DR w p d S) (k : ∀ w', DR w' p d.tick S → Mod S.W w w' → w'.heap.size = w.heap.size → next (.bool d.ends) w') :
    callvK Try.prog (.func (.func 63) #[] #[]) [ptr p] w next QP := by
  refine r63 rfl ?_
  obtain ⟨qv, kv, hb, hq, hk, h1, h2, c24, c25, c26, c27, c28⟩ := h.parts
  unfold h63
  simp only [go_sem, ↓reduceIte, Nat.reduceEqDiff, Nat.reduceAdd, c26, c27]
  refine ⟨fun hd => ?_, fun hd => ?_⟩
  · have : d.tick = d ∧ d.ends = false := by
      rcases hdn : d.down with _ | _
      · have : d.armed = 0 := by simp [hdn] at hd; omega
        simp [Dk.tick, Dk.ends, hdn, this]
      · simp [Dk.tick, Dk.ends, hdn]
    rw [this.1, this.2] at k
    exact k _ h (Mod.refl _ _) rfl
  · have hdn : d.down = false ∧ d.armed ≠ 0 := by
      rcases hdn : d.down with _ | _
      · simp [hdn] at hd; exact ⟨rfl, by omega⟩
      · simp [hdn] at hd
    have ok := h.ok
    have : d.tick = { d with armed := d.armed - 1 } ∧ d.ends = decide (d.armed = 1) := by
      simp [Dk.tick, Dk.ends, hdn]
    have ha := ok.armed
    unfold h63_1
    simp only [go_sem, ↓reduceIte, Nat.reduceEqDiff, Nat.reduceAdd, c26, c27]
    rw [w64 (by omega) (by omega)]
    refine store1 sz3 hb (by rw [cells_len ok.nl ok.nf]; omega) rfl ?_
    intro w' hb' m hsz
    have hcs : (d.cells qv kv).set 27 (.int .i64 ((d.armed : Int) - 1)) = d.tick.cells qv kv := by
      rw [show 27 = 24 + 3 from rfl, cells_set_tail ok.nl ok.nf, this.1, show (d.armed : Int) - 1 = ((d.armed - 1 : Nat) : Int) by omega]; rfl
    rw [hcs] at hb'
    have c27' : w'.cell? ⟨p, 27, none⟩ = some (.int .i64 (d.armed - 1 : Nat)) := by
      rw [hb'.cell, show 27 = 24 + 3 from rfl, cells_tail (by rw [this.1]; exact ok.nl) (by rw [this.1]; exact ok.nf), this.1]; rfl
    simp only [go_sem, ↓reduceIte, Nat.reduceEqDiff, Nat.reduceAdd, c27']
    have k' := k w' (h.again m (by rw [this.1]; exact ⟨ok.nl, ok.nf, ok.bl, ok.bf, ok.bq, ok.lost, by show d.armed - 1 ≤ _; omega⟩) hb' (by rw [this.1]; exact hq) (by rw [this.1]; exact hk) h1 (by rw [this.1]; exact h2)) (m.mono fun k _ hk => by rw [hk]; exact h.self) hsz
    rw [this.2] at k'
    have e : decide (((d.armed - 1 : Nat) : Int) = 0) = decide (d.armed = 1) := by
      have := hdn.2; congr 1; apply propext; omega
    rw [e]; exact k'

theorem sl36 : SlTy Try.prog 36 5 1 1 (.int .u8 0) := ⟨by kernel_rfl, by kernel_rfl, rfl, by decide⟩
theorem sl22 : SlTy Try.prog 22 3 1 8 (.int .i64 0) := ⟨by kernel_rfl, by kernel_rfl, rfl, by decide⟩

theorem bys_rep (n : Nat) : bys (List.replicate n 0) = List.replicate n (.int .u8 0) := by simp [bys]

theorem put_ (s t : Bytes) (o : Nat) (h1 : s.length ≤ 16777216) (h2 : o + t.length ≤ 16777216) (k : ∀ w', Mod none' w w' → next (str (put s o t)) w') :
    callvK Try.prog (.func (.func 69) #[] #[]) [str s, .int .i64 o, str t] w next QP := by
  refine r69 rfl ?_
  unfold h69
  simp only [go_sem, ↓reduceIte, Nat.reduceEqDiff, Nat.reduceAdd]
  rw [w64 (by omega) (by omega)]
  refine msl1 sl36 rfl (max s.length (o + t.length)) (by split <;> omega) (by omega) (by unfold maxLen; omega) ?_
  intro b w1 hb own1 blk1 m1 sz1
  refine copyS sl36 (o := 0) blk1 (fun _ => rfl) (by simp; omega) ?_
  intro w2 blk2 m2 sz2
  simp only [go_sem, ↓reduceIte, Nat.reduceEqDiff, Nat.reduceAdd]
  refine ⟨⟨by omega, by omega⟩, ?_⟩
  refine copyS sl36 (g := b) (o := o) blk2 ?_ ?_ ?_
  · intro hp
    rw [if_neg (by omega)]
    simp [go_sem]
  · rw [lay_len (by rw [bys_len]; simp; omega)]; simp; omega
  intro w3 blk3 m3 sz3
  have hfull : s.take (max s.length (o + t.length)) = s := List.take_of_length_le (by omega)
  have hfull2 : t.take (max s.length (o + t.length) - o) = t := List.take_of_length_le (by omega)
  have hrow : lay (lay (List.replicate (max s.length (o + t.length)) (.int .u8 0)) 0 (bys (s.take (max s.length (o + t.length))))) o (bys (t.take (max s.length (o + t.length) - o))) = bys (put s o t) := by
    rw [hfull, hfull2]
    unfold put
    unfold bys
    rw [lay_map]
    congr 1
    simp [lay, bys]
  rw [hrow] at blk3
  have m : Mod none' w w3 := (m1.trans m2 fun i hi (e : i = b) => absurd hb (by omega)).trans m3 fun i hi (e : i = b) => absurd hb (by omega)
  refine b2s (e := 5) (by kernel_rfl) (by kernel_rfl) (by kernel_rfl) (n := max s.length (o + t.length)) (l := put s o t) ⟨by rw [bys_len, put_len]; omega, _, _, rfl, Nat.le_refl _, fun _ => ⟨b, 0, rfl, fun j hj => by rw [blk3.cell, Nat.zero_add]⟩⟩ ?_
  exact k _ m
end
end Go.Proofs.Y

/- DC: more walks of the disk: what reads it, what sets its marks. -/
namespace Go.Proofs.Y
open Go Go.HL Go.Proofs
section
variable {w : World} {next : Value → World → Prop} {QP : List PanicEntry → World → Prop}

theorem down_ {p : Nat} {d : Dk} {S : FP} (h : DR w p d S) (k : next (.bool d.down) w) : callvK Try.prog (.func (.func 27) #[] #[]) [ptr p] w next QP := by
  refine r27 rfl ?_
  obtain ⟨qv, kv, hb, hq, hk, h1, h2, c24, c25, c26, c27, c28⟩ := h.parts
  unfold h27
  simp only [go_sem, ↓reduceIte, Nat.reduceEqDiff, Nat.reduceAdd, c26]
  exact k

theorem start_ {p : Nat} {d : Dk} {S : FP} (h : DR w p d S) (k : ∀ w', DR w' p d.start S → Mod S.W w w' → w'.heap.size = w.heap.size → next (.tuple #[]) w') : callvK Try.prog (.func (.func 22) #[] #[]) [ptr p] w next QP := by
  refine r22 rfl ?_
  obtain ⟨qv, kv, hb, hq, hk, h1, h2, c24, c25, c26, c27, c28⟩ := h.parts
  have ok := h.ok
  unfold h22
  simp only [go_sem, ↓reduceIte, Nat.reduceEqDiff, Nat.reduceAdd, c26]
  refine store1 sz4 hb (by rw [cells_len ok.nl ok.nf]; omega) rfl ?_
  intro w' hb' m hsz
  have hcs : (d.cells qv kv).set 26 (.bool false) = d.start.cells qv kv := by
    rw [show 26 = 24 + 2 from rfl, cells_set_tail ok.nl ok.nf]; rfl
  rw [hcs] at hb'
  exact k w' (h.again m ⟨ok.nl, ok.nf, ok.bl, ok.bf, ok.bq, ok.lost, ok.armed⟩ hb' hq hk h1 h2) (m.mono fun k _ hk => by rw [hk]; exact h.self) hsz

theorem lose_ {p : Nat} {d : Dk} {S : FP} (h : DR w p d S) {n : Int} (hn : n ≤ 9223372036854775807) (k : ∀ w', DR w' p (d.lose n) S → Mod S.W w w' → w'.heap.size = w.heap.size → next (.tuple #[]) w') : callvK Try.prog (.func (.func 33) #[] #[]) [ptr p, .int .i64 n] w next QP := by
  refine r33 rfl ?_
  obtain ⟨qv, kv, hb, hq, hk, h1, h2, c24, c25, c26, c27, c28⟩ := h.parts
  have ok := h.ok
  unfold h33
  simp only [go_sem, ↓reduceIte, Nat.reduceEqDiff, Nat.reduceAdd]
  refine store1 sz3 hb (by rw [cells_len ok.nl ok.nf]; omega) rfl ?_
  intro w' hb' m hsz
  have hcs : (d.cells qv kv).set 25 (.int .i64 (if n < 0 then 0 else n)) = (d.lose n).cells qv kv := by
    rw [show 25 = 24 + 1 from rfl, cells_set_tail ok.nl ok.nf]
    have : (if n < 0 then 0 else n) = ((n.toNat : Nat) : Int) := by split <;> omega
    rw [this]; rfl
  rw [hcs] at hb'
  exact k w' (h.again m ⟨ok.nl, ok.nf, ok.bl, ok.bf, ok.bq, by show n.toNat ≤ _; omega, ok.armed⟩ hb' hq hk h1 h2) (m.mono fun k _ hk => by rw [hk]; exact h.self) hsz

theorem size_ {p : Nat} {d : Dk} {S : FP} (h : DR w p d S) (f : Int) (k : next (.int .i64 (d.size f)) w) : callvK Try.prog (.func (.func 24) #[] #[]) [ptr p, .int .i64 f] w next QP := by
  refine r24 rfl ?_
  obtain ⟨qv, kv, hb, hq, hk, h1, h2, c24, c25, c26, c27, c28⟩ := h.parts
  have ok := h.ok
  unfold h24
  simp only [go_sem, ↓reduceIte, Nat.reduceEqDiff, Nat.reduceAdd]
  refine is_ _ ?_
  simp only [go_sem, ↓reduceIte, Nat.reduceEqDiff, Nat.reduceAdd]
  refine ⟨fun hf => ?_, fun hf => ?_⟩
  · have hf : isF f = false := by simpa using hf
    simpa [Dk.size, hf] using k
  · have hf : isF f = true := by simpa using hf
    have hf' : 0 ≤ f ∧ f < 12 := by simpa [isF] using hf
    obtain ⟨g, rfl⟩ : ∃ g : Nat, f = g := ⟨f.toNat, by omega⟩
    have hg : g < 12 := by omega
    have cf : w.cell? ⟨p, 12 + g, none⟩ = some (str (d.file g)) := by rw [hb.cell, cells_file ok.nl ok.nf hg]
    unfold h24_1
    simp only [go_sem, ↓reduceIte, Nat.reduceEqDiff, Nat.reduceAdd, Nat.mul_one, cf]
    refine ⟨⟨by omega, by omega⟩, ?_⟩
    simpa [Dk.size, hf] using k

theorem may1 {d : Dk} {f : Int} : d.may [f] = if d.down then 8 else if isF f then 0 else 1 := by simp [Dk.may]

theorem read_ {p : Nat} {d : Dk} {S : FP} (h : DR w p d S) (f : Int) (k : ∀ w', DR w' p d S → Mod none' w w' → next (.tuple #[str (d.read f), .int .i64 (d.may [f])]) w') :
    callvK Try.prog (.func (.func 23) #[] #[]) [ptr p, .int .i64 f] w next QP := by
  refine r23 rfl ?_
  have ok := h.ok
  unfold h23
  simp only [go_sem, ↓reduceIte, Nat.reduceEqDiff, Nat.reduceAdd]
  refine bsl1 sl22 rfl rfl (by omega) ?_
  intro b w1 hbb own1 blk1 m1 sz1
  have h' := h.mod0 m1
  refine may_ h' (by omega) (l := [f]) own1.sl ?_
  simp only [go_sem, ↓reduceIte, Nat.reduceEqDiff, Nat.reduceAdd]
  refine ⟨fun he => ?_, fun he => ?_⟩
  · have he : d.may [f] ≠ 0 := by simpa using he
    have := k w1 h' m1
    simpa [Dk.read, he] using this
  · have he : d.may [f] = 0 := by simpa using he
    have hf : isF f = true ∧ d.down = false := by
      rw [may1] at he
      rcases hd : d.down with _ | _
      · rcases hf : isF f with _ | _
        · simp [hd, hf] at he
        · exact ⟨rfl, rfl⟩
      · simp [hd] at he
    have hf' : 0 ≤ f ∧ f < 12 := by simpa [isF] using hf.1
    obtain ⟨g, rfl⟩ : ∃ g : Nat, f = g := ⟨f.toNat, by omega⟩
    have hg : g < 12 := by omega
    obtain ⟨qv, kv, hb, -⟩ := h'.parts
    have cf : w1.cell? ⟨p, 12 + g, none⟩ = some (str (d.file g)) := by rw [hb.cell, cells_file ok.nl ok.nf hg]
    unfold h23_1
    simp only [go_sem, ↓reduceIte, Nat.reduceEqDiff, Nat.reduceAdd, Nat.mul_one, cf]
    refine ⟨⟨by omega, by omega⟩, ?_⟩
    have := k w1 h' m1
    simpa [Dk.read, he] using this

theorem clone_ {v : Value} {l : List Int} {n : Nat} (hl : Sl w v 1 n (ints l)) (hn : n ≤ 9000000000000) (k : ∀ v' w', Own w' v' 3 1 n (ints l) → Mod none' w w' → (∀ k, v'.ownBlock = some k → w.heap.size ≤ k) → next v' w') :
    callvK Try.prog (.func (.func 71) #[] #[]) [v] w next QP := by
  refine r71 rfl ?_
  obtain ⟨a, c, rfl, hc, hcell⟩ := hl.form
  unfold h71
  simp only [go_sem, ↓reduceIte, Nat.reduceEqDiff, Nat.reduceAdd]
  refine ⟨fun ha => ?_, fun ha => ?_⟩
  · have hn0 : n = 0 := by
      rcases Nat.eq_zero_or_pos n with h | h
      · exact h
      · obtain ⟨b, o, rfl, _⟩ := hcell h
        simp at ha
    subst hn0
    have hl0 : ints l = [] := List.eq_nil_of_length_eq_zero (by have := hl.len; simpa using this)
    rw [hl0] at k
    exact k _ _ (Own.nil _ _ _) (Mod.refl _ _) (fun k hk => by cases hk)
  · unfold h71_1
    simp only [go_sem, ↓reduceIte, Nat.reduceEqDiff, Nat.reduceAdd]
    refine bsl0 sl22 ?_
    intro b w1 hbb own1 m1 sz1
    refine append_ sl22 (n := 0) (m := n) own1 (hl.mod m1 fun k _ h => h) (by intro u hu; obtain ⟨i, _, rfl⟩ := List.mem_map.1 hu; rfl) (by omega) (by unfold maxLen; omega) ?_
    intro v' w2 own2 m2 hb2 _
    simp only [Nat.zero_add, List.nil_append] at own2
    refine k _ _ own2 (m1.trans m2 fun i hi hS => ?_) ?_
    · simp only [ownS, Value.ownBlock, Option.some.injEq] at hS; omega
    · intro k hk
      rcases hb2 k hk with h | h
      · simp only [Value.ownBlock, Option.some.injEq] at h; omega
      · omega

theorem arm_ {p : Nat} {d : Dk} {S : FP} (h : DR w p d S) {n : Int} (hn : n ≤ 9223372036854775807) {v : Value} {l : List Int} {m : Nat} (hl : Sl w v 1 m (ints l)) (hm : m ≤ 9000000000000)
    (k : ∀ w', St S w w' p (d.arm n l) → next (.tuple #[]) w') : callvK Try.prog (.func (.func 32) #[] #[]) [ptr p, .int .i64 n, v] w next QP := by
  refine r32 rfl ?_
  unfold h32
  simp only [go_sem, ↓reduceIte, Nat.reduceEqDiff, Nat.reduceAdd]
  refine clone_ hl hm ?_
  intro v' w1 own1 m1 hb1
  have h' := h.mod0 m1
  obtain ⟨qv, kv, hb, hq, hk, h1, h2, c24, c25, c26, c27, c28⟩ := h'.parts
  have ok := h.ok
  have hlm : l.length = m := by have := hl.len; rw [ints_len] at this; omega
  refine store1 sz3 hb (by rw [cells_len ok.nl ok.nf]; omega) rfl ?_
  intro w2 hb2 m2 hsz2
  obtain ⟨a, c, rfl, -⟩ := own1.form
  refine store1 sz22 hb2 (by rw [List.length_set, cells_len ok.nl ok.nf]; omega) rfl ?_
  intro w3 hb3 m3 hsz3
  have hcs : ((d.cells qv kv).set 27 (.int .i64 (if n < 0 then 0 else n))).set 28 (.slice a m c) = (d.arm n l).cells qv (.slice a m c) := by
    have : (if n < 0 then 0 else n) = ((n.toNat : Nat) : Int) := by split <;> omega
    rw [this]
    rw [show 27 = 24 + 3 from rfl, show 28 = 24 + 4 from rfl, cells_set_tail ok.nl ok.nf]
    rw [List.set_append_right _ _ (by simp [ok.nl]), List.set_append_right _ _ (by simp [ok.nl, ok.nf])]
    simp only [List.length_map, ok.nl, ok.nf]; rfl
  rw [hcs] at hb3
  have m23 := m2.trans' m3
  have hp := h.self
  have m13 : Mod S.W w w3 := (m1.mono (T := S.W) fun _ _ h => h.elim).trans m23 fun i _ (e : i = p) => by rw [e]; exact hp
  have hlt := own1.lt
  have hsz := m1.size
  refine k w3 ⟨⟨S.W, fun k => S.R k ∨ (w.heap.size ≤ k ∧ k < w3.heap.size)⟩, ⟨⟨ok.nl, ok.nf, ok.bl, ok.bf, ok.bq, ok.lost, by show n.toNat ≤ _; omega⟩, ⟨qv, .slice a m c, hb3, hq.mod m23 fun k hk => (h1 k hk).2, ?_, fun k hk => (h1 k hk).1, fun _ k hk => ⟨.inr ⟨hb1 k hk, ?_⟩, fun hW => ?_⟩⟩, hp, fun k hk => .inl (h.sub k hk), ?_⟩, fun k hk => hk.imp id fun h => h.1, fun k hk => .inl hk, m13⟩
  · show Sl w3 _ 1 l.length (ints l)
    rw [hlm]
    exact (own1.mod m23 fun k hk e => by have := hb1 k hk; have := h.plt; have : k = p := e; omega).sl
  · have := hlt k hk; omega
  · have := hb1 k hk; have := h.lt k (h.sub k hW); omega
  · intro k hk
    rcases hk with hk | hk
    · have := h.lt k hk; omega
    · exact hk.2

theorem new_ (k : ∀ p w', w.heap.size = p → St FP0 w w' p Dk.new → next (ptr p) w') : callvK Try.prog (.func (.func 17) #[] #[]) [] w next QP := by
  refine r17 rfl ?_
  unfold h17
  simp only [go_sem, ↓reduceIte, Nat.reduceEqDiff, Nat.reduceAdd]
  refine box_ (cs := Dk.new.cells (.slice none 0 0) (.slice none 0 0)) rfl ?_
  intro p w1 hp hb m1 hsz
  refine k p w1 hp ⟨⟨fun k => k = p, fun k => k = p⟩, ⟨⟨rfl, rfl, ?_, ?_, ?_, ?_, ?_⟩, ⟨_, _, hb, Own.nil _ _ _, (Own.nil _ 3 1).sl, (fun k hk => nomatch (hk : none = some k)), (fun _ k hk => nomatch (hk : none = some k))⟩, rfl, fun k hk => hk, ?_⟩, ?_, ?_, m1⟩
  · intro s hs; rw [List.eq_of_mem_replicate hs]; simp
  · intro s hs; rw [List.eq_of_mem_replicate hs]; simp
  · intro p hp; cases hp
  · show (0 : Nat) ≤ _; omega
  · show (0 : Nat) ≤ _; omega
  · intro k (hk : k = p); omega
  · intro k (hk : k = p); exact .inr (by omega)
  · intro k (hk : k = p); exact .inr (by omega)
end
end Go.Proofs.Y

/- DD: the walks of the searches in the queue, and of settle. -/
namespace Go.Proofs.Y
open Go Go.HL Go.Proofs

/-- fv asks whether an entry is of file g -/
def Test (fv : Value) (b : Nat) (g : Int) : Prop := ∀ (w : World) (next : Value → World → Prop) (QP : List PanicEntry → World → Prop), Blk w b 3 [.int .i64 g] → ∀ pd : Pd,
  (∀ w', Mod none' w w' → next (.bool (decide ((pd.file : Int) = g))) w') → callvK Try.prog fv [.agg pd.cells.toArray] w next QP

theorem test57 (b : Nat) (g : Int) : Test (.func (.func 99) #[] #[ptr b]) b g := by
  intro w next QP hb pd k
  refine callv (first := []) (caps := [ptr b]) c99 (q99 rfl ?_)
  unfold h99
  simp only [go_sem, ↓reduceIte, Nat.reduceEqDiff, Nat.reduceAdd, List.append_eq, List.cons_append, List.nil_append]
  refine box_ (cs := pd.cells) rfl ?_
  intro c w1 hc hbc m1 hsz
  have c1 : w1.cell? ⟨c, 0, none⟩ = some (.int .i64 pd.file) := by rw [hbc.cell]; rfl
  have c2 : w1.cell? ⟨b, 0, none⟩ = some (.int .i64 g) := by rw [(hb.mod m1 fun h => h).cell]; rfl
  simp only [go_sem, ↓reduceIte, Nat.reduceEqDiff, Nat.reduceAdd, c1, c2]
  exact k _ m1
theorem test42 (b : Nat) (g : Int) : Test (.func (.func 68) #[] #[ptr b]) b g := by
  intro w next QP hb pd k
  refine callv (first := []) (caps := [ptr b]) c68 (q68 rfl ?_)
  unfold h68
  simp only [go_sem, ↓reduceIte, Nat.reduceEqDiff, Nat.reduceAdd, List.append_eq, List.cons_append, List.nil_append]
  refine box_ (cs := pd.cells) rfl ?_
  intro c w1 hc hbc m1 hsz
  have c1 : w1.cell? ⟨c, 0, none⟩ = some (.int .i64 pd.file) := by rw [hbc.cell]; rfl
  have c2 : w1.cell? ⟨b, 0, none⟩ = some (.int .i64 g) := by rw [(hb.mod m1 fun h => h).cell]; rfl
  simp only [go_sem, ↓reduceIte, Nat.reduceEqDiff, Nat.reduceAdd, c1, c2]
  exact k _ m1

section
variable {w : World} {next : Value → World → Prop} {QP : List PanicEntry → World → Prop}

theorem index_ {v fv : Value} {b : Nat} {g : Int} (ht : Test fv b g) (hb : Blk w b 3 [.int .i64 g]) {q : List Pd} (hv : Sl w v 3 q.length (rows Pd.cells q)) (hn : q.length ≤ 9000000000000)
    (k : ∀ w' (i : Int), Mod none' w w' → ((i = -1 ∧ ∀ p ∈ q, (p.file : Int) ≠ g) ∨ ∃ j : Nat, i = j ∧ ∃ h : j < q.length, (q[j].file : Int) = g ∧ ∀ p ∈ q.take j, (p.file : Int) ≠ g) → next (.int .i64 i) w') :
    callvK Try.prog (.func (.func 100) #[] #[]) [v, fv] w next QP := by
  refine r100 rfl ?_
  obtain ⟨a, c, hva, hc, -⟩ := hv.form
  unfold h100
  simp only [go_sem, ↓reduceIte, Nat.reduceEqDiff, Nat.reduceAdd, hva]
  refine loopN q.length (fun i τ w' => Mod none' w w' ∧ τ 0 = .slice a q.length c ∧ τ 1 = fv ∧ τ 7 = .int .i64 q.length ∧ τ 8 = .int .i64 i ∧ ∀ p ∈ q.take i, (p.file : Int) ≠ g) ⟨0, by omega, Mod.refl _ _, by simp [go_sem]⟩ ?_
  rintro i τ w1 hi ⟨m1, t0, t1, t7, t8, hall⟩
  unfold h100_1
  simp only [go_sem, ↓reduceIte, Nat.reduceEqDiff, Nat.reduceAdd, t0, t1, t7, t8]
  refine ⟨fun hlt => ?_, fun hge => ?_⟩
  · have hlt : i < q.length := by simpa using hlt
    obtain ⟨gb, o, c', hva', hcc, hcell⟩ := (hv.mod m1 fun k _ h => h).get Pd.cells_len rfl (by omega)
    rw [hva] at hva'
    simp only [Value.slice.injEq] at hva'
    obtain ⟨rfl, -, rfl⟩ := hva'
    have hld : loadN w1 ⟨gb, o + i * 3, none⟩ 3 = q[i].cells.toArray := loadN_of rfl fun j hj => by rw [e_add]; exact hcell i j hlt hj
    have hsome : ∀ j, j < 3 → (w1.cell? ((⟨gb, o + i * 3, none⟩ : Addr).add j)).isSome = true := loadN_some (cs := q[i].cells) rfl fun j hj => by rw [e_add]; exact hcell i j hlt hj
    unfold h100_2
    simp only [go_sem, ↓reduceIte, Nat.reduceEqDiff, Nat.reduceAdd, t0, t1, t7, t8, hld]
    refine ⟨⟨by omega, by omega⟩, fun j hj => by have := hsome j hj; rwa [e_add] at this, ?_⟩
    refine ht _ _ _ (hb.mod m1 fun h => h) q[i] ?_
    intro w2 m2
    simp only [go_sem, ↓reduceIte, Nat.reduceEqDiff, Nat.reduceAdd]
    refine ⟨fun hf => ?_, fun hf => ?_⟩
    · exact k _ _ (m1.trans' m2) (.inr ⟨i, rfl, hlt, by simpa using hf, hall⟩)
    · unfold h100_3
      simp only [go_sem, ↓reduceIte, Nat.reduceEqDiff, Nat.reduceAdd, t0, t1, t7, t8]
      rw [w64 (by omega) (by omega)]
      refine ⟨i + 1, by omega, by omega, m1.trans' m2, rfl, ?_⟩
      rw [List.take_succ_eq_append_getElem hlt]
      intro p hp
      rcases List.mem_append.1 hp with h | h
      · exact hall p h
      · rw [List.mem_singleton.1 h]; simpa using hf
  · have hge : q.length ≤ i := by simpa using hge
    unfold h100_4
    simp only [go_sem, ↓reduceIte, Nat.reduceEqDiff, Nat.reduceAdd]
    exact k _ _ m1 (.inl ⟨rfl, by rwa [List.take_of_length_le hge] at hall⟩)

theorem contains_ {v fv : Value} {b : Nat} {g : Int} (ht : Test fv b g) (hb : Blk w b 3 [.int .i64 g]) {q : List Pd} (hv : Sl w v 3 q.length (rows Pd.cells q)) (hn : q.length ≤ 9000000000000)
    (k : ∀ w', Mod none' w w' → next (.bool (q.any fun p => decide ((p.file : Int) = g))) w') :
    callvK Try.prog (.func (.func 67) #[] #[]) [v, fv] w next QP := by
  refine r67 rfl ?_
  unfold h67
  simp only [go_sem, ↓reduceIte, Nat.reduceEqDiff, Nat.reduceAdd]
  refine index_ ht hb hv hn ?_
  intro w1 i m1 hi
  simp only [go_sem, ↓reduceIte, Nat.reduceEqDiff, Nat.reduceAdd]
  have k' := k w1 m1
  rcases hi with ⟨rfl, hall⟩ | ⟨j, rfl, hj, hjg, -⟩
  · have : (q.any fun p => decide ((p.file : Int) = g)) = false := by
      rw [List.any_eq_false]; intro p hp; simpa using hall p hp
    rw [this] at k'; exact k'
  · have : (q.any fun p => decide ((p.file : Int) = g)) = true := by
      rw [List.any_eq_true]; exact ⟨_, List.getElem_mem hj, by simpa using hjg⟩
    rw [this] at k'
    simpa using k'

theorem sl84 : SlTy Try.prog 84 91 3 32 (.agg #[.int .i64 0, .int .i64 0, str []]) := ⟨by kernel_rfl, by kernel_rfl, rfl, by decide⟩
theorem sz91 : szOf Try.prog 91 = some 3 := by kernel_rfl

theorem filter_take {α : Type} {φ : α → Bool} {q : List α} {i : Nat} (h : i < q.length) : (q.take (i + 1)).filter φ = (q.take i).filter φ ++ (if φ q[i] = true then [q[i]] else []) := by
  rw [List.take_succ_eq_append_getElem h, List.filter_append]
  by_cases hp : φ q[i] = true <;> simp [hp]

theorem lay_snoc {α : Type} (A : List α) (R x : List α) (n : Nat) (hn : x.length = n) (hR : n ≤ R.length) : lay (A ++ R) A.length x = A ++ x ++ R.drop n := by
  subst hn
  simp [lay, List.drop_append]

theorem lay_app_left {α : Type} {cs rest xs : List α} {o : Nat} (h : o + xs.length ≤ cs.length) : lay (cs ++ rest) o xs = lay cs o xs ++ rest := by
  simp only [lay]
  rw [List.take_append_of_le_length (by omega), List.drop_append_of_le_length h]
  simp

/-- the queue without the entries of a file -/
theorem delete_ {v fv : Value} {b : Nat} {g : Int} (ht : Test fv b g) (hb : Blk w b 3 [.int .i64 g]) {q : List Pd} (hv : Own w v 91 3 q.length (rows Pd.cells q)) (hn : q.length ≤ 9000000000000) (hvb : v.ownBlock ≠ some b)
    (k : ∀ w' v', Own w' v' 91 3 (q.filter fun p => !decide ((p.file : Int) = g)).length (rows Pd.cells (q.filter fun p => !decide ((p.file : Int) = g))) → v'.ownBlock = v.ownBlock → Mod (ownS v) w w' → next v' w') :
    callvK Try.prog (.func (.func 98) #[] #[]) [v, fv] w next QP := by
  refine r98 rfl ?_
  unfold h98
  simp only [go_sem, ↓reduceIte, Nat.reduceEqDiff, Nat.reduceAdd]
  refine index_ ht hb hv.sl hn ?_
  intro w1 i0 m1 hi0
  simp only [go_sem, ↓reduceIte, Nat.reduceEqDiff, Nat.reduceAdd]
  have hv1 : Own w1 v 91 3 q.length (rows Pd.cells q) := hv.mod m1 fun k _ h => h
  have m1' : Mod (ownS v) w w1 := m1.mono fun _ _ h => h.elim
  rcases hi0 with ⟨rfl, hall⟩ | ⟨j0, rfl, hj0, hjg, hpre⟩
  · have hfl : q.filter (fun p => !decide ((p.file : Int) = g)) = q := by
      rw [List.filter_eq_self]; intro p hp; simpa using hall p hp
    rw [hfl] at k
    refine ⟨fun _ => k w1 v hv1 rfl m1', fun h => ?_⟩
    simp at h
  · refine ⟨fun h => absurd (of_decide_eq_true h) (by omega), fun _ => ?_⟩
    rcases hv1.blk with ⟨-, h0, -⟩ | ⟨gb, cap, rest, rfl, hblk, hrest, hcap, hcm⟩
    · omega
    have hne : gb ≠ b := fun e => hvb (by rw [e]; rfl)
    unfold h98_1
    simp only [go_sem, ↓reduceIte, Nat.reduceEqDiff, Nat.reduceAdd]
    rw [w64 (by omega) (by omega)]
    refine loopN q.length (fun j τ w' => Mod (ownS (.slice (some ⟨gb, 0, none⟩) q.length cap)) w w' ∧ Blk w' b 3 [.int .i64 g] ∧ τ 0 = .slice (some ⟨gb, 0, none⟩) q.length cap ∧ τ 1 = fv ∧ τ 6 = .int .i64 j ∧ j0 < j ∧
      ∃ (i : Nat) (R : List Pd), τ 5 = .int .i64 i ∧ i < j ∧ i = ((q.take j).filter fun p => !decide ((p.file : Int) = g)).length ∧ R.length = j - i ∧
        Blk w' gb 91 (rows Pd.cells (((q.take j).filter fun p => !decide ((p.file : Int) = g)) ++ R ++ q.drop j) ++ rest)) ?_ ?_
    · refine ⟨j0 + 1, by omega, m1', hb.mod m1 fun h => h, by simp [go_sem], by simp [go_sem], by simp [go_sem], by omega, j0, [q[j0]], by simp [go_sem], by omega, ?_, ?_, ?_⟩
      · rw [filter_take hj0, List.filter_eq_self.2 (by intro p hp; simpa using hpre p hp)]
        simp [hjg]; omega
      · simp
      · rw [filter_take hj0, List.filter_eq_self.2 (by intro p hp; simpa using hpre p hp)]
        have : q.take j0 ++ (if (!decide ((q[j0].file : Int) = g)) = true then [q[j0]] else []) ++ [q[j0]] ++ q.drop (j0 + 1) = q := by
          simp [hjg]
        rw [this]; exact hblk
    · rintro j τ w2 hj ⟨m2, hb2, t0, t1, t6, hjj, i, R, t5, hij, hil, hR, hblk2⟩
      unfold h98_2
      simp only [go_sem, ↓reduceIte, Nat.reduceEqDiff, Nat.reduceAdd, t0, t1, t5, t6]
      refine ⟨fun hlt => ?_, fun hge => ?_⟩
      · have hlt : j < q.length := by simpa using hlt
        have hlA : (((q.take j).filter fun p => !decide ((p.file : Int) = g)) ++ R).length = j := by rw [List.length_append, ← hil, hR]; omega
        have hlen : (((q.take j).filter fun p => !decide ((p.file : Int) = g)) ++ R ++ q.drop j).length = q.length := by rw [List.length_append, hlA, List.length_drop]; omega
        have hcellj : ∀ c, c < 3 → w2.cell? ⟨gb, j * 3 + c, none⟩ = q[j].cells[c]? := by
          intro c hc
          rw [hblk2.cell, List.getElem?_append_left (by rw [rows_len Pd.cells_len, hlen]; omega), rows_get Pd.cells_len _ j c (by omega) hc]
          congr 2
          rw [List.getElem_append_right (by omega)]
          simp [hlA]
        have hld : loadN w2 ⟨gb, j * 3, none⟩ 3 = q[j].cells.toArray := loadN_of rfl fun c hc => by rw [e_add]; exact hcellj c hc
        have hsome : ∀ c, c < 3 → (w2.cell? ⟨gb, j * 3 + c, none⟩).isSome = true := fun c hc => by rw [hcellj c hc]; simp [Pd.cells_len, hc]
        unfold h98_3
        simp only [go_sem, ↓reduceIte, Nat.reduceEqDiff, Nat.reduceAdd, t0, t1, t5, t6, hld]
        refine ⟨⟨by omega, by omega⟩, hsome, ?_⟩
        refine alloc_ (z := .agg #[.int .i64 0, .int .i64 0, str []]) (cs := [.int .i64 0, .int .i64 0, str []]) (by kernel_rfl) rfl ?_
        intro c w3 hc hbc m3 hsz3
        have hlt2 := hblk2.lt
        refine storeN sz91 rfl hbc (by simp) (by intro u hu; simp [Pd.cells] at hu; rcases hu with rfl | rfl | rfl <;> rfl) ?_
        intro w4 hbc4 m4 hsz4
        simp only [List.take_zero, List.nil_append, Nat.zero_add, show ([Value.int .i64 0, .int .i64 0, str []]).drop 3 = [] from rfl, List.append_nil] at hbc4
        have hld4 : loadN w4 ⟨c, 0, none⟩ 3 = q[j].cells.toArray := by rw [hbc4.loadN (by rw [Pd.cells_len]; omega)]; simp [← Pd.cells_len q[j]]
        have hsome4 := hbc4.some (o := 0) (n := 3) (by rw [Pd.cells_len]; omega)
        simp only [e_add] at hsome4
        simp only [go_sem, ↓reduceIte, Nat.reduceEqDiff, Nat.reduceAdd, t0, t1, t5, t6, hld4] at hsome4 ⊢
        refine ⟨hsome4, ht _ _ _ ((hb2.mod m3 fun h => h).mod m4 fun e => by have := hb2.lt; have : b = c := e; omega) q[j] ?_⟩
        intro w5 m5
        have hbc5 := hbc4.mod m5 fun h => h
        have hblk5 := ((hblk2.mod m3 fun h => h).mod m4 fun e => by have : gb = c := e; omega).mod m5 fun h => h
        have hb5 := ((hb2.mod m3 fun h => h).mod m4 fun e => by have := hb2.lt; have : b = c := e; omega).mod m5 fun h => h
        have hld5 : loadN w5 ⟨c, 0, none⟩ 3 = q[j].cells.toArray := by rw [hbc5.loadN (by rw [Pd.cells_len]; omega)]; simp [← Pd.cells_len q[j]]
        have hsome5 := hbc5.some (o := 0) (n := 3) (by rw [Pd.cells_len]; omega)
        simp only [e_add] at hsome5
        have m25 : Mod none' w2 w5 := (m3.trans m4 fun k hk e => by have : k = c := e; omega).trans' m5
        simp only [go_sem, ↓reduceIte, Nat.reduceEqDiff, Nat.reduceAdd, t0, t1, t5, t6, hld5] at hsome5 ⊢
        have htk := filter_take (φ := fun p : Pd => !decide ((p.file : Int) = g)) hlt
        refine ⟨fun hkeep => ?_, fun hdrop => ?_⟩
        · have hk' : (!decide ((q[j].file : Int) = g)) = true := hkeep
          rw [if_pos hk'] at htk
          refine ⟨hsome5, ⟨by omega, by omega⟩, ?_⟩
          have hRpos : 1 ≤ R.length := by omega
          refine storeN sz91 rfl hblk5 (by rw [List.length_append, rows_len Pd.cells_len, hlen]; omega) (by intro u hu; simp [Pd.cells] at hu; rcases hu with rfl | rfl | rfl <;> rfl) ?_
          intro w6 hblk6 m6 hsz6
          unfold h98_4
          simp only [go_sem, ↓reduceIte, Nat.reduceEqDiff, Nat.reduceAdd, t0, t1, t5, t6]
          rw [w64 (by omega) (by omega), w64 (by omega) (by omega)]
          refine ⟨j + 1, by omega, by omega, (m2.trans m25 fun i hi h => h.elim).trans m6 (fun k hk (e : k = gb) => by simp [ownS, Value.ownBlock, e]), hb5.mod m6 fun e => hne e.symm, rfl, by omega, i + 1, R.tail ++ [q[j]], rfl, by omega, ?_, ?_, ?_⟩
          · rw [htk, List.length_append, ← hil]; rfl
          · simp; omega
          · have hl6 : lay (rows Pd.cells ((q.take j).filter (fun p => !decide ((p.file : Int) = g)) ++ R ++ q.drop j) ++ rest) (i * 3) q[j].cells = _ := lay_app_left (by rw [rows_len Pd.cells_len, hlen, Pd.cells_len]; omega)
            rw [rows_set Pd.cells_len _ _ _ (by omega)] at hl6
            have hset : (((q.take j).filter fun p => !decide ((p.file : Int) = g)) ++ R ++ q.drop j).set i q[j] = ((q.take (j + 1)).filter fun p => !decide ((p.file : Int) = g)) ++ (R.tail ++ [q[j]]) ++ q.drop (j + 1) := by
              rw [htk, List.append_assoc, List.set_append_right _ _ (by omega), ← hil, Nat.sub_self]
              cases R with
              | nil => simp at hRpos
              | cons r R => rw [List.cons_append, List.set_cons_zero, List.tail_cons, List.drop_eq_getElem_cons hlt, List.append_assoc, List.append_assoc]; simp only [List.append_assoc]; rfl
            rw [hset] at hl6
            rw [← hl6]
            exact hblk6
        · have hk' : ¬ (!decide ((q[j].file : Int) = g)) = true := by simpa using hdrop
          rw [if_neg hk', List.append_nil] at htk
          unfold h98_4
          simp only [go_sem, ↓reduceIte, Nat.reduceEqDiff, Nat.reduceAdd, t0, t1, t5, t6]
          rw [w64 (by omega) (by omega)]
          refine ⟨j + 1, by omega, by omega, m2.trans m25 fun i hi h => h.elim, hb5, rfl, by omega, i, R ++ [q[j]], rfl, by omega, by rw [htk]; exact hil, by simp; omega, ?_⟩
          rw [htk]
          have e : R ++ q.drop j = R ++ [q[j]] ++ q.drop (j + 1) := by rw [List.append_assoc, List.singleton_append, ← List.drop_eq_getElem_cons hlt]
          rw [List.append_assoc, ← e, ← List.append_assoc]
          exact hblk5
      · have hge : q.length ≤ j := by simpa using hge
        have hjq : j = q.length := by omega
        have htake : q.take j = q := List.take_of_length_le hge
        rw [htake] at hil hblk2
        rw [List.drop_of_length_le hge, List.append_nil] at hblk2
        unfold h98_5
        simp only [go_sem, ↓reduceIte, Nat.reduceEqDiff, Nat.reduceAdd, t0, t1, t5, t6]
        refine ⟨⟨by omega, by omega⟩, ?_⟩
        refine clear_s sl84 (by intro u hu; simp [Value.cells, str] at hu; rcases hu with rfl | rfl | rfl <;> rfl) (g := gb) (o := i * 3) hblk2 ?_ ?_ ?_
        · intro hp
          rw [if_neg (by omega)]
          simp [go_sem]
        · rw [List.length_append, rows_len Pd.cells_len, List.length_append, ← hil, hR]; omega
        intro w3 zs hzs hblk3 m3 hsz3
        refine ⟨⟨by omega, by omega⟩, ?_⟩
        have hfin : lay (rows Pd.cells (q.filter (fun p => !decide ((p.file : Int) = g)) ++ R) ++ rest) (i * 3) zs = rows Pd.cells (q.filter fun p => !decide ((p.file : Int) = g)) ++ (zs ++ rest) := by
          have hi3 : i * 3 = (rows Pd.cells (q.filter fun p => !decide ((p.file : Int) = g))).length := by rw [rows_len Pd.cells_len, hil]
          have hz3 : zs.length = (rows Pd.cells R).length := by rw [hzs, rows_len Pd.cells_len, hR, hjq]
          rw [rows_app, List.append_assoc, hi3, lay_snoc _ _ _ zs.length rfl (by rw [List.length_append]; omega), hz3, List.drop_left, List.append_assoc]
        rw [hfin] at hblk3
        refine k w3 _ ?_ rfl (m2.trans m3 fun k hk (e : k = gb) => by simp [ownS, Value.ownBlock, e])
        rw [← hil]
        exact Own.of_blk (by rw [rows_len Pd.cells_len, hil]) hblk3 (by rw [List.length_append, hzs, hrest, ← Nat.add_mul]; congr 1; omega) (by omega) hcm
end
end Go.Proofs.Y

/- DE: the walks of settle, write and the crash. -/
namespace Go.Proofs.Y
open Go Go.HL Go.Proofs
section
variable {w : World} {next : Value → World → Prop} {QP : List PanicEntry → World → Prop}

theorem Dk.OK.settle {d : Dk} (ok : d.OK) (f : Nat) {s : Bytes} (hs : s.length ≤ 16777216) : (d.settle f s).OK := by
  refine ⟨by simp [Dk.settle, ok.nl], by simp [Dk.settle, ok.nf], fun t ht => ?_, fun t ht => ?_, fun p hp => ?_, ok.lost, ok.armed⟩
  · rcases List.mem_or_eq_of_mem_set ht with h | h
    · exact ok.bl t h
    · rw [h]; exact hs
  · rcases List.mem_or_eq_of_mem_set ht with h | h
    · exact ok.bf t h
    · rw [h]; exact hs
  · exact ok.bq p (List.mem_filter.1 hp).1

theorem settle_ {p : Nat} {d : Dk} {S : FP} (h : DR w p d S) {f : Nat} (hf : f < 12) {s : Bytes} (hs : s.length ≤ 16777216) (hqn : d.queue.length ≤ 9000000000000)
    (k : ∀ w', St S w w' p (d.settle f s) → next (.tuple #[]) w') :
    callvK Try.prog (.func (.func 66) #[] #[]) [ptr p, .int .i64 f, str s] w next QP := by
  refine r66 rfl ?_
  unfold h66
  simp only [go_sem, ↓reduceIte, Nat.reduceEqDiff, Nat.reduceAdd]
  refine box_ (cs := [.int .i64 f]) rfl ?_
  intro b w1 hb0 hbb m1 hsz1
  have ok := h.ok
  have h' := (h.mod0 m1).drew
  have hbb' : Blk w1.drew b 3 [.int .i64 f] := hbb
  have hsz' : w1.drew.heap.size = b + 1 := hsz1
  have m1' : Mod none' w w1.drew := m1.trans' (Mod.drew _ _)
  generalize w1.drew = w2 at h' hbb' hsz' m1'
  clear hbb hsz1 m1
  obtain ⟨qv, kv, hb, hq, hk, h1, h2, c24, c25, c26, c27, c28⟩ := h'.parts
  have cb : w2.cell? ⟨b, 0, none⟩ = some (.int .i64 f) := by rw [hbb'.cell]; rfl
  have hpb : p ≠ b := fun e => by have := h.plt; omega
  simp only [go_sem, ↓reduceIte, Nat.reduceEqDiff, Nat.reduceAdd, cb, Nat.mul_one]
  refine ⟨⟨by omega, by omega⟩, ?_⟩
  refine store1 sz9 hb (by rw [cells_len ok.nl ok.nf]; omega) rfl ?_
  intro w3 hb3 m3 hsz3
  rw [cells_set_last ok.nl hf] at hb3
  have hbb3 := hbb'.mod m3 fun e => hpb e.symm
  have cb3 : w3.cell? ⟨b, 0, none⟩ = some (.int .i64 f) := by rw [hbb3.cell]; rfl
  simp only [go_sem, ↓reduceIte, Nat.reduceEqDiff, Nat.reduceAdd, cb, cb3, Nat.mul_one]
  refine ⟨⟨by omega, by omega⟩, ?_⟩
  refine store1 sz9 hb3 (by rw [cells_len (by simp [ok.nl]) (by simp [ok.nf])]; omega) rfl ?_
  intro w4 hb4 m4 hsz4
  rw [cells_set_file (by simp [ok.nl]) (by simp [ok.nf]) hf] at hb4
  have hbb4 := hbb3.mod m4 fun e => hpb e.symm
  have m24 := m3.trans' m4
  have hq4 := hq.mod m24 fun k hk => (h1 k hk).2
  have hk4 := hk.mod' m24 fun hn k hk (e : k = p) => (h2 hn k hk).2 (e ▸ h.self)
  have c24' : w4.cell? ⟨p, 24, none⟩ = some qv := by rw [hb4.cell, cells_tail (by simp [ok.nl]) (by simp [ok.nf]) 0]; rfl
  simp only [go_sem, ↓reduceIte, Nat.reduceEqDiff, Nat.reduceAdd, cb, cb3, c24', Nat.mul_one, List.nil_append]
  have hqb : qv.ownBlock ≠ some b := fun e => by have := h.lt b (h.sub b (h1 b e).1); omega
  refine delete_ (test57 b f) hbb4 hq4 hqn hqb ?_
  intro w5 v' own5 hvb5 m5
  have hqp : ∀ k, ownS qv k → k ≠ p := fun k hk => (h1 k hk).2
  have hb5 := hb4.mod m5 fun e => (h1 p e).2 rfl
  have hk5 := hk4.mod' m5 fun hn k hk e => (h2 hn k hk).2 (h1 k e).1
  obtain ⟨av, cv, rfl, -⟩ := own5.form
  refine store1 sz84 hb5 (by rw [cells_len (by simp [ok.nl]) (by simp [ok.nf])]; omega) rfl ?_
  intro w6 hb6 m6 hsz6
  have hfil : (d.queue.filter fun p => !decide ((p.file : Int) = (f : Int))) = (d.settle f s).queue := by
    simp only [Dk.settle]; congr 1; funext p; congr 1; congr 1; apply propext; omega
  rw [hfil] at own5 hb6
  have hcs : ({ { d with lasts := d.lasts.set f s } with files := d.files.set f s }.cells qv kv).set 24 (.slice av (d.settle f s).queue.length cv) = (d.settle f s).cells (.slice av (d.settle f s).queue.length cv) kv := by
    rw [show 24 = 24 + 0 from rfl, cells_set_tail (by simp [ok.nl]) (by simp [ok.nf])]; rfl
  rw [hcs] at hb6
  have hp := h.self
  have mS : ∀ k, ownS qv k → S.W k := fun k hk => (h1 k hk).1
  have mm : Mod S.W w w6 := ((((m1'.mono (T := S.W) fun _ _ h => h.elim).trans m24 fun i _ (e : i = p) => e ▸ hp).trans m5 fun i _ e => mS i e).trans m6 fun i _ (e : i = p) => e ▸ hp)
  rw [hfil] at hvb5
  refine k w6 (.of ⟨ok.settle f hs, ⟨_, kv, hb6, own5.mod m6 fun k hk (e : k = p) => ?_, hk5.mod' m6 fun hn k hk (e : k = p) => (h2 hn k hk).2 (e ▸ hp), fun k hk => ?_, h2⟩, hp, h.sub, fun k hk => Nat.lt_of_lt_of_le (h.lt k hk) mm.size⟩ mm)
  · rw [hvb5] at hk; exact (h1 k hk).2 e
  · rw [hvb5] at hk; exact (h1 k hk).1
end
end Go.Proofs.Y

/- DF: the walks of write and of the crash. -/
namespace Go.Proofs.Y
open Go Go.HL Go.Proofs

theorem pieces_fuel (f : Nat) : ∀ (n m a : Nat) (s : Bytes), s.length ≤ n → s.length ≤ m → pieces f n a s = pieces f m a s
  | 0, m, a, s, h1, h2 => by
    have : s = [] := List.eq_nil_of_length_eq_zero (by omega)
    subst this; cases m <;> simp [pieces]
  | n + 1, 0, a, s, h1, h2 => by
    have : s = [] := List.eq_nil_of_length_eq_zero (by omega)
    subst this; simp [pieces]
  | n + 1, m + 1, a, s, h1, h2 => by
    simp only [pieces]
    by_cases hs : s = []
    · rw [if_pos hs, if_pos hs]
    · have hl : 0 < s.length := List.length_pos_iff.2 hs
      have := piece_pos (a := a) hl
      rw [if_neg hs, if_neg hs, pieces_fuel f n m _ _ (by simp; omega) (by simp; omega)]

theorem pieces_len (f : Nat) : ∀ (n a : Nat) (s : Bytes), (pieces f n a s).length ≤ s.length
  | 0, _, _ => by simp [pieces]
  | n + 1, a, s => by
    simp only [pieces]
    by_cases hs : s = []
    · rw [if_pos hs]; simp
    · have hl : 0 < s.length := List.length_pos_iff.2 hs
      have := piece_pos (a := a) hl
      have := piece_le (n := s.length) (a := a)
      rw [if_neg hs, List.length_cons]
      have := pieces_len f n (a + piece s.length a) (s.drop (piece s.length a))
      simp at this; omega

section
variable {w : World} {next : Value → World → Prop} {QP : List PanicEntry → World → Prop}

theorem write1_ {p : Nat} {d : Dk} {S : FP} (h : DR w p d S) {f a : Int} (ha : -9223372036854775808 ≤ a) (ha' : a ≤ 9223372036854775807) {s : Bytes} (hqn : d.queue.length + s.length ≤ 1000000000000) (hsl : s.length ≤ 9223372036854775807)
    (k : ∀ w', St S w w' p (d.writeD f a s) → next (.int .i64 (d.writeE f a s)) w') :
    callvK Try.prog (.func (.func 64) #[] #[]) [ptr p, .int .i64 f, .int .i64 a, str s] w next QP := by
  refine r64 rfl ?_
  have ok := h.ok
  unfold h64
  simp only [go_sem, ↓reduceIte, Nat.reduceEqDiff, Nat.reduceAdd]
  refine bsl1 sl22 rfl rfl (by omega) ?_
  intro b w1 hbb own1 blk1 m1 sz1
  have st1 : St S w w1 p d := (St.refl h).mod0 m1
  refine may_ st1.dr (by omega) (l := [f]) own1.sl ?_
  simp only [go_sem, ↓reduceIte, Nat.reduceEqDiff, Nat.reduceAdd]
  refine ⟨fun he => ?_, fun he => ?_⟩
  · have he : d.may [f] ≠ 0 := by simpa using he
    have hE : d.writeE f a s = d.may [f] := by simp [Dk.writeE, he]
    have hD : d.writeD f a s = d := by simp [Dk.writeD, hE, he]
    rw [hE, hD] at k
    exact k _ st1
  · have he : d.may [f] = 0 := by simpa using he
    have hf : isF f = true ∧ d.down = false := by
      rw [may1] at he
      rcases hd : d.down with _ | _
      · rcases hf : isF f with _ | _
        · simp [hd, hf] at he
        · exact ⟨rfl, rfl⟩
      · simp [hd] at he
    have hf' : 0 ≤ f ∧ f < 12 := by simpa [isF] using hf.1
    unfold h64_1
    simp only [go_sem, ↓reduceIte, Nat.reduceEqDiff, Nat.reduceAdd]
    refine ⟨fun hneg => ?_, fun hneg => ?_⟩
    · have hneg : a < 0 := by simpa using hneg
      have hE : d.writeE f a s = 1 := by simp [Dk.writeE, he, hneg]
      have hD : d.writeD f a s = d := by simp [Dk.writeD, hE]
      rw [hE, hD] at k
      exact k _ st1
    have hneg : 0 ≤ a := by simpa using hneg
    rw [w64 (by omega) (by omega)]
    refine ⟨fun hfull => ?_, fun hfull => ?_⟩
    · have hfull : 16777216 < a ∨ 16777216 - a < s.length := by
        rcases Int.lt_or_le 16777216 a with h | h
        · exact .inl h
        · simp [Int.not_lt.2 h] at hfull; exact .inr hfull
      have hE : d.writeE f a s = 6 := by simp only [Dk.writeE, he, ne_eq, not_true, if_false, if_neg (Int.not_lt.2 hneg), if_pos hfull]
      have hD : d.writeD f a s = d := by simp [Dk.writeD, hE]
      rw [hE, hD] at k
      exact k _ st1
    have hfull : ¬ (16777216 < a ∨ 16777216 - a < s.length) := by
      rintro (h | h)
      · simp [h] at hfull
      · simp [h] at hfull
    have hE : d.writeE f a s = 0 := by simp only [Dk.writeE, he, ne_eq, not_true, if_false, if_neg (Int.not_lt.2 hneg), if_neg hfull]
    refine ⟨fun hs0 => ?_, fun hs0 => ?_⟩
    · have hs0 : s = [] := by simpa using hs0
      have hD : d.writeD f a s = d := by simp [Dk.writeD, hs0]
      rw [hE, hD] at k
      exact k _ st1
    have hs0 : s ≠ [] := by simpa using hs0
    have hD : d.writeD f a s = { d with files := d.files.set f.toNat (put (d.file f.toNat) a.toNat s), queue := d.queue ++ pieces f.toNat s.length a.toNat s } := by simp [Dk.writeD, hE, hs0]
    rw [hE, hD] at k
    obtain ⟨fn, rfl⟩ : ∃ g : Nat, f = g := ⟨f.toNat, by omega⟩
    obtain ⟨an, rfl⟩ : ∃ g : Nat, a = g := ⟨a.toNat, by omega⟩
    simp only [Int.toNat_natCast] at k
    have hfn : fn < 12 := by omega
    have hend : an + s.length ≤ 16777216 := by
      have : ¬ ((16777216 : Int) - an < s.length) := fun h => hfull (.inr h)
      omega
    unfold h64_2
    simp only [go_sem, ↓reduceIte, Nat.reduceEqDiff, Nat.reduceAdd, Nat.mul_one]
    have st2 := st1.drew
    have cg : ∀ a, w1.cell? a = w1.drew.cell? a := fun _ => rfl
    generalize w1.drew = w2 at st2 cg ⊢
    obtain ⟨qv, kv, hb, hq, hk, h1, h2, c24, c25, c26, c27, c28⟩ := st2.dr.parts
    have cf : w2.cell? ⟨p, 12 + fn, none⟩ = some (str (d.file fn)) := by rw [hb.cell, cells_file ok.nl ok.nf hfn]
    have hfl : (d.file fn).length ≤ 16777216 := by
      unfold Dk.file
      rw [List.getD_eq_getElem?_getD, List.getElem?_eq_getElem (by rw [ok.nf]; exact hfn)]
      exact ok.bf _ (List.getElem_mem _)
    simp only [go_sem, ↓reduceIte, Nat.reduceEqDiff, Nat.reduceAdd, Nat.mul_one, cg, cf]
    refine ⟨⟨by omega, by omega⟩, ?_⟩
    refine put_ _ _ _ hfl hend ?_
    intro w3 m3
    have hb3 := hb.mod m3 fun h => h
    refine ⟨⟨by omega, by omega⟩, ?_⟩
    refine store1 sz9 hb3 (by rw [cells_len ok.nl ok.nf]; omega) rfl ?_
    intro w4 hb4 m4 hsz4
    rw [cells_set_file ok.nl ok.nf hfn] at hb4
    have hok4 : Dk.OK { d with files := d.files.set fn (put (d.file fn) an s) } := by
      refine ⟨ok.nl, by simp [ok.nf], ok.bl, fun t ht => ?_, ok.bq, ok.lost, ok.armed⟩
      rcases List.mem_or_eq_of_mem_set ht with h | h
      · exact ok.bf t h
      · rw [h, put_len]; omega
    have m24 := (m3.mono (T := fun k => k = p) fun _ _ h => h.elim).trans' m4
    have dr4 : DR w4 p { d with files := d.files.set fn (put (d.file fn) an s) } st2.foot := st2.dr.again m24 hok4 hb4 hq hk h1 h2
    have st4 : St S w w4 p { d with files := d.files.set fn (put (d.file fn) an s) } := st2.trans (.of dr4 (m24.mono fun k _ (e : k = p) => e ▸ st2.dr.self))
    clear hb hq hk h1 h2 c24 c25 c26 c27 c28 cf hb3 hb4 m24 dr4 m3 m4 hsz4 qv kv
    refine loopN s.length (fun i τ w' => τ 0 = ptr p ∧ τ 1 = .int .i64 fn ∧ ∃ (r : Bytes) (c : Nat) (Q : List Pd), τ 2 = .int .i64 c ∧ τ 3 = str r ∧ r.length = s.length - i ∧ c + r.length = an + s.length ∧ (Q.length + r.length ≤ d.queue.length + s.length) ∧
      Q ++ pieces fn r.length c r = d.queue ++ pieces fn s.length an s ∧ St S w w' p { d with files := d.files.set fn (put (d.file fn) an s), queue := Q }) ?_ ?_
    · exact ⟨0, by omega, by simp [go_sem], by simp [go_sem], s, an, d.queue, by simp [go_sem], by simp [go_sem], by omega, rfl, by omega, rfl, st4⟩
    · rintro i τ w5 hi ⟨t0, t1, r, c, Q, t2, t3, hrl, hcr, hQl, hQ, st5⟩
      unfold h64_3
      simp only [go_sem, ↓reduceIte, Nat.reduceEqDiff, Nat.reduceAdd, t0, t1, t2, t3]
      refine ⟨fun hne => ?_, fun hnil => ?_⟩
      · have hne : r ≠ [] := by simpa using hne
        have hrp : 0 < r.length := List.length_pos_iff.2 hne
        have hpp := piece_pos (n := r.length) (a := c) hrp
        have hpl := piece_le (n := r.length) (a := c)
        have hmn : (if 64 - ((c : Int).tmod 64) < (r.length : Int) then 64 - ((c : Int).tmod 64) else (r.length : Int)) = ((piece r.length c : Nat) : Int) := by
          unfold piece
          rw [Int.tmod_eq_emod_of_nonneg (by omega)]
          split <;> omega
        unfold h64_4
        simp only [go_sem, ↓reduceIte, Nat.reduceEqDiff, Nat.reduceAdd, t0, t1, t2, t3]
        rw [w64 (by rw [Int.tmod_eq_emod_of_nonneg (by omega)]; omega) (by rw [Int.tmod_eq_emod_of_nonneg (by omega)]; omega)]
        simp only [hmn]
        have st6 := st5.drew
        have cg5 : ∀ a, w5.cell? a = w5.drew.cell? a := fun _ => rfl
        generalize w5.drew = w6 at st6 cg5 ⊢
        have ok6 := st6.dr.ok
        obtain ⟨qv, kv, hb, hq, hk, h1, h2, c24, c25, c26, c27, c28⟩ := st6.dr.parts
        simp only [go_sem, cg5, c24]
        refine ⟨by decide, ⟨by omega, by omega⟩, by simp, by simp, by simp, ?_⟩
        refine bsl1 sl84 (cs := (⟨fn, c, r.take (piece r.length c)⟩ : Pd).cells) rfl rfl (by omega) ?_
        intro nb w7 hnb ownn blkn m7 sz7
        have hb7 := hb.mod m7 fun h => h
        have c24' : w7.cell? ⟨p, 24, none⟩ = some qv := by rw [hb7.cell, cells_tail ok6.nl ok6.nf 0]; rfl
        simp only [go_sem, c24']
        have hq7 := hq.mod m7 fun k _ h => h
        have hk7 := hk.mod' m7 fun _ k _ h => h
        refine append_ sl84 hq7 ownn.sl (by intro u hu; simp [Pd.cells] at hu; rcases hu with rfl | rfl | rfl <;> rfl) (by show (Q.length + 1) * 32 ≤ _; omega) (by show Q.length + 1 ≤ _; unfold maxLen; omega) ?_
        intro v' w8 own8 m8 hvb8 _
        have hb8 := hb7.mod m8 fun e => (h1 p e).2 rfl
        have hk8 := hk7.mod' m8 fun hn k hk e => (h2 hn k hk).2 (h1 k e).1
        obtain ⟨av, cv, rfl, -⟩ := own8.form
        refine store1 sz84 hb8 (by rw [cells_len ok6.nl ok6.nf]; omega) rfl ?_
        intro w9 hb9 m9 hsz9
        have hpp6 := st6.dr.plt
        have hqlt := hq.lt
        have hvp : ∀ k, (Value.slice av (Q.length + 1) cv).ownBlock = some k → (st6.foot.W k ∨ (w6.heap.size ≤ k ∧ k < w9.heap.size)) ∧ k ≠ p := by
          intro k hk
          have hlt := own8.lt k hk
          rcases hvb8 k hk with h | h
          · exact ⟨.inl (h1 k h).1, (h1 k h).2⟩
          · have := m7.size
            exact ⟨.inr ⟨by omega, by omega⟩, by omega⟩
        have hcs : ({ d with files := d.files.set fn (put (d.file fn) an s), queue := Q }.cells qv kv).set 24 (.slice av (Q.length + 1) cv) = ({ d with files := d.files.set fn (put (d.file fn) an s), queue := Q ++ [⟨fn, c, r.take (piece r.length c)⟩] } : Dk).cells (.slice av (Q.length + 1) cv) kv := by
          rw [show 24 = 24 + 0 from rfl, cells_set_tail ok6.nl ok6.nf]; rfl
        have hb9' := hb9
        rw [hcs] at hb9'
        have mS : ∀ k, ownS qv k → st6.foot.W k := fun k hk => (h1 k hk).1
        have mm : Mod st6.foot.W w6 w9 := ((m7.mono (T := st6.foot.W) fun _ _ h => h.elim).trans m8 fun k _ e => mS k e).trans m9 fun k _ (e : k = p) => e ▸ st6.dr.self
        have st9 : St S w w9 p { d with files := d.files.set fn (put (d.file fn) an s), queue := Q ++ [⟨fn, c, r.take (piece r.length c)⟩] } := by
          refine st6.trans ⟨⟨fun k => st6.foot.W k ∨ (w6.heap.size ≤ k ∧ k < w9.heap.size), fun k => st6.foot.R k ∨ (w6.heap.size ≤ k ∧ k < w9.heap.size)⟩, ⟨⟨ok6.nl, ok6.nf, ok6.bl, ok6.bf, ?_, ok6.lost, ok6.armed⟩, ⟨_, kv, hb9', ?_, ?_, fun k hk => (hvp k hk).1, fun hn k hk => ⟨.inl (h2 hn k hk).1, fun hW => ?_⟩⟩, .inl st6.dr.self, fun k hk => hk.imp (st6.dr.sub k) id, ?_⟩, fun k hk => hk.imp id fun h => h.1, fun k hk => hk.imp id fun h => h.1, mm⟩
          · intro x hx
            rcases List.mem_append.1 hx with hx | hx
            · exact ok6.bq x hx
            · rw [List.mem_singleton.1 hx]
              refine ⟨hfn, ?_⟩
              simp only [List.length_take]; omega
          · have : (Q ++ [(⟨fn, c, r.take (piece r.length c)⟩ : Pd)]).length = Q.length + 1 := by simp
            rw [this, rows_app]
            exact own8.mod m9 fun k hk (e : k = p) => (hvp k hk).2 e
          · exact hk8.mod' m9 fun hn k hk (e : k = p) => (h2 hn k hk).2 (e ▸ st6.dr.self)
          · rcases hW with hW | hW
            · exact (h2 hn k hk).2 hW
            · have := st6.dr.lt k (h2 hn k hk).1; omega
          · intro k hk
            rcases hk with hk | hk
            · have := st6.dr.lt k hk; have := mm.size; omega
            · exact hk.2
        refine ⟨⟨by omega, by omega⟩, i + piece r.length c, by omega, by omega, r.drop (piece r.length c), c + piece r.length c, Q ++ [⟨fn, c, r.take (piece r.length c)⟩], ?_, rfl, by simp; omega, by simp; omega, by simp; omega, ?_, st9.drew⟩
        · rw [w64 (by omega) (by omega)]; rfl
        · rw [← hQ]
          obtain ⟨m, hm⟩ : ∃ m, r.length = m + 1 := ⟨r.length - 1, by omega⟩
          conv => rhs; rw [hm]
          simp only [pieces, if_neg hne]
          rw [List.append_assoc]
          congr 1
          simp only [List.singleton_append]
          congr 1
          exact pieces_fuel _ _ _ _ _ (by simp) (by simp; omega)
      · have hnil : r = [] := by simpa using hnil
        subst hnil
        have hQ' : Q = d.queue ++ pieces fn s.length an s := by rw [← hQ]; simp [pieces]
        subst hQ'
        unfold h64_5
        simp only [go_sem, ↓reduceIte, Nat.reduceEqDiff, Nat.reduceAdd]
        exact k _ st5
end
end Go.Proofs.Y

/- DG: the walk of the crash. -/
namespace Go.Proofs.Y
open Go Go.HL Go.Proofs

theorem kept_len {k : Option Int} {b c : Bytes} (h : kept k b = some c) : c.length ≤ b.length := by
  unfold kept at h
  split at h
  · cases h
  · split at h
    · cases h; exact Nat.le_refl _
    · split at h
      · cases h; simp; omega
      · cases h
theorem getD_le {l : List Bytes} {n : Nat} (h : ∀ s ∈ l, s.length ≤ n) (i : Nat) : (l.getD i []).length ≤ n := by
  rw [List.getD_eq_getElem?_getD]
  rcases Nat.lt_or_ge i l.length with hi | hi
  · rw [List.getElem?_eq_getElem hi]; exact h _ (List.getElem_mem hi)
  · rw [List.getElem?_eq_none hi]; simp
theorem surv_bound {lasts : List Bytes} (h : ∀ s ∈ lasts, s.length ≤ 16777216) {p : Pd} (hp : p.at_ + p.bytes.length ≤ 16777216) (k : Option Int) : ∀ s ∈ surv lasts p k, s.length ≤ 16777216 := by
  intro s hs
  unfold surv at hs
  split at hs
  · exact h s hs
  · rename_i b hb
    rcases List.mem_or_eq_of_mem_set hs with h' | rfl
    · exact h s h'
    · have := kept_len hb
      have := getD_le h p.file
      rw [put_len]; omega
theorem survs_bound : ∀ (q : List Pd) (lasts : List Bytes) (ks : List Int), (∀ s ∈ lasts, s.length ≤ 16777216) → (∀ p ∈ q, p.at_ + p.bytes.length ≤ 16777216) → ∀ s ∈ survs lasts q ks, s.length ≤ 16777216
  | [], _, _, h, _ => h
  | p :: q, lasts, ks, h, hq => survs_bound q _ _ (surv_bound h (hq p (by simp)) _) fun x hx => hq x (by simp [hx])

theorem survs_take {lasts : List Bytes} {q : List Pd} {ks : List Int} {i : Nat} (hi : i < q.length) : survs lasts (q.take (i + 1)) ks = surv (survs lasts (q.take i) ks) q[i] ks[i]? := by
  rw [List.take_succ_eq_append_getElem hi, survs_snoc, List.length_take, Nat.min_eq_left (by omega)]

def mid (d : Dk) (ks : List Int) (i : Nat) : Dk := { d with lasts := survs d.lasts (d.queue.take i) ks, down := true, armed := 0 }
theorem mid_ok {d : Dk} (ok : d.OK) (ks : List Int) (i : Nat) : (mid d ks i).OK :=
  ⟨by simp [mid, survs_len, ok.nl], ok.nf, survs_bound _ _ _ ok.bl fun p hp => (ok.bq p (List.mem_of_mem_take hp)).2, ok.bf, ok.bq, ok.lost, Nat.zero_le _⟩

theorem sz83 : szOf Try.prog 83 = some 12 := by kernel_rfl

theorem Dk.OK.crash {d : Dk} (ok : d.OK) (ks : List Int) : (d.crash ks).OK := by
  unfold Dk.crash
  split
  · exact ok
  · exact ⟨by simp [survs_len, ok.nl], by simp [survs_len, ok.nl], survs_bound _ _ _ ok.bl fun p hp => (ok.bq p hp).2, survs_bound _ _ _ ok.bl fun p hp => (ok.bq p hp).2, fun p hp => (nomatch hp), ok.lost, Nat.zero_le _⟩

section
variable {w : World} {next : Value → World → Prop} {QP : List PanicEntry → World → Prop}

theorem crash_ {p : Nat} {d : Dk} {S : FP} (h : DR w p d S) {v : Value} {ks : List Int} {n : Nat} (hv : Sl w v 1 n (ints ks)) (hvp : 0 < n → v.ownBlock ≠ some p) (hqn : d.queue.length ≤ 9000000000000)
    (k : ∀ w', St S w w' p (d.crash ks) → next (.tuple #[]) w') : callvK Try.prog (.func (.func 21) #[] #[]) [ptr p, v] w next QP := by
  refine r21 rfl ?_
  have ok := h.ok
  obtain ⟨qv, kv, hb, hq, hk, h1, h2, c24, c25, c26, c27, c28⟩ := h.parts
  unfold h21
  simp only [go_sem, ↓reduceIte, Nat.reduceEqDiff, Nat.reduceAdd, c26]
  refine ⟨fun hd => ?_, fun hd => ?_⟩
  · have : d.crash ks = d := by simp [Dk.crash, hd]
    rw [this] at k
    exact k w (.refl h)
  unfold h21_1
  simp only [go_sem, ↓reduceIte, Nat.reduceEqDiff, Nat.reduceAdd, c26]
  refine store1 sz4 hb (by rw [cells_len ok.nl ok.nf]; omega) rfl ?_
  intro w1 hb1 m1 hsz1
  refine store1 sz3 hb1 (by rw [List.length_set, cells_len ok.nl ok.nf]; omega) rfl ?_
  intro w2 hb2 m2 hsz2
  have hcs : ((d.cells qv kv).set 26 (.bool true)).set 27 (.int .i64 0) = (mid d ks 0).cells qv kv := by
    rw [show 26 = 24 + 2 from rfl, show 27 = 24 + 3 from rfl, cells_set_tail ok.nl ok.nf]
    rw [List.set_append_right _ _ (by simp [ok.nl]), List.set_append_right _ _ (by simp [ok.nl, ok.nf])]
    simp only [List.length_map, ok.nl, ok.nf]; simp [mid, survs, Dk.cells]
  rw [hcs] at hb2
  have m12 := m1.trans' m2
  have dr2 : DR w2 p (mid d ks 0) S := h.again m12 (mid_ok ok ks 0) hb2 hq hk h1 h2
  have st2 : St S w w2 p (mid d ks 0) := .of dr2 (m12.mono fun k _ (e : k = p) => e ▸ h.self)
  have c24' : w2.cell? ⟨p, 24, none⟩ = some qv := by rw [hb2.cell, cells_tail (mid_ok ok ks 0).nl (mid_ok ok ks 0).nf 0]; rfl
  have hv2 : Sl w2 v 1 n (ints ks) := hv.mod' m12 fun hn k hk (e : k = p) => hvp hn (by rw [hk, e])
  have hq2 := hq.mod m12 fun k hk => (h1 k hk).2
  obtain ⟨qa, qc, hqv, -⟩ := hq.form
  obtain ⟨va, vc, hvv, hvc, -⟩ := hv.form
  subst hqv; subst hvv
  simp only [go_sem, ↓reduceIte, Nat.reduceEqDiff, Nat.reduceAdd, c24']
  -- what the rounds keep
  refine loopN d.queue.length (fun i τ w' => τ 0 = ptr p ∧ τ 1 = .slice va n vc ∧ τ 20 = .slice qa d.queue.length qc ∧ τ 21 = .int .i64 d.queue.length ∧ τ 22 = .int .i64 i ∧
    (∃ kv, Blk w' p 86 ((mid d ks i).cells (.slice qa d.queue.length qc) kv) ∧ Sl w' kv 1 d.keep.length (ints d.keep) ∧ (0 < d.keep.length → ∀ k, kv.ownBlock = some k → S.R k ∧ ¬ S.W k)) ∧
    Sl w' (.slice va n vc) 1 n (ints ks) ∧ Own w' (.slice qa d.queue.length qc) 91 3 d.queue.length (rows Pd.cells d.queue) ∧ Mod S.W w w') ?_ ?_
  · exact ⟨0, by omega, by simp [go_sem], by simp [go_sem], by simp [go_sem], by simp [go_sem], by simp [go_sem], ⟨kv, hb2, hk.mod' m12 fun hn k hk (e : k = p) => (h2 hn k hk).2 (e ▸ h.self), h2⟩, hv2, hq2, st2.mod⟩
  · rintro i τ w3 hi ⟨t0, t1, t20, t21, t22, ⟨kv3, hb3, hk3, hkb3⟩, hv3, hq3, m3⟩
    have oki := mid_ok ok ks i
    unfold h21_2
    simp only [go_sem, ↓reduceIte, Nat.reduceEqDiff, Nat.reduceAdd, t0, t1, t20, t21, t22]
    refine ⟨fun hlt => ?_, fun hge => ?_⟩
    · have hlt : i < d.queue.length := by simpa using hlt
      obtain ⟨gb, o, c', hva', hcc, hcell⟩ := hq3.sl.get Pd.cells_len rfl (by omega)
      simp only [Value.slice.injEq] at hva'
      obtain ⟨rfl, -, rfl⟩ := hva'
      have hld : loadN w3 ⟨gb, o + i * 3, none⟩ 3 = d.queue[i].cells.toArray := loadN_of rfl fun j hj => by rw [e_add]; exact hcell i j hlt hj
      have hsome : ∀ j, j < 3 → (w3.cell? ⟨gb, o + i * 3 + j, none⟩).isSome = true := fun j hj => by rw [hcell i j hlt hj]; simp [Pd.cells_len, hj]
      unfold h21_3
      simp only [go_sem, ↓reduceIte, Nat.reduceEqDiff, Nat.reduceAdd, t0, t1, t20, t21, t22, hld]
      refine ⟨⟨by omega, by omega⟩, hsome, ?_⟩
      refine alloc_ (z := .agg #[.int .i64 0, .int .i64 0, str []]) (cs := [.int .i64 0, .int .i64 0, str []]) (by kernel_rfl) rfl ?_
      intro c w4 hc hbc m4 hsz4
      have hplt := hb3.lt
      refine storeN sz91 rfl hbc (by simp) (by intro u hu; simp [Pd.cells] at hu; rcases hu with rfl | rfl | rfl <;> rfl) ?_
      intro w5 hbc5 m5 hsz5
      simp only [List.take_zero, List.nil_append, Nat.zero_add, show ([Value.int .i64 0, .int .i64 0, str []]).drop 3 = [] from rfl, List.append_nil] at hbc5
      have m35 : Mod none' w3 w5 := m4.trans m5 fun k hk (e : k = c) => by omega
      have x0 : w5.cell? ⟨c, 0, none⟩ = some (.int .i64 d.queue[i].file) := by rw [hbc5.cell]; rfl
      have x1 : w5.cell? ⟨c, 1, none⟩ = some (.int .i64 d.queue[i].at_) := by rw [hbc5.cell]; rfl
      have x2 : w5.cell? ⟨c, 2, none⟩ = some (str d.queue[i].bytes) := by rw [hbc5.cell]; rfl
      have hb5 := hb3.mod m35 fun h => h
      have hv5 := hv3.mod m35 fun k _ h => h
      have hq5 := hq3.mod m35 fun k _ h => h
      have hk5 := hk3.mod' m35 fun _ k _ h => h
      have m5' : Mod S.W w w5 := m3.trans m35 fun i _ h => h.elim
      have hcp : c ≠ p := by omega
      have hbq := ok.bq d.queue[i] (List.getElem_mem hlt)
      have hfile := getD_le (mid_ok ok ks i).bl d.queue[i].file
      have htk := survs_take (lasts := d.lasts) (ks := ks) hlt
      clear hbc hsz4 m4 hsz5 m5 w4 hld hsome hcell m3 hb3 hv3 hq3 hk3
      have cl : w5.cell? ⟨p, d.queue[i].file, none⟩ = some (str ((mid d ks i).last d.queue[i].file)) := by rw [hb5.cell, cells_last oki.nl hbq.1]
      simp only [go_sem, ↓reduceIte, Nat.reduceEqDiff, Nat.reduceAdd, t0, t1, t20, t21, t22, x0, x1, x2, Nat.mul_one]
      refine ⟨fun hend => ?_, fun hin => ?_⟩
      · have hend : n ≤ i := by simpa using hend
        have hki : ks[i]? = none := List.getElem?_eq_none (by have := hv5.len; rw [ints_len] at this; omega)
        have hm : mid d ks (i + 1) = mid d ks i := by simp [mid, htk, surv, kept, hki]
        unfold h21_4
        simp only [go_sem, ↓reduceIte, Nat.reduceEqDiff, Nat.reduceAdd, t0, t1, t20, t21, t22]
        rw [w64 (by omega) (by omega)]
        exact ⟨i + 1, by omega, by omega, rfl, ⟨kv3, by rw [hm]; exact hb5, hk5, hkb3⟩, hv5, hq5, m5'⟩
      have hin : i < n := by simpa using hin
      obtain ⟨hvl, va', vc', hva', -, hvc1⟩ := id hv5
      simp only [Value.slice.injEq] at hva'
      obtain ⟨rfl, -, rfl⟩ := hva'
      obtain ⟨vb, vo, rfl, hvcell⟩ := hvc1 (by omega)
      simp only [Nat.mul_one] at hvcell hvl
      have hik : i < ks.length := by rw [ints_len] at hvl; omega
      have hki : ks[i]? = some ks[i] := List.getElem?_eq_getElem hik
      have hvi := hvcell i hin
      rw [show (ints ks)[i]? = some (.int .i64 ks[i]) by simp [ints]] at hvi
      simp only [go_sem, ↓reduceIte, Nat.reduceEqDiff, Nat.reduceAdd, t0, t1, t20, t21, t22, x0, x1, x2, Nat.mul_one, hvi, cl]
      -- a part that survives
      have fin : ∀ (b : Bytes) (w6 w7 : World), kept (some ks[i]) d.queue[i].bytes = some b → Mod none' w5 w6 → Mod (fun k => k = p) w6 w7 →
          Blk w7 p 86 (((mid d ks i).cells (.slice (some ⟨gb, o, none⟩) d.queue.length qc) kv3).set d.queue[i].file (str (put ((mid d ks i).last d.queue[i].file) d.queue[i].at_ b))) →
          ∃ i', i < i' ∧ i' ≤ d.queue.length ∧ Value.int .i64 ((i : Int) + 1) = Value.int .i64 i' ∧
            (∃ kv, Blk w7 p 86 ((mid d ks i').cells (.slice (some ⟨gb, o, none⟩) d.queue.length qc) kv) ∧ Sl w7 kv 1 d.keep.length (ints d.keep) ∧ (0 < d.keep.length → ∀ k, kv.ownBlock = some k → S.R k ∧ ¬ S.W k)) ∧
            Sl w7 (.slice (some ⟨vb, vo, none⟩) n vc) 1 n (ints ks) ∧ Own w7 (.slice (some ⟨gb, o, none⟩) d.queue.length qc) 91 3 d.queue.length (rows Pd.cells d.queue) ∧ Mod S.W w w7 := by
        intro b w6 w7 hkb m6 m7 hb7
        have hm : { mid d ks i with lasts := (mid d ks i).lasts.set d.queue[i].file (put ((mid d ks i).last d.queue[i].file) d.queue[i].at_ b) } = mid d ks (i + 1) := by
          simp only [mid, htk, surv, hki, hkb, Dk.last]
        rw [cells_set_last oki.nl hbq.1, hm] at hb7
        refine ⟨i + 1, by omega, by omega, rfl, ⟨kv3, hb7, ?_, hkb3⟩, ?_, ?_, (m5'.trans m6 fun _ _ h => h.elim).trans m7 fun k _ (e : k = p) => e ▸ h.self⟩
        · exact (hk5.mod' m6 fun _ _ _ h => h).mod' m7 fun hn k hk (e : k = p) => (hkb3 hn k hk).2 (e ▸ h.self)
        · exact (hv5.mod m6 fun _ _ h => h).mod' m7 fun hn k hk (e : k = p) => hvp hn (by rw [hk, e])
        · exact (hq5.mod m6 fun _ _ h => h).mod m7 fun k hk (e : k = p) => (h1 k hk).2 e
      refine ⟨⟨by omega, by omega⟩, fun hk1 => ?_, fun hk1 => ?_⟩
      · have hk1 : ks[i] = 1 := by simpa using hk1
        refine ⟨⟨by omega, by omega⟩, ?_⟩
        refine put_ _ _ _ hfile hbq.2 ?_
        intro w6 m6
        have hb6 := (hb5.drew).mod m6 fun h => h
        have x0' : w6.cell? ⟨c, 0, none⟩ = some (.int .i64 d.queue[i].file) := by rw [(hbc5.drew.mod m6 fun h => h).cell]; rfl
        simp only [go_sem, x0', Nat.mul_one]
        refine ⟨⟨by omega, by omega⟩, ?_⟩
        refine store1 sz9 hb6 (by rw [cells_len oki.nl oki.nf]; omega) rfl ?_
        intro w7 hb7 m7 hsz7
        unfold h21_4
        simp only [go_sem, ↓reduceIte, Nat.reduceEqDiff, Nat.reduceAdd, t0, t1, t20, t21, t22]
        rw [w64 (by omega) (by omega)]
        exact fin d.queue[i].bytes w6 w7 (by simp [kept, hk1]) ((Mod.drew _ _).trans' m6) m7 hb7
      · have hk1 : ks[i] ≠ 1 := by simpa using hk1
        refine ⟨⟨by omega, by omega⟩, fun hk2 => ?_, fun hk2 => ?_⟩
        · have hk2 : ks[i] = 2 := by simpa using hk2
          refine ⟨⟨by omega, by omega⟩, ?_⟩
          have hmn : (if (24 : Int) < (d.queue[i].bytes.length : Int) then (24 : Int) else (d.queue[i].bytes.length : Int)).toNat = min 24 d.queue[i].bytes.length := by split <;> omega
          refine ⟨⟨by split <;> omega, by split <;> omega⟩, ?_⟩
          rw [hmn]
          have htake : d.queue[i].bytes.take (min 24 d.queue[i].bytes.length) = d.queue[i].bytes.take 24 := by
            rcases Nat.le_total 24 d.queue[i].bytes.length with h | h
            · rw [Nat.min_eq_left h]
            · rw [Nat.min_eq_right h, List.take_of_length_le (Nat.le_refl _), List.take_of_length_le h]
          rw [htake]
          refine put_ _ _ _ hfile (by simp; omega) ?_
          intro w6 m6
          have hb6 := (hb5.drew).mod m6 fun h => h
          have x0' : w6.cell? ⟨c, 0, none⟩ = some (.int .i64 d.queue[i].file) := by rw [(hbc5.drew.mod m6 fun h => h).cell]; rfl
          simp only [go_sem, x0', Nat.mul_one]
          refine ⟨⟨by omega, by omega⟩, ?_⟩
          refine store1 sz9 hb6 (by rw [cells_len oki.nl oki.nf]; omega) rfl ?_
          intro w7 hb7 m7 hsz7
          unfold h21_4
          simp only [go_sem, ↓reduceIte, Nat.reduceEqDiff, Nat.reduceAdd, t0, t1, t20, t21, t22]
          rw [w64 (by omega) (by omega)]
          exact fin (d.queue[i].bytes.take 24) w6 w7 (by simp [kept, hk2]) ((Mod.drew _ _).trans' m6) m7 hb7
        · have hk2 : ks[i] ≠ 2 := by simpa using hk2
          have hm : mid d ks (i + 1) = mid d ks i := by simp [mid, htk, surv, kept, hki, hk1, hk2]
          unfold h21_4
          simp only [go_sem, ↓reduceIte, Nat.reduceEqDiff, Nat.reduceAdd, t0, t1, t20, t21, t22]
          rw [w64 (by omega) (by omega)]
          exact ⟨i + 1, by omega, by omega, rfl, ⟨kv3, by rw [hm]; exact hb5, hk5, hkb3⟩, hv5, hq5, m5'⟩
    · have hge : d.queue.length ≤ i := by simpa using hge
      unfold h21_5
      have hld := hb3.loadN (o := 0) (n := 12) (by rw [cells_len oki.nl oki.nf]; omega)
      have hsome := hb3.some (o := 0) (n := 12) (by rw [cells_len oki.nl oki.nf]; omega)
      simp only [e_add, Nat.zero_add] at hsome
      have htk : ((mid d ks i).cells (.slice qa d.queue.length qc) kv3).take 12 = (mid d ks i).lasts.map str := by
        unfold Dk.cells
        rw [List.take_left' (by simp [oki.nl])]
      rw [List.drop_zero, htk] at hld
      simp only [go_sem, ↓reduceIte, Nat.reduceEqDiff, Nat.reduceAdd, t0, t1, t20, t21, t22, hld]
      refine ⟨hsome, ?_⟩
      refine storeN sz83 (by simp [oki.nl]) hb3 (by rw [cells_len oki.nl oki.nf]; omega) (by intro u hu; obtain ⟨s, _, rfl⟩ := List.mem_map.1 hu; rfl) ?_
      intro w4 hb4 m4 hsz4
      have hcs4 : ((mid d ks i).cells (.slice qa d.queue.length qc) kv3).take 12 ++ (mid d ks i).lasts.map str ++ ((mid d ks i).cells (.slice qa d.queue.length qc) kv3).drop (12 + 12) = ({ mid d ks i with files := (mid d ks i).lasts } : Dk).cells (.slice qa d.queue.length qc) kv3 := by
        rw [htk]
        unfold Dk.cells
        rw [← List.append_assoc, List.drop_left' (by simp [oki.nl, oki.nf])]
        simp
      rw [hcs4] at hb4
      have ok4 : Dk.OK { mid d ks i with files := (mid d ks i).lasts } := ⟨oki.nl, oki.nl, oki.bl, oki.bl, oki.bq, oki.lost, oki.armed⟩
      refine store1 sz84 hb4 (by rw [cells_len ok4.nl ok4.nf]; omega) rfl ?_
      intro w5 hb5 m5 hsz5
      have hcr : d.crash ks = { mid d ks i with files := (mid d ks i).lasts, queue := [] } := by
        simp only [Dk.crash, hd, mid]
        rw [List.take_of_length_le hge]; rfl
      have hcs5 : (({ mid d ks i with files := (mid d ks i).lasts } : Dk).cells (.slice qa d.queue.length qc) kv3).set 24 (.slice none 0 0) = (d.crash ks).cells (.slice none 0 0) kv3 := by
        rw [show 24 = 24 + 0 from rfl, cells_set_tail ok4.nl ok4.nf, hcr]; rfl
      rw [hcs5] at hb5
      have m35 := m4.trans' m5
      have mm : Mod S.W w w5 := m3.trans m35 fun k _ (e : k = p) => e ▸ h.self
      have hk0 : (d.crash ks).keep = d.keep := by rw [hcr]; rfl
      refine k w5 (.of ⟨ok.crash ks, ⟨_, kv3, hb5, ?_, ?_, (fun k hk => nomatch (hk : none = some k)), by rw [hk0]; exact hkb3⟩, h.self, h.sub, fun k hk => Nat.lt_of_lt_of_le (h.lt k hk) mm.size⟩ mm)
      · rw [hcr]; exact Own.nil _ _ _
      · rw [hk0]; exact hk3.mod' m35 fun hn k hk (e : k = p) => (hkb3 hn k hk).2 (e ▸ h.self)
end
end Go.Proofs.Y

/- DH: the walks of the disk's calls. -/
namespace Go.Proofs.Y
open Go Go.HL Go.Proofs

theorem tick_queue (d : Dk) : d.tick.queue = d.queue := by unfold Dk.tick; split <;> rfl
theorem tick_keep (d : Dk) : d.tick.keep = d.keep := by unfold Dk.tick; split <;> rfl
theorem writeD_keep (d : Dk) (f a : Int) (s : Bytes) : (d.writeD f a s).keep = d.keep := by unfold Dk.writeD; split <;> rfl
theorem writeD_queue (d : Dk) (f a : Int) (s : Bytes) : (d.writeD f a s).queue.length ≤ d.queue.length + s.length := by
  unfold Dk.writeD; split
  · omega
  · simp only [List.length_append]; have := pieces_len f.toNat s.length a.toNat s; omega
theorem crash_queue (d : Dk) (ks : List Int) : (d.crash ks).queue.length ≤ d.queue.length := by
  unfold Dk.crash; split
  · omega
  · simp
theorem pre_queue (d : Dk) : d.pre.queue.length ≤ d.queue.length := by
  unfold Dk.pre Dk.endW; split
  · exact Nat.le_trans (crash_queue _ _) (by rw [tick_queue]; omega)
  · rw [tick_queue]; omega

theorem may_ok {d : Dk} {f : Int} (h : d.may [f] = 0) : ∃ g : Nat, f = g ∧ g < 12 := by
  rw [may1] at h
  rcases hd : d.down with _ | _ <;> rcases hf : isF f with _ | _ <;> simp [hd, hf] at h
  have hf' : 0 ≤ f ∧ f < 12 := by simpa [isF] using hf
  exact ⟨f.toNat, by omega, by omega⟩
theorem may2 {d : Dk} {f g : Int} : d.may [f, g] = if d.down then 8 else if isF f && isF g then 0 else 1 := by simp [Dk.may]
theorem may_ok2 {d : Dk} {f g : Int} (h : d.may [f, g] = 0) : (∃ n : Nat, f = n ∧ n < 12) ∧ ∃ n : Nat, g = n ∧ n < 12 := by
  rw [may2] at h
  rcases hd : d.down with _ | _ <;> rcases hf : isF f with _ | _ <;> rcases hg : isF g with _ | _ <;> simp [hd, hf, hg] at h
  have hf' : 0 ≤ f ∧ f < 12 := by simpa [isF] using hf
  have hg' : 0 ≤ g ∧ g < 12 := by simpa [isF] using hg
  exact ⟨⟨f.toNat, by omega, by omega⟩, g.toNat, by omega, by omega⟩

section
variable {w : World} {next : Value → World → Prop} {QP : List PanicEntry → World → Prop}

/-- a crash with the disk's own parts -/
theorem crashK_ {p : Nat} {d : Dk} {S : FP} (h : DR w p d S) (hqn : d.queue.length ≤ 9000000000000) (k : ∀ w', St S w w' p (d.crash d.keep) → next (.tuple #[]) w') :
    (w.cell? ⟨p, 28, none⟩).isSome = true ∧ callvK Try.prog (.func (.func 21) #[] #[]) [ptr p, (w.cell? ⟨p, 28, none⟩).getD undef] w next QP := by
  obtain ⟨qv, kv, hb, hq, hk, h1, h2, c24, c25, c26, c27, c28⟩ := h.parts
  rw [c28]
  exact ⟨rfl, crash_ h hk (fun hn e => (h2 hn p e).2 h.self) hqn k⟩

theorem write_ {p : Nat} {d : Dk} {S : FP} (h : DR w p d S) {f a : Int} (ha : -9223372036854775808 ≤ a) (ha' : a ≤ 9223372036854775807) {s : Bytes} (hqn : d.queue.length + s.length ≤ 1000000000000)
    (k : ∀ w', St S w w' p (d.write f a s) → next (.int .i64 (d.writeR f a s)) w') :
    callvK Try.prog (.func (.func 18) #[] #[]) [ptr p, .int .i64 f, .int .i64 a, str s] w next QP := by
  refine r18 rfl ?_
  unfold h18
  try simp only [go_sem, ↓reduceIte, Nat.reduceEqDiff, Nat.reduceAdd]
  refine ends_ h ?_
  intro w1 dr1 m1 _
  have st1 : St S w w1 p d.tick := .of dr1 m1
  try simp only [go_sem, ↓reduceIte, Nat.reduceEqDiff, Nat.reduceAdd]
  refine write1_ st1.dr ha ha' (by rw [tick_queue]; omega) (by omega) ?_
  intro w2 st2'
  have st2 := st1.trans st2'
  try simp only [go_sem, ↓reduceIte, Nat.reduceEqDiff, Nat.reduceAdd]
  refine ⟨fun he => ?_, fun he => ?_⟩
  · refine crashK_ st2.dr (by have := writeD_queue d.tick f a s; rw [tick_queue] at this; omega) ?_
    intro w3 st3'
    have st3 := st2.trans st3'
    try simp only [go_sem, ↓reduceIte, Nat.reduceEqDiff, Nat.reduceAdd]
    have e1 : d.write f a s = (d.tick.writeD f a s).crash (d.tick.writeD f a s).keep := by simp [Dk.write, Dk.endW, he, writeD_keep, tick_keep]
    have e2 : d.writeR f a s = 8 := by simp [Dk.writeR, he]
    rw [e1, e2] at k
    exact k _ st3
  · unfold h18_1
    try simp only [go_sem, ↓reduceIte, Nat.reduceEqDiff, Nat.reduceAdd]
    have e1 : d.write f a s = d.tick.writeD f a s := by simp [Dk.write, Dk.endW, he]
    have e2 : d.writeR f a s = d.tick.writeE f a s := by simp [Dk.writeR, he]
    rw [e1, e2] at k
    exact k _ st2

theorem flush_ {p : Nat} {d : Dk} {S : FP} (h : DR w p d S) {f : Int} (hqn : d.queue.length ≤ 1000000000000)
    (k : ∀ w', St S w w' p (d.flush f) → next (.int .i64 (d.flushR f)) w') :
    callvK Try.prog (.func (.func 19) #[] #[]) [ptr p, .int .i64 f] w next QP := by
  refine r19 rfl ?_
  unfold h19
  try simp only [go_sem, ↓reduceIte, Nat.reduceEqDiff, Nat.reduceAdd]
  refine ends_ h ?_
  intro w1 dr1 m1 _
  have st1 : St S w w1 p d.tick := .of dr1 m1
  have hpq := pre_queue d
  -- what follows the crash
  have rest : ∀ (τ : Env) w2, τ 0 = ptr p → τ 1 = .int .i64 f → St S w w2 p d.pre → hw Try.prog noPanic h19_1 (endV [.tmp 4] next) τ w2 := by
    intro τ w2 t0 t1 st2
    unfold h19_1
    try simp only [go_sem, ↓reduceIte, Nat.reduceEqDiff, Nat.reduceAdd, t0, t1]
    refine bsl1 sl22 rfl rfl (by omega) ?_
    intro b w3 hbb own3 blk3 m3 hsz3
    have st3 := st2.mod0 m3
    refine may_ st3.dr (by omega) (l := [f]) own3.sl ?_
    try simp only [go_sem, ↓reduceIte, Nat.reduceEqDiff, Nat.reduceAdd, t0, t1]
    refine ⟨fun he => ?_, fun he => ?_⟩
    · have he : d.pre.may [f] ≠ 0 := by simpa using he
      have := k w3
      simp only [Dk.flush, Dk.flushR, if_pos he] at this
      exact this st3
    have he : d.pre.may [f] = 0 := by simpa using he
    simp only [Dk.flush, Dk.flushR, he, ne_eq, not_true, if_false] at k
    obtain ⟨g, rfl, hg⟩ := may_ok he
    simp only [Int.toNat_natCast] at k
    have ok := st3.dr.ok
    obtain ⟨qv, kv, hb, hq, hk, h1, h2, c24, c25, c26, c27, c28⟩ := st3.dr.parts
    unfold h19_2
    try simp only [go_sem, ↓reduceIte, Nat.reduceEqDiff, Nat.reduceAdd, t0, t1, c25]
    refine ⟨fun hl => ?_, fun hl => ?_⟩
    · have hl : 0 < d.pre.lost := by simpa using hl
      simp only [if_pos hl] at k
      have hlo := ok.lost
      rw [w64 (by omega) (by omega)]
      refine store1 sz3 hb (by rw [cells_len ok.nl ok.nf]; omega) rfl ?_
      intro w4 hb4 m4 hsz4
      have hcs : (d.pre.cells qv kv).set 25 (.int .i64 ((d.pre.lost : Int) - 1)) = ({ d.pre with lost := d.pre.lost - 1 } : Dk).cells qv kv := by
        rw [show 25 = 24 + 1 from rfl, cells_set_tail ok.nl ok.nf, show (d.pre.lost : Int) - 1 = ((d.pre.lost - 1 : Nat) : Int) by omega]; rfl
      rw [hcs] at hb4
      have dr4 : DR w4 p { d.pre with lost := d.pre.lost - 1 } st3.foot := st3.dr.again m4 ⟨ok.nl, ok.nf, ok.bl, ok.bf, ok.bq, by show d.pre.lost - 1 ≤ _; omega, ok.armed⟩ hb4 hq hk h1 h2
      exact k w4 (st3.trans (.of dr4 (m4.mono fun k _ (e : k = p) => e ▸ st3.dr.self)))
    · have hl : ¬ 0 < d.pre.lost := by simpa using hl
      simp only [if_neg hl] at k
      have cf : w3.cell? ⟨p, 12 + g, none⟩ = some (str (d.pre.file g)) := by rw [hb.cell, cells_file ok.nl ok.nf hg]
      unfold h19_3
      try simp only [go_sem, ↓reduceIte, Nat.reduceEqDiff, Nat.reduceAdd, Nat.mul_one, t0, t1, cf]
      refine ⟨⟨by omega, by omega⟩, ?_⟩
      refine settle_ st3.dr hg (getD_le ok.bf g) (by omega) ?_
      intro w4 st4
      try simp only [go_sem, ↓reduceIte, Nat.reduceEqDiff, Nat.reduceAdd]
      exact k w4 (st3.trans st4)
  try simp only [go_sem, ↓reduceIte, Nat.reduceEqDiff, Nat.reduceAdd]
  refine ⟨fun he => ?_, fun he => ?_⟩
  · refine crashK_ st1.dr (by rw [tick_queue]; omega) ?_
    intro w2 st2'
    have st2 := st1.trans st2'
    have e1 : d.tick.crash d.tick.keep = d.pre := by simp [Dk.pre, Dk.endW, he, tick_keep]
    rw [e1] at st2
    exact rest _ _ rfl rfl st2
  · have e1 : d.tick = d.pre := by simp [Dk.pre, Dk.endW, he]
    rw [e1] at st1
    exact rest _ _ rfl rfl st1
end
end Go.Proofs.Y
