/- DB: the disk in memory, and the walks of its small functions. -/
import Derived.Test.YtgalileklafbbaaDA
import Derived.Test.YtgalileklafbbaaYCode
set_option linter.unusedSimpArgs false
set_option linter.unusedVariables false
set_option maxRecDepth 100000
namespace Go.Proofs.Y
open Go Go.HL Go.Proofs

/-- the blocks that a disk writes, and those that it reads -/
structure FP where
  W : Nat → Prop
  R : Nat → Prop
def FP0 : FP := ⟨none', none'⟩

structure DR (w : World) (p : Nat) (d : Dk) (S : FP) : Prop where
  ok : d.OK
  inv : ∃ qv kv, Blk w p 86 (d.cells qv kv) ∧ Own w qv 91 3 d.queue.length (rows Pd.cells d.queue) ∧ Sl w kv 1 d.keep.length (ints d.keep) ∧ (∀ k, qv.ownBlock = some k → S.W k) ∧ (0 < d.keep.length → ∀ k, kv.ownBlock = some k → S.R k ∧ ¬ S.W k)
  self : S.W p
  sub : ∀ k, S.W k → S.R k
  lt : ∀ k, S.R k → k < w.heap.size

abbrev ptr (p : Nat) : Value := .pointer (some ⟨p, 0, none⟩)

theorem DR.plt {w : World} {p : Nat} {d : Dk} {S : FP} (h : DR w p d S) : p < w.heap.size := h.lt p (h.sub p h.self)
theorem DR.mod {w w' : World} {p : Nat} {d : Dk} {S : FP} {T : Nat → Prop} (h : DR w p d S) (m : Mod T w w') (hd : ∀ k, S.R k → ¬ T k) : DR w' p d S := by
  obtain ⟨ok, ⟨qv, kv, hb, hq, hk, h1, h2⟩, hp, hs, hl⟩ := h
  exact ⟨ok, ⟨qv, kv, hb.mod m (hd _ (hs _ hp)), hq.mod m fun k hk => hd _ (hs _ (h1 k hk)), hk.mod' m fun hn k hk => hd _ (h2 hn k hk).1, h1, h2⟩, hp, hs, fun k hk => Nat.lt_of_lt_of_le (hl k hk) m.size⟩
theorem DR.mod0 {w w' : World} {p : Nat} {d : Dk} {S : FP} (h : DR w p d S) (m : Mod none' w w') : DR w' p d S := h.mod m fun _ _ h => h
theorem DR.drew {w : World} {p : Nat} {d : Dk} {S : FP} (h : DR w p d S) : DR w.drew p d S := h.mod0 (Mod.drew _ _)

theorem own_ne {w : World} {v u : Value} {e e' sz sz' n n' : Nat} {xs ys : List Value} (h : Own w v e sz n xs) (h' : Own w u e' sz' n' ys) (he : e ≠ e') {k : Nat} (hk : v.ownBlock = some k) : u.ownBlock ≠ some k := by
  intro hu
  rcases h.blk with ⟨rfl, _⟩ | ⟨g, c, r, rfl, hb, _⟩
  · cases hk
  rcases h'.blk with ⟨rfl, _⟩ | ⟨g', c', r', rfl, hb', _⟩
  · cases hu
  simp only [Value.ownBlock, Option.some.injEq] at hk hu
  subst hk; subst hu
  obtain ⟨_, hb, -⟩ := hb
  obtain ⟨_, hb', -⟩ := hb'
  rw [hb] at hb'
  simp at hb'
  exact he hb'.2.1
theorem own_neb {w : World} {v : Value} {e e' sz n p : Nat} {xs cs : List Value} (h : Own w v e sz n xs) (hp : Blk w p e' cs) (he : e ≠ e') : v.ownBlock ≠ some p := by
  intro hk
  rcases h.blk with ⟨rfl, _⟩ | ⟨g, c, r, rfl, hb, _⟩
  · cases hk
  simp only [Value.ownBlock, Option.some.injEq] at hk
  subst hk
  obtain ⟨_, hb, -⟩ := hb
  obtain ⟨_, hp, -⟩ := hp
  rw [hb] at hp
  simp at hp
  exact he hp.2.1

section
variable {w : World} {next : Value → World → Prop} {QP : List PanicEntry → World → Prop}

theorem is_ (f : Int) (k : next (.bool (isF f)) w) : callvK Try.prog (.func (.func 70) #[] #[]) [.int .i64 f] w next QP := by
  refine r70 rfl ?_
  unfold h70
  simp only [go_sem, ↓reduceIte, Nat.reduceEqDiff, Nat.reduceAdd]
  have : (if decide (0 ≤ f) = true then decide (f < 12) else false) = isF f := by
    unfold isF; cases decide (0 ≤ f) <;> rfl
  rw [this]; exact k

theorem may_ {p : Nat} {d : Dk} {S : FP} (h : DR w p d S) {v : Value} {l : List Int} {n : Nat} (hn : n < 9223372036854775807) (hl : Sl w v 1 n (ints l)) (k : next (.int .i64 (d.may l)) w) :
    callvK Try.prog (.func (.func 65) #[] #[]) [ptr p, v] w next QP := by
  refine r65 rfl ?_
  obtain ⟨ok, ⟨qv, kv, hb, -, -, -, -⟩, -, -⟩ := h
  have c26 : w.cell? ⟨p, 26, none⟩ = some (.bool d.down) := by rw [hb.cell, cells_tail ok.nl ok.nf 2]; rfl
  unfold h65
  simp only [go_sem, ↓reduceIte, Nat.reduceEqDiff, Nat.reduceAdd, c26]
  refine ⟨fun hd => by simpa [Dk.may, hd, go_sem] using k, fun hd => ?_⟩
  obtain ⟨hlen, a, c, rfl, hc, hcell⟩ := hl
  simp only [ints_len, Nat.mul_one] at hlen hcell
  unfold h65_1
  simp only [go_sem, ↓reduceIte, Nat.reduceEqDiff, Nat.reduceAdd]
  refine loopN n (fun i τ w' => w' = w ∧ τ 11 = .slice a n c ∧ τ 12 = .int .i64 n ∧ τ 13 = .int .i64 i ∧ ∀ f ∈ l.take i, isF f = true) ⟨0, by omega, by simp [go_sem]⟩ ?_
  rintro i τ _ hi ⟨rfl, t11, t12, t13, hall⟩
  unfold h65_2
  simp only [go_sem, ↓reduceIte, Nat.reduceEqDiff, Nat.reduceAdd, t11, t12, t13]
  refine ⟨fun hlt => ?_, fun hge => ?_⟩
  · have hlt : i < n := by simpa using hlt
    obtain ⟨b, o, rfl, hc'⟩ := hcell (by omega)
    have hci := hc' i hlt
    rw [show (ints l)[i]? = some (.int .i64 l[i]) by simp [ints]] at hci
    unfold h65_3
    simp only [go_sem, ↓reduceIte, Nat.reduceEqDiff, Nat.reduceAdd, t11, t12, t13, Nat.mul_one, hci]
    refine ⟨⟨by omega, by omega⟩, is_ _ ?_⟩
    simp only [go_sem, ↓reduceIte, Nat.reduceEqDiff, Nat.reduceAdd]
    refine ⟨fun hf => ?_, fun hf => ?_⟩
    · have hf : isF l[i] = false := by simpa using hf
      have : d.may l = 1 := by
        simp only [Dk.may, hd]
        rw [if_neg (by simp), if_neg]
        intro h
        have := List.all_eq_true.1 h _ (List.getElem_mem (by omega : i < l.length))
        rw [hf] at this; cases this
      rw [this] at k; exact k
    · have hf : isF l[i] = true := by simpa using hf
      unfold h65_4
      simp only [go_sem, ↓reduceIte, Nat.reduceEqDiff, Nat.reduceAdd, t11, t12, t13]
      refine ⟨i + 1, by omega, by omega, ?_⟩
      rw [w64 (by omega) (by omega)]
      refine ⟨rfl, ?_⟩
      rw [List.take_succ_eq_append_getElem (by omega)]
      intro f hfm
      rcases List.mem_append.1 hfm with h | h
      · exact hall f h
      · rw [List.mem_singleton.1 h]; exact hf
  · have hge : n ≤ i := by simpa using hge
    unfold h65_5
    simp only [go_sem, ↓reduceIte, Nat.reduceEqDiff, Nat.reduceAdd]
    have : d.may l = 0 := by
      simp only [Dk.may, hd]
      rw [if_neg (by simp), if_pos]
      rw [List.all_eq_true]
      intro f hf
      exact hall f (by rwa [List.take_of_length_le (by omega)])
    rw [this] at k; exact k

theorem DR.parts {w : World} {p : Nat} {d : Dk} {S : FP} (h : DR w p d S) : ∃ qv kv, Blk w p 86 (d.cells qv kv) ∧ Own w qv 91 3 d.queue.length (rows Pd.cells d.queue) ∧ Sl w kv 1 d.keep.length (ints d.keep) ∧
    (∀ k, qv.ownBlock = some k → S.W k ∧ k ≠ p) ∧ (0 < d.keep.length → ∀ k, kv.ownBlock = some k → S.R k ∧ ¬ S.W k) ∧
    w.cell? ⟨p, 24, none⟩ = some qv ∧ w.cell? ⟨p, 25, none⟩ = some (.int .i64 d.lost) ∧ w.cell? ⟨p, 26, none⟩ = some (.bool d.down) ∧ w.cell? ⟨p, 27, none⟩ = some (.int .i64 d.armed) ∧ w.cell? ⟨p, 28, none⟩ = some kv := by
  obtain ⟨ok, ⟨qv, kv, hb, hq, hk, h1, h2⟩, -, -, -⟩ := h
  refine ⟨qv, kv, hb, hq, hk, fun k hk => ⟨h1 k hk, ?_⟩, h2, ?_⟩
  · rintro rfl; exact own_neb hq hb (by decide) hk
  · have := cells_tail (qv := qv) (kv := kv) ok.nl ok.nf
    exact ⟨by rw [hb.cell, this 0]; rfl, by rw [hb.cell, this 1]; rfl, by rw [hb.cell, this 2]; rfl, by rw [hb.cell, this 3]; rfl, by rw [hb.cell, this 4]; rfl⟩

/-- the disk again, its own block alone written -/
theorem DR.again {w w' : World} {p : Nat} {d d' : Dk} {S : FP} {qv kv : Value} (h : DR w p d S) (m : Mod (fun k => k = p) w w') (ok : d'.OK) (hb : Blk w' p 86 (d'.cells qv kv)) (hq : Own w qv 91 3 d'.queue.length (rows Pd.cells d'.queue))
    (hk : Sl w kv 1 d'.keep.length (ints d'.keep)) (h1 : ∀ k, qv.ownBlock = some k → S.W k ∧ k ≠ p) (h2 : 0 < d'.keep.length → ∀ k, kv.ownBlock = some k → S.R k ∧ ¬ S.W k) : DR w' p d' S :=
  ⟨ok, ⟨qv, kv, hb, hq.mod m fun k hk => (h1 k hk).2, hk.mod' m fun hn k hk (e : k = p) => (h2 hn k hk).2 (e ▸ h.self), fun k hk => (h1 k hk).1, h2⟩, h.self, h.sub, fun k hk => Nat.lt_of_lt_of_le (h.lt k hk) m.size⟩

/-- a step that turned the disk: what it writes then was written before, or is new -/
def St (S : FP) (w w' : World) (p : Nat) (d : Dk) : Prop :=
  ∃ S' : FP, DR w' p d S' ∧ (∀ k, S'.R k → S.R k ∨ w.heap.size ≤ k) ∧ (∀ k, S'.W k → S.W k ∨ w.heap.size ≤ k) ∧ Mod S.W w w'

noncomputable def St.foot {S : FP} {w w' : World} {p : Nat} {d : Dk} (h : St S w w' p d) : FP := Classical.choose h
theorem St.dr {S : FP} {w w' : World} {p : Nat} {d : Dk} (h : St S w w' p d) : DR w' p d h.foot := (Classical.choose_spec h).1
theorem St.footR {S : FP} {w w' : World} {p : Nat} {d : Dk} (h : St S w w' p d) : ∀ k, h.foot.R k → S.R k ∨ w.heap.size ≤ k := (Classical.choose_spec h).2.1
theorem St.footW {S : FP} {w w' : World} {p : Nat} {d : Dk} (h : St S w w' p d) : ∀ k, h.foot.W k → S.W k ∨ w.heap.size ≤ k := (Classical.choose_spec h).2.2.1
theorem St.mod {S : FP} {w w' : World} {p : Nat} {d : Dk} (h : St S w w' p d) : Mod S.W w w' := (Classical.choose_spec h).2.2.2

theorem St.of {S : FP} {w w' : World} {p : Nat} {d : Dk} (h : DR w' p d S) (m : Mod S.W w w') : St S w w' p d := ⟨S, h, fun _ h => .inl h, fun _ h => .inl h, m⟩
theorem St.refl {S : FP} {w : World} {p : Nat} {d : Dk} (h : DR w p d S) : St S w w p d := .of h (Mod.refl _ _)
theorem St.trans {S : FP} {w w1 w2 : World} {p : Nat} {d d' : Dk} (h : St S w w1 p d) (h' : St h.foot w1 w2 p d') : St S w w2 p d' := by
  have m1 := h.mod.size
  refine ⟨h'.foot, h'.dr, fun k hk => ?_, fun k hk => ?_, h.mod.trans h'.mod fun i hi hg => ?_⟩
  · rcases h'.footR k hk with hk | hk
    · exact h.footR k hk
    · exact .inr (by omega)
  · rcases h'.footW k hk with hk | hk
    · exact h.footW k hk
    · exact .inr (by omega)
  · rcases h.footW i hg with hg | hg
    · exact hg
    · omega
theorem St.mod0 {S : FP} {w w1 w2 : World} {p : Nat} {d : Dk} (h : St S w w1 p d) (m : Mod none' w1 w2) : St S w w2 p d :=
  h.trans (.of (h.dr.mod0 m) (m.mono fun _ _ h => h.elim))
theorem St.after {S : FP} {w w0 w' : World} {p : Nat} {d : Dk} (m : Mod none' w w0) (h : St S w0 w' p d) : St S w w' p d := by
  have hs := m.size
  refine ⟨h.foot, h.dr, fun k hk => (h.footR k hk).imp id fun h => by omega, fun k hk => (h.footW k hk).imp id fun h => by omega, (m.mono (T := S.W) fun _ _ h => h.elim).trans h.mod fun _ _ h => h⟩
theorem St.drew {S : FP} {w w1 : World} {p : Nat} {d : Dk} (h : St S w w1 p d) : St S w w1.drew p d := h.mod0 (Mod.drew _ _)

theorem sz3 : szOf Try.prog 3 = some 1 := by kernel_rfl
theorem sz4 : szOf Try.prog 4 = some 1 := by kernel_rfl
theorem sz9 : szOf Try.prog 9 = some 1 := by kernel_rfl
theorem sz22 : szOf Try.prog 22 = some 1 := by kernel_rfl
theorem sz84 : szOf Try.prog 84 = some 1 := by kernel_rfl

theorem ends_ {p : Nat} {d : Dk} {S : FP} (h : DR w p d S) (k : ∀ w', DR w' p d.tick S → Mod S.W w w' → w'.heap.size = w.heap.size → next (.bool d.ends) w') :
    callvK Try.prog (.func (.func 63) #[] #[]) [ptr p] w next QP := by
  refine r63 rfl ?_
  obtain ⟨qv, kv, hb, hq, hk, h1, h2, c24, c25, c26, c27, c28⟩ := h.parts
  unfold h63
  simp only [go_sem, ↓reduceIte, Nat.reduceEqDiff, Nat.reduceAdd, c26, c27]
  refine ⟨fun hd => ?_, fun hd => ?_⟩
  · have : d.tick = d ∧ d.ends = false := by
      rcases hdn : d.down with _ | _
      · have : d.armed = 0 := by simp [hdn] at hd; omega
        simp [Dk.tick, Dk.ends, hdn, this]
      · simp [Dk.tick, Dk.ends, hdn]
    rw [this.1, this.2] at k
    exact k _ h (Mod.refl _ _) rfl
  · have hdn : d.down = false ∧ d.armed ≠ 0 := by
      rcases hdn : d.down with _ | _
      · simp [hdn] at hd; exact ⟨rfl, by omega⟩
      · simp [hdn] at hd
    have ok := h.ok
    have : d.tick = { d with armed := d.armed - 1 } ∧ d.ends = decide (d.armed = 1) := by
      simp [Dk.tick, Dk.ends, hdn]
    have ha := ok.armed
    unfold h63_1
    simp only [go_sem, ↓reduceIte, Nat.reduceEqDiff, Nat.reduceAdd, c26, c27]
    rw [w64 (by omega) (by omega)]
    refine store1 sz3 hb (by rw [cells_len ok.nl ok.nf]; omega) rfl ?_
    intro w' hb' m hsz
    have hcs : (d.cells qv kv).set 27 (.int .i64 ((d.armed : Int) - 1)) = d.tick.cells qv kv := by
      rw [show 27 = 24 + 3 from rfl, cells_set_tail ok.nl ok.nf, this.1, show (d.armed : Int) - 1 = ((d.armed - 1 : Nat) : Int) by omega]; rfl
    rw [hcs] at hb'
    have c27' : w'.cell? ⟨p, 27, none⟩ = some (.int .i64 (d.armed - 1 : Nat)) := by
      rw [hb'.cell, show 27 = 24 + 3 from rfl, cells_tail (by rw [this.1]; exact ok.nl) (by rw [this.1]; exact ok.nf), this.1]; rfl
    simp only [go_sem, ↓reduceIte, Nat.reduceEqDiff, Nat.reduceAdd, c27']
    have k' := k w' (h.again m (by rw [this.1]; exact ⟨ok.nl, ok.nf, ok.bl, ok.bf, ok.bq, ok.lost, by show d.armed - 1 ≤ _; omega⟩) hb' (by rw [this.1]; exact hq) (by rw [this.1]; exact hk) h1 (by rw [this.1]; exact h2)) (m.mono fun k _ hk => by rw [hk]; exact h.self) hsz
    rw [this.2] at k'
    have e : decide (((d.armed - 1 : Nat) : Int) = 0) = decide (d.armed = 1) := by
      have := hdn.2; congr 1; apply propext; omega
    rw [e]; exact k'

theorem sl36 : SlTy Try.prog 36 5 1 1 (.int .u8 0) := ⟨by kernel_rfl, by kernel_rfl, rfl, by decide⟩
theorem sl22 : SlTy Try.prog 22 3 1 8 (.int .i64 0) := ⟨by kernel_rfl, by kernel_rfl, rfl, by decide⟩

theorem bys_rep (n : Nat) : bys (List.replicate n 0) = List.replicate n (.int .u8 0) := by simp [bys]

theorem put_ (s t : Bytes) (o : Nat) (h1 : s.length ≤ 16777216) (h2 : o + t.length ≤ 16777216) (k : ∀ w', Mod none' w w' → next (str (put s o t)) w') :
    callvK Try.prog (.func (.func 69) #[] #[]) [str s, .int .i64 o, str t] w next QP := by
  refine r69 rfl ?_
  unfold h69
  simp only [go_sem, ↓reduceIte, Nat.reduceEqDiff, Nat.reduceAdd]
  rw [w64 (by omega) (by omega)]
  refine msl1 sl36 rfl (max s.length (o + t.length)) (by split <;> omega) (by omega) (by unfold maxLen; omega) ?_
  intro b w1 hb own1 blk1 m1 sz1
  refine copyS sl36 (o := 0) blk1 (fun _ => rfl) (by simp; omega) ?_
  intro w2 blk2 m2 sz2
  simp only [go_sem, ↓reduceIte, Nat.reduceEqDiff, Nat.reduceAdd]
  refine ⟨⟨by omega, by omega⟩, ?_⟩
  refine copyS sl36 (g := b) (o := o) blk2 ?_ ?_ ?_
  · intro hp
    rw [if_neg (by omega)]
    simp [go_sem]
  · rw [lay_len (by rw [bys_len]; simp; omega)]; simp; omega
  intro w3 blk3 m3 sz3
  have hfull : s.take (max s.length (o + t.length)) = s := List.take_of_length_le (by omega)
  have hfull2 : t.take (max s.length (o + t.length) - o) = t := List.take_of_length_le (by omega)
  have hrow : lay (lay (List.replicate (max s.length (o + t.length)) (.int .u8 0)) 0 (bys (s.take (max s.length (o + t.length))))) o (bys (t.take (max s.length (o + t.length) - o))) = bys (put s o t) := by
    rw [hfull, hfull2]
    unfold put
    unfold bys
    rw [lay_map]
    congr 1
    simp [lay, bys]
  rw [hrow] at blk3
  have m : Mod none' w w3 := (m1.trans m2 fun i hi (e : i = b) => absurd hb (by omega)).trans m3 fun i hi (e : i = b) => absurd hb (by omega)
  refine b2s (e := 5) (by kernel_rfl) (by kernel_rfl) (by kernel_rfl) (n := max s.length (o + t.length)) (l := put s o t) ⟨by rw [bys_len, put_len]; omega, _, _, rfl, Nat.le_refl _, fun _ => ⟨b, 0, rfl, fun j hj => by rw [blk3.cell, Nat.zero_add]⟩⟩ ?_
  exact k _ m
end
end Go.Proofs.Y
