/- DC: more walks of the disk: what reads it, what sets its marks. -/
import Derived.Test.YtgalileklafbbaaDB
set_option linter.unusedSimpArgs false
set_option linter.unusedVariables false
set_option maxRecDepth 100000
namespace Go.Proofs.Y
open Go Go.HL Go.Proofs
section
variable {w : World} {next : Value → World → Prop} {QP : List PanicEntry → World → Prop}

theorem down_ {p : Nat} {d : Dk} {S : FP} (h : DR w p d S) (k : next (.bool d.down) w) : callvK Try.prog (.func (.func 27) #[] #[]) [ptr p] w next QP := by
  refine r27 rfl ?_
  obtain ⟨qv, kv, hb, hq, hk, h1, h2, c24, c25, c26, c27, c28⟩ := h.parts
  unfold h27
  simp only [go_sem, ↓reduceIte, Nat.reduceEqDiff, Nat.reduceAdd, c26]
  exact k

theorem start_ {p : Nat} {d : Dk} {S : FP} (h : DR w p d S) (k : ∀ w', DR w' p d.start S → Mod S.W w w' → w'.heap.size = w.heap.size → next (.tuple #[]) w') : callvK Try.prog (.func (.func 22) #[] #[]) [ptr p] w next QP := by
  refine r22 rfl ?_
  obtain ⟨qv, kv, hb, hq, hk, h1, h2, c24, c25, c26, c27, c28⟩ := h.parts
  have ok := h.ok
  unfold h22
  simp only [go_sem, ↓reduceIte, Nat.reduceEqDiff, Nat.reduceAdd, c26]
  refine store1 sz4 hb (by rw [cells_len ok.nl ok.nf]; omega) rfl ?_
  intro w' hb' m hsz
  have hcs : (d.cells qv kv).set 26 (.bool false) = d.start.cells qv kv := by
    rw [show 26 = 24 + 2 from rfl, cells_set_tail ok.nl ok.nf]; rfl
  rw [hcs] at hb'
  exact k w' (h.again m ⟨ok.nl, ok.nf, ok.bl, ok.bf, ok.bq, ok.lost, ok.armed⟩ hb' hq hk h1 h2) (m.mono fun k _ hk => by rw [hk]; exact h.self) hsz

theorem lose_ {p : Nat} {d : Dk} {S : FP} (h : DR w p d S) {n : Int} (hn : n ≤ 9223372036854775807) (k : ∀ w', DR w' p (d.lose n) S → Mod S.W w w' → w'.heap.size = w.heap.size → next (.tuple #[]) w') : callvK Try.prog (.func (.func 33) #[] #[]) [ptr p, .int .i64 n] w next QP := by
  refine r33 rfl ?_
  obtain ⟨qv, kv, hb, hq, hk, h1, h2, c24, c25, c26, c27, c28⟩ := h.parts
  have ok := h.ok
  unfold h33
  simp only [go_sem, ↓reduceIte, Nat.reduceEqDiff, Nat.reduceAdd]
  refine store1 sz3 hb (by rw [cells_len ok.nl ok.nf]; omega) rfl ?_
  intro w' hb' m hsz
  have hcs : (d.cells qv kv).set 25 (.int .i64 (if n < 0 then 0 else n)) = (d.lose n).cells qv kv := by
    rw [show 25 = 24 + 1 from rfl, cells_set_tail ok.nl ok.nf]
    have : (if n < 0 then 0 else n) = ((n.toNat : Nat) : Int) := by split <;> omega
    rw [this]; rfl
  rw [hcs] at hb'
  exact k w' (h.again m ⟨ok.nl, ok.nf, ok.bl, ok.bf, ok.bq, by show n.toNat ≤ _; omega, ok.armed⟩ hb' hq hk h1 h2) (m.mono fun k _ hk => by rw [hk]; exact h.self) hsz

theorem size_ {p : Nat} {d : Dk} {S : FP} (h : DR w p d S) (f : Int) (k : next (.int .i64 (d.size f)) w) : callvK Try.prog (.func (.func 24) #[] #[]) [ptr p, .int .i64 f] w next QP := by
  refine r24 rfl ?_
  obtain ⟨qv, kv, hb, hq, hk, h1, h2, c24, c25, c26, c27, c28⟩ := h.parts
  have ok := h.ok
  unfold h24
  simp only [go_sem, ↓reduceIte, Nat.reduceEqDiff, Nat.reduceAdd]
  refine is_ _ ?_
  simp only [go_sem, ↓reduceIte, Nat.reduceEqDiff, Nat.reduceAdd]
  refine ⟨fun hf => ?_, fun hf => ?_⟩
  · have hf : isF f = false := by simpa using hf
    simpa [Dk.size, hf] using k
  · have hf : isF f = true := by simpa using hf
    have hf' : 0 ≤ f ∧ f < 12 := by simpa [isF] using hf
    obtain ⟨g, rfl⟩ : ∃ g : Nat, f = g := ⟨f.toNat, by omega⟩
    have hg : g < 12 := by omega
    have cf : w.cell? ⟨p, 12 + g, none⟩ = some (str (d.file g)) := by rw [hb.cell, cells_file ok.nl ok.nf hg]
    unfold h24_1
    simp only [go_sem, ↓reduceIte, Nat.reduceEqDiff, Nat.reduceAdd, Nat.mul_one, cf]
    refine ⟨⟨by omega, by omega⟩, ?_⟩
    simpa [Dk.size, hf] using k

theorem may1 {d : Dk} {f : Int} : d.may [f] = if d.down then 8 else if isF f then 0 else 1 := by simp [Dk.may]

theorem read_ {p : Nat} {d : Dk} {S : FP} (h : DR w p d S) (f : Int) (k : ∀ w', DR w' p d S → Mod none' w w' → next (.tuple #[str (d.read f), .int .i64 (d.may [f])]) w') :
    callvK Try.prog (.func (.func 23) #[] #[]) [ptr p, .int .i64 f] w next QP := by
  refine r23 rfl ?_
  have ok := h.ok
  unfold h23
  simp only [go_sem, ↓reduceIte, Nat.reduceEqDiff, Nat.reduceAdd]
  refine bsl1 sl22 rfl rfl (by omega) ?_
  intro b w1 hbb own1 blk1 m1 sz1
  have h' := h.mod0 m1
  refine may_ h' (by omega) (l := [f]) own1.sl ?_
  simp only [go_sem, ↓reduceIte, Nat.reduceEqDiff, Nat.reduceAdd]
  refine ⟨fun he => ?_, fun he => ?_⟩
  · have he : d.may [f] ≠ 0 := by simpa using he
    have := k w1 h' m1
    simpa [Dk.read, he] using this
  · have he : d.may [f] = 0 := by simpa using he
    have hf : isF f = true ∧ d.down = false := by
      rw [may1] at he
      rcases hd : d.down with _ | _
      · rcases hf : isF f with _ | _
        · simp [hd, hf] at he
        · exact ⟨rfl, rfl⟩
      · simp [hd] at he
    have hf' : 0 ≤ f ∧ f < 12 := by simpa [isF] using hf.1
    obtain ⟨g, rfl⟩ : ∃ g : Nat, f = g := ⟨f.toNat, by omega⟩
    have hg : g < 12 := by omega
    obtain ⟨qv, kv, hb, -⟩ := h'.parts
    have cf : w1.cell? ⟨p, 12 + g, none⟩ = some (str (d.file g)) := by rw [hb.cell, cells_file ok.nl ok.nf hg]
    unfold h23_1
    simp only [go_sem, ↓reduceIte, Nat.reduceEqDiff, Nat.reduceAdd, Nat.mul_one, cf]
    refine ⟨⟨by omega, by omega⟩, ?_⟩
    have := k w1 h' m1
    simpa [Dk.read, he] using this

theorem clone_ {v : Value} {l : List Int} {n : Nat} (hl : Sl w v 1 n (ints l)) (hn : n ≤ 9000000000000) (k : ∀ v' w', Own w' v' 3 1 n (ints l) → Mod none' w w' → (∀ k, v'.ownBlock = some k → w.heap.size ≤ k) → next v' w') :
    callvK Try.prog (.func (.func 71) #[] #[]) [v] w next QP := by
  refine r71 rfl ?_
  obtain ⟨a, c, rfl, hc, hcell⟩ := hl.form
  unfold h71
  simp only [go_sem, ↓reduceIte, Nat.reduceEqDiff, Nat.reduceAdd]
  refine ⟨fun ha => ?_, fun ha => ?_⟩
  · have hn0 : n = 0 := by
      rcases Nat.eq_zero_or_pos n with h | h
      · exact h
      · obtain ⟨b, o, rfl, _⟩ := hcell h
        simp at ha
    subst hn0
    have hl0 : ints l = [] := List.eq_nil_of_length_eq_zero (by have := hl.len; simpa using this)
    rw [hl0] at k
    exact k _ _ (Own.nil _ _ _) (Mod.refl _ _) (fun k hk => by cases hk)
  · unfold h71_1
    simp only [go_sem, ↓reduceIte, Nat.reduceEqDiff, Nat.reduceAdd]
    refine bsl0 sl22 ?_
    intro b w1 hbb own1 m1 sz1
    refine append_ sl22 (n := 0) (m := n) own1 (hl.mod m1 fun k _ h => h) (by intro u hu; obtain ⟨i, _, rfl⟩ := List.mem_map.1 hu; rfl) (by omega) (by unfold maxLen; omega) ?_
    intro v' w2 own2 m2 hb2 _
    simp only [Nat.zero_add, List.nil_append] at own2
    refine k _ _ own2 (m1.trans m2 fun i hi hS => ?_) ?_
    · simp only [ownS, Value.ownBlock, Option.some.injEq] at hS; omega
    · intro k hk
      rcases hb2 k hk with h | h
      · simp only [Value.ownBlock, Option.some.injEq] at h; omega
      · omega

theorem arm_ {p : Nat} {d : Dk} {S : FP} (h : DR w p d S) {n : Int} (hn : n ≤ 9223372036854775807) {v : Value} {l : List Int} {m : Nat} (hl : Sl w v 1 m (ints l)) (hm : m ≤ 9000000000000)
    (k : ∀ w', St S w w' p (d.arm n l) → next (.tuple #[]) w') : callvK Try.prog (.func (.func 32) #[] #[]) [ptr p, .int .i64 n, v] w next QP := by
  refine r32 rfl ?_
  unfold h32
  simp only [go_sem, ↓reduceIte, Nat.reduceEqDiff, Nat.reduceAdd]
  refine clone_ hl hm ?_
  intro v' w1 own1 m1 hb1
  have h' := h.mod0 m1
  obtain ⟨qv, kv, hb, hq, hk, h1, h2, c24, c25, c26, c27, c28⟩ := h'.parts
  have ok := h.ok
  have hlm : l.length = m := by have := hl.len; rw [ints_len] at this; omega
  refine store1 sz3 hb (by rw [cells_len ok.nl ok.nf]; omega) rfl ?_
  intro w2 hb2 m2 hsz2
  obtain ⟨a, c, rfl, -⟩ := own1.form
  refine store1 sz22 hb2 (by rw [List.length_set, cells_len ok.nl ok.nf]; omega) rfl ?_
  intro w3 hb3 m3 hsz3
  have hcs : ((d.cells qv kv).set 27 (.int .i64 (if n < 0 then 0 else n))).set 28 (.slice a m c) = (d.arm n l).cells qv (.slice a m c) := by
    have : (if n < 0 then 0 else n) = ((n.toNat : Nat) : Int) := by split <;> omega
    rw [this]
    rw [show 27 = 24 + 3 from rfl, show 28 = 24 + 4 from rfl, cells_set_tail ok.nl ok.nf]
    rw [List.set_append_right _ _ (by simp [ok.nl]), List.set_append_right _ _ (by simp [ok.nl, ok.nf])]
    simp only [List.length_map, ok.nl, ok.nf]; rfl
  rw [hcs] at hb3
  have m23 := m2.trans' m3
  have hp := h.self
  have m13 : Mod S.W w w3 := (m1.mono (T := S.W) fun _ _ h => h.elim).trans m23 fun i _ (e : i = p) => by rw [e]; exact hp
  have hlt := own1.lt
  have hsz := m1.size
  refine k w3 ⟨⟨S.W, fun k => S.R k ∨ (w.heap.size ≤ k ∧ k < w3.heap.size)⟩, ⟨⟨ok.nl, ok.nf, ok.bl, ok.bf, ok.bq, ok.lost, by show n.toNat ≤ _; omega⟩, ⟨qv, .slice a m c, hb3, hq.mod m23 fun k hk => (h1 k hk).2, ?_, fun k hk => (h1 k hk).1, fun _ k hk => ⟨.inr ⟨hb1 k hk, ?_⟩, fun hW => ?_⟩⟩, hp, fun k hk => .inl (h.sub k hk), ?_⟩, fun k hk => hk.imp id fun h => h.1, fun k hk => .inl hk, m13⟩
  · show Sl w3 _ 1 l.length (ints l)
    rw [hlm]
    exact (own1.mod m23 fun k hk e => by have := hb1 k hk; have := h.plt; have : k = p := e; omega).sl
  · have := hlt k hk; omega
  · have := hb1 k hk; have := h.lt k (h.sub k hW); omega
  · intro k hk
    rcases hk with hk | hk
    · have := h.lt k hk; omega
    · exact hk.2

theorem new_ (k : ∀ p w', w.heap.size = p → St FP0 w w' p Dk.new → next (ptr p) w') : callvK Try.prog (.func (.func 17) #[] #[]) [] w next QP := by
  refine r17 rfl ?_
  unfold h17
  simp only [go_sem, ↓reduceIte, Nat.reduceEqDiff, Nat.reduceAdd]
  refine box_ (cs := Dk.new.cells (.slice none 0 0) (.slice none 0 0)) rfl ?_
  intro p w1 hp hb m1 hsz
  refine k p w1 hp ⟨⟨fun k => k = p, fun k => k = p⟩, ⟨⟨rfl, rfl, ?_, ?_, ?_, ?_, ?_⟩, ⟨_, _, hb, Own.nil _ _ _, (Own.nil _ 3 1).sl, (fun k hk => nomatch (hk : none = some k)), (fun _ k hk => nomatch (hk : none = some k))⟩, rfl, fun k hk => hk, ?_⟩, ?_, ?_, m1⟩
  · intro s hs; rw [List.eq_of_mem_replicate hs]; simp
  · intro s hs; rw [List.eq_of_mem_replicate hs]; simp
  · intro p hp; cases hp
  · show (0 : Nat) ≤ _; omega
  · show (0 : Nat) ≤ _; omega
  · intro k (hk : k = p); omega
  · intro k (hk : k = p); exact .inr (by omega)
  · intro k (hk : k = p); exact .inr (by omega)
end
end Go.Proofs.Y
