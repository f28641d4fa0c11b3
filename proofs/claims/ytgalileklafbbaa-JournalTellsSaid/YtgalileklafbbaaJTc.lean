/- JTc: JournalTells: the log and the reference's log side by side. -/
import Derived.Test.YtgalileklafbbaaJN
import Derived.Test.YtgalileklafbbaaDD
import Derived.Test.YtgalileklafbbaaRB
import Derived.Deep.Slices
set_option linter.unusedSimpArgs false
set_option linter.unusedVariables false
set_option maxRecDepth 100000
namespace Go.Proofs.Y
open Go Go.HL Go.Proofs

structure TJ (w0 w : World) (p q r s f : Nat) (d : Dk) (L : Lg) (e : Dk) (M : Lg) (F : FP) (S R T : Nat → Prop) (b : Nat) : Prop where
  js : JS w0 w p q f d L F S
  rs : RS (.of w0) w r s f e M R T
  a1 : ∀ k, R k ∨ T k → ¬ F.R k ∧ ¬ S k
  nb : ¬ F.R b ∧ ¬ S b ∧ ¬ R b ∧ ¬ T b
  lb : b < w.heap.size
def TK (w0 w : World) (p q r s f : Nat) (d : Dk) (L : Lg) (e : Dk) (M : Lg) (b : Nat) : Prop := ∃ F S R T, TJ w0 w p q r s f d L e M F S R T b
def besides (w0 : World) (b k : Nat) : Prop := ¬ (k < w0.heap.size ∨ k = b)

section
variable {w0 w w' : World} {p q r s f b : Nat} {d e d' e' : Dk} {L M L' M' : Lg}
theorem TJ.mod0 {F : FP} {S R T : Nat → Prop} (h : TJ w0 w p q r s f d L e M F S R T b) (m : Mod none' w w') : TJ w0 w' p q r s f d L e M F S R T b :=
  ⟨h.js.mod0 m, h.rs.mod0 m, h.a1, h.nb, Nat.lt_of_lt_of_le h.lb m.size⟩
theorem TK.mod0 (h : TK w0 w p q r s f d L e M b) (m : Mod none' w w') : TK w0 w' p q r s f d L e M b := by
  obtain ⟨F, S, R, T, h⟩ := h
  exact ⟨F, S, R, T, h.mod0 m⟩
/-- the block that is let alone may be any other that neither holds -/
theorem TK.other (h : TK w0 w p q r s f d L e M b) {b' : Nat} (hb : w.heap.size ≤ b') (m : Mod none' w w') (hl : b' < w'.heap.size) : TK w0 w' p q r s f d L e M b' := by
  obtain ⟨F, S, R, T, h⟩ := h
  exact ⟨F, S, R, T, h.js.mod0 m, h.rs.mod0 m, h.a1, ⟨fun hk => by have := h.js.dr.lt _ hk; omega, fun hk => by have := h.js.lg.lt _ hk; omega, fun hk => by have := h.rs.rr.lt _ hk; omega, fun hk => by have := h.rs.lg.lt _ hk; omega⟩, hl⟩
theorem TJ.left {F : FP} {S R T : Nat → Prop} (h : TJ w0 w p q r s f d L e M F S R T b) : ∃ B : Base, GS B w p q f d L F S ∧ ∀ w' q' d' L', GT B w' p q' f d' L' → TK w0 w' p q' r s f d' L' e M b ∧ Mod (besides w0 b) w w' := by
  have hw := h.js.m.size
  have hB : ∀ k, R k ∨ T k ∨ k = b → k < w.heap.size := by
    rintro k (hk | hk | rfl)
    · exact h.rs.rr.lt k hk
    · exact h.rs.lg.lt k hk
    · exact h.lb
  have hA : ∀ k, R k ∨ T k ∨ k = b → ¬ F.R k ∧ ¬ S k := by
    rintro k (hk | hk | rfl)
    · exact h.a1 k (.inl hk)
    · exact h.a1 k (.inr hk)
    · exact ⟨h.nb.1, h.nb.2.1⟩
  refine ⟨_, h.js.base hA hw hB, ?_⟩
  rintro w' q' d' L' ⟨F', S', g⟩
  have m := g.m
  refine ⟨⟨F', S', R, T, ⟨⟨g.dr, g.lg, g.ap, fun k hk => Nat.not_lt.1 fun hl => g.f0 k hk (.inl hl), fun k hk => Nat.not_lt.1 fun hl => g.s0 k hk (.inl hl), h.js.m.trans m fun k hk hx => hx (.inl hk)⟩,
    ⟨h.rs.rr.mod m fun k hk hx => hx (.inr (.inl hk)), h.rs.lg.mod m fun k hk hx => hx (.inr (.inr (.inl hk))), h.rs.ap, h.rs.f0, h.rs.s0, h.rs.m.trans m fun k hk hx hA' => hx (.inl hA')⟩,
    fun k hk => ⟨fun hF => g.f0 k hF (.inr (hk.imp id .inl)), fun hS => g.s0 k hS (.inr (hk.imp id .inl))⟩,
    ⟨fun hF => g.f0 b hF (.inr (.inr (.inr rfl))), fun hS => g.s0 b hS (.inr (.inr (.inr rfl))), h.nb.2.2.1, h.nb.2.2.2⟩, Nat.lt_of_lt_of_le h.lb m.size⟩⟩, ?_⟩
  exact m.mono fun k _ hx h' => hx (h'.imp id fun e => .inr (.inr e))
theorem TJ.right {F : FP} {S R T : Nat → Prop} (h : TJ w0 w p q r s f d L e M F S R T b) : ∃ B : Base, RS B w r s f e M R T ∧ ∀ w' s' e' M', RU B w' r s' f e' M' → TK w0 w' p q r s' f d L e' M' b ∧ Mod (besides w0 b) w w' := by
  have hw := h.js.m.size
  have hB : ∀ k, k < w0.heap.size ∨ (F.R k ∨ S k ∨ k = b) → k < w.heap.size := by
    rintro k (hk | hk | hk | rfl)
    · omega
    · exact h.js.dr.lt k hk
    · exact h.js.lg.lt k hk
    · exact h.lb
  refine ⟨⟨w, fun k => k < w0.heap.size ∨ (F.R k ∨ S k ∨ k = b), hB⟩, ⟨h.rs.rr, h.rs.lg, h.rs.ap, ?_, ?_, Mod.refl _ _⟩, ?_⟩
  · rintro k hk (hl | hl | hl | rfl)
    · exact h.rs.f0 k hk hl
    · exact (h.a1 k (.inl hk)).1 hl
    · exact (h.a1 k (.inl hk)).2 hl
    · exact h.nb.2.2.1 hk
  · rintro k hk (hl | hl | hl | rfl)
    · exact h.rs.s0 k hk hl
    · exact (h.a1 k (.inr hk)).1 hl
    · exact (h.a1 k (.inr hk)).2 hl
    · exact h.nb.2.2.2 hk
  rintro w' s' e' M' ⟨R', T', g⟩
  have m := g.m
  refine ⟨⟨F, S, R', T', ⟨⟨h.js.dr.mod m fun k hk hx => hx (.inr (.inl hk)), h.js.lg.mod m fun k hk hx => hx (.inr (.inr (.inl hk))), h.js.ap, h.js.f0, h.js.s0, h.js.m.trans m fun k hk hx => hx (.inl hk)⟩,
    ⟨g.rr, g.lg, g.ap, fun k hk hl => g.f0 k hk (.inl hl), fun k hk hl => g.s0 k hk (.inl hl), h.rs.m.trans m fun k hk hx hA' => hx (.inl hA')⟩,
    fun k hk => ⟨fun hF => hk.elim (fun hR => g.f0 k hR (.inr (.inl hF))) fun hT => g.s0 k hT (.inr (.inl hF)), fun hS => hk.elim (fun hR => g.f0 k hR (.inr (.inr (.inl hS)))) fun hT => g.s0 k hT (.inr (.inr (.inl hS)))⟩,
    ⟨h.nb.1, h.nb.2.1, fun hR => g.f0 b hR (.inr (.inr (.inr rfl))), fun hT => g.s0 b hT (.inr (.inr (.inr rfl)))⟩, Nat.lt_of_lt_of_le h.lb m.size⟩⟩, ?_⟩
  exact m.mono fun k _ hx h' => hx (h'.imp id fun e => .inr (.inr e))
theorem GS.opened {B : Base} {q' : Nat} {F : FP} {S S' : Nat → Prop} (h : GS B w p q f d L F S) (lg : LG w' q' p f L' S') (hS : ∀ k, S' k → w.heap.size ≤ k) (m : Mod none' w w') : GS B w' p q' f d L' F S' := by
  have hs := h.m.size
  exact ⟨h.dr.mod0 m, lg, fun k hk hx => by have := h.dr.lt k hk; have := hS k hx; omega, h.f0, fun k hk hA => by have := hS k hk; have := B.lt k hA; omega, h.m.trans m fun _ _ h => h.elim⟩
theorem RS.opened {B : Base} {q' : Nat} {F S S' : Nat → Prop} (h : RS B w p q f d L F S) (lg : RLg w' q' p f L' S') (hS : ∀ k, S' k → w.heap.size ≤ k) (m : Mod none' w w') : RS B w' p q' f d L' F S' := by
  have hs := h.m.size
  exact ⟨h.rr.mod0 m, lg, fun k hk hx => by have := h.rr.lt k hk; have := hS k hx; omega, h.f0, fun k hk hA => by have := hS k hk; have := B.lt k hA; omega, h.m.trans m fun _ _ h => h.elim⟩
end

section
variable {w : World} {next : Value → World → Prop} {QP : List PanicEntry → World → Prop}

/-- behind each deed: what is compared -/
theorem tells8 {p q r s f b : Nat} {d : Dk} {L : Lg} {w1 : World} {τ : Env} {X : HX → Env → World → Prop} (h : TK w w1 p q r s f d L d L b) (hf : f ≤ 6) (hq : d.queue.length ≤ 1000000) (t0 : τ 0 = .int .i64 f) (t7 : τ 7 = ptr p) (t8 : τ 8 = ptr r) (t9 : τ 9 = ptr q) (t11 : τ 11 = ptr s)
    (k : ∀ σ' w', TK w w' p q r s f d L d L b → (∀ j, j < 14 → σ' j = τ j) → X .normal σ' w') : hw Try.prog noPanic h14_9 X τ w1 := by
  obtain ⟨F, S, R, T, h⟩ := h
  have hrb := h.js.lg.rb
  have hbd := h.js.lg.bd
  have f1 : IntKind.i64.wrap ((f : Int) + 1) = ((f + 1 : Nat) : Int) := by rw [w64 (by omega) (by omega)]; omega
  unfold h14_9
  try simp only [go_sem, t0, t7, t8, t9, t11]
  refine read_ h.js.dr f ?_
  intro w2 _ m2
  have h2 := h.mod0 m2
  try simp only [go_sem, t0, t7, t8, t9, t11]
  refine rread_ h2.rs.rr f (by omega) ?_
  intro w3 m3
  have h3 := h2.mod0 m3
  try simp only [go_sem, t0, t7, t8, t9, t11, f1]
  refine read_ h3.js.dr _ ?_
  intro w4 _ m4
  have h4 := h3.mod0 m4
  try simp only [go_sem, t0, t7, t8, t9, t11, f1]
  refine rread_ h4.rs.rr _ (by omega) ?_
  intro w5 m5
  have h5 := (h4.mod0 m5).mod0 (Mod.drew none' w5)
  obtain ⟨rv, hb, ho, ho1, c0, c1, c2, c3⟩ := h5.rs.lg.parts
  obtain ⟨ra, rc, rfl, -, -⟩ := ho.form
  have c2' : w5.cell? ⟨s, 2, none⟩ = _ := c2
  unfold h14_10
  try simp only [go_sem, t0, t7, t8, t9, t11, c2']
  refine jall_ h5.js.lg ?_
  intro v6 w6 own6 m6 _
  have h6 := h5.mod0 m6
  have c26 := m6.cell c2 fun h => h
  try simp only [go_sem, t0, t7, t8, t9, t11, c26]
  refine same__ own6.sl (ho.mod m6 fun _ _ h => h).sl (by omega) ?_
  intro w7 m7
  have h7 := h6.mod0 m7
  have c37 := m7.cell (m6.cell c3 fun h => h) fun h => h
  try simp only [go_sem, t0, t7, t8, t9, t11, c37]
  have h8 := h7.mod0 (Mod.drew none' w7)
  have c38 : w7.drew.cell? ⟨s, 3, none⟩ = _ := c37
  refine jsure_ h8.js.lg ?_
  try simp only [go_sem, t0, t7, t8, t9, t11, c38]
  refine k _ _ ⟨F, S, R, T, h8⟩ fun j hj => ?_
  simp only [upd]
  repeat rw [if_neg (by omega)]

theorem tells7 {p q r s f b i m : Nat} {d : Dk} {L : Lg} {v1 : Value} {e : Int} {w1 : World} {τ : Env} {X : HX → Env → World → Prop} (h : TK w w1 p q r s f d L d L b) (hf : f ≤ 6) (hq : d.queue.length ≤ 1000000) (hi : i ≤ 30) (t0 : τ 0 = .int .i64 f) (t1 : τ 1 = v1) (t5 : τ 5 = .bool true) (t7 : τ 7 = ptr p) (t8 : τ 8 = ptr r) (t9 : τ 9 = ptr q) (t10 : τ 10 = .int .i64 e) (t11 : τ 11 = ptr s) (t12 : τ 12 = .int .i64 e) (t13 : τ 13 = .int .i64 i)
    (k : ∀ σ' w' q' s', TK w w' p q' r s' f d L d L b → σ' 0 = .int .i64 f → σ' 1 = v1 → σ' 5 = .bool true → σ' 7 = ptr p → σ' 8 = ptr r → σ' 9 = ptr q' → σ' 11 = ptr s' → σ' 13 = .int .i64 ((i + 1 : Nat) : Int) → X .normal σ' w') :
    hw Try.prog noPanic h14_7 (blockX m (seqX (hw Try.prog noPanic h14_11 X) X)) τ w1 := by
  unfold h14_7
  try simp only [go_sem, t0, t7, t8, t9, t10, t11, t12, beq_self_eq_true]
  unfold h14_8
  try simp only [go_sem, t0, t7, t8, t9, t10, t11, t12]
  refine tells8 h hf hq t0 t7 t8 t9 t11 ?_
  intro σ' w' h' e
  show hw Try.prog noPanic h14_11 X σ' w'
  have e0 := (e 0 (by omega)).trans t0
  have e1 := (e 1 (by omega)).trans t1
  have e5 := (e 5 (by omega)).trans t5
  have e7 := (e 7 (by omega)).trans t7
  have e8 := (e 8 (by omega)).trans t8
  have e9 := (e 9 (by omega)).trans t9
  have e11 := (e 11 (by omega)).trans t11
  have e13 := (e 13 (by omega)).trans t13
  unfold h14_11
  try simp only [go_sem, e13]
  rw [w64 (by omega) (by omega)]
  exact k _ _ _ _ h' e0 e1 e5 e7 e8 e9 e11 rfl

def TN (w0 w : World) (p q r s f : Nat) (d : Dk) (L : Lg) : Prop := ∃ F S R T, JS w0 w p q f d L F S ∧ RS (.of w0) w r s f d L R T ∧ ∀ k, R k ∨ T k → ¬ F.R k ∧ ¬ S k
theorem TN.start {w0 w w' : World} {p q r s f b : Nat} {d : Dk} {L : Lg} (h : TN w0 w p q r s f d L) (hb : w.heap.size ≤ b) (m : Mod none' w w') (hl : b < w'.heap.size) : TK w0 w' p q r s f d L d L b := by
  obtain ⟨F, S, R, T, j, g, a⟩ := h
  exact ⟨F, S, R, T, j.mod0 m, g.mod0 m, a, ⟨fun hk => by have := j.dr.lt _ hk; omega, fun hk => by have := j.lg.lt _ hk; omega, fun hk => by have := g.rr.lt _ hk; omega, fun hk => by have := g.lg.lt _ hk; omega⟩, hl⟩
theorem TK.tn {w0 w : World} {p q r s f b : Nat} {d : Dk} {L : Lg} (h : TK w0 w p q r s f d L d L b) : TN w0 w p q r s f d L := by
  obtain ⟨F, S, R, T, h⟩ := h
  exact ⟨F, S, R, T, h.js, h.rs, h.a1⟩
theorem TN.m {w0 w : World} {p q r s f : Nat} {d : Dk} {L : Lg} (h : TN w0 w p q r s f d L) : Mod none' w0 w := by
  obtain ⟨F, S, R, T, j, -⟩ := h
  exact j.m

theorem tells5 {al : List Deed} {gb o c i p q r s f : Nat} {d : Dk} {L : Lg} {w1 : World} {τ : Env} {X : HX → Env → World → Prop} (hi : i < al.length) (hl : Sl w (.slice (some ⟨gb, o, none⟩) al.length c) 5 al.length (rows Deed.cells al)) (ha : ∀ a ∈ al, a.OK w) (hn : al.length ≤ 30) (hfe : ∀ a ∈ al, a.few1 = true)
    (hf : f ≤ 6) (hT : TN w w1 p q r s f d L) (hq : d.queue.length ≤ i * 1400) (t0 : τ 0 = .int .i64 f) (t1 : τ 1 = .slice (some ⟨gb, o, none⟩) al.length c) (t5 : τ 5 = .bool true) (t7 : τ 7 = ptr p) (t8 : τ 8 = ptr r) (t9 : τ 9 = ptr q) (t11 : τ 11 = ptr s) (t13 : τ 13 = .int .i64 i)
    (k : ∀ σ' w' q' s' d' L', TN w w' p q' r s' f d' L' → d'.queue.length ≤ (i + 1) * 1400 → σ' 0 = .int .i64 f → σ' 1 = .slice (some ⟨gb, o, none⟩) al.length c → σ' 5 = .bool true → σ' 7 = ptr p → σ' 8 = ptr r → σ' 9 = ptr q' → σ' 11 = ptr s' → σ' 13 = .int .i64 ((i + 1 : Nat) : Int) → X .normal σ' w')
    (kr : ∀ σ' w', σ' 4 = .bool true → Mod none' w w' → X .ret σ' w') :
    hw Try.prog noPanic h14_5 X τ w1 := by
  obtain ⟨gb', o', c', hva, hA⟩ := deed_at hl hi
  simp only [Value.slice.injEq, Option.some.injEq, Addr.mk.injEq] at hva
  obtain ⟨⟨rfl, rfl, -⟩, -, rfl⟩ := hva
  obtain ⟨x0, xs, x1, x2, x3⟩ := hA w1 hT.m
  have hmem := List.getElem_mem hi
  have hok := (ha _ hmem).mod0 hT.m
  have hfe := Deed.few1_le (hfe _ hmem)
  have hone := Deed.one (ha _ hmem)
  have hok0 := ha _ hmem
  generalize al[i] = a at *
  obtain ⟨hf1, hf2, hf3, hf4, hf5⟩ := hfe
  unfold h14_5
  try simp only [go_sem, t1, t13, x0]
  refine ⟨⟨by omega, by omega⟩, xs, ?_⟩
  refine alloc_ (z := .agg #[.int .i64 0, str [], .slice none 0 0, .slice none 0 0, .int .i64 0]) (cs := [.int .i64 0, str [], .slice none 0 0, .slice none 0 0, .int .i64 0]) (by kernel_rfl) rfl ?_
  intro b2 w2 hb2 blk2 m2 hs2
  refine storeN (n := 5) (vs := a.cells) (by kernel_rfl) rfl blk2 (by simp) hone ?_
  intro w3 blk3 m3 hs3
  have m13 : Mod none' w1 w3 := m2.trans m3 fun k hk (e : k = b2) => by omega
  simp only [List.take_zero, List.nil_append, Nat.zero_add, List.drop_of_length_le (show ([Value.int IntKind.i64 0, str [], .slice none 0 0, .slice none 0 0, .int .i64 0] : List Value).length ≤ 5 by simp), List.append_nil] at blk3
  have y0 : w3.cell? ⟨b2, 0, none⟩ = some (.int .i64 a.Do) := by rw [blk3.cell]; rfl
  have y1 : w3.cell? ⟨b2, 1, none⟩ = some (str a.Row) := by rw [blk3.cell]; rfl
  have y2 : w3.cell? ⟨b2, 2, none⟩ = some a.rv := by rw [blk3.cell]; rfl
  have y3 : w3.cell? ⟨b2, 3, none⟩ = some a.kv := by rw [blk3.cell]; rfl
  have y4 : w3.cell? ⟨b2, 4, none⟩ = some (.int .i64 a.N) := by rw [blk3.cell]; rfl
  have h3 := hT.start (b := b2) (by omega) m13 (by omega)
  have hm3 := hT.m.trans' m13
  have hr3 := hok.r.mod m13 fun _ _ h => h
  have hk3 := hok.k.mod m13 fun _ _ h => h
  obtain ⟨t, ht⟩ := and_i64 a.Do 7
  try simp only [go_sem, t0, t1, t5, t7, t8, t9, t11, t13, y0, ht]
  have lr := fun hn => hok0.r.lt (by omega) hn
  have lk := fun hn => hok0.k.lt (by omega) hn
  have hlrows := formsB_rows a.rows
  have hw3 := hm3.size
  -- what a step leaves alone
  have bb : ∀ {w4 w5 : World}, Mod (besides w b2) w4 w5 → ∀ {j v}, w4.cell? ⟨b2, j, none⟩ = some v → w5.cell? ⟨b2, j, none⟩ = some v := fun m j v hc => m.cell hc fun h => h (.inr rfl)
  have br : ∀ {w4 w5 : World}, Mod (besides w b2) w4 w5 → Sl w4 a.rv 1 a.rows.length (a.rows.map str) → Sl w5 a.rv 1 a.rows.length (a.rows.map str) := fun m hs => hs.mod' m fun hn k hk h => h (.inl (lr hn k hk))
  have bk : ∀ {w4 w5 : World}, Mod (besides w b2) w4 w5 → Sl w4 a.kv 1 a.ks.length (ints a.ks) → Sl w5 a.kv 1 a.ks.length (ints a.ks) := fun m hs => hs.mod' m fun hn k hk h => h (.inl (lk hn k hk))
  refine ⟨fun c3 => ?_, fun c3 => ?_⟩
  · obtain ⟨F, S, R, T, j3⟩ := h3
    obtain ⟨B, g3, back⟩ := j3.left
    refine gflushJ_ g3 (by omega) ?_
    intro w4 gt
    obtain ⟨⟨F4, S4, R4, T4, j4⟩, m4⟩ := back _ _ _ _ gt
    obtain ⟨B4, g4, back4⟩ := j4.right
    try simp only [go_sem, t0, t1, t5, t7, t8, t9, t11, t13]
    refine rflushJ_ g4 (by omega) ?_
    intro w5 gu
    obtain ⟨h5, m5⟩ := back4 _ _ _ _ gu
    have hq5 := flushJ_queue d L f
    try simp only [go_sem, t0, t1, t5, t7, t8, t9, t11, t13]
    refine tells7 h5 hf (by omega) (by omega) t0 t1 t5 t7 t8 t9 rfl t11 rfl t13 ?_
    intro σ' w' q' s' h' z0 z1 z5 z7 z8 z9 z11 z13
    exact k σ' w' q' s' _ _ h'.tn (by omega) z0 z1 z5 z7 z8 z9 z11 z13
  refine ⟨fun c4 => ?_, fun c4 => ?_⟩
  · obtain ⟨F, S, R, T, j3⟩ := h3
    obtain ⟨B, g3, back⟩ := j3.left
    try simp only [go_sem, t0, t1, t5, t7, t8, t9, t11, t13, y2]
    refine gbatch_ g3 hr3 (fun hn k hk hR => by have := lr hn k hk; have := j3.js.f0 k hR; omega) (by omega) ?_
    intro w4 gt
    obtain ⟨⟨F4, S4, R4, T4, j4⟩, m4⟩ := back _ _ _ _ gt
    obtain ⟨B4, g4, back4⟩ := j4.right
    have y2' := bb m4 y2
    try simp only [go_sem, t0, t1, t5, t7, t8, t9, t11, t13, y2']
    refine rbatchJ_ g4 (br m4 hr3) (fun hn k hk hR => j4.rs.f0 k hR (lr hn k hk)) (by omega) ?_
    intro w5 gu
    obtain ⟨h5, m5⟩ := back4 _ _ _ _ gu
    have hq5 := batchJ_queue d L f a.rows
    try simp only [go_sem, t0, t1, t5, t7, t8, t9, t11, t13]
    refine tells7 h5 hf (by omega) (by omega) t0 t1 t5 t7 t8 t9 rfl t11 rfl t13 ?_
    intro σ' w' q' s' h' z0 z1 z5 z7 z8 z9 z11 z13
    exact k σ' w' q' s' _ _ h'.tn (by omega) z0 z1 z5 z7 z8 z9 z11 z13
  refine ⟨fun c5 => ?_, fun c5 => ?_⟩
  · obtain ⟨F, S, R, T, j3⟩ := h3
    obtain ⟨B, g3, back⟩ := j3.left
    try simp only [go_sem, t0, t1, t5, t7, t8, t9, t11, t13, y2]
    refine grewrite_ g3 hf hr3 (fun hn k hk => ⟨fun hR => by have := lr hn k hk; have := j3.js.f0 k hR; omega, by have := lr hn k hk; omega⟩) (by omega) ?_
    intro w4 gt
    obtain ⟨⟨F4, S4, R4, T4, j4⟩, m4⟩ := back _ _ _ _ gt
    obtain ⟨B4, g4, back4⟩ := j4.right
    have y2' := bb m4 y2
    have s4 := m4.size
    try simp only [go_sem, t0, t1, t5, t7, t8, t9, t11, t13, y2']
    refine rrewrite_ g4 hf (br m4 hr3) (fun hn k hk => ⟨fun hR => j4.rs.f0 k hR (lr hn k hk), by have := lr hn k hk; omega⟩) (by omega) ?_
    intro w5 gu
    obtain ⟨h5, m5⟩ := back4 _ _ _ _ gu
    have hq5 := rewr_queue d f a.rows
    have hq6 : (rewriteJ d L f a.rows).1.queue.length ≤ d.queue.length + 16 + (formsB a.rows).length := hq5
    try simp only [go_sem, t0, t1, t5, t7, t8, t9, t11, t13]
    refine tells7 h5 hf (by omega) (by omega) t0 t1 t5 t7 t8 t9 rfl t11 rfl t13 ?_
    intro σ' w' q' s' h' z0 z1 z5 z7 z8 z9 z11 z13
    exact k σ' w' q' s' _ _ h'.tn (by omega) z0 z1 z5 z7 z8 z9 z11 z13
  refine ⟨fun c6 => ?_, fun c6 => ?_⟩
  · obtain ⟨F, S, R, T, j3⟩ := h3
    obtain ⟨B, g3, back⟩ := j3.left
    try simp only [go_sem, t0, t1, t5, t7, t8, t9, t11, t13, y3]
    refine crash_ g3.dr hk3 (fun hn hk => ?_) (by omega) ?_
    · have := lk hn p hk
      have := j3.js.f0 p (j3.js.dr.sub p j3.js.dr.self)
      omega
    intro w4 st4
    obtain ⟨⟨F4, S4, R4, T4, j4⟩, m4⟩ := back _ _ _ _ (g3.disk st4).jt
    obtain ⟨B4, g4, back4⟩ := j4.right
    have y3' := bb m4 y3
    try simp only [go_sem, t0, t1, t5, t7, t8, t9, t11, t13, y3']
    refine rcrash_ g4.rr (bk m4 hk3) (fun hn hk => j4.rs.f0 r j4.rs.rr.self (lk hn r hk)) (by omega) ?_
    intro w5 st5
    obtain ⟨⟨F5, S5, R5, T5, j5⟩, m5⟩ := back4 _ _ _ _ (g4.disk st5).ju
    obtain ⟨B5, g5, back5⟩ := j5.left
    try simp only [go_sem, t0, t1, t5, t7, t8, t9, t11, t13]
    refine start_ g5.dr ?_
    intro w6 dr6 m6 _
    obtain ⟨⟨F6, S6, R6, T6, j6⟩, -⟩ := back5 _ _ _ _ (g5.disk (.of dr6 m6)).jt
    obtain ⟨B6, g6, back6⟩ := j6.right
    try simp only [go_sem, t0, t1, t5, t7, t8, t9, t11, t13]
    refine rstart_ g6.rr ?_
    intro w7 rr7 m7
    obtain ⟨⟨F7, S7, R7, T7, j7⟩, -⟩ := back6 _ _ _ _ (g6.disk (.of rr7 m7)).ju
    obtain ⟨B7, g7, back7⟩ := j7.left
    have hqc := crash_queue d a.ks
    have hq7 : (d.crash a.ks).start.queue.length ≤ d.queue.length := hqc
    generalize (d.crash a.ks).start = D at *
    unfold h14_6
    try simp only [go_sem, t0, t1, t5, t7, t8, t9, t11, t13]
    refine open_ g7.dr (fun w8 m8 he => ?_) (fun g L8 hg hg6 hm hL q8 w8 S8 lg8 hS8 m8 => ?_)
    · have j8 := j7.mod0 m8
      try simp only [go_sem, t0, t1, t5, t7, t8, t9, t11, t13]
      refine ropen_ j8.rs.rr (by omega) (fun w9 m9 he' => ?_) (fun g L9 hg hg6 hm hL q9 w9 S9 lg9 hS9 m9 => ?_)
      · unfold h14_7
        try simp only [go_sem, t0, t1, t5, t7, t8, t9, t11, t13, beq_self_eq_true]
        unfold h14_8
        try simp only [go_sem, t0, t1, t5, t7, t8, t9, t11, t13]
        exact kr _ _ rfl (j8.mod0 m9).js.m
      · exfalso
        apply he
        obtain rfl : f = g := by omega
        simp [openE, hm, hL]; omega
    · obtain rfl : f = g := by omega
      obtain ⟨⟨F8, S8', R8, T8, j8⟩, -⟩ := back7 _ _ _ _ (g7.opened lg8 hS8 m8).jt
      obtain ⟨B8, g8, back8⟩ := j8.right
      try simp only [go_sem, t0, t1, t5, t7, t8, t9, t11, t13]
      refine ropen_ g8.rr (by omega) (fun w9 m9 he' => ?_) (fun g L9 hg hg6 hm hL9 q9 w9 S9 lg9 hS9 m9 => ?_)
      · exfalso
        apply he'
        simp [openE, hm, hL]; omega
      · obtain rfl : f = g := by omega
        obtain rfl : L8 = L9 := by rw [hL] at hL9; exact Option.some.inj hL9
        obtain ⟨h9, -⟩ := back8 _ _ _ _ (g8.opened lg9 hS9 m9).ju
        try simp only [go_sem, t0, t1, t5, t7, t8, t9, t11, t13]
        refine tells7 h9 hf (by omega) (by omega) t0 t1 t5 t7 t8 rfl rfl rfl rfl t13 ?_
        intro σ' w' q' s' h' z0 z1 z5 z7 z8 z9 z11 z13
        exact k σ' w' q' s' _ _ h'.tn (by omega) z0 z1 z5 z7 z8 z9 z11 z13
  refine ⟨fun c7 => ?_, fun c7 => ?_⟩
  · obtain ⟨F, S, R, T, j3⟩ := h3
    obtain ⟨B, g3, back⟩ := j3.left
    try simp only [go_sem, t0, t1, t5, t7, t8, t9, t11, t13, y4]
    refine jpick_ hok0.n (by omega) ?_
    try simp only [go_sem, t0, t1, t5, t7, t8, t9, t11, t13, y4]
    refine lose_ g3.dr (by omega) ?_
    intro w4 dr4 m4 _
    obtain ⟨⟨F4, S4, R4, T4, j4⟩, m4⟩ := back _ _ _ _ (g3.disk (.of dr4 m4)).jt
    obtain ⟨B4, g4, back4⟩ := j4.right
    have y4' := bb m4 y4
    try simp only [go_sem, t0, t1, t5, t7, t8, t9, t11, t13, y4']
    refine jpick_ hok0.n (by omega) ?_
    try simp only [go_sem, t0, t1, t5, t7, t8, t9, t11, t13, y4']
    refine rlose_ g4.rr (by omega) ?_
    intro w5 rr5 m5
    obtain ⟨h5, -⟩ := back4 _ _ _ _ (g4.disk (.of rr5 m5)).ju
    try simp only [go_sem, t0, t1, t5, t7, t8, t9, t11, t13]
    refine tells7 h5 hf (show d.queue.length ≤ _ by omega) (by omega) t0 t1 t5 t7 t8 t9 rfl t11 rfl t13 ?_
    intro σ' w' q' s' h' z0 z1 z5 z7 z8 z9 z11 z13
    exact k σ' w' q' s' _ _ h'.tn (show d.queue.length ≤ _ by omega) z0 z1 z5 z7 z8 z9 z11 z13
  · obtain ⟨F, S, R, T, j3⟩ := h3
    obtain ⟨B, g3, back⟩ := j3.left
    have hf1' : (formsB [a.Row]).length = 16 + a.Row.length := by simp [formsB, formB_len]
    try simp only [go_sem, t0, t1, t5, t7, t8, t9, t11, t13, y1]
    refine gappend1_ g3 (by omega) ?_
    intro w4 gt
    obtain ⟨⟨F4, S4, R4, T4, j4⟩, m4⟩ := back _ _ _ _ gt
    obtain ⟨B4, g4, back4⟩ := j4.right
    have y1' := bb m4 y1
    try simp only [go_sem, t0, t1, t5, t7, t8, t9, t11, t13, y1']
    refine rappend_ g4 (by omega) ?_
    intro w5 gu
    obtain ⟨h5, m5⟩ := back4 _ _ _ _ gu
    have hq5 := addJ_queue d L f [a.Row]
    try simp only [go_sem, t0, t1, t5, t7, t8, t9, t11, t13]
    refine tells7 h5 hf (by omega) (by omega) t0 t1 t5 t7 t8 t9 rfl t11 rfl t13 ?_
    intro σ' w' q' s' h' z0 z1 z5 z7 z8 z9 z11 z13
    exact k σ' w' q' s' _ _ h'.tn (by omega) z0 z1 z5 z7 z8 z9 z11 z13

theorem jtells_ {v : Value} {al : List Deed} {fi : Int} (hl : Sl w v 5 al.length (rows Deed.cells al)) (ha : ∀ a ∈ al, a.OK w) (k : ∀ w', Mod none' w w' → next (.bool true) w') : callK Try.prog 14 [.int .i64 fi, v] w next QP := by
  refine q14 rfl ?_
  unfold h14
  try simp only [go_sem]
  refine jsmall_ ?_
  intro w1 m1
  try simp only [go_sem]
  refine fewJ_ (hl.mod m1 fun _ _ h => h) (fun a h => (ha a h).mod0 m1) ?_
  try simp only [go_sem]
  refine ⟨fun _ => k _ m1, fun hf => ?_⟩
  have hf : fewJ al = true := by simpa using hf
  simp only [fewJ, Bool.and_eq_true, decide_eq_true_eq, List.all_eq_true] at hf
  unfold h14_1
  try simp only [go_sem]
  refine jnew_ ?_
  intro p w3 F3 dr3 f3 m3
  have s1 := m1.size
  try simp only [go_sem]
  refine rnew_ ?_
  intro r w4 hr4 rt4
  have m4 := rt4.mod
  have rr4 := rt4.rr
  have r4 := rt4.footS
  generalize rt4.foot = R at *
  have s3 := m3.size
  have m14 := (m1.trans' m3).trans' m4
  obtain ⟨va, vc, rfl, -, hvc⟩ := hl.form
  try simp only [go_sem]
  refine open_ (dr3.mod0 m4) (fun w5 m5 he => ?_) (fun g L hg hg6 hm hL q5 w5 S5 lg5 hS5 m5 => ?_)
  · try simp only [go_sem]
    refine ropen_ (rr4.mod0 m5) (by decide) (fun w6 m6 he' => ?_) (fun g L hg hg6 hm hL q6 w6 S6 lg6 hS6 m6 => ?_)
    · unfold h14_2
      try simp only [go_sem, beq_self_eq_true]
      unfold h14_3
      try simp only [go_sem]
      refine loopN 0 (fun i τ w' => τ 1 = .slice va al.length vc ∧ τ 5 = .bool true ∧ τ 9 = .pointer none ∧ τ 11 = .pointer none ∧ τ 13 = .int .i64 0 ∧ Mod none' w w') ⟨0, by omega, rfl, rfl, rfl, rfl, rfl, (m14.trans' m5).trans' m6⟩ ?_
      rintro i τ w7 hi ⟨t1, t5, t9, t11, t13, m7⟩
      have hpk : (if (if decide ((0 : Int) < al.length) = true then false else false) = true then false else false) = false := by split <;> rfl
      unfold h14_4
      try simp only [go_sem, t1, t5, t9, t11, t13, hpk, ite_self]
      unfold h14_12
      try simp only [go_sem, t5]
      exact k _ m7
    · exfalso
      apply he
      subst hg
      simp [openE, hm, hL]; omega
  · subst hg
    have s4 := m4.size
    have hjs : JS w w5 p q5 g Dk.new L F3 S5 := JS.opened (w := w4) (dr3.mod0 m4) (fun k hk => by have := f3 k hk; omega) m14 lg5 hS5 m5
    try simp only [go_sem]
    refine ropen_ (rr4.mod0 m5) (by decide) (fun w6 m6 he' => ?_) (fun g' L' hg hg6 hm hL' q6 w6 S6 lg6 hS6 m6 => ?_)
    · exfalso
      apply he'
      simp [openE, hm, hL]; omega
    · obtain rfl : g = g' := by omega
      obtain rfl : L = L' := by rw [hL] at hL'; exact Option.some.inj hL'
      have s5 := m5.size
      have hTN : TN w w6 p q5 r q6 g Dk.new L := by
        refine ⟨F3, S5, R, S6, hjs.mod0 m6, ⟨(rr4.mod0 m5).mod0 m6, lg6, fun k hk hx => ?_, fun k hk hA => ?_, fun k hk hA => ?_, ((m14.trans' m5).trans' m6).mono fun _ _ h => h.elim⟩, ?_⟩
        · have := rr4.lt k hk; have := hS6 k hx; omega
        · have hA : k < w.heap.size := hA
          rcases r4 k hk with h | h
          · exact h.elim
          · omega
        · have hA : k < w.heap.size := hA
          have := hS6 k hk; omega
        · rintro k (hk | hk)
          · refine ⟨fun hF => ?_, fun hS => ?_⟩
            · have := dr3.lt k hF
              rcases r4 k hk with h | h
              · exact h.elim
              · omega
            · have := rr4.lt k hk; have := hS5 k hS; omega
          · have := hS6 k hk
            exact ⟨fun hF => by have := dr3.lt k hF; omega, fun hS => by have := lg5.lt k hS; omega⟩
      unfold h14_2
      try simp only [go_sem, beq_self_eq_true]
      unfold h14_3
      try simp only [go_sem]
      refine loopN al.length (fun i τ w' => ∃ q s d L, TN w w' p q r s g d L ∧ d.queue.length ≤ i * 1400 ∧ τ 0 = .int .i64 g ∧ τ 1 = .slice va al.length vc ∧ τ 5 = .bool true ∧ τ 7 = ptr p ∧ τ 8 = ptr r ∧ τ 9 = ptr q ∧ τ 11 = ptr s ∧ τ 13 = .int .i64 i)
        ⟨0, by omega, q5, q6, Dk.new, L, hTN, by decide, rfl, rfl, rfl, rfl, rfl, rfl, rfl, rfl⟩ ?_
      rintro i τ w7 hi ⟨q, s, d, L7, hT, hq, t0, t1, t5, t7, t8, t9, t11, t13⟩
      unfold h14_4
      try simp only [go_sem, t1, t5, t9, t11, t13]
      refine ⟨fun hlt => ?_, fun hge => ?_⟩
      · have hil : i < al.length := by
          have : (i : Int) < al.length := by simpa using hlt
          omega
        obtain ⟨gb, o, rfl, -⟩ := hvc (by omega)
        refine tells5 hil hl ha hf.1 hf.2 hg6 hT hq t0 t1 t5 t7 t8 t9 t11 t13 ?_ ?_
        · intro σ' w' q' s' d' L' T' hq' x0 x1 x5 x7 x8 x9 x11 x13
          exact ⟨i + 1, by omega, by omega, q', s', d', L', T', hq', x0, x1, x5, x7, x8, x9, x11, x13⟩
        · intro σ' w' x4 m'
          try simp only [go_sem, x4]
          exact k _ m'
      · unfold h14_12
        try simp only [go_sem, t5]
        exact k _ hT.m
end
end Go.Proofs.Y

/- JV: deeds that came in with a call. -/
namespace Go.Proofs.Y
open Go Go.HL Go.Proofs Go.ChangeShapes Go.WideShapes Go.Deep

noncomputable def fs65 : Array Field := match Try.prog.underlying 65 with | some (.struct fs) => fs | _ => #[]
theorem u65 : Try.prog.underlying 65 = some (.struct fs65) := by kernel_rfl
theorem fs65_size : fs65.size = 5 := by kernel_rfl
theorem cells65 : Try.prog.cellsOf 65 = 5 := by kernel_rfl
theorem cells40 : Try.prog.cellsOf 40 = 1 := by kernel_rfl
theorem fld65 (i o t : Nat) (h : (fs65[i]?).map (fun f => (f.offset, f.type)) = some (o, t)) : ∃ f, fs65[i]? = some f ∧ f.offset = o ∧ f.type = t := by
  obtain ⟨f, hf, he⟩ := Option.map_eq_some_iff.1 h
  simp only [Prod.mk.injEq] at he
  exact ⟨f, hf, he.1, he.2⟩

section
variable {H : Type} {enc : TypeId × Value → H} {w : World}

theorem deed_in {fuel : Nat} {cs : List Value} {x : DataW H × List MemPlace} (h : DataW.trod enc Try.prog w 0 (fun _ => true) true fuel 65 cs = some x) :
    ∃ a : Deed, cs = a.cells ∧ a.OK w := by
  obtain ⟨xs, n, rfl, rfl, hlen, hxl, hf⟩ := DataW.trod_struct u65 h
  rw [cells65] at hlen
  rw [fs65_size] at hxl
  match cs, hlen with
  | [c0, c1, c2, c3, c4], _ =>
  match xs, hxl with
  | [y0, y1, y2, y3, y4], _ =>
  obtain ⟨f0, g0, o0, e0⟩ := fld65 0 0 3 (by kernel_rfl)
  obtain ⟨f1, g1, o1, e1⟩ := fld65 1 1 9 (by kernel_rfl)
  obtain ⟨f2, g2, o2, e2⟩ := fld65 2 2 40 (by kernel_rfl)
  obtain ⟨f3, g3, o3, e3⟩ := fld65 3 3 22 (by kernel_rfl)
  obtain ⟨f4, g4, o4, e4⟩ := fld65 4 4 3 (by kernel_rfl)
  have h0 := hf 0 f0 g0
  have h1 := hf 1 f1 g1
  have h2 := hf 2 f2 g2
  have h3 := hf 3 f3 g3
  have h4 := hf 4 f4 g4
  rw [o0, e0, cells3] at h0
  rw [o1, e1, cells9] at h1
  rw [o2, e2, cells40] at h2
  rw [o3, e3, cells22] at h3
  rw [o4, e4, cells3] at h4
  obtain ⟨n0, k0, rfl, w0⟩ := DataW.trod_int (x := y0) Try.underlying3 h0
  obtain ⟨s1, k1, rfl, w1⟩ := DataW.trod_string (x := y1) Try.underlying9 h1
  obtain ⟨n4, k4, rfl, w4⟩ := DataW.trod_int (x := y4) Try.underlying3 h4
  have hs2 : ∃ a len cap, c2 = .slice a len cap := by
    rcases open_strings (x := y2) Try.underlying40 Try.underlying9 (by kernel_rfl) h2 with ⟨hcs, -⟩ | ⟨x, l, c, ss, hcs, -⟩
    · simp at hcs; exact ⟨_, _, _, hcs⟩
    · simp at hcs; exact ⟨_, _, _, hcs⟩
  have hs3 : ∃ a len cap, c3 = .slice a len cap := by
    rcases open_ints (x := y3) Try.underlying22 Try.underlying3 (by kernel_rfl) h3 with ⟨hcs, -⟩ | ⟨x, l, c, ss, hcs, -⟩
    · simp at hcs; exact ⟨_, _, _, hcs⟩
    · simp at hcs; exact ⟨_, _, _, hcs⟩
  have hc2 : c2.cells.toList = [c2] := by obtain ⟨a, l, c, rfl⟩ := hs2; rfl
  have hc3 : c3.cells.toList = [c3] := by obtain ⟨a, l, c, rfl⟩ := hs3; rfl
  obtain ⟨ls, hls, -⟩ := strs_in (enc := enc) (w := w) (d := y2.1) (ps := y2.2) Try.underlying40 Try.underlying9 (by kernel_rfl) hs2 ⟨n, by rw [hc2]; exact h2⟩
  obtain ⟨zs, hz, -, -⟩ := ints_in (enc := enc) (w := w) (d := y3.1) (ps := y3.2) Try.underlying22 Try.underlying3 (by kernel_rfl) hs3 ⟨n, by rw [hc3]; exact h3⟩
  simp at k0 k1 k4
  subst k0 k1 k4
  exact ⟨⟨n0, s1.data.toList, c2, ls, c3, zs, n4⟩, rfl, wf64 w0, wf64 w4, hls, by simpa [ints] using hz⟩

theorem deeds_in {v : Value} {d : DataW H} {ps : List MemPlace} (hv : ∃ a len cap, v = .slice a len cap) (h : DataW.Trod enc Try.prog w 0 (fun _ => true) true 66 v d ps) :
    ∃ al : List Deed, Sl w v 5 al.length (rows Deed.cells al) ∧ (∀ a ∈ al, a.OK w) := by
  obtain ⟨a, len, cap, rfl⟩ := hv
  obtain ⟨fuel, hf⟩ := h
  rcases open_slice Try.underlying66 hf with ⟨hcs, -⟩ | ⟨x, l, c, m, n, D, Pl, hcs, -, hl, -, hm, hx, hall⟩
  · simp [Value.cells] at hcs
    obtain ⟨rfl, rfl, rfl⟩ := hcs
    exact ⟨[], (Own.nil w 0 5).sl, fun n hn => (nomatch hn)⟩
  · simp [Value.cells] at hcs
    obtain ⟨rfl, rfl, rfl⟩ := hcs
    have hm : m = cap := by simpa using hm
    subst hm
    simp only [cells65] at hall
    obtain ⟨al, hal, hR⟩ := list_of (R := fun i (a : Deed) => (∀ j, j < 5 → w.cell? ((x.add (i * 5)).add j) = a.cells[j]?) ∧ a.OK w) len fun i hi => by
      obtain ⟨cs', h1, h2⟩ := hall i (by omega)
      obtain ⟨a, rfl, a1⟩ := deed_in h2
      obtain ⟨-, -, hc⟩ := World.cells?_some h1
      exact ⟨a, hc, a1⟩
    refine ⟨al, ?_, fun a ha => ?_⟩
    · subst hal
      refine ⟨rows_len Deed.cells_len al, some x, m, rfl, hl, fun h0 => ?_⟩
      have hs : x.spot = none := by
        have := (hR 0 h0).1 0 (by omega)
        have e : (x.add (0 * 5)).add 0 = x := rfl
        rw [e] at this
        exact World.cell?_spot this
      obtain ⟨b, o, s⟩ := x
      simp only at hs
      subst hs
      refine ⟨b, o, rfl, fun j hj => ?_⟩
      have hj6 : j / 5 < al.length := by omega
      have := (hR (j / 5) hj6).1 (j % 5) (Nat.mod_lt _ (by omega))
      rw [e_add, e_add] at this
      rw [show o + j = o + j / 5 * 5 + j % 5 by omega, this, ← rows_get Deed.cells_len al (j / 5) (j % 5) hj6 (Nat.mod_lt _ (by omega))]
      congr 1; omega
    · obtain ⟨i, hi, rfl⟩ := List.getElem_of_mem ha
      exact (hR i hi).2
end
end Go.Proofs.Y
