/- DU: operations as records: the walks of pick, few and do. -/
import Derived.Test.YtgalileklafbbaaDD
import Derived.Test.YtgalileklafbbaaJC
set_option linter.unusedSimpArgs false
set_option linter.unusedVariables false
set_option maxRecDepth 100000
namespace Go.Proofs.Y
open Go Go.HL Go.Proofs

structure Act where
  Do : Int
  F : Int
  G : Int
  N : Int
  S : Bytes
  kv : Value
  ks : List Int

def Act.cells (a : Act) : List Value := [.int .i64 a.Do, .int .i64 a.F, .int .i64 a.G, .int .i64 a.N, str a.S, a.kv]
theorem Act.cells_len (a : Act) : a.cells.length = 6 := rfl

def i64 (a : Int) : Prop := -9223372036854775808 ≤ a ∧ a ≤ 9223372036854775807
structure Act.OK (w : World) (a : Act) : Prop where
  d : i64 a.Do
  f : i64 a.F
  g : i64 a.G
  n : i64 a.N
  k : Sl w a.kv 1 a.ks.length (ints a.ks)
  kl : a.ks.length ≤ 1048576
  sl : a.S.length ≤ 1048576
theorem Act.OK.mod0 {w w' : World} {a : Act} (h : a.OK w) (m : Mod none' w w') : a.OK w' := ⟨h.d, h.f, h.g, h.n, h.k.mod m fun _ _ h => h, h.kl, h.sl⟩
theorem Act.one {w : World} {a : Act} (h : a.OK w) : ∀ v ∈ a.cells, v.oneCell' = true := by
  obtain ⟨x, c, hk, -⟩ := h.k.form
  intro v hv
  simp only [Act.cells, List.mem_cons, List.not_mem_nil, or_false] at hv
  rcases hv with rfl | rfl | rfl | rfl | rfl | rfl
  · rfl
  · rfl
  · rfl
  · rfl
  · rfl
  · rw [hk]; rfl

/-- the operation's number -/
def pk (n : Int) : Int := n % 11
theorem pk_range (n : Int) : 0 ≤ pk n ∧ pk n < 11 := by unfold pk; omega

def Dk.act (d : Dk) (a : Act) : Dk :=
  if pk a.Do = 0 ∨ pk a.Do = 1 then d.write a.F a.N a.S
  else if pk a.Do = 2 then d.flush a.F
  else if pk a.Do = 3 then d.cut a.F a.N
  else if pk a.Do = 4 then d.turn a.F a.G
  else if pk a.Do = 5 then d.crash a.ks
  else if pk a.Do = 6 then d.lose a.N
  else if pk a.Do = 7 then d.start
  else if pk a.Do = 8 then d
  else if pk a.Do = 10 then d.arm a.N a.ks
  else d
def Dk.actS (d : Dk) (a : Act) : Bytes := if pk a.Do = 8 then d.read a.F else []
def Dk.actE (d : Dk) (a : Act) : Int :=
  if pk a.Do = 0 ∨ pk a.Do = 1 then d.writeR a.F a.N a.S
  else if pk a.Do = 2 then d.flushR a.F
  else if pk a.Do = 3 then d.cutR a.F a.N
  else if pk a.Do = 4 then d.turnR a.F a.G
  else if pk a.Do = 8 then d.may [a.F]
  else 0

section
variable {w : World} {next : Value → World → Prop} {QP : List PanicEntry → World → Prop}

theorem pick_ {n : Int} (hn : i64 n) (k : next (.int .i64 (pk n)) w) : callvK Try.prog (.func (.func 28) #[] #[]) [.int .i64 n] w next QP := by
  refine r28 rfl ?_
  unfold h28
  try simp only [go_sem]
  have hn1 := hn.1
  have hn2 := hn.2
  have ht : n.tmod 11 = if 0 ≤ n then n % 11 else -((-n) % 11) := by
    split
    · rw [Int.tmod_eq_emod_of_nonneg (by assumption)]
    · have := Int.neg_tmod (a := -n) (b := 11)
      rw [Int.neg_neg] at this
      rw [this, Int.tmod_eq_emod_of_nonneg (by omega)]
  refine ⟨by decide, fun hneg => ?_, fun hpos => ?_⟩
  · have hneg : n.tmod 11 < 0 := by simpa using hneg
    rw [w64 (by split at ht <;> omega) (by split at ht <;> omega)]
    unfold h28_1
    try simp only [go_sem]
    have : n.tmod 11 + 11 = pk n := by unfold pk; split at ht <;> omega
    rw [this]; exact k
  · have hpos : 0 ≤ n.tmod 11 := by simpa using hpos
    unfold h28_1
    try simp only [go_sem]
    have : n.tmod 11 = pk n := by unfold pk; split at ht <;> omega
    rw [this]; exact k

theorem Act.get {a : Act} {b : Nat} (h : Blk w b 42 a.cells) : w.cell? ⟨b, 0, none⟩ = some (.int .i64 a.Do) ∧ w.cell? ⟨b, 1, none⟩ = some (.int .i64 a.F) ∧ w.cell? ⟨b, 2, none⟩ = some (.int .i64 a.G) ∧ w.cell? ⟨b, 3, none⟩ = some (.int .i64 a.N) ∧ w.cell? ⟨b, 4, none⟩ = some (str a.S) ∧ w.cell? ⟨b, 5, none⟩ = some a.kv :=
  ⟨by rw [h.cell]; rfl, by rw [h.cell]; rfl, by rw [h.cell]; rfl, by rw [h.cell]; rfl, by rw [h.cell]; rfl, by rw [h.cell]; rfl⟩

theorem do_ {p : Nat} {d : Dk} {S : FP} (h : DR w p d S) {a : Act} (ha : a.OK w) (hk0 : 0 < a.ks.length → a.kv.ownBlock ≠ some p) (hqn : d.queue.length ≤ 100000000)
    (k : ∀ w', St S w w' p (d.act a) → next (.tuple #[str (d.actS a), .int .i64 (d.actE a)]) w') : callvK Try.prog (.func (.func 29) #[] #[]) [ptr p, .agg a.cells.toArray] w next QP := by
  refine r29 rfl ?_
  unfold h29
  try simp only [go_sem]
  refine box_ (cs := a.cells) rfl ?_
  intro b w1 hb hbb m1 hsz1
  obtain ⟨x0, x1, x2, x3, x4, x5⟩ := Act.get hbb
  have st1 : St S w w1 p d := (St.refl h).mod0 m1
  have ha1 := ha.mod0 m1
  have hr := pk_range a.Do
  try simp only [go_sem, x0]
  refine pick_ ha.d ?_
  try simp only [go_sem]
  have fin : ∀ (τ : Env) w', τ 4 = str [] → τ 5 = .int .i64 0 → St S w w' p (d.act a) → d.actS a = [] → d.actE a = 0 → hw Try.prog noPanic h29_2 (endV [.tmp 4, .tmp 5] next) τ w' := by
    intro τ w' t4 t5 st e1 e2
    unfold h29_2
    try simp only [go_sem]
    have := k w' st
    rw [e1, e2] at this
    exact this
  have wr : ∀ τ : Env, τ 0 = ptr p → τ 3 = ptr b → τ 9 = .bool true → (pk a.Do = 0 ∨ pk a.Do = 1) → hw Try.prog noPanic h29_1 (blockX 0 (seqX (hw Try.prog noPanic h29_2 (endV [.tmp 4, .tmp 5] next)) (endV [.tmp 4, .tmp 5] next))) τ w1 := by
    intro τ t0 t3 t9 hk
    unfold h29_1
    try simp only [go_sem, t0, t3, t9, x0, x1, x2, x3, x4, x5]
    have hw := ha.sl
    refine write_ st1.dr ha.n.1 ha.n.2 (by omega) ?_
    intro w2 st2
    try simp only [go_sem]
    have := k w2
    simp only [Dk.act, Dk.actE, Dk.actS, if_pos hk, if_neg (show ¬ pk a.Do = 8 by omega)] at this
    exact this (st1.trans st2)
  refine ⟨fun h0 => ?_, fun h0 => ?_⟩
  · have h0 : pk a.Do = 0 := by simpa using h0
    exact wr _ rfl rfl (by simp [upd_at, h0]) (.inl h0)
  have h0 : pk a.Do ≠ 0 := by simpa using h0
  by_cases h1 : pk a.Do = 1
  · exact wr _ rfl rfl (by simp [upd_at, h1]) (.inr h1)
  have hn01 : ¬ (pk a.Do = 0 ∨ pk a.Do = 1) := by omega
  unfold h29_1
  have hd1 : decide (pk a.Do = 1) = false := by simp [h1]
  try simp only [go_sem, x0, x1, x2, x3, x4, x5, hd1]
  simp only [Dk.act, Dk.actE, Dk.actS, if_neg hn01] at k fin
  refine ⟨fun h2 => ?_, fun h2 => ?_⟩
  · have h2 : pk a.Do = 2 := by simpa using h2
    refine flush_ st1.dr (by omega) ?_
    intro w2 st2
    try simp only [go_sem]
    have := k w2
    simp only [h2, if_true, if_neg (show ¬ (2 : Int) = 8 by omega)] at this
    exact this (st1.trans st2)
  have h2 : ¬ pk a.Do = 2 := by simpa using h2
  simp only [if_neg h2] at k fin
  refine ⟨fun h3 => ?_, fun h3 => ?_⟩
  · have h3 : pk a.Do = 3 := by simpa using h3
    refine cut_ st1.dr (by omega) ?_
    intro w2 st2
    try simp only [go_sem]
    have := k w2
    simp only [h3, if_true, if_neg (show ¬ (3 : Int) = 8 by omega)] at this
    exact this (st1.trans st2)
  have h3 : ¬ pk a.Do = 3 := by simpa using h3
  simp only [if_neg h3] at k fin
  refine ⟨fun h4 => ?_, fun h4 => ?_⟩
  · have h4 : pk a.Do = 4 := by simpa using h4
    refine turn_ st1.dr (by omega) ?_
    intro w2 st2
    try simp only [go_sem]
    have := k w2
    simp only [h4, if_true, if_neg (show ¬ (4 : Int) = 8 by omega)] at this
    exact this (st1.trans st2)
  have h4 : ¬ pk a.Do = 4 := by simpa using h4
  simp only [if_neg h4] at k fin
  refine ⟨fun h5 => ?_, fun h5 => ?_⟩
  · have h5 : pk a.Do = 5 := by simpa using h5
    refine crash_ st1.dr ha1.k hk0 (by omega) ?_
    intro w2 st2
    try simp only [go_sem]
    simp only [h5, if_true, if_neg (show ¬ (5 : Int) = 8 by omega), true_implies] at fin
    exact fin _ _ rfl rfl (st1.trans st2)
  have h5 : ¬ pk a.Do = 5 := by simpa using h5
  simp only [if_neg h5] at k fin
  refine ⟨fun h6 => ?_, fun h6 => ?_⟩
  · have h6 : pk a.Do = 6 := by simpa using h6
    refine lose_ st1.dr ha.n.2 ?_
    intro w2 dr2 m2 _
    try simp only [go_sem]
    simp only [h6, if_true, if_neg (show ¬ (6 : Int) = 8 by omega), true_implies] at fin
    exact fin _ _ rfl rfl (st1.trans (.of dr2 m2))
  have h6 : ¬ pk a.Do = 6 := by simpa using h6
  simp only [if_neg h6] at k fin
  refine ⟨fun h7 => ?_, fun h7 => ?_⟩
  · have h7 : pk a.Do = 7 := by simpa using h7
    refine start_ st1.dr ?_
    intro w2 dr2 m2 _
    try simp only [go_sem]
    simp only [h7, if_true, if_neg (show ¬ (7 : Int) = 8 by omega), true_implies] at fin
    exact fin _ _ rfl rfl (st1.trans (.of dr2 m2))
  have h7 : ¬ pk a.Do = 7 := by simpa using h7
  simp only [if_neg h7] at k fin
  refine ⟨fun h8 => ?_, fun h8 => ?_⟩
  · have h8 : pk a.Do = 8 := by simpa using h8
    refine read_ st1.dr a.F ?_
    intro w2 dr2 m2
    try simp only [go_sem]
    have := k w2
    simp only [h8, if_true] at this
    exact this (st1.mod0 m2)
  have h8 : ¬ pk a.Do = 8 := by simpa using h8
  simp only [if_neg h8] at k fin
  refine ⟨fun h10 => ?_, fun h10 => ?_⟩
  · have h10 : pk a.Do = 10 := by simpa using h10
    refine arm_ st1.dr ha.n.2 ha1.k (by have := ha.kl; omega) ?_
    intro w2 st2
    try simp only [go_sem]
    simp only [h10, if_true, true_implies] at fin
    exact fin _ _ rfl rfl (st1.trans st2)
  have h10 : ¬ pk a.Do = 10 := by simpa using h10
  simp only [if_neg h10, true_implies] at k fin
  exact fin _ _ rfl rfl st1

/-- the bounds of few -/
def heft (al : List Act) : Nat := (al.map fun a => a.S.length + a.ks.length).sum
theorem heft_snoc {l : List Act} {i : Nat} (h : i < l.length) : heft (l.take (i + 1)) = heft (l.take i) + (l[i].S.length + l[i].ks.length) := by
  unfold heft
  rw [List.take_succ_eq_append_getElem h, List.map_append, List.sum_append]; simp
theorem heft_le {l : List Act} {i : Nat} : heft (l.take i) ≤ heft l := by
  unfold heft
  conv => rhs; rw [← List.take_append_drop i l]
  rw [List.map_append, List.sum_append]; omega

def fits (a : Act) : Bool := !(decide (4000 ≤ a.N) && decide (a.N ≤ 16777216))
def few (al : List Act) : Bool := al.all fits && decide (al.length ≤ 200) && decide (heft al ≤ 5000)

theorem few_ {v : Value} {al : List Act} (hv : Sl w v 6 al.length (rows Act.cells al)) (ha : ∀ a ∈ al, a.OK w) (hl : al.length ≤ 1048576) (hn : heft al ≤ 4194304) (k : ∀ w', Mod none' w w' → next (.bool (few al)) w') : callvK Try.prog (.func (.func 26) #[] #[]) [v] w next QP := by
  refine r26 rfl ?_
  obtain ⟨a, c, rfl, hc, -⟩ := hv.form
  unfold h26
  try simp only [go_sem]
  refine loopN al.length (fun i τ w' => Mod none' w w' ∧ τ 0 = .slice a al.length c ∧ τ 3 = .int .i64 (heft (al.take i) : Nat) ∧ τ 4 = .int .i64 i ∧ ∀ x ∈ al.take i, fits x = true) ⟨0, by omega, Mod.refl _ _, rfl, rfl, rfl, by simp⟩ ?_
  rintro i τ w1 hi ⟨m1, t0, t3, t4, hall⟩
  unfold h26_1
  try simp only [go_sem, t0, t3, t4]
  refine ⟨fun hlt => ?_, fun hge => ?_⟩
  · have hil : i < al.length := by simpa using hlt
    obtain ⟨gb, o, c', hva', hcc, hcell⟩ := (hv.mod m1 fun _ _ h => h).get Act.cells_len rfl (by omega)
    simp only [Value.slice.injEq] at hva'
    obtain ⟨rfl, -, rfl⟩ := hva'
    have x3 : w1.cell? ⟨gb, o + i * 6 + 3, none⟩ = some (.int .i64 al[i].N) := (hcell i 3 hil (by omega)).trans rfl
    have x4 : w1.cell? ⟨gb, o + i * 6 + 4, none⟩ = some (str al[i].S) := (hcell i 4 hil (by omega)).trans rfl
    have x5 : w1.cell? ⟨gb, o + i * 6 + 5, none⟩ = some al[i].kv := (hcell i 5 hil (by omega)).trans rfl
    obtain ⟨ka, kc, hkv, -⟩ := (ha _ (List.getElem_mem hil)).k.form
    rw [hkv] at x5
    have hls := heft_snoc (l := al) hil
    have hle := heft_le (l := al) (i := i + 1)
    unfold h26_2
    try simp only [go_sem, t0, t3, t4, x3, x4, x5]
    refine ⟨⟨by omega, by omega⟩, fun _ => ⟨by omega, by omega⟩, ?_⟩
    have hfits : (if decide (4000 ≤ al[i].N) = true then decide (al[i].N ≤ 16777216) else false) = !fits al[i] := by
      unfold fits; cases decide (4000 ≤ al[i].N) <;> simp
    rw [hfits]
    refine ⟨fun hbad => ?_, fun hgood => ?_⟩
    · have hbad : fits al[i] = false := by simpa using hbad
      have : few al = false := by
        unfold few
        have : al.all fits = false := by
          rw [List.all_eq_false]; exact ⟨al[i], List.getElem_mem hil, by simp [hbad]⟩
        simp [this]
      have k' := k w1 m1; rw [this] at k'; exact k'
    · have hgood : fits al[i] = true := by simpa using hgood
      unfold h26_3
      try simp only [go_sem, t0, t3, t4, x3, x4, x5]
      refine ⟨⟨by omega, by omega⟩, ?_⟩
      unfold h26_4
      try simp only [go_sem, t0, t3, t4]
      rw [w64 (x := (heft (al.take i) : Int) + (al[i].S.length : Int)) (by omega) (by omega), w64 (x := (heft (al.take i) : Int) + (al[i].S.length : Int) + (al[i].ks.length : Int)) (by omega) (by omega), w64 (x := (i : Int) + 1) (by omega) (by omega)]
      refine ⟨⟨by omega, by omega⟩, i + 1, by omega, by omega, m1.trans' (Mod.drew _ _), ?_, rfl, ?_⟩
      · congr 1; omega
      · rw [List.take_succ_eq_append_getElem hil]
        intro x hx
        rcases List.mem_append.1 hx with h | h
        · exact hall x h
        · rw [List.mem_singleton.1 h]; exact hgood
  · have hge' : al.length ≤ i := by simpa using hge
    rw [List.take_of_length_le hge'] at t3 hall
    unfold h26_5
    try simp only [go_sem, t0, t3, t4]
    have : (if decide ((al.length : Int) ≤ 200) = true then decide ((heft al : Int) ≤ 5000) else false) = few al := by
      unfold few
      rw [List.all_eq_true.2 hall]
      have e1 : decide ((al.length : Int) ≤ 200) = decide (al.length ≤ 200) := by congr 1; apply propext; omega
      have e2 : decide ((heft al : Int) ≤ 5000) = decide (heft al ≤ 5000) := by congr 1; apply propext; omega
      rw [e1, e2]
      cases decide (al.length ≤ 200) <;> simp
    rw [this]; exact k w1 m1
end
end Go.Proofs.Y
