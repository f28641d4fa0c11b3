/- RF: the reference's disk: arm, crash, the scheduled crash. -/
import Derived.Test.YtgalileklafbbaaRE
set_option linter.unusedSimpArgs false
set_option linter.unusedVariables false
set_option maxRecDepth 100000
namespace Go.Proofs.Y
open Go Go.HL Go.Proofs

section
variable {w : World} {next : Value → World → Prop} {QP : List PanicEntry → World → Prop} {p : Nat} {d : Dk} {S : Nat → Prop}

theorem rarm_ (h : RR w p d S) {n : Int} (hn : n ≤ 9223372036854775807) {v : Value} {l : List Int} {m : Nat} (hv : Sl w v 1 m (ints l)) (hvp : 0 < m → v.ownBlock ≠ some p) (hm : m ≤ 9000000000000) (k : ∀ w', RT S w w' p (d.arm n l) → next (.tuple #[]) w') :
    callvK Try.prog (.func (.func 77) #[] #[]) [ptr p, .int .i64 n, v] w next QP := by
  refine r77 rfl ?_
  obtain ⟨lv, qv, kv, hb, hl, hq, hk, h1, h2, h3, c0, c1, c2, c3, c4, c5⟩ := h.parts
  have e : (if n < 0 then 0 else n) = (n.toNat : Int) := by split <;> omega
  unfold h77
  try simp only [go_sem, ↓reduceIte, Nat.reduceEqDiff, Nat.reduceAdd, Nat.reduceLT, List.length_cons, List.length_nil, List.getElem?_cons_zero, List.getElem?_cons_succ, Nat.mul_one, Bool.true_eq_false, Bool.false_eq_true, false_implies, true_implies, Bool.not_true, Bool.not_false, decide_true, decide_false, Int.reduceToNat, Int.cast_ofNat_Int, Int.reduceLT, Int.reduceLE, Int.reduceEq, Int.reduceNeg, eq_self, Option.isNone_some, Option.isNone_none, Bool.bne_false, Bool.bne_true]
  refine store1 sz3 hb (by simp) rfl ?_
  intro w1 hb1 m1 hs1
  try simp only [go_sem, ↓reduceIte, Nat.reduceEqDiff, Nat.reduceAdd, Nat.reduceLT, List.length_cons, List.length_nil, List.getElem?_cons_zero, List.getElem?_cons_succ, Nat.mul_one, Bool.true_eq_false, Bool.false_eq_true, false_implies, true_implies, Bool.not_true, Bool.not_false, decide_true, decide_false, Int.reduceToNat, Int.cast_ofNat_Int, Int.reduceLT, Int.reduceLE, Int.reduceEq, Int.reduceNeg, eq_self, Option.isNone_some, Option.isNone_none, Bool.bne_false, Bool.bne_true]
  refine bsl0 sl22 ?_
  intro b2 w2 hb2 own2 m2 hs2
  refine append_ sl22 own2 ((hv.mod' m1 fun hm k hk (e : k = p) => hvp hm (e ▸ hk)).mod m2 fun _ _ h => h) (by intro u hu; obtain ⟨x, -, rfl⟩ := List.mem_map.1 hu; rfl) (by omega) (by unfold maxLen; omega) ?_
  intro v3 w3 own3 m3 hb3 _
  obtain ⟨ua, uc, rfl, -, -⟩ := own3.form
  have hpb : p < w.heap.size := hb.lt
  have hbS : ∀ k, ownS (.slice (some ⟨b2, 0, none⟩) 0 0) k → w.heap.size ≤ k := by
    intro k hk
    have : b2 = k := by simpa [ownS, Value.ownBlock] using hk
    omega
  have hb3p : Blk w3 p 99 _ := (hb1.mod m2 fun h => h).mod m3 fun hS => by have := hbS p hS; omega
  refine store1 sz22 hb3p (by simp) rfl ?_
  intro w4 hb4 m4 hs4
  try simp only [go_sem, ↓reduceIte, Nat.reduceEqDiff, Nat.reduceAdd, Nat.reduceLT, List.length_cons, List.length_nil, List.getElem?_cons_zero, List.getElem?_cons_succ, Nat.mul_one, Bool.true_eq_false, Bool.false_eq_true, false_implies, true_implies, Bool.not_true, Bool.not_false, decide_true, decide_false, Int.reduceToNat, Int.cast_ofNat_Int, Int.reduceLT, Int.reduceLE, Int.reduceEq, Int.reduceNeg, eq_self, Option.isNone_some, Option.isNone_none, Bool.bne_false, Bool.bne_true]
  have hnew : ∀ k, (Value.slice ua (0 + m) uc).ownBlock = some k → w.heap.size ≤ k := by
    intro k hk
    rcases hb3 k hk with h' | h'
    · exact hbS k h'
    · have := m2.size; omega
  have keep : ∀ {u : Value} {e n : Nat} {xs : List Value}, Own w u e 1 n xs → (∀ k, u.ownBlock = some k → k ≠ p) → Own w4 u e 1 n xs := by
    intro u e n xs ho hp
    exact (((ho.mod m1 fun k hk (e : k = p) => hp k hk e).mod m2 fun _ _ h => h).mod m3 fun k hk hS => by have := hbS k hS; have := ho.lt k hk; omega).mod m4 fun k hk (e : k = p) => hp k hk e
  have hq4 : Own w4 qv 118 3 d.queue.length (rows Pd.cells d.queue) := (((hq.mod m1 fun k hk (e : k = p) => (h2 k hk).2.1 e).mod m2 fun _ _ h => h).mod m3 fun k hk hS => by have := hbS k hS; have := hq.lt k hk; omega).mod m4 fun k hk (e : k = p) => (h2 k hk).2.1 e
  have hlen : m = l.length := by have := hv.len; rw [ints_len] at this; omega
  refine k _ (.build (d' := d.arm n l) (lv := lv) (qv := qv) (kv := .slice ua (0 + m) uc) h ?_ ⟨h.ok.nl, h.ok.nf, h.ok.bl, h.ok.bf, h.ok.bq, h.ok.lost, by simp only [Dk.arm]; omega⟩ h.sync ?_ (keep hl fun k hk => (h1 k hk).2.1) hq4 ?_ (fun k hk' => .inl (h1 k hk').1) (fun k hk' => .inl (h2 k hk').1) (fun k hk' => .inr (hnew k hk')))
  · exact (((m1.mono fun k _ (e : k = p) => e ▸ h.self).trans m2 fun _ _ h => h.elim).trans m3 fun k hk hS => by have := hbS k hS; omega).trans m4 fun k _ (e : k = p) => e ▸ h.self
  · simpa [e, Dk.arm] using hb4
  · have := own3.mod m4 fun k hk' (e : k = p) => by have := hnew k hk'; omega
    simpa [Dk.arm, hlen] using this

/-- the disk that went down, its files not yet worked out -/
def Dk.fell (d : Dk) : Dk := { d with down := true, armed := 0 }

theorem rcrash_ (h : RR w p d S) {v : Value} {ks : List Int} {n : Nat} (hv : Sl w v 1 n (ints ks)) (hvp : 0 < n → v.ownBlock ≠ some p) (hqn : d.queue.length ≤ 1000000000000) (k : ∀ w', RT S w w' p (d.crash ks) → next (.tuple #[]) w') :
    callvK Try.prog (.func (.func 59) #[] #[]) [ptr p, v] w next QP := by
  refine r59 rfl ?_
  obtain ⟨lv, qv, kv, hb, hl, hq, hk, h1, h2, h3, c0, c1, c2, c3, c4, c5⟩ := h.parts
  unfold h59
  try simp only [go_sem, ↓reduceIte, Nat.reduceEqDiff, Nat.reduceAdd, Nat.reduceLT, List.length_cons, List.length_nil, List.getElem?_cons_zero, List.getElem?_cons_succ, Nat.mul_one, Bool.true_eq_false, Bool.false_eq_true, false_implies, true_implies, Bool.not_true, Bool.not_false, decide_true, decide_false, Int.reduceToNat, Int.cast_ofNat_Int, Int.reduceLT, Int.reduceLE, Int.reduceEq, Int.reduceNeg, eq_self, Option.isNone_some, Option.isNone_none, Bool.bne_false, Bool.bne_true, c3]
  refine ⟨fun hd => ?_, fun hd => ?_⟩
  · have : d.crash ks = d := by simp [Dk.crash, hd]
    refine k _ ?_
    rw [this]; exact .refl h
  unfold h59_1
  try simp only [go_sem, ↓reduceIte, Nat.reduceEqDiff, Nat.reduceAdd, Nat.reduceLT, List.length_cons, List.length_nil, List.getElem?_cons_zero, List.getElem?_cons_succ, Nat.mul_one, Bool.true_eq_false, Bool.false_eq_true, false_implies, true_implies, Bool.not_true, Bool.not_false, decide_true, decide_false, Int.reduceToNat, Int.cast_ofNat_Int, Int.reduceLT, Int.reduceLE, Int.reduceEq, Int.reduceNeg, eq_self, Option.isNone_some, Option.isNone_none, Bool.bne_false, Bool.bne_true]
  refine store1 sz4 hb (by simp) rfl ?_
  intro w1 hb1 m1 hs1
  try simp only [go_sem, ↓reduceIte, Nat.reduceEqDiff, Nat.reduceAdd, Nat.reduceLT, List.length_cons, List.length_nil, List.getElem?_cons_zero, List.getElem?_cons_succ, Nat.mul_one, Bool.true_eq_false, Bool.false_eq_true, false_implies, true_implies, Bool.not_true, Bool.not_false, decide_true, decide_false, Int.reduceToNat, Int.cast_ofNat_Int, Int.reduceLT, Int.reduceLE, Int.reduceEq, Int.reduceNeg, eq_self, Option.isNone_some, Option.isNone_none, Bool.bne_false, Bool.bne_true]
  refine store1 sz3 hb1 (by simp) rfl ?_
  intro w2 hb2 m2 hs2
  have m12 : Mod (fun k => k = p) w w2 := m1.trans' m2
  have hv2 : Sl w2 v 1 n (ints ks) := hv.mod' m12 fun hn k hk (e : k = p) => hvp hn (e ▸ hk)
  have hb2 : Blk w2 p 99 [lv, qv, .int .i64 d.lost, .bool true, .int .i64 0, kv] := by simpa using hb2
  have h' : RR w2 p d.fell S := h.again m12 ⟨h.ok.nl, h.ok.nf, h.ok.bl, h.ok.bf, h.ok.bq, h.ok.lost, by simp [Dk.fell]⟩ h.sync hb2 hl hq hk (fun k hk => ⟨(h1 k hk).1, (h1 k hk).2.1⟩) (fun k hk => ⟨(h2 k hk).1, (h2 k hk).2.1⟩) (fun k hk => ⟨(h3 k hk).1, (h3 k hk).2.1⟩)
  have hcr : d.crash ks = ⟨survs d.lasts d.queue ks, survs d.lasts d.queue ks, [], d.lost, true, 0, d.keep⟩ := by simp [Dk.crash, hd]
  have hpw := hb.lt
  try simp only [go_sem, ↓reduceIte, Nat.reduceEqDiff, Nat.reduceAdd, Nat.reduceLT, List.length_cons, List.length_nil, List.getElem?_cons_zero, List.getElem?_cons_succ, Nat.mul_one, Bool.true_eq_false, Bool.false_eq_true, false_implies, true_implies, Bool.not_true, Bool.not_false, decide_true, decide_false, Int.reduceToNat, Int.cast_ofNat_Int, Int.reduceLT, Int.reduceLE, Int.reduceEq, Int.reduceNeg, eq_self, Option.isNone_some, Option.isNone_none, Bool.bne_false, Bool.bne_true]
  refine loopN 12 (fun i τ w' => τ 0 = ptr p ∧ τ 1 = v ∧ τ 5 = .int .i64 i ∧ Mod none' w2 w' ∧ ∃ v4, τ 4 = v4 ∧ Own w' v4 9 1 i (((survs d.lasts d.queue ks).take i).map str) ∧ (∀ k, v4.ownBlock = some k → w2.heap.size ≤ k))
    ⟨0, by omega, rfl, rfl, rfl, Mod.refl _ _, .slice none 0 0, rfl, Own.nil _ _ _, fun k hk => (nomatch (hk : none = some k))⟩ ?_
  rintro i τ w3 hi ⟨t0, t1, t5, m3, v4, t4, hv4, hvn⟩
  unfold h59_2
  try simp only [go_sem, ↓reduceIte, Nat.reduceEqDiff, Nat.reduceAdd, Nat.reduceLT, List.length_cons, List.length_nil, List.getElem?_cons_zero, List.getElem?_cons_succ, Nat.mul_one, Bool.true_eq_false, Bool.false_eq_true, false_implies, true_implies, Bool.not_true, Bool.not_false, decide_true, decide_false, Int.reduceToNat, Int.cast_ofNat_Int, Int.reduceLT, Int.reduceLE, Int.reduceEq, Int.reduceNeg, eq_self, Option.isNone_some, Option.isNone_none, Bool.bne_false, Bool.bne_true, t0, t1, t4, t5]
  refine ⟨fun hlt => ?_, fun hge => ?_⟩
  · have hi12 : i < 12 := by have : (i : Int) < 12 := by simpa using hlt
                             omega
    unfold h59_3
    try simp only [go_sem, ↓reduceIte, Nat.reduceEqDiff, Nat.reduceAdd, Nat.reduceLT, List.length_cons, List.length_nil, List.getElem?_cons_zero, List.getElem?_cons_succ, Nat.mul_one, Bool.true_eq_false, Bool.false_eq_true, false_implies, true_implies, Bool.not_true, Bool.not_false, decide_true, decide_false, Int.reduceToNat, Int.cast_ofNat_Int, Int.reduceLT, Int.reduceLE, Int.reduceEq, Int.reduceNeg, eq_self, Option.isNone_some, Option.isNone_none, Bool.bne_false, Bool.bne_true, t0, t1, t4, t5]
    refine rafter_ (h'.mod0 m3) hi12 (hv2.mod m3 fun _ _ h => h) (by simpa [Dk.fell] using hqn) ?_
    intro w4 m4
    have hsv : survF (d.fell.last i) d.fell.queue ks i = (survs d.lasts d.queue ks).getD i [] := (survF_eq hi12 d.queue d.lasts ks h.ok.nl).symm
    rw [hsv]
    refine bsl1 sl40 (cs := [str ((survs d.lasts d.queue ks).getD i [])]) rfl rfl (by omega) ?_
    intro b5 w5 hb5 own5 _ m5 _
    refine append_ sl40 ((hv4.mod m4 fun _ _ h => h).mod m5 fun _ _ h => h) own5.sl (by intro u hu; rw [List.mem_singleton.1 hu]; rfl) (by omega) (by unfold maxLen; omega) ?_
    intro v6 w6 own6 m6 hb6 _
    unfold h59_4
    try simp only [go_sem, ↓reduceIte, Nat.reduceEqDiff, Nat.reduceAdd, Nat.reduceLT, List.length_cons, List.length_nil, List.getElem?_cons_zero, List.getElem?_cons_succ, Nat.mul_one, Bool.true_eq_false, Bool.false_eq_true, false_implies, true_implies, Bool.not_true, Bool.not_false, decide_true, decide_false, Int.reduceToNat, Int.cast_ofNat_Int, Int.reduceLT, Int.reduceLE, Int.reduceEq, Int.reduceNeg, eq_self, Option.isNone_some, Option.isNone_none, Bool.bne_false, Bool.bne_true, t0, t1, t4, t5]
    rw [w64 (by omega) (by omega)]
    refine ⟨i + 1, by omega, by omega, rfl, ((m3.trans' m4).trans' m5).trans m6 fun k hk hS => ?_, v6, rfl, ?_, ?_⟩
    · have := hvn k hS; omega
    · have hl12 : (survs d.lasts d.queue ks).length = 12 := by rw [survs_len]; exact h.ok.nl
      have : ((survs d.lasts d.queue ks).take (i + 1)).map str = ((survs d.lasts d.queue ks).take i).map str ++ [str ((survs d.lasts d.queue ks).getD i [])] := by
        rw [List.take_succ_eq_append_getElem (by omega), List.map_append]
        congr 1
        simp [hl12, hi12]
      rw [this]; exact own6
    · intro k hk
      rcases hb6 k hk with h | h
      · exact hvn k h
      · have := m3.size; have := m4.size; have := m5.size; omega
  · have hio : i = 12 := by have : ¬ (i : Int) < 12 := by simpa using hge
                            omega
    subst hio
    obtain ⟨ua, uc, rfl, -, -⟩ := hv4.form
    have hb3 := hb2.mod m3 fun h => h
    unfold h59_5
    try simp only [go_sem, ↓reduceIte, Nat.reduceEqDiff, Nat.reduceAdd, Nat.reduceLT, List.length_cons, List.length_nil, List.getElem?_cons_zero, List.getElem?_cons_succ, Nat.mul_one, Bool.true_eq_false, Bool.false_eq_true, false_implies, true_implies, Bool.not_true, Bool.not_false, decide_true, decide_false, Int.reduceToNat, Int.cast_ofNat_Int, Int.reduceLT, Int.reduceLE, Int.reduceEq, Int.reduceNeg, eq_self, Option.isNone_some, Option.isNone_none, Bool.bne_false, Bool.bne_true, t0, t1, t4, t5]
    refine store1 sz40 hb3 (by simp) rfl ?_
    intro w4 hb4 m4 hs4
    try simp only [go_sem, ↓reduceIte, Nat.reduceEqDiff, Nat.reduceAdd, Nat.reduceLT, List.length_cons, List.length_nil, List.getElem?_cons_zero, List.getElem?_cons_succ, Nat.mul_one, Bool.true_eq_false, Bool.false_eq_true, false_implies, true_implies, Bool.not_true, Bool.not_false, decide_true, decide_false, Int.reduceToNat, Int.cast_ofNat_Int, Int.reduceLT, Int.reduceLE, Int.reduceEq, Int.reduceNeg, eq_self, Option.isNone_some, Option.isNone_none, Bool.bne_false, Bool.bne_true]
    refine store1 sz97 hb4 (by simp) rfl ?_
    intro w5 hb5 m5 hs5
    try simp only [go_sem, ↓reduceIte, Nat.reduceEqDiff, Nat.reduceAdd, Nat.reduceLT, List.length_cons, List.length_nil, List.getElem?_cons_zero, List.getElem?_cons_succ, Nat.mul_one, Bool.true_eq_false, Bool.false_eq_true, false_implies, true_implies, Bool.not_true, Bool.not_false, decide_true, decide_false, Int.reduceToNat, Int.cast_ofNat_Int, Int.reduceLT, Int.reduceLE, Int.reduceEq, Int.reduceNeg, eq_self, Option.isNone_some, Option.isNone_none, Bool.bne_false, Bool.bne_true]
    have hl12 : (survs d.lasts d.queue ks).length = 12 := by rw [survs_len]; exact h.ok.nl
    have m45 : Mod (fun k => k = p) w3 w5 := m4.trans' m5
    have hnp : ∀ k, (Value.slice ua 12 uc).ownBlock = some k → k ≠ p := by
      intro k hk e
      have := hvn k hk
      have := m12.size
      omega
    have mw : Mod S w w5 := ((m12.mono fun k _ (e : k = p) => e ▸ h.self).trans m3 fun _ _ h => h.elim).trans m45 fun k _ (e : k = p) => e ▸ h.self
    refine k _ (.build (lv := .slice ua 12 uc) (qv := .slice none 0 0) (kv := kv) h mw (h.ok.crash ks) (h.sync.crash ks) ?_ ?_ ?_ ?_ (fun k hk => .inr ?_) (fun k hk => (nomatch (hk : none = some k))) (fun k hk' => .inl (h3 k hk').1))
    · rw [hcr]; simpa using hb5
    · rw [hcr]; rw [List.take_of_length_le (by omega)] at hv4; exact hv4.mod m45 fun k hk e => hnp k hk e
    · rw [hcr]; exact Own.nil _ _ _
    · rw [hcr]
      exact ((hk.mod m12 fun k hk (e : k = p) => (h3 k hk).2.1 e).mod m3 fun _ _ h => h).mod m45 fun k hk (e : k = p) => (h3 k hk).2.1 e
    · have := hvn k hk; have := m12.size; omega
end
end Go.Proofs.Y
