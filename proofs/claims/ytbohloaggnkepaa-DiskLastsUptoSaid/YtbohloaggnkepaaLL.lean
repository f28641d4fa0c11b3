/- LL: DiskLasts: the end. -/
import Derived.Test.YtbohloaggnkepaaLK
set_option linter.unusedSimpArgs false
set_option linter.unusedVariables false
namespace Go.Proofs.Y
open Go Go.HL Go.Proofs
section
variable {w0 : World} {next : Value → World → Prop}

/-- the lengths of the files -/
def sizes (d : Dk) : List Int := d.files.map fun s => (s.length : Int)

/-- the last loop -/
theorem last_loop {w1 : World} {p : Nat} {D : Dk} {F : FP} {sv nv wv : Value} {safe : List Bytes} {al : List Act} {σ : Env} {ls : List Int} (h : LS w0 w1 p D F sv nv safe al) (hwv : Own w1 wv 3 1 12 (ints ls)) (hup : D.down = false)
    (hsafe : safe.length = 12) (hH : ∀ f, f < 12 → Here (D.file f) (safe.getD f []) al f) (hL : ∀ f, f < 12 → ∃ n : Int, ls[f]? = some n ∧ ((D.file f).length : Int) ≤ n) (hN : ∀ a ∈ al, 0 ≤ a.N ∧ a.N < 4000) (hn : al.length ≤ 1048576)
    (s5 : σ 5 = .bool true) (s6 : σ 6 = ptr p) (s7 : σ 7 = sv) (s8 : σ 8 = nv) (s18 : σ 18 = wv) (s20 : σ 20 = .int .i64 0) (k : ∀ w', Mod none' w0 w' → next (.bool true) w') :
    hloop (hw Try.prog noPanic h5_19) (blockX 6 (seqX (hw Try.prog noPanic h5_22 (endV [.tmp 4] next)) (endV [.tmp 4] next))) σ w1 := by
  have ok := h.dr.ok
  have hll : ls.length = 12 := by have := hwv.len; rw [ints_len] at this; omega
  obtain ⟨wa, wc, rfl, hwc, -⟩ := hwv.form
  refine loopN 12 (fun i τ w' => τ 5 = .bool true ∧ τ 6 = ptr p ∧ τ 7 = sv ∧ τ 8 = nv ∧ τ 18 = .slice wa 12 wc ∧ τ 20 = .int .i64 i ∧ Mod none' w1 w') ⟨0, by omega, s5, s6, s7, s8, s18, s20, Mod.refl _ _⟩ ?_
  rintro i τ w2 hi ⟨t5, t6, t7, t8, t18, t20, m⟩
  have h2 := h.mod0 m
  unfold h5_19
  try simp only [go_sem, ↓reduceIte, Nat.reduceEqDiff, Nat.reduceAdd, Nat.reduceLT, List.length_cons, List.length_nil, List.getElem?_cons_zero, List.getElem?_cons_succ, Nat.mul_one, Bool.true_eq_false, Bool.false_eq_true, false_implies, true_implies, Bool.not_true, Bool.not_false, decide_true, decide_false, Int.reduceToNat, Int.cast_ofNat_Int, Int.reduceLT, Int.reduceLE, Int.reduceEq, Int.reduceNeg, eq_self, Option.isNone_some, Option.isNone_none, Bool.bne_false, Bool.bne_true, t5, t6, t7, t8, t18, t20]
  refine ⟨fun hlt => ?_, fun hge => ?_⟩
  · have hi12 : i < 12 := by have : (i : Int) < 12 := by simpa using hlt
                             omega
    have hm : D.may [(i : Int)] = 0 := by
      have : isF (i : Int) = true := by simp [isF]; omega
      simp [Dk.may, hup, this]
    have hr : D.read (i : Int) = D.file i := by simp only [Dk.read, hm]; rfl
    unfold h5_20
    try simp only [go_sem, ↓reduceIte, Nat.reduceEqDiff, Nat.reduceAdd, Nat.reduceLT, List.length_cons, List.length_nil, List.getElem?_cons_zero, List.getElem?_cons_succ, Nat.mul_one, Bool.true_eq_false, Bool.false_eq_true, false_implies, true_implies, Bool.not_true, Bool.not_false, decide_true, decide_false, Int.reduceToNat, Int.cast_ofNat_Int, Int.reduceLT, Int.reduceLE, Int.reduceEq, Int.reduceNeg, eq_self, Option.isNone_some, Option.isNone_none, Bool.bne_false, Bool.bne_true, t5, t6, t7, t8, t18, t20]
    refine read_ h2.dr i ?_
    intro w3 _ m3
    have h2 := h2.mod0 m3
    have m := m.trans' m3
    rw [hr, hm]
    obtain ⟨g, c, rfl, cs, -⟩ := h2.set (next := fun _ _ => True) (QP := noPanic) hi12 []
    try simp only [go_sem, ↓reduceIte, Nat.reduceEqDiff, Nat.reduceAdd, Nat.reduceLT, List.length_cons, List.length_nil, List.getElem?_cons_zero, List.getElem?_cons_succ, Nat.mul_one, Bool.true_eq_false, Bool.false_eq_true, false_implies, true_implies, Bool.not_true, Bool.not_false, decide_true, decide_false, Int.reduceToNat, Int.cast_ofNat_Int, Int.reduceLT, Int.reduceLE, Int.reduceEq, Int.reduceNeg, eq_self, Option.isNone_some, Option.isNone_none, Bool.bne_false, Bool.bne_true, t5, t6, t7, t8, t18, t20, cs]
    refine ⟨⟨by omega, by omega⟩, ?_⟩
    refine here_ (hH i hi12) (getD_le ok.bf i) h2.nown.sl hn hN ?_
    intro w4 m4
    have m := m.trans' m4
    obtain ⟨n, hln, hle⟩ := hL i hi12
    obtain ⟨-, wa', wc', e', -, hwc1⟩ := (hwv.mod m fun _ _ h => h).sl
    simp only [Value.slice.injEq] at e'
    obtain ⟨rfl, -, rfl⟩ := e'
    obtain ⟨wb, wo, rfl, hwc2⟩ := hwc1 (by omega)
    have cw : w4.cell? ⟨wb, wo + i, none⟩ = some (.int .i64 n) := by rw [hwc2 i (by omega)]; simp [ints, hln]
    have e1 : decide (n < ((D.file i).length : Int)) = false := by simp; omega
    try simp only [go_sem, ↓reduceIte, Nat.reduceEqDiff, Nat.reduceAdd, Nat.reduceLT, List.length_cons, List.length_nil, List.getElem?_cons_zero, List.getElem?_cons_succ, Nat.mul_one, Bool.true_eq_false, Bool.false_eq_true, false_implies, true_implies, Bool.not_true, Bool.not_false, decide_true, decide_false, Int.reduceToNat, Int.cast_ofNat_Int, Int.reduceLT, Int.reduceLE, Int.reduceEq, Int.reduceNeg, eq_self, Option.isNone_some, Option.isNone_none, Bool.bne_false, Bool.bne_true, t5, t6, t7, t8, t18, t20, cw, e1]
    refine ⟨⟨by omega, by omega⟩, ?_⟩
    unfold h5_21
    try simp only [go_sem, ↓reduceIte, Nat.reduceEqDiff, Nat.reduceAdd, Nat.reduceLT, List.length_cons, List.length_nil, List.getElem?_cons_zero, List.getElem?_cons_succ, Nat.mul_one, Bool.true_eq_false, Bool.false_eq_true, false_implies, true_implies, Bool.not_true, Bool.not_false, decide_true, decide_false, Int.reduceToNat, Int.cast_ofNat_Int, Int.reduceLT, Int.reduceLE, Int.reduceEq, Int.reduceNeg, eq_self, Option.isNone_some, Option.isNone_none, Bool.bne_false, Bool.bne_true, t5, t6, t7, t8, t18, t20]
    rw [w64 (by omega) (by omega)]
    exact ⟨i + 1, by omega, by omega, rfl, m⟩
  · unfold h5_22
    try simp only [go_sem, ↓reduceIte, Nat.reduceEqDiff, Nat.reduceAdd, Nat.reduceLT, List.length_cons, List.length_nil, List.getElem?_cons_zero, List.getElem?_cons_succ, Nat.mul_one, Bool.true_eq_false, Bool.false_eq_true, false_implies, true_implies, Bool.not_true, Bool.not_false, decide_true, decide_false, Int.reduceToNat, Int.cast_ofNat_Int, Int.reduceLT, Int.reduceLE, Int.reduceEq, Int.reduceNeg, eq_self, Option.isNone_some, Option.isNone_none, Bool.bne_false, Bool.bne_true, t5, t6, t7, t8, t18, t20]
    exact k _ (h.mod.trans' m)

theorem lasts_end {w1 : World} {p N M : Nat} {D : Dk} {F : FP} {sv nv kv : Value} {safe : List Bytes} {al : List Act} {σ : Env} {ks : List Int} {m : Nat} (h : RI w0 w1 p sv nv N M D F safe al) (hk : Sl w0 kv 1 m (ints ks)) (hkp : 0 < m → kv.ownBlock ≠ some p)
    (hNb : N ≤ 1048576) (hMb : M ≤ 100000) (s1 : σ 1 = kv) (s5 : σ 5 = .bool true) (s6 : σ 6 = ptr p) (s7 : σ 7 = sv) (s8 : σ 8 = nv) (k : ∀ w', Mod none' w0 w' → next (.bool true) w') :
    hw Try.prog noPanic h5_14 (endV [.tmp 4] next) σ w1 := by
  have hq := h.q
  unfold h5_14
  try simp only [go_sem, ↓reduceIte, Nat.reduceEqDiff, Nat.reduceAdd, Nat.reduceLT, List.length_cons, List.length_nil, List.getElem?_cons_zero, List.getElem?_cons_succ, Nat.mul_one, Bool.true_eq_false, Bool.false_eq_true, false_implies, true_implies, Bool.not_true, Bool.not_false, decide_true, decide_false, Int.reduceToNat, Int.cast_ofNat_Int, Int.reduceLT, Int.reduceLE, Int.reduceEq, Int.reduceNeg, eq_self, Option.isNone_some, Option.isNone_none, Bool.bne_false, Bool.bne_true, s1, s5, s6, s7, s8]
  refine arm_ h.ls.dr (n := 0) (by omega) (v := .slice none 0 0) (l := []) (m := 0) sl_nil (by omega) ?_
  intro w2 st
  have hl := h.ls.step st
  try simp only [go_sem, ↓reduceIte, Nat.reduceEqDiff, Nat.reduceAdd, Nat.reduceLT, List.length_cons, List.length_nil, List.getElem?_cons_zero, List.getElem?_cons_succ, Nat.mul_one, Bool.true_eq_false, Bool.false_eq_true, false_implies, true_implies, Bool.not_true, Bool.not_false, decide_true, decide_false, Int.reduceToNat, Int.cast_ofNat_Int, Int.reduceLT, Int.reduceLE, Int.reduceEq, Int.reduceNeg, eq_self, Option.isNone_some, Option.isNone_none, Bool.bne_false, Bool.bne_true, s1, s5, s6, s7, s8]
  refine start_ hl.dr ?_
  intro w3 dr m3 _
  have hl := hl.step (.of dr m3)
  have hI : LInv (D.arm 0 []).start safe al := ⟨h.inv.nl, h.inv.nf, h.inv.last, h.inv.q, h.inv.fl⟩
  have hup : (D.arm 0 []).start.down = false := rfl
  have hq1 : (D.arm 0 []).start.queue.length ≤ 100000 := by show D.queue.length ≤ _; omega
  obtain ⟨F1, hl⟩ : ∃ F1, LS w0 w3 p (D.arm 0 []).start F1 sv nv safe al := ⟨_, hl⟩
  generalize (D.arm 0 []).start = D1 at hl hI hup hq1
  try simp only [go_sem, ↓reduceIte, Nat.reduceEqDiff, Nat.reduceAdd, Nat.reduceLT, List.length_cons, List.length_nil, List.getElem?_cons_zero, List.getElem?_cons_succ, Nat.mul_one, Bool.true_eq_false, Bool.false_eq_true, false_implies, true_implies, Bool.not_true, Bool.not_false, decide_true, decide_false, Int.reduceToNat, Int.cast_ofNat_Int, Int.reduceLT, Int.reduceLE, Int.reduceEq, Int.reduceNeg, eq_self, Option.isNone_some, Option.isNone_none, Bool.bne_false, Bool.bne_true, s1, s5, s6, s7, s8]
  have nf := hI.nf
  have hsz : (sizes D1).length = 12 := by simp [sizes, nf]
  have hFlt := hl.dr.lt
  have hFsub := hl.dr.sub
  refine loopN 12 (fun i τ w' => τ 1 = kv ∧ τ 5 = .bool true ∧ τ 6 = ptr p ∧ τ 7 = sv ∧ τ 8 = nv ∧ τ 19 = .int .i64 i ∧ Mod none' w3 w' ∧ ∃ wv, τ 18 = wv ∧ Own w' wv 3 1 i (ints ((sizes D1).take i)) ∧ (∀ k, wv.ownBlock = some k → w3.heap.size ≤ k))
    ⟨0, by omega, s1, s5, s6, s7, s8, rfl, Mod.refl _ _, _, rfl, Own.nil _ _ _, (fun k hk => nomatch (hk : none = some k))⟩ ?_
  rintro i τ w4 hi ⟨t1, t5, t6, t7, t8, t19, m, wv, t18, hown, hfr⟩
  unfold h5_15
  try simp only [go_sem, ↓reduceIte, Nat.reduceEqDiff, Nat.reduceAdd, Nat.reduceLT, List.length_cons, List.length_nil, List.getElem?_cons_zero, List.getElem?_cons_succ, Nat.mul_one, Bool.true_eq_false, Bool.false_eq_true, false_implies, true_implies, Bool.not_true, Bool.not_false, decide_true, decide_false, Int.reduceToNat, Int.cast_ofNat_Int, Int.reduceLT, Int.reduceLE, Int.reduceEq, Int.reduceNeg, eq_self, Option.isNone_some, Option.isNone_none, Bool.bne_false, Bool.bne_true, t1, t5, t6, t7, t8, t18, t19]
  refine ⟨fun hlt => ?_, fun hge => ?_⟩
  · have hi12 : i < 12 := by have : (i : Int) < 12 := by simpa using hlt
                             omega
    have hsi : D1.size (i : Int) = (D1.file i).length := by
      have : isF (i : Int) = true := by simp [isF]; omega
      simp [Dk.size, this]
    unfold h5_16
    try simp only [go_sem, ↓reduceIte, Nat.reduceEqDiff, Nat.reduceAdd, Nat.reduceLT, List.length_cons, List.length_nil, List.getElem?_cons_zero, List.getElem?_cons_succ, Nat.mul_one, Bool.true_eq_false, Bool.false_eq_true, false_implies, true_implies, Bool.not_true, Bool.not_false, decide_true, decide_false, Int.reduceToNat, Int.cast_ofNat_Int, Int.reduceLT, Int.reduceLE, Int.reduceEq, Int.reduceNeg, eq_self, Option.isNone_some, Option.isNone_none, Bool.bne_false, Bool.bne_true, t1, t5, t6, t7, t8, t18, t19]
    refine size_ (hl.mod0 m).dr i ?_
    rw [hsi]
    try simp only [go_sem, ↓reduceIte, Nat.reduceEqDiff, Nat.reduceAdd, Nat.reduceLT, List.length_cons, List.length_nil, List.getElem?_cons_zero, List.getElem?_cons_succ, Nat.mul_one, Bool.true_eq_false, Bool.false_eq_true, false_implies, true_implies, Bool.not_true, Bool.not_false, decide_true, decide_false, Int.reduceToNat, Int.cast_ofNat_Int, Int.reduceLT, Int.reduceLE, Int.reduceEq, Int.reduceNeg, eq_self, Option.isNone_some, Option.isNone_none, Bool.bne_false, Bool.bne_true, t1, t5, t6, t7, t8, t18, t19]
    refine bsl1 sl22 rfl rfl (by omega) ?_
    intro b5 w5 hb5 own5 _ m5 _
    refine append_ sl22 (hown.mod m5 fun _ _ h => h) own5.sl (by intro u hu; rw [List.mem_singleton.1 hu]; rfl) (by omega) (by unfold maxLen; omega) ?_
    intro v6 w6 own6 m6 hb6 _
    unfold h5_17
    try simp only [go_sem, ↓reduceIte, Nat.reduceEqDiff, Nat.reduceAdd, Nat.reduceLT, List.length_cons, List.length_nil, List.getElem?_cons_zero, List.getElem?_cons_succ, Nat.mul_one, Bool.true_eq_false, Bool.false_eq_true, false_implies, true_implies, Bool.not_true, Bool.not_false, decide_true, decide_false, Int.reduceToNat, Int.cast_ofNat_Int, Int.reduceLT, Int.reduceLE, Int.reduceEq, Int.reduceNeg, eq_self, Option.isNone_some, Option.isNone_none, Bool.bne_false, Bool.bne_true, t1, t5, t6, t7, t8, t18, t19]
    rw [w64 (by omega) (by omega)]
    refine ⟨i + 1, by omega, by omega, rfl, (m.trans' m5).trans m6 fun k hk hS => by have := hfr k hS; omega, v6, rfl, ?_, fun k hk => ?_⟩
    · have e : ints ((sizes D1).take (i + 1)) = ints ((sizes D1).take i) ++ [.int .i64 ((D1.file i).length : Nat)] := by
        rw [List.take_succ_eq_append_getElem (by omega)]
        simp [ints, sizes, Dk.file, nf, hi12]
      rw [e]; exact own6
    · rcases hb6 k hk with h | h
      · exact hfr k h
      · have := m.size; have := m5.size; omega
  · have hi12 : i = 12 := by have : ¬ (i : Int) < 12 := by simpa using hge
                             omega
    subst hi12
    rw [List.take_of_length_le (by omega)] at hown
    unfold h5_18
    try simp only [go_sem, ↓reduceIte, Nat.reduceEqDiff, Nat.reduceAdd, Nat.reduceLT, List.length_cons, List.length_nil, List.getElem?_cons_zero, List.getElem?_cons_succ, Nat.mul_one, Bool.true_eq_false, Bool.false_eq_true, false_implies, true_implies, Bool.not_true, Bool.not_false, decide_true, decide_false, Int.reduceToNat, Int.cast_ofNat_Int, Int.reduceLT, Int.reduceLE, Int.reduceEq, Int.reduceNeg, eq_self, Option.isNone_some, Option.isNone_none, Bool.bne_false, Bool.bne_true, t1, t5, t6, t7, t8, t18, t19]
    have hl := hl.mod0 m
    refine crash_ hl.dr (hk.mod hl.mod fun _ _ h => h) hkp (by omega) ?_
    intro w5 st
    have hwv : Own w5 wv 3 1 12 (ints (sizes D1)) := hown.mod st.mod fun k hk hW => by have := hfr k hk; have := hFlt k (hFsub k hW); omega
    have hl := hl.step st
    try simp only [go_sem, ↓reduceIte, Nat.reduceEqDiff, Nat.reduceAdd, Nat.reduceLT, List.length_cons, List.length_nil, List.getElem?_cons_zero, List.getElem?_cons_succ, Nat.mul_one, Bool.true_eq_false, Bool.false_eq_true, false_implies, true_implies, Bool.not_true, Bool.not_false, decide_true, decide_false, Int.reduceToNat, Int.cast_ofNat_Int, Int.reduceLT, Int.reduceLE, Int.reduceEq, Int.reduceNeg, eq_self, Option.isNone_some, Option.isNone_none, Bool.bne_false, Bool.bne_true, t1, t5, t6, t7, t8, t18, t19]
    refine start_ hl.dr ?_
    intro w6 dr m6 _
    have hwv := hwv.mod m6 fun k hk hW => by
      rcases st.footW k hW with h' | h'
      · have := hfr k hk; have := hFlt k (hFsub k h'); omega
      · have := hown.lt k hk; omega
    have hl := hl.step (.of dr m6)
    refine last_loop (D := (D1.crash ks).start) hl hwv rfl h.safe12 (fun f hf => ?_) (fun f hf => ?_) (fun a ha => (h.acts a ha).1) (by have := h.len; omega) t5 t6 t7 t8 t18 rfl k
    · rw [crash_eq hup]; exact hI.here ks hf
    · refine ⟨((D1.file f).length : Nat), by simp [sizes, Dk.file, nf, hf], ?_⟩
      have := hI.short ks hf
      rw [crash_eq hup]
      show (((survs D1.lasts D1.queue ks).getD f []).length : Int) ≤ _
      omega
end
end Go.Proofs.Y
