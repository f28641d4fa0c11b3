/- LI: DiskLasts: the operation and what follows it. -/
import Derived.Test.YtbohloaggnkepaaLH
set_option linter.unusedSimpArgs false
set_option linter.unusedVariables false
namespace Go.Proofs.Y
open Go Go.HL Go.Proofs
section
variable {w0 : World}

theorem part5 {Q : HX → Env → World → Prop} {w1 : World} {p N M b : Nat} {d : Dk} {F : FP} {sv nv lv kv hd nn : Value} {safe : List Bytes} {al : List Act} {σ : Env} {up : Bool} {a : Act} (h : LS w0 w1 p d F sv nv safe al) (hb : Blk w1 b 42 a.cells)
    (hbF : ¬ F.R b) (hup : up = !d.down) (ha : a.OK w0) (hkp : 0 < a.ks.length → a.kv.ownBlock ≠ some p) (hR : Round d (d.act a) (pk a.Do) (d.actE a) a.F a.G safe al)
    (hN : ∀ a ∈ al, (0 ≤ a.N ∧ a.N < 4000) ∧ a.OK w0) (hn : al.length ≤ N) (hNb : N ≤ 1048576) (h12 : safe.length = 12) (hq0 : d.queue.length ≤ 90000) (hq : (d.act a).queue.length ≤ M)
    (s0 : σ 0 = lv) (s1 : σ 1 = kv) (s5 : σ 5 = hd) (s6 : σ 6 = ptr p) (s7 : σ 7 = sv) (s8 : σ 8 = nv) (s9 : σ 9 = nn) (s10 : σ 10 = ptr b) (s11 : σ 11 = .bool up) (s12 : σ 12 = .int .i64 (pk a.Do))
    (hQ : ∀ τ w' D' F' nv' safe' al', τ 0 = lv → τ 1 = kv → τ 5 = hd → τ 6 = ptr p → τ 7 = sv → τ 8 = nv' → τ 9 = nn → RI w0 w' p sv nv' N M D' F' safe' al' → Q .normal τ w') :
    hw Try.prog noPanic h5_5 Q σ w1 := by
  have hld := hb.loadN (o := 0) (n := 6) (by rw [Act.cells_len]; omega)
  have hsome := hb.some (o := 0) (n := 6) (by rw [Act.cells_len]; omega)
  rw [List.drop_zero, List.take_of_length_le (by rw [Act.cells_len]; omega)] at hld
  simp only [e_add, Nat.zero_add] at hsome
  unfold h5_5
  try simp only [go_sem, ↓reduceIte, Nat.reduceEqDiff, Nat.reduceAdd, Nat.reduceLT, List.length_cons, List.length_nil, List.getElem?_cons_zero, List.getElem?_cons_succ, Nat.mul_one, Bool.true_eq_false, Bool.false_eq_true, false_implies, true_implies, Bool.not_true, Bool.not_false, decide_true, decide_false, Int.reduceToNat, Int.cast_ofNat_Int, Int.reduceLT, Int.reduceLE, Int.reduceEq, Int.reduceNeg, eq_self, Option.isNone_some, Option.isNone_none, Bool.bne_false, Bool.bne_true, s0, s1, s5, s6, s7, s8, s9, s10, s11, s12, hld]
  refine ⟨hsome, ?_⟩
  refine do_ h.dr (ha.mod0 h.mod) hkp (by omega) ?_
  intro w2 st
  have hb := hb.mod st.mod fun hW => hbF (h.dr.sub b hW)
  have h := h.step st
  try simp only [go_sem, ↓reduceIte, Nat.reduceEqDiff, Nat.reduceAdd, Nat.reduceLT, List.length_cons, List.length_nil, List.getElem?_cons_zero, List.getElem?_cons_succ, Nat.mul_one, Bool.true_eq_false, Bool.false_eq_true, false_implies, true_implies, Bool.not_true, Bool.not_false, decide_true, decide_false, Int.reduceToNat, Int.cast_ofNat_Int, Int.reduceLT, Int.reduceLE, Int.reduceEq, Int.reduceNeg, eq_self, Option.isNone_some, Option.isNone_none, Bool.bne_false, Bool.bne_true, s0, s1, s5, s6, s7, s8, s9, s10, s11, s12]
  generalize hD : d.act a = D at *
  generalize he : d.actE a = e at *
  by_cases hk : (pk a.Do = 2 ∨ pk a.Do = 3) ∧ e = 0
  · obtain ⟨f, hf, hf12⟩ := eF hk.1 (he.trans hk.2)
    rcases hR with ⟨h1, h2, h3, h4⟩ | ⟨h1, h2⟩
    · exact absurd ⟨hk.2, by omega⟩ h4
    rw [safe2, al2, if_pos hk, if_pos hk] at h2
    have e1 : (if (if decide (pk a.Do = 2) = true then true else decide (pk a.Do = 3)) = true then decide (e = 0) else false) = true := by
      rcases hk.1 with h23 | h23 <;> simp [h23, hk.2]
    obtain ⟨x0, x1, x2, x3, x4, x5⟩ := Act.get hb
    rw [hf] at x1
    try simp only [go_sem, ↓reduceIte, Nat.reduceEqDiff, Nat.reduceAdd, Nat.reduceLT, List.length_cons, List.length_nil, List.getElem?_cons_zero, List.getElem?_cons_succ, Nat.mul_one, Bool.true_eq_false, Bool.false_eq_true, false_implies, true_implies, Bool.not_true, Bool.not_false, decide_true, decide_false, Int.reduceToNat, Int.cast_ofNat_Int, Int.reduceLT, Int.reduceLE, Int.reduceEq, Int.reduceNeg, eq_self, Option.isNone_some, Option.isNone_none, Bool.bne_false, Bool.bne_true, e1, x1]
    have h := h.mod0 (Mod.drew _ _)
    have hb := hb.drew
    refine read_ h.dr f ?_
    intro w3 _ m3
    have h := h.mod0 m3
    have hb := hb.mod m3 fun h => h
    obtain ⟨gg, c, rfl, cs, hst⟩ := h.set (QP := noPanic) hf12 (D.read f)
    have hsb : (Value.slice (some ⟨gg, 0, none⟩) 12 c).ownBlock ≠ some b := own_neb h.sown hb (by decide)
    obtain ⟨x0, x1, x2, x3, x4, x5⟩ := Act.get hb
    rw [hf] at x1
    try simp only [go_sem, ↓reduceIte, Nat.reduceEqDiff, Nat.reduceAdd, Nat.reduceLT, List.length_cons, List.length_nil, List.getElem?_cons_zero, List.getElem?_cons_succ, Nat.mul_one, Bool.true_eq_false, Bool.false_eq_true, false_implies, true_implies, Bool.not_true, Bool.not_false, decide_true, decide_false, Int.reduceToNat, Int.cast_ofNat_Int, Int.reduceLT, Int.reduceLE, Int.reduceEq, Int.reduceNeg, eq_self, Option.isNone_some, Option.isNone_none, Bool.bne_false, Bool.bne_true, x1]
    refine ⟨⟨by omega, by omega⟩, ?_⟩
    refine hst ?_
    intro w4 h m4
    have hb := hb.mod m4 fun e => hsb e
    obtain ⟨x0, x1, x2, x3, x4, x5⟩ := Act.get hb
    rw [hf] at x1
    try simp only [go_sem, ↓reduceIte, Nat.reduceEqDiff, Nat.reduceAdd, Nat.reduceLT, List.length_cons, List.length_nil, List.getElem?_cons_zero, List.getElem?_cons_succ, Nat.mul_one, Bool.true_eq_false, Bool.false_eq_true, false_implies, true_implies, Bool.not_true, Bool.not_false, decide_true, decide_false, Int.reduceToNat, Int.cast_ofNat_Int, Int.reduceLT, Int.reduceLE, Int.reduceEq, Int.reduceNeg, eq_self, Option.isNone_some, Option.isNone_none, Bool.bne_false, Bool.bne_true, x1]
    have hw1 := without_sub (al := al) (f := (f : Int))
    refine without_ h.nown.sl (fun a ha => (hN a ha).2.mod0 h.mod) (by omega) ?_
    intro nv1 w5 own5 m5 hfr5
    have h := h.since0 own5 m5 hfr5
    have hb := hb.mod m5 fun h => h
    have hk4 : ¬ (pk a.Do = 4 ∧ e = 0) := by omega
    rw [hf, Int.toNat_natCast] at h2
    refine part6 (a := a) (k := pk a.Do) (e := e) (up := up) h hb (fun a ha => hN a (hw1.1 a ha)) (by omega) hNb (by simp [h12]) hq (fun h4 _ => by omega) ?_ s0 s1 s5 s6 s7 rfl s9 s10 s11 s12 rfl hQ
    refine .inr ⟨fun h5 => h1 ⟨by rw [hup] at h5; simpa using h5.1, h5.2⟩, ?_⟩
    rw [if_neg hk4, if_neg hk4]
    exact h2
  · have e1 : (if (if decide (pk a.Do = 2) = true then true else decide (pk a.Do = 3)) = true then decide (e = 0) else false) = false := by
      rcases Classical.em (pk a.Do = 2 ∨ pk a.Do = 3) with h23 | h23
      · have : e ≠ 0 := fun h => hk ⟨h23, h⟩
        simp [this]
      · have h2 : pk a.Do ≠ 2 := fun h => h23 (.inl h)
        have h3 : pk a.Do ≠ 3 := fun h => h23 (.inr h)
        simp [h2, h3]
    try simp only [go_sem, ↓reduceIte, Nat.reduceEqDiff, Nat.reduceAdd, Nat.reduceLT, List.length_cons, List.length_nil, List.getElem?_cons_zero, List.getElem?_cons_succ, Nat.mul_one, Bool.true_eq_false, Bool.false_eq_true, false_implies, true_implies, Bool.not_true, Bool.not_false, decide_true, decide_false, Int.reduceToNat, Int.cast_ofNat_Int, Int.reduceLT, Int.reduceLE, Int.reduceEq, Int.reduceNeg, eq_self, Option.isNone_some, Option.isNone_none, Bool.bne_false, Bool.bne_true, e1]
    refine part6 (a := a) (k := pk a.Do) (e := e) (up := up) h hb hN hn hNb h12 hq (fun h4 h0 => eFG h4 (he.trans h0)) ?_ s0 s1 s5 s6 s7 s8 s9 s10 s11 s12 rfl hQ
    rcases hR with ⟨h1, h2, h3, h4⟩ | ⟨h1, h2⟩
    · exact .inl ⟨by rw [hup, h1]; rfl, h2, h3, fun h5 => h4 ⟨h5.2, .inr (.inr h5.1)⟩⟩
    · refine .inr ⟨fun h5 => h1 ⟨by rw [hup] at h5; simpa using h5.1, h5.2⟩, ?_⟩
      rw [safe2, al2, if_neg hk, if_neg hk] at h2
      exact h2
end
end Go.Proofs.Y
