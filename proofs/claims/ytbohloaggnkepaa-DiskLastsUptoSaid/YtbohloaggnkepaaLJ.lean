/- LJ: DiskLasts: a whole round. -/
import Derived.Test.YtbohloaggnkepaaLI
set_option linter.unusedSimpArgs false
set_option linter.unusedVariables false
namespace Go.Proofs.Y
open Go Go.HL Go.Proofs
section
variable {w0 : World}

theorem part4 {Q : HX → Env → World → Prop} {w1 : World} {p N M b : Nat} {d : Dk} {F : FP} {sv nv lv kv hd nn : Value} {safe : List Bytes} {al : List Act} {σ : Env} {a : Act} {M0 : Nat} (h : RI w0 w1 p sv nv N M0 d F safe al) (hb : Blk w1 b 42 a.cells)
    (hbF : ¬ F.R b) (hbn : nv.ownBlock ≠ some b) (ha : a.OK w0) (hkp : 0 < a.ks.length → a.kv.ownBlock ≠ some p) (hfit : fits a = true)
    (hNb : N + 1 ≤ 1048576) (hq0 : d.queue.length ≤ 90000) (hq : (d.act a).queue.length ≤ M)
    (s0 : σ 0 = lv) (s1 : σ 1 = kv) (s5 : σ 5 = hd) (s6 : σ 6 = ptr p) (s7 : σ 7 = sv) (s8 : σ 8 = nv) (s9 : σ 9 = nn) (s10 : σ 10 = ptr b) (s11 : σ 11 = .bool (!d.down)) (s12 : σ 12 = .int .i64 (pk a.Do))
    (hQ : ∀ τ w' D' F' nv' safe' al', τ 0 = lv → τ 1 = kv → τ 5 = hd → τ 6 = ptr p → τ 7 = sv → τ 8 = nv' → τ 9 = nn → RI w0 w' p sv nv' (N + 1) M D' F' safe' al' → Q .normal τ w') :
    hw Try.prog noPanic h5_4 Q σ w1 := by
  have hld := hb.loadN (o := 0) (n := 6) (by rw [Act.cells_len]; omega)
  have hsome := hb.some (o := 0) (n := 6) (by rw [Act.cells_len]; omega)
  rw [List.drop_zero, List.take_of_length_le (by rw [Act.cells_len]; omega)] at hld
  simp only [e_add, Nat.zero_add] at hsome
  obtain ⟨x0, x1, x2, x3, x4, x5⟩ := Act.get hb
  unfold h5_4
  try simp only [go_sem, ↓reduceIte, Nat.reduceEqDiff, Nat.reduceAdd, Nat.reduceLT, List.length_cons, List.length_nil, List.getElem?_cons_zero, List.getElem?_cons_succ, Nat.mul_one, Bool.true_eq_false, Bool.false_eq_true, false_implies, true_implies, Bool.not_true, Bool.not_false, decide_true, decide_false, Int.reduceToNat, Int.cast_ofNat_Int, Int.reduceLT, Int.reduceLE, Int.reduceEq, Int.reduceNeg, eq_self, Option.isNone_some, Option.isNone_none, Bool.bne_false, Bool.bne_true, s0, s1, s5, s6, s7, s8, s9, s10, s11, s12, hld, x3]
  have hnl := h.len
  refine ⟨fun hc => ⟨hsome, ?_⟩, fun hc => ?_⟩
  · have hc' : ((pk a.Do ≤ 1 ∧ d.down = false) ∧ 0 ≤ a.N) ∧ a.N < 4000 := by simpa using hc
    refine bsl1 sl38 (cs := a.cells) rfl rfl (by omega) ?_
    intro b2 w2 hb2 own2 _ m2 _
    have hl := h.ls.mod0 m2
    have hb := hb.mod m2 fun h => h
    refine append_ sl38 hl.nown own2.sl (Act.one ha) (by omega) (by unfold maxLen; omega) ?_
    intro v3 w3 own3 m3 hb3 _
    have hb := hb.mod m3 fun e => hbn e
    have hl := hl.since (bl := al ++ [a]) (by rw [List.length_append, rows_app]; simpa [rows] using own3) m3 hb3
    try simp only [go_sem, ↓reduceIte, Nat.reduceEqDiff, Nat.reduceAdd, Nat.reduceLT, List.length_cons, List.length_nil, List.getElem?_cons_zero, List.getElem?_cons_succ, Nat.mul_one, Bool.true_eq_false, Bool.false_eq_true, false_implies, true_implies, Bool.not_true, Bool.not_false, decide_true, decide_false, Int.reduceToNat, Int.cast_ofNat_Int, Int.reduceLT, Int.reduceLE, Int.reduceEq, Int.reduceNeg, eq_self, Option.isNone_some, Option.isNone_none, Bool.bne_false, Bool.bne_true, s0, s1, s5, s6, s7, s8, s9, s10, s11, s12]
    exact part5 (N := N + 1) hl hb hbF rfl ha hkp (round h.inv hfit (fun x hx => List.mem_append_left _ hx) fun _ _ _ _ => by simp)
      (fun x hx => by
        rcases List.mem_append.1 hx with hx | hx
        · exact h.acts x hx
        · rw [List.mem_singleton.1 hx]; exact ⟨⟨hc'.1.2, hc'.2⟩, ha⟩) (by simp; omega) hNb h.safe12 hq0 hq s0 s1 s5 s6 s7 rfl s9 s10 s11 s12 hQ
  · try simp only [go_sem, ↓reduceIte, Nat.reduceEqDiff, Nat.reduceAdd, Nat.reduceLT, List.length_cons, List.length_nil, List.getElem?_cons_zero, List.getElem?_cons_succ, Nat.mul_one, Bool.true_eq_false, Bool.false_eq_true, false_implies, true_implies, Bool.not_true, Bool.not_false, decide_true, decide_false, Int.reduceToNat, Int.cast_ofNat_Int, Int.reduceLT, Int.reduceLE, Int.reduceEq, Int.reduceNeg, eq_self, Option.isNone_some, Option.isNone_none, Bool.bne_false, Bool.bne_true, s0, s1, s5, s6, s7, s8, s9, s10, s11, s12]
    exact part5 (N := N + 1) h.ls hb hbF rfl ha hkp (round h.inv hfit (fun x hx => hx) fun h1 h2 h3 h4 => by simp [h1, h2, h3, h4] at hc) h.acts (by omega) hNb h.safe12 hq0 hq s0 s1 s5 s6 s7 s8 s9 s10 s11 s12 hQ
end
end Go.Proofs.Y
