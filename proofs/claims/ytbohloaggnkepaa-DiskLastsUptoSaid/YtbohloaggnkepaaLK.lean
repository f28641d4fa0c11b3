/- LK: DiskLasts: the loop. -/
import Derived.Test.YtbohloaggnkepaaLJ
set_option linter.unusedSimpArgs false
set_option linter.unusedVariables false
namespace Go.Proofs.Y
open Go Go.HL Go.Proofs
section
variable {w0 : World}

theorem lasts_loop {Q : HX → Env → World → Prop} {w1 : World} {p : Nat} {d : Dk} {F : FP} {sv lv kv hd : Value} {safe : List Bytes} {ops : List Act} {σ : Env}
    (hl : Sl w0 lv 6 ops.length (rows Act.cells ops)) (hok : ∀ x ∈ ops, x.OK w0) (hfit : ∀ x ∈ ops, fits x = true) (h200 : ops.length ≤ 200) (h5000 : heft ops ≤ 5000)
    (h : RI w0 w1 p sv (.slice none 0 0) 0 0 d F safe []) (hq : d.queue = []) (hp : w0.heap.size ≤ p)
    (s0 : σ 0 = lv) (s1 : σ 1 = kv) (s5 : σ 5 = hd) (s6 : σ 6 = ptr p) (s7 : σ 7 = sv) (s8 : σ 8 = .slice none 0 0) (s9 : σ 9 = .int .i64 0)
    (hQ : ∀ τ w' D' F' nv' safe' al', τ 0 = lv → τ 1 = kv → τ 5 = hd → τ 6 = ptr p → τ 7 = sv → τ 8 = nv' → RI w0 w' p sv nv' ops.length (heft ops) D' F' safe' al' → Q .normal τ w') :
    hloop (hw Try.prog noPanic h5_2) (blockX 0 Q) σ w1 := by
  obtain ⟨la, lc, rfl, hlc, -⟩ := hl.form
  refine loopN ops.length (fun i τ w' => τ 0 = .slice la ops.length lc ∧ τ 1 = kv ∧ τ 5 = hd ∧ τ 6 = ptr p ∧ τ 7 = sv ∧ τ 9 = .int .i64 i ∧ ∃ nv D F safe al, τ 8 = nv ∧ RI w0 w' p sv nv i (heft (ops.take i)) D F safe al) ⟨0, by omega, s0, s1, s5, s6, s7, s9, _, d, F, safe, [], s8, h⟩ ?_
  rintro i τ w2 hi ⟨t0, t1, t5, t6, t7, t9, nv, D, F, safe, al, t8, h⟩
  have hqi := h.q
  unfold h5_2
  try simp only [go_sem, ↓reduceIte, Nat.reduceEqDiff, Nat.reduceAdd, Nat.reduceLT, List.length_cons, List.length_nil, List.getElem?_cons_zero, List.getElem?_cons_succ, Nat.mul_one, Bool.true_eq_false, Bool.false_eq_true, false_implies, true_implies, Bool.not_true, Bool.not_false, decide_true, decide_false, Int.reduceToNat, Int.cast_ofNat_Int, Int.reduceLT, Int.reduceLE, Int.reduceEq, Int.reduceNeg, eq_self, Option.isNone_some, Option.isNone_none, Bool.bne_false, Bool.bne_true, t0, t1, t5, t6, t7, t8, t9]
  refine ⟨fun hlt => ?_, fun hge => ?_⟩
  · have hil : i < ops.length := by have : (i : Int) < ops.length := by simpa using hlt
                                    omega
    obtain ⟨gb, o, c', hva, hld, hsome⟩ := act_at hl h.ls.mod hil
    simp only [Value.slice.injEq] at hva
    obtain ⟨rfl, -, rfl⟩ := hva
    have ha := hok _ (List.getElem_mem hil)
    have hsn := heft_snoc (l := ops) hil
    have hle := heft_le (l := ops) (i := i + 1)
    have haq := act_queue D ops[i]
    unfold h5_3
    try simp only [go_sem, ↓reduceIte, Nat.reduceEqDiff, Nat.reduceAdd, Nat.reduceLT, List.length_cons, List.length_nil, List.getElem?_cons_zero, List.getElem?_cons_succ, Nat.mul_one, Bool.true_eq_false, Bool.false_eq_true, false_implies, true_implies, Bool.not_true, Bool.not_false, decide_true, decide_false, Int.reduceToNat, Int.cast_ofNat_Int, Int.reduceLT, Int.reduceLE, Int.reduceEq, Int.reduceNeg, eq_self, Option.isNone_some, Option.isNone_none, Bool.bne_false, Bool.bne_true, t0, t1, t5, t6, t7, t8, t9, hld]
    refine ⟨⟨by omega, by omega⟩, hsome, ?_⟩
    refine alloc_ (z := .agg #[.int .i64 0, .int .i64 0, .int .i64 0, .int .i64 0, str [], .slice none 0 0]) (cs := [.int .i64 0, .int .i64 0, .int .i64 0, .int .i64 0, str [], .slice none 0 0]) (by kernel_rfl) rfl ?_
    intro b w3 hb0 hb3 m3 hsz3
    refine storeN (n := 6) (by kernel_rfl) (Act.cells_len _) hb3 (by simp) (Act.one ha) ?_
    intro w4 hb4 m4 hsz4
    have hb4 : Blk w4 b 42 ops[i].cells := by simpa using hb4
    have m24 : Mod none' w2 w4 := m3.trans m4 fun k hk (e : k = b) => by omega
    have hbF : ¬ F.R b := fun hR => by have := h.ls.dr.lt b hR; omega
    have hbn : nv.ownBlock ≠ some b := fun e => by have := h.ls.nown.lt b e; omega
    have h4 : RI w0 w4 p sv nv i _ D F safe al := ⟨h.ls.mod0 m24, h.inv, h.acts, h.len, h.q⟩
    try simp only [go_sem, ↓reduceIte, Nat.reduceEqDiff, Nat.reduceAdd, Nat.reduceLT, List.length_cons, List.length_nil, List.getElem?_cons_zero, List.getElem?_cons_succ, Nat.mul_one, Bool.true_eq_false, Bool.false_eq_true, false_implies, true_implies, Bool.not_true, Bool.not_false, decide_true, decide_false, Int.reduceToNat, Int.cast_ofNat_Int, Int.reduceLT, Int.reduceLE, Int.reduceEq, Int.reduceNeg, eq_self, Option.isNone_some, Option.isNone_none, Bool.bne_false, Bool.bne_true, t0, t1, t5, t6, t7, t8, t9]
    refine down_ h4.ls.dr ?_
    have x0 := (Act.get hb4).1
    try simp only [go_sem, ↓reduceIte, Nat.reduceEqDiff, Nat.reduceAdd, Nat.reduceLT, List.length_cons, List.length_nil, List.getElem?_cons_zero, List.getElem?_cons_succ, Nat.mul_one, Bool.true_eq_false, Bool.false_eq_true, false_implies, true_implies, Bool.not_true, Bool.not_false, decide_true, decide_false, Int.reduceToNat, Int.cast_ofNat_Int, Int.reduceLT, Int.reduceLE, Int.reduceEq, Int.reduceNeg, eq_self, Option.isNone_some, Option.isNone_none, Bool.bne_false, Bool.bne_true, t0, t1, t5, t6, t7, t8, t9, x0]
    refine pick_ ha.d ?_
    try simp only [go_sem, ↓reduceIte, Nat.reduceEqDiff, Nat.reduceAdd, Nat.reduceLT, List.length_cons, List.length_nil, List.getElem?_cons_zero, List.getElem?_cons_succ, Nat.mul_one, Bool.true_eq_false, Bool.false_eq_true, false_implies, true_implies, Bool.not_true, Bool.not_false, decide_true, decide_false, Int.reduceToNat, Int.cast_ofNat_Int, Int.reduceLT, Int.reduceLE, Int.reduceEq, Int.reduceNeg, eq_self, Option.isNone_some, Option.isNone_none, Bool.bne_false, Bool.bne_true, t0, t1, t5, t6, t7, t8, t9, x0]
    refine part4 (a := ops[i]) (M := heft (ops.take (i + 1))) h4 hb4 hbF hbn ha (fun hk e => ?_) (hfit _ (List.getElem_mem hil)) (by omega) (by omega) (by omega) t0 t1 t5 t6 t7 t8 t9 rfl rfl rfl ?_
    · have := ha.k.lt (by omega) hk p e; omega
    intro τ w' D' F' nv' safe' al' t0 t1 t5 t6 t7 t8 t9 h
    unfold h5_13
    try simp only [go_sem, ↓reduceIte, Nat.reduceEqDiff, Nat.reduceAdd, Nat.reduceLT, List.length_cons, List.length_nil, List.getElem?_cons_zero, List.getElem?_cons_succ, Nat.mul_one, Bool.true_eq_false, Bool.false_eq_true, false_implies, true_implies, Bool.not_true, Bool.not_false, decide_true, decide_false, Int.reduceToNat, Int.cast_ofNat_Int, Int.reduceLT, Int.reduceLE, Int.reduceEq, Int.reduceNeg, eq_self, Option.isNone_some, Option.isNone_none, Bool.bne_false, Bool.bne_true, t0, t1, t5, t6, t7, t8, t9]
    rw [w64 (by omega) (by omega)]
    exact ⟨i + 1, by omega, by omega, rfl, nv', D', F', safe', al', rfl, h⟩
  · have hio : i = ops.length := by have : ¬ (i : Int) < ops.length := by simpa using hge
                                    omega
    subst hio
    rw [List.take_length] at h
    exact hQ _ _ _ _ _ _ _ t0 t1 t5 t6 t7 t8 h
end
end Go.Proofs.Y
