/- DW: the walk of DiskDown. -/
import Derived.Test.YtbohloaggnkepaaDU
import Derived.Test.YtbohloaggnkepaaDO
import Derived.Test.YtbohloaggnkepaaDP
import Derived.Test.YtbohloaggnkepaaDV
set_option linter.unusedSimpArgs false
set_option linter.unusedVariables false
namespace Go.Proofs.Y
open Go Go.HL Go.Proofs
section
variable {w : World} {next : Value → World → Prop} {QP : List PanicEntry → World → Prop}

theorem act_queue (d : Dk) (a : Act) : (d.act a).queue.length ≤ d.queue.length + a.S.length := by
  have hp := pre_queue d
  unfold Dk.act
  split
  · unfold Dk.write Dk.endW
    have := writeD_queue d.tick a.F a.N a.S
    rw [tick_queue] at this
    split
    · exact Nat.le_trans (crash_queue _ _) this
    · exact this
  split
  · unfold Dk.flush; dsimp only
    split
    · omega
    · split
      · show d.pre.queue.length ≤ _; omega
      · exact Nat.le_trans (List.length_filter_le _ _) (by omega)
  split
  · unfold Dk.cut; dsimp only
    split
    · omega
    · split
      · omega
      · exact Nat.le_trans (List.length_filter_le _ _) (by omega)
  split
  · unfold Dk.turn; dsimp only
    split
    · omega
    · split
      · omega
      · split
        · omega
        · exact Nat.le_trans (List.length_filter_le _ _) (Nat.le_trans (List.length_filter_le _ _) (by omega))
  split
  · have := crash_queue d a.ks; omega
  split
  · show d.queue.length ≤ _; omega
  split
  · show d.queue.length ≤ _; omega
  split
  · omega
  split
  · show d.queue.length ≤ _; omega
  · omega

theorem out_neg {f : Int} (h : f < 0 ∨ 11 < f) : isF f = false := by
  unfold isF; rcases h with h | h
  · have : decide (0 ≤ f) = false := by simp; omega
    simp [this]
  · have : decide (f < 12) = false := by simp; omega
    simp [this]

/-- the last loop: both disks read alike -/
theorem down_end {p p' : Nat} {d : Dk} {F F' : FP} {σ : Env} {w1 : World} (m1 : Mod none' w w1) (hd : d.down = false) (dr : DR w1 p d F) (dr' : DR w1 p' d F') (s5 : σ 5 = .bool true) (s6 : σ 6 = ptr p) (s8 : σ 8 = ptr p') (s11 : σ 11 = .int .i64 0)
    (k : ∀ w', Mod none' w w' → next (.bool true) w') :
    hloop (hw Try.prog noPanic h9_24) (blockX 2 (seqX (hw Try.prog noPanic h9_27 (endV [.tmp 4] next)) (endV [.tmp 4] next))) σ w1 := by
  refine loopN 12 (fun i τ w' => Mod none' w w' ∧ DR w' p d F ∧ DR w' p' d F' ∧ τ 5 = .bool true ∧ τ 6 = ptr p ∧ τ 8 = ptr p' ∧ τ 11 = .int .i64 i) ⟨0, by omega, m1, dr, dr', s5, s6, s8, s11⟩ ?_
  rintro i τ w2 hi ⟨m2, dr, dr', t5, t6, t8, t11⟩
  unfold h9_24
  try simp only [go_sem, ↓reduceIte, Nat.reduceEqDiff, Nat.reduceAdd, Nat.reduceLT, List.length_cons, List.length_nil, List.getElem?_cons_zero, List.getElem?_cons_succ, Nat.mul_one, Bool.true_eq_false, Bool.false_eq_true, false_implies, true_implies, Bool.not_true, Bool.not_false, decide_true, decide_false, Int.reduceToNat, Int.cast_ofNat_Int, Int.reduceLT, Int.reduceLE, Int.reduceEq, Int.reduceNeg, eq_self, Option.isNone_some, Option.isNone_none, Bool.bne_false, Bool.bne_true, t5, t6, t8, t11]
  refine ⟨fun hlt => ?_, fun hge => ?_⟩
  · unfold h9_25
    try simp only [go_sem, ↓reduceIte, Nat.reduceEqDiff, Nat.reduceAdd, Nat.reduceLT, List.length_cons, List.length_nil, List.getElem?_cons_zero, List.getElem?_cons_succ, Nat.mul_one, Bool.true_eq_false, Bool.false_eq_true, false_implies, true_implies, Bool.not_true, Bool.not_false, decide_true, decide_false, Int.reduceToNat, Int.cast_ofNat_Int, Int.reduceLT, Int.reduceLE, Int.reduceEq, Int.reduceNeg, eq_self, Option.isNone_some, Option.isNone_none, Bool.bne_false, Bool.bne_true, t5, t6, t8, t11]
    refine read_ dr i ?_
    intro w3 dr m
    have dr' := dr'.mod0 m
    have m3 := m2.trans' m
    try simp only [go_sem, ↓reduceIte, Nat.reduceEqDiff, Nat.reduceAdd, Nat.reduceLT, List.length_cons, List.length_nil, List.getElem?_cons_zero, List.getElem?_cons_succ, Nat.mul_one, Bool.true_eq_false, Bool.false_eq_true, false_implies, true_implies, Bool.not_true, Bool.not_false, decide_true, decide_false, Int.reduceToNat, Int.cast_ofNat_Int, Int.reduceLT, Int.reduceLE, Int.reduceEq, Int.reduceNeg, eq_self, Option.isNone_some, Option.isNone_none, Bool.bne_false, Bool.bne_true, t5, t6, t8, t11]
    refine read_ dr' i ?_
    intro w4 dr' m
    have dr := dr.mod0 m
    have m4 := m3.trans' m
    try simp only [go_sem, ↓reduceIte, Nat.reduceEqDiff, Nat.reduceAdd, Nat.reduceLT, List.length_cons, List.length_nil, List.getElem?_cons_zero, List.getElem?_cons_succ, Nat.mul_one, Bool.true_eq_false, Bool.false_eq_true, false_implies, true_implies, Bool.not_true, Bool.not_false, decide_true, decide_false, Int.reduceToNat, Int.cast_ofNat_Int, Int.reduceLT, Int.reduceLE, Int.reduceEq, Int.reduceNeg, eq_self, Option.isNone_some, Option.isNone_none, Bool.bne_false, Bool.bne_true, t5, t6, t8, t11]
    unfold h9_26
    try simp only [go_sem, ↓reduceIte, Nat.reduceEqDiff, Nat.reduceAdd, Nat.reduceLT, List.length_cons, List.length_nil, List.getElem?_cons_zero, List.getElem?_cons_succ, Nat.mul_one, Bool.true_eq_false, Bool.false_eq_true, false_implies, true_implies, Bool.not_true, Bool.not_false, decide_true, decide_false, Int.reduceToNat, Int.cast_ofNat_Int, Int.reduceLT, Int.reduceLE, Int.reduceEq, Int.reduceNeg, eq_self, Option.isNone_some, Option.isNone_none, Bool.bne_false, Bool.bne_true, t5, t6, t8, t11]
    have hlt : i < 12 := by have : (i : Int) < 12 := by simpa using hlt
                            omega
    rw [w64 (by omega) (by omega)]
    exact ⟨i + 1, by omega, by omega, m4, dr, dr', rfl⟩
  · unfold h9_27
    try simp only [go_sem, ↓reduceIte, Nat.reduceEqDiff, Nat.reduceAdd, Nat.reduceLT, List.length_cons, List.length_nil, List.getElem?_cons_zero, List.getElem?_cons_succ, Nat.mul_one, Bool.true_eq_false, Bool.false_eq_true, false_implies, true_implies, Bool.not_true, Bool.not_false, decide_true, decide_false, Int.reduceToNat, Int.cast_ofNat_Int, Int.reduceLT, Int.reduceLE, Int.reduceEq, Int.reduceNeg, eq_self, Option.isNone_some, Option.isNone_none, Bool.bne_false, Bool.bne_true, t5, t6, t8, t11]
    refine down_ dr ?_
    rw [hd]
    try simp only [go_sem, ↓reduceIte, Nat.reduceEqDiff, Nat.reduceAdd, Nat.reduceLT, List.length_cons, List.length_nil, List.getElem?_cons_zero, List.getElem?_cons_succ, Nat.mul_one, Bool.true_eq_false, Bool.false_eq_true, false_implies, true_implies, Bool.not_true, Bool.not_false, decide_true, decide_false, Int.reduceToNat, Int.cast_ofNat_Int, Int.reduceLT, Int.reduceLE, Int.reduceEq, Int.reduceNeg, eq_self, Option.isNone_some, Option.isNone_none, Bool.bne_false, Bool.bne_true, t5, t6, t8, t11]
    exact k _ m2

theorem down_mid {p p' b : Nat} {d : Dk} {a : Act} {S S' : FP} {τ : Env} {w0 w1 : World} (m0 : Mod none' w w0) (hd : d.down = true) (hq : d.queue.length ≤ 100000) (dr : DR w0 p d S) (dr' : DR w0 p' d.start S') (hSS : ∀ k, S'.R k → ¬ S.W k) (hS0 : ∀ k, k < w.heap.size → ¬ S.W k)
    (ha : a.OK w) (hb : Blk w0 b 42 a.cells) (hbS : ¬ S.W b) (t3 : τ 3 = ptr b) (t5 : τ 5 = .bool true) (t6 : τ 6 = ptr p) (t8 : τ 8 = ptr p') (t9 : τ 9 = str []) (t10 : τ 10 = .int .i64 8) (st : St S w0 w1 p d)
    (k : ∀ w', Mod none' w w' → next (.bool true) w') : hw Try.prog noPanic h9_16 (endV [.tmp 4] next) τ w1 := by
  have gb : ∀ {w' : World} {d' : Dk}, St S w0 w' p d' → Blk w' b 42 a.cells := fun st => hb.mod st.mod hbS
  obtain ⟨x0, x1, x2, x3, x4, x5⟩ := Act.get (gb st)
  unfold h9_16
  try simp only [go_sem, ↓reduceIte, Nat.reduceEqDiff, Nat.reduceAdd, Nat.reduceLT, List.length_cons, List.length_nil, List.getElem?_cons_zero, List.getElem?_cons_succ, Nat.mul_one, Bool.true_eq_false, Bool.false_eq_true, false_implies, true_implies, Bool.not_true, Bool.not_false, decide_true, decide_false, Int.reduceToNat, Int.cast_ofNat_Int, Int.reduceLT, Int.reduceLE, Int.reduceEq, Int.reduceNeg, eq_self, Option.isNone_some, Option.isNone_none, Bool.bne_false, Bool.bne_true, t3, t5, t6, t8, t9, t10, x0, x1, x2, x3, x4, x5]
  refine write_ st.dr ha.n.1 ha.n.2 (by have := ha.sl; omega) ?_
  intro w2 st'
  rw [(Dk.dn_write hd _ _ _).2]
  rw [(Dk.dn_write hd _ _ _).1] at st'
  have st := st.trans st'
  clear st'
  obtain ⟨x0, x1, x2, x3, x4, x5⟩ := Act.get (gb st)
  unfold l9_21
  try simp only [go_sem, ↓reduceIte, Nat.reduceEqDiff, Nat.reduceAdd, Nat.reduceLT, List.length_cons, List.length_nil, List.getElem?_cons_zero, List.getElem?_cons_succ, Nat.mul_one, Bool.true_eq_false, Bool.false_eq_true, false_implies, true_implies, Bool.not_true, Bool.not_false, decide_true, decide_false, Int.reduceToNat, Int.cast_ofNat_Int, Int.reduceLT, Int.reduceLE, Int.reduceEq, Int.reduceNeg, eq_self, Option.isNone_some, Option.isNone_none, Bool.bne_false, Bool.bne_true, t3, t5, t6, t8, t9, t10, x0, x1, x2, x3, x4, x5]
  refine flush_ st.dr (f := a.F) (by omega) ?_
  intro w2 st'
  rw [(Dk.dn_flush hd _).2]
  rw [(Dk.dn_flush hd _).1] at st'
  have st := st.trans st'
  clear st'
  obtain ⟨x0, x1, x2, x3, x4, x5⟩ := Act.get (gb st)
  unfold l9_20
  try simp only [go_sem, ↓reduceIte, Nat.reduceEqDiff, Nat.reduceAdd, Nat.reduceLT, List.length_cons, List.length_nil, List.getElem?_cons_zero, List.getElem?_cons_succ, Nat.mul_one, Bool.true_eq_false, Bool.false_eq_true, false_implies, true_implies, Bool.not_true, Bool.not_false, decide_true, decide_false, Int.reduceToNat, Int.cast_ofNat_Int, Int.reduceLT, Int.reduceLE, Int.reduceEq, Int.reduceNeg, eq_self, Option.isNone_some, Option.isNone_none, Bool.bne_false, Bool.bne_true, t3, t5, t6, t8, t9, t10, x0, x1, x2, x3, x4, x5]
  refine cut_ st.dr (f := a.F) (n := a.N) (by omega) ?_
  intro w2 st'
  rw [(Dk.dn_cut hd _ _).2]
  rw [(Dk.dn_cut hd _ _).1] at st'
  have st := st.trans st'
  clear st'
  obtain ⟨x0, x1, x2, x3, x4, x5⟩ := Act.get (gb st)
  unfold l9_19
  try simp only [go_sem, ↓reduceIte, Nat.reduceEqDiff, Nat.reduceAdd, Nat.reduceLT, List.length_cons, List.length_nil, List.getElem?_cons_zero, List.getElem?_cons_succ, Nat.mul_one, Bool.true_eq_false, Bool.false_eq_true, false_implies, true_implies, Bool.not_true, Bool.not_false, decide_true, decide_false, Int.reduceToNat, Int.cast_ofNat_Int, Int.reduceLT, Int.reduceLE, Int.reduceEq, Int.reduceNeg, eq_self, Option.isNone_some, Option.isNone_none, Bool.bne_false, Bool.bne_true, t3, t5, t6, t8, t9, t10, x0, x1, x2, x3, x4, x5]
  refine turn_ st.dr (f := a.F) (g := a.G) (by omega) ?_
  intro w2 st'
  rw [(Dk.dn_turn hd _ _).2]
  rw [(Dk.dn_turn hd _ _).1] at st'
  have st := st.trans st'
  clear st'
  obtain ⟨x0, x1, x2, x3, x4, x5⟩ := Act.get (gb st)
  unfold l9_18
  try simp only [go_sem, ↓reduceIte, Nat.reduceEqDiff, Nat.reduceAdd, Nat.reduceLT, List.length_cons, List.length_nil, List.getElem?_cons_zero, List.getElem?_cons_succ, Nat.mul_one, Bool.true_eq_false, Bool.false_eq_true, false_implies, true_implies, Bool.not_true, Bool.not_false, decide_true, decide_false, Int.reduceToNat, Int.cast_ofNat_Int, Int.reduceLT, Int.reduceLE, Int.reduceEq, Int.reduceNeg, eq_self, Option.isNone_some, Option.isNone_none, Bool.bne_false, Bool.bne_true, t3, t5, t6, t8, t9, t10, x0, x1, x2, x3, x4, x5]
  refine down_ st.dr ?_
  rw [hd]
  unfold l9_17
  try simp only [go_sem, ↓reduceIte, Nat.reduceEqDiff, Nat.reduceAdd, Nat.reduceLT, List.length_cons, List.length_nil, List.getElem?_cons_zero, List.getElem?_cons_succ, Nat.mul_one, Bool.true_eq_false, Bool.false_eq_true, false_implies, true_implies, Bool.not_true, Bool.not_false, decide_true, decide_false, Int.reduceToNat, Int.cast_ofNat_Int, Int.reduceLT, Int.reduceLE, Int.reduceEq, Int.reduceNeg, eq_self, Option.isNone_some, Option.isNone_none, Bool.bne_false, Bool.bne_true, t3, t5, t6, t8, t9, t10, x0, x1, x2, x3, x4, x5]
  unfold h9_22
  try simp only [go_sem, ↓reduceIte, Nat.reduceEqDiff, Nat.reduceAdd, Nat.reduceLT, List.length_cons, List.length_nil, List.getElem?_cons_zero, List.getElem?_cons_succ, Nat.mul_one, Bool.true_eq_false, Bool.false_eq_true, false_implies, true_implies, Bool.not_true, Bool.not_false, decide_true, decide_false, Int.reduceToNat, Int.cast_ofNat_Int, Int.reduceLT, Int.reduceLE, Int.reduceEq, Int.reduceNeg, eq_self, Option.isNone_some, Option.isNone_none, Bool.bne_false, Bool.bne_true, t3, t5, t6, t8, t9, t10, x0, x1, x2, x3, x4, x5]
  unfold h9_23
  try simp only [go_sem, ↓reduceIte, Nat.reduceEqDiff, Nat.reduceAdd, Nat.reduceLT, List.length_cons, List.length_nil, List.getElem?_cons_zero, List.getElem?_cons_succ, Nat.mul_one, Bool.true_eq_false, Bool.false_eq_true, false_implies, true_implies, Bool.not_true, Bool.not_false, decide_true, decide_false, Int.reduceToNat, Int.cast_ofNat_Int, Int.reduceLT, Int.reduceLE, Int.reduceEq, Int.reduceNeg, eq_self, Option.isNone_some, Option.isNone_none, Bool.bne_false, Bool.bne_true, t3, t5, t6, t8, t9, t10, x0, x1, x2, x3, x4, x5]
  refine start_ st.dr ?_
  intro w3 drm m _
  have st := st.trans (.of drm m)
  try simp only [go_sem, ↓reduceIte, Nat.reduceEqDiff, Nat.reduceAdd, Nat.reduceLT, List.length_cons, List.length_nil, List.getElem?_cons_zero, List.getElem?_cons_succ, Nat.mul_one, Bool.true_eq_false, Bool.false_eq_true, false_implies, true_implies, Bool.not_true, Bool.not_false, decide_true, decide_false, Int.reduceToNat, Int.cast_ofNat_Int, Int.reduceLT, Int.reduceLE, Int.reduceEq, Int.reduceNeg, eq_self, Option.isNone_some, Option.isNone_none, Bool.bne_false, Bool.bne_true, t3, t5, t6, t8, t9, t10, x0, x1, x2, x3, x4, x5]
  have dr3 := dr'.mod st.mod hSS
  exact down_end (p := p) (p' := p') (m0.trans st.mod fun k hk h => hS0 k hk h) rfl st.dr dr3 t5 t6 t8 rfl k

theorem St.away {w w' : World} {p b : Nat} {d : Dk} (st : St FP0 w w' p d) (hb : b < w.heap.size) : ¬ st.foot.R b := fun h => by
  rcases st.footR b h with h | h
  · exact h
  · omega

/-- from the last crash on -/
theorem down_crash {p b : Nat} {D : Dk} {a : Act} {τ : Env} {w1 : World} (hd : D.down = false) (hq : D.queue.length ≤ 100000) (st : St FP0 w w1 p D) (ha : a.OK w) (hb : Blk w b 42 a.cells)
    (t3 : τ 3 = ptr b) (t5 : τ 5 = .bool true) (t6 : τ 6 = ptr p) (k : ∀ w', Mod none' w w' → next (.bool true) w') : hw Try.prog noPanic h9_14 (endV [.tmp 4] next) τ w1 := by
  have hb0 := hb.lt
  have hdn : (D.crash []).down = true := by simp [Dk.crash, hd]
  have hqc := crash_queue D []
  unfold h9_14
  try simp only [go_sem, ↓reduceIte, Nat.reduceEqDiff, Nat.reduceAdd, Nat.reduceLT, List.length_cons, List.length_nil, List.getElem?_cons_zero, List.getElem?_cons_succ, Nat.mul_one, Bool.true_eq_false, Bool.false_eq_true, false_implies, true_implies, Bool.not_true, Bool.not_false, decide_true, decide_false, Int.reduceToNat, Int.cast_ofNat_Int, Int.reduceLT, Int.reduceLE, Int.reduceEq, Int.reduceNeg, eq_self, Option.isNone_some, Option.isNone_none, Bool.bne_false, Bool.bne_true, t3, t5, t6]
  refine crash_ st.dr sl_nil (fun h => by omega) (by omega) ?_
  intro w2 st'
  have st := st.trans st'
  clear st'
  try simp only [go_sem, ↓reduceIte, Nat.reduceEqDiff, Nat.reduceAdd, Nat.reduceLT, List.length_cons, List.length_nil, List.getElem?_cons_zero, List.getElem?_cons_succ, Nat.mul_one, Bool.true_eq_false, Bool.false_eq_true, false_implies, true_implies, Bool.not_true, Bool.not_false, decide_true, decide_false, Int.reduceToNat, Int.cast_ofNat_Int, Int.reduceLT, Int.reduceLE, Int.reduceEq, Int.reduceNeg, eq_self, Option.isNone_some, Option.isNone_none, Bool.bne_false, Bool.bne_true, t3, t5, t6]
  refine copyd_ st.dr (by omega) ?_
  intro p' w3 stc
  try simp only [go_sem, ↓reduceIte, Nat.reduceEqDiff, Nat.reduceAdd, Nat.reduceLT, List.length_cons, List.length_nil, List.getElem?_cons_zero, List.getElem?_cons_succ, Nat.mul_one, Bool.true_eq_false, Bool.false_eq_true, false_implies, true_implies, Bool.not_true, Bool.not_false, decide_true, decide_false, Int.reduceToNat, Int.cast_ofNat_Int, Int.reduceLT, Int.reduceLE, Int.reduceEq, Int.reduceNeg, eq_self, Option.isNone_some, Option.isNone_none, Bool.bne_false, Bool.bne_true, t3, t5, t6]
  unfold h9_15
  try simp only [go_sem, ↓reduceIte, Nat.reduceEqDiff, Nat.reduceAdd, Nat.reduceLT, List.length_cons, List.length_nil, List.getElem?_cons_zero, List.getElem?_cons_succ, Nat.mul_one, Bool.true_eq_false, Bool.false_eq_true, false_implies, true_implies, Bool.not_true, Bool.not_false, decide_true, decide_false, Int.reduceToNat, Int.cast_ofNat_Int, Int.reduceLT, Int.reduceLE, Int.reduceEq, Int.reduceNeg, eq_self, Option.isNone_some, Option.isNone_none, Bool.bne_false, Bool.bne_true, t3, t5, t6]
  refine start_ stc.dr ?_
  intro w4 dr m _
  have stc := stc.trans (.of dr m)
  clear dr m
  have m24 : Mod none' w2 w4 := stc.mod
  have dr4 := st.dr.mod0 m24
  have m04 : Mod none' w w4 := st.mod.trans' m24
  have x1 : w4.cell? ⟨b, 1, none⟩ = some (.int .i64 a.F) := (Act.get (hb.mod m04 fun h => h)).2.1
  try simp only [go_sem, ↓reduceIte, Nat.reduceEqDiff, Nat.reduceAdd, Nat.reduceLT, List.length_cons, List.length_nil, List.getElem?_cons_zero, List.getElem?_cons_succ, Nat.mul_one, Bool.true_eq_false, Bool.false_eq_true, false_implies, true_implies, Bool.not_true, Bool.not_false, decide_true, decide_false, Int.reduceToNat, Int.cast_ofNat_Int, Int.reduceLT, Int.reduceLE, Int.reduceEq, Int.reduceNeg, eq_self, Option.isNone_some, Option.isNone_none, Bool.bne_false, Bool.bne_true, t3, t5, t6, x1]
  refine read_ dr4 a.F ?_
  intro w5 dr5 m5
  rw [Dk.dn_read hdn, Dk.dn_may hdn]
  try simp only [go_sem, ↓reduceIte, Nat.reduceEqDiff, Nat.reduceAdd, Nat.reduceLT, List.length_cons, List.length_nil, List.getElem?_cons_zero, List.getElem?_cons_succ, Nat.mul_one, Bool.true_eq_false, Bool.false_eq_true, false_implies, true_implies, Bool.not_true, Bool.not_false, decide_true, decide_false, Int.reduceToNat, Int.cast_ofNat_Int, Int.reduceLT, Int.reduceLE, Int.reduceEq, Int.reduceNeg, eq_self, Option.isNone_some, Option.isNone_none, Bool.bne_false, Bool.bne_true, t3, t5, t6, x1]
  refine bsl2 sl22 rfl rfl ?_
  intro b6 w6 hb6 own6 _ m6 _
  have dr6 := dr5.mod0 m6
  have hp5 := dr5.plt
  try simp only [go_sem, ↓reduceIte, Nat.reduceEqDiff, Nat.reduceAdd, Nat.reduceLT, List.length_cons, List.length_nil, List.getElem?_cons_zero, List.getElem?_cons_succ, Nat.mul_one, Bool.true_eq_false, Bool.false_eq_true, false_implies, true_implies, Bool.not_true, Bool.not_false, decide_true, decide_false, Int.reduceToNat, Int.cast_ofNat_Int, Int.reduceLT, Int.reduceLE, Int.reduceEq, Int.reduceNeg, eq_self, Option.isNone_some, Option.isNone_none, Bool.bne_false, Bool.bne_true, t3, t5, t6, x1]
  refine crash_ dr6 (ks := [1, 1]) own6.sl (fun _ e => by simp [Value.ownBlock] at e; omega) (by omega) ?_
  intro w7 st7
  rw [Dk.dn_crash hdn] at st7
  try simp only [go_sem, ↓reduceIte, Nat.reduceEqDiff, Nat.reduceAdd, Nat.reduceLT, List.length_cons, List.length_nil, List.getElem?_cons_zero, List.getElem?_cons_succ, Nat.mul_one, Bool.true_eq_false, Bool.false_eq_true, false_implies, true_implies, Bool.not_true, Bool.not_false, decide_true, decide_false, Int.reduceToNat, Int.cast_ofNat_Int, Int.reduceLT, Int.reduceLE, Int.reduceEq, Int.reduceNeg, eq_self, Option.isNone_some, Option.isNone_none, Bool.bne_false, Bool.bne_true, t3, t5, t6, x1]
  have st47 : St st.foot w4 w7 p (D.crash []) := (St.after (m5.trans' m6) st7)
  have hlt : ∀ k, stc.foot.R k → k < w4.heap.size := stc.dr.lt
  refine down_mid (p := p) (p' := p') (b := b) (a := a) (S := st.foot) (S' := stc.foot) (w0 := w4) m04 hdn (by omega) dr4 stc.dr ?_ ?_ ha (hb.mod m04 fun h => h) (fun h => st.away hb0 (st.dr.sub b h)) t3 t5 t6 rfl rfl rfl st47 k
  · intro k hk hW
    rcases stc.footR k hk with h | h
    · exact h.2 hW
    · have := st.dr.lt k (st.dr.sub k hW); omega
  · intro k hk hW
    rcases st.footW k hW with h | h
    · exact h
    · omega

/-- from the arming on -/
theorem down_arm {p b : Nat} {D : Dk} {a : Act} {τ : Env} {w1 : World} (hq : D.queue.length ≤ 10000) (st : St FP0 w w1 p D) (ha : a.OK w) (hb : Blk w b 42 a.cells)
    (t3 : τ 3 = ptr b) (t5 : τ 5 = .bool true) (t6 : τ 6 = ptr p) (k : ∀ w', Mod none' w w' → next (.bool true) w') : hw Try.prog noPanic h9_7 (endV [.tmp 4] next) τ w1 := by
  unfold h9_7
  try simp only [go_sem, ↓reduceIte, Nat.reduceEqDiff, Nat.reduceAdd, Nat.reduceLT, List.length_cons, List.length_nil, List.getElem?_cons_zero, List.getElem?_cons_succ, Nat.mul_one, Bool.true_eq_false, Bool.false_eq_true, false_implies, true_implies, Bool.not_true, Bool.not_false, decide_true, decide_false, Int.reduceToNat, Int.cast_ofNat_Int, Int.reduceLT, Int.reduceLE, Int.reduceEq, Int.reduceNeg, eq_self, Option.isNone_some, Option.isNone_none, Bool.bne_false, Bool.bne_true, t3, t5, t6]
  refine arm_ st.dr (n := 0) (by omega) (v := .slice none 0 0) (l := []) (m := 0) sl_nil (by omega) ?_
  intro w2 st'
  have st := st.trans st'
  clear st'
  try simp only [go_sem, ↓reduceIte, Nat.reduceEqDiff, Nat.reduceAdd, Nat.reduceLT, List.length_cons, List.length_nil, List.getElem?_cons_zero, List.getElem?_cons_succ, Nat.mul_one, Bool.true_eq_false, Bool.false_eq_true, false_implies, true_implies, Bool.not_true, Bool.not_false, decide_true, decide_false, Int.reduceToNat, Int.cast_ofNat_Int, Int.reduceLT, Int.reduceLE, Int.reduceEq, Int.reduceNeg, eq_self, Option.isNone_some, Option.isNone_none, Bool.bne_false, Bool.bne_true, t3, t5, t6]
  refine start_ st.dr ?_
  intro w3 dr m _
  have st := st.trans (.of dr m)
  clear dr m
  have hd1 : (D.arm 0 []).start.down = false := rfl
  have ha1 : (D.arm 0 []).start.armed = 0 := rfl
  have hq1 : (D.arm 0 []).start.queue.length ≤ 10000 := hq
  generalize (D.arm 0 []).start = D1 at st hd1 ha1 hq1
  have gx : ∀ {w' : World}, St FP0 w w' p D1 → w'.cell? ⟨b, 1, none⟩ = some (.int .i64 a.F) ∧ w'.cell? ⟨b, 3, none⟩ = some (.int .i64 a.N) ∧ w'.cell? ⟨b, 4, none⟩ = some (str a.S) := fun st =>
    have h := Act.get (hb.mod st.mod fun h => h)
    ⟨h.2.1, h.2.2.2.1, h.2.2.2.2.1⟩
  obtain ⟨x1, x3, x4⟩ := gx st
  try simp only [go_sem, ↓reduceIte, Nat.reduceEqDiff, Nat.reduceAdd, Nat.reduceLT, List.length_cons, List.length_nil, List.getElem?_cons_zero, List.getElem?_cons_succ, Nat.mul_one, Bool.true_eq_false, Bool.false_eq_true, false_implies, true_implies, Bool.not_true, Bool.not_false, decide_true, decide_false, Int.reduceToNat, Int.cast_ofNat_Int, Int.reduceLT, Int.reduceLE, Int.reduceEq, Int.reduceNeg, eq_self, Option.isNone_some, Option.isNone_none, Bool.bne_false, Bool.bne_true, t3, t5, t6, x1, x3, x4]
  refine ⟨fun hout => ?_, fun hin => ?_⟩
  · have hF : isF a.F = false := out_neg (by
      rcases Int.lt_or_le a.F 0 with h | h
      · exact .inl h
      · simp [Int.not_lt.2 h] at hout; exact .inr hout)
    refine write_ st.dr ha.n.1 ha.n.2 (by have := ha.sl; omega) ?_
    intro w4 st'
    rw [(Dk.bad_write hd1 ha1 hF _ _).2]
    rw [(Dk.bad_write hd1 ha1 hF _ _).1] at st'
    have st := st.trans st'
    clear st'
    obtain ⟨x1, x3, x4⟩ := gx st
    try simp only [go_sem, ↓reduceIte, Nat.reduceEqDiff, Nat.reduceAdd, Nat.reduceLT, List.length_cons, List.length_nil, List.getElem?_cons_zero, List.getElem?_cons_succ, Nat.mul_one, Bool.true_eq_false, Bool.false_eq_true, false_implies, true_implies, Bool.not_true, Bool.not_false, decide_true, decide_false, Int.reduceToNat, Int.cast_ofNat_Int, Int.reduceLT, Int.reduceLE, Int.reduceEq, Int.reduceNeg, eq_self, Option.isNone_some, Option.isNone_none, Bool.bne_false, Bool.bne_true, t3, t5, t6, x1, x3, x4]
    refine flush_ st.dr (by omega) ?_
    intro w5 st'
    rw [(Dk.bad_flush hd1 ha1 hF).2]
    rw [(Dk.bad_flush hd1 ha1 hF).1] at st'
    have st := st.trans st'
    clear st'
    obtain ⟨x1, x3, x4⟩ := gx st
    unfold l9_12
    try simp only [go_sem, ↓reduceIte, Nat.reduceEqDiff, Nat.reduceAdd, Nat.reduceLT, List.length_cons, List.length_nil, List.getElem?_cons_zero, List.getElem?_cons_succ, Nat.mul_one, Bool.true_eq_false, Bool.false_eq_true, false_implies, true_implies, Bool.not_true, Bool.not_false, decide_true, decide_false, Int.reduceToNat, Int.cast_ofNat_Int, Int.reduceLT, Int.reduceLE, Int.reduceEq, Int.reduceNeg, eq_self, Option.isNone_some, Option.isNone_none, Bool.bne_false, Bool.bne_true, t3, t5, t6, x1, x3, x4]
    refine cut_ st.dr (by omega) ?_
    intro w5 st'
    rw [(Dk.bad_cut hd1 ha1 hF _).2]
    rw [(Dk.bad_cut hd1 ha1 hF _).1] at st'
    have st := st.trans st'
    clear st'
    obtain ⟨x1, x3, x4⟩ := gx st
    unfold l9_11
    try simp only [go_sem, ↓reduceIte, Nat.reduceEqDiff, Nat.reduceAdd, Nat.reduceLT, List.length_cons, List.length_nil, List.getElem?_cons_zero, List.getElem?_cons_succ, Nat.mul_one, Bool.true_eq_false, Bool.false_eq_true, false_implies, true_implies, Bool.not_true, Bool.not_false, decide_true, decide_false, Int.reduceToNat, Int.cast_ofNat_Int, Int.reduceLT, Int.reduceLE, Int.reduceEq, Int.reduceNeg, eq_self, Option.isNone_some, Option.isNone_none, Bool.bne_false, Bool.bne_true, t3, t5, t6, x1, x3, x4]
    refine turn_ st.dr (by omega) ?_
    intro w5 st'
    rw [(Dk.bad_turn hd1 ha1 hF _).2]
    rw [(Dk.bad_turn hd1 ha1 hF _).1] at st'
    have st := st.trans st'
    clear st'
    obtain ⟨x1, x3, x4⟩ := gx st
    unfold l9_10
    try simp only [go_sem, ↓reduceIte, Nat.reduceEqDiff, Nat.reduceAdd, Nat.reduceLT, List.length_cons, List.length_nil, List.getElem?_cons_zero, List.getElem?_cons_succ, Nat.mul_one, Bool.true_eq_false, Bool.false_eq_true, false_implies, true_implies, Bool.not_true, Bool.not_false, decide_true, decide_false, Int.reduceToNat, Int.cast_ofNat_Int, Int.reduceLT, Int.reduceLE, Int.reduceEq, Int.reduceNeg, eq_self, Option.isNone_some, Option.isNone_none, Bool.bne_false, Bool.bne_true, t3, t5, t6, x1, x3, x4]
    refine turn_ st.dr (by omega) ?_
    intro w5 st'
    rw [(Dk.bad_turn2 hd1 ha1 hF _).2]
    rw [(Dk.bad_turn2 hd1 ha1 hF _).1] at st'
    have st := st.trans st'
    clear st'
    obtain ⟨x1, x3, x4⟩ := gx st
    unfold l9_9
    try simp only [go_sem, ↓reduceIte, Nat.reduceEqDiff, Nat.reduceAdd, Nat.reduceLT, List.length_cons, List.length_nil, List.getElem?_cons_zero, List.getElem?_cons_succ, Nat.mul_one, Bool.true_eq_false, Bool.false_eq_true, false_implies, true_implies, Bool.not_true, Bool.not_false, decide_true, decide_false, Int.reduceToNat, Int.cast_ofNat_Int, Int.reduceLT, Int.reduceLE, Int.reduceEq, Int.reduceNeg, eq_self, Option.isNone_some, Option.isNone_none, Bool.bne_false, Bool.bne_true, t3, t5, t6, x1, x3, x4]
    refine size_ st.dr _ ?_
    rw [Dk.bad_size hF]
    unfold l9_8
    try simp only [go_sem, ↓reduceIte, Nat.reduceEqDiff, Nat.reduceAdd, Nat.reduceLT, List.length_cons, List.length_nil, List.getElem?_cons_zero, List.getElem?_cons_succ, Nat.mul_one, Bool.true_eq_false, Bool.false_eq_true, false_implies, true_implies, Bool.not_true, Bool.not_false, decide_true, decide_false, Int.reduceToNat, Int.cast_ofNat_Int, Int.reduceLT, Int.reduceLE, Int.reduceEq, Int.reduceNeg, eq_self, Option.isNone_some, Option.isNone_none, Bool.bne_false, Bool.bne_true, t3, t5, t6, x1, x3, x4, Int.natCast_zero]
    unfold h9_13
    try simp only [go_sem, ↓reduceIte, Nat.reduceEqDiff, Nat.reduceAdd, Nat.reduceLT, List.length_cons, List.length_nil, List.getElem?_cons_zero, List.getElem?_cons_succ, Nat.mul_one, Bool.true_eq_false, Bool.false_eq_true, false_implies, true_implies, Bool.not_true, Bool.not_false, decide_true, decide_false, Int.reduceToNat, Int.cast_ofNat_Int, Int.reduceLT, Int.reduceLE, Int.reduceEq, Int.reduceNeg, eq_self, Option.isNone_some, Option.isNone_none, Bool.bne_false, Bool.bne_true, t3, t5, t6, x1, x3, x4]
    exact down_crash hd1 (by omega) st ha hb t3 t5 t6 k
  · exact down_crash hd1 (by omega) st ha hb t3 t5 t6 k

theorem sl38 : SlTy Try.prog 38 42 6 72 (.agg #[.int .i64 0, .int .i64 0, .int .i64 0, .int .i64 0, str [], .slice none 0 0]) := ⟨by kernel_rfl, by kernel_rfl, rfl, by decide⟩

theorem few_le {al : List Act} (h : few al = true) : al.length ≤ 200 ∧ heft al ≤ 5000 := by
  simp [few] at h; exact ⟨h.1.2, h.2⟩

/-- an element of the operations that came in, read whole -/
theorem act_at {w w' : World} {v : Value} {al : List Act} {i : Nat} (hv : Sl w v 6 al.length (rows Act.cells al)) (m : Mod none' w w') (hi : i < al.length) : ∃ gb o c, v = .slice (some ⟨gb, o, none⟩) al.length c ∧
    loadN w' ⟨gb, o + i * 6, none⟩ 6 = al[i].cells.toArray ∧ (∀ j, j < 6 → (w'.cell? ⟨gb, o + i * 6 + j, none⟩).isSome = true) := by
  obtain ⟨gb, o, c, hva, hcc, hcell⟩ := (hv.mod m fun _ _ h => h).get Act.cells_len rfl (by omega)
  exact ⟨gb, o, c, hva, loadN_of rfl fun j hj => by rw [e_add]; exact hcell i j hi hj, fun j hj => by rw [hcell i j hi hj]; simp [Act.cells_len, hj]⟩

theorem downs_ {lv : Value} {al : List Act} {a : Act} (hl : Sl w lv 6 al.length (rows Act.cells al)) (hal : ∀ x ∈ al, x.OK w) (hn : al.length ≤ 1048576) (hh : heft al ≤ 1048576) (ha : a.OK w) (k : ∀ w', Mod none' w w' → next (.bool true) w') :
    callK Try.prog 9 [lv, .agg a.cells.toArray] w next QP := by
  refine q9 rfl ?_
  obtain ⟨la, lc, rfl, hlc, -⟩ := hl.form
  unfold h9
  try simp only [go_sem, ↓reduceIte, Nat.reduceEqDiff, Nat.reduceAdd, Nat.reduceLT, List.length_cons, List.length_nil, List.getElem?_cons_zero, List.getElem?_cons_succ, Nat.mul_one, Bool.true_eq_false, Bool.false_eq_true, false_implies, true_implies, Bool.not_true, Bool.not_false, decide_true, decide_false, Int.reduceToNat, Int.cast_ofNat_Int, Int.reduceLT, Int.reduceLE, Int.reduceEq, Int.reduceNeg, eq_self, Option.isNone_some, Option.isNone_none, Bool.bne_false, Bool.bne_true]
  refine box_ (cs := a.cells) rfl ?_
  intro b wb hb0 hbb mb hszb
  try simp only [go_sem, ↓reduceIte, Nat.reduceEqDiff, Nat.reduceAdd, Nat.reduceLT, List.length_cons, List.length_nil, List.getElem?_cons_zero, List.getElem?_cons_succ, Nat.mul_one, Bool.true_eq_false, Bool.false_eq_true, false_implies, true_implies, Bool.not_true, Bool.not_false, decide_true, decide_false, Int.reduceToNat, Int.cast_ofNat_Int, Int.reduceLT, Int.reduceLE, Int.reduceEq, Int.reduceNeg, eq_self, Option.isNone_some, Option.isNone_none, Bool.bne_false, Bool.bne_true]
  refine small_ ?_
  intro w1 m1
  try simp only [go_sem, ↓reduceIte, Nat.reduceEqDiff, Nat.reduceAdd, Nat.reduceLT, List.length_cons, List.length_nil, List.getElem?_cons_zero, List.getElem?_cons_succ, Nat.mul_one, Bool.true_eq_false, Bool.false_eq_true, false_implies, true_implies, Bool.not_true, Bool.not_false, decide_true, decide_false, Int.reduceToNat, Int.cast_ofNat_Int, Int.reduceLT, Int.reduceLE, Int.reduceEq, Int.reduceNeg, eq_self, Option.isNone_some, Option.isNone_none, Bool.bne_false, Bool.bne_true]
  refine new_ ?_
  intro p w2 hp st0
  have st : St FP0 wb w2 p Dk.new := st0.after m1
  try simp only [go_sem, ↓reduceIte, Nat.reduceEqDiff, Nat.reduceAdd, Nat.reduceLT, List.length_cons, List.length_nil, List.getElem?_cons_zero, List.getElem?_cons_succ, Nat.mul_one, Bool.true_eq_false, Bool.false_eq_true, false_implies, true_implies, Bool.not_true, Bool.not_false, decide_true, decide_false, Int.reduceToNat, Int.cast_ofNat_Int, Int.reduceLT, Int.reduceLE, Int.reduceEq, Int.reduceNeg, eq_self, Option.isNone_some, Option.isNone_none, Bool.bne_false, Bool.bne_true]
  refine few_ ((hl.mod mb fun _ _ h => h).mod st.mod fun _ _ h => h) (fun x hx => ((hal x hx).mod0 mb).mod0 st.mod) hn (by omega) ?_
  intro w3 m3
  have st := st.mod0 m3
  have ha3 := (ha.mod0 mb).mod0 st.mod
  have hb3 := hbb.mod st.mod fun h => h
  have hld := hb3.loadN (o := 0) (n := 6) (by rw [Act.cells_len]; omega)
  have hsome := hb3.some (o := 0) (n := 6) (by rw [Act.cells_len]; omega)
  rw [List.drop_zero, List.take_of_length_le (by rw [Act.cells_len]; omega)] at hld
  simp only [e_add, Nat.zero_add] at hsome
  cases hfew : few al
  · try simp only [go_sem, ↓reduceIte, Nat.reduceEqDiff, Nat.reduceAdd, Nat.reduceLT, List.length_cons, List.length_nil, List.getElem?_cons_zero, List.getElem?_cons_succ, Nat.mul_one, Bool.true_eq_false, Bool.false_eq_true, false_implies, true_implies, Bool.not_true, Bool.not_false, decide_true, decide_false, Int.reduceToNat, Int.cast_ofNat_Int, Int.reduceLT, Int.reduceLE, Int.reduceEq, Int.reduceNeg, eq_self, Option.isNone_some, Option.isNone_none, Bool.bne_false, Bool.bne_true, hld]
    unfold l9_2
    try simp only [go_sem, ↓reduceIte, Nat.reduceEqDiff, Nat.reduceAdd, Nat.reduceLT, List.length_cons, List.length_nil, List.getElem?_cons_zero, List.getElem?_cons_succ, Nat.mul_one, Bool.true_eq_false, Bool.false_eq_true, false_implies, true_implies, Bool.not_true, Bool.not_false, decide_true, decide_false, Int.reduceToNat, Int.cast_ofNat_Int, Int.reduceLT, Int.reduceLE, Int.reduceEq, Int.reduceNeg, eq_self, Option.isNone_some, Option.isNone_none, Bool.bne_false, Bool.bne_true]
    unfold l9_1
    try simp only [go_sem, ↓reduceIte, Nat.reduceEqDiff, Nat.reduceAdd, Nat.reduceLT, List.length_cons, List.length_nil, List.getElem?_cons_zero, List.getElem?_cons_succ, Nat.mul_one, Bool.true_eq_false, Bool.false_eq_true, false_implies, true_implies, Bool.not_true, Bool.not_false, decide_true, decide_false, Int.reduceToNat, Int.cast_ofNat_Int, Int.reduceLT, Int.reduceLE, Int.reduceEq, Int.reduceNeg, eq_self, Option.isNone_some, Option.isNone_none, Bool.bne_false, Bool.bne_true]
    exact k _ (mb.trans' st.mod)
  · try simp only [go_sem, ↓reduceIte, Nat.reduceEqDiff, Nat.reduceAdd, Nat.reduceLT, List.length_cons, List.length_nil, List.getElem?_cons_zero, List.getElem?_cons_succ, Nat.mul_one, Bool.true_eq_false, Bool.false_eq_true, false_implies, true_implies, Bool.not_true, Bool.not_false, decide_true, decide_false, Int.reduceToNat, Int.cast_ofNat_Int, Int.reduceLT, Int.reduceLE, Int.reduceEq, Int.reduceNeg, eq_self, Option.isNone_some, Option.isNone_none, Bool.bne_false, Bool.bne_true, hld]
    refine ⟨hsome, ?_⟩
    refine bsl1 sl38 (cs := a.cells) rfl rfl (by omega) ?_
    intro b4 w4 hb4 own4 _ m4 _
    have st := st.mod0 m4
    unfold l9_2
    try simp only [go_sem, ↓reduceIte, Nat.reduceEqDiff, Nat.reduceAdd, Nat.reduceLT, List.length_cons, List.length_nil, List.getElem?_cons_zero, List.getElem?_cons_succ, Nat.mul_one, Bool.true_eq_false, Bool.false_eq_true, false_implies, true_implies, Bool.not_true, Bool.not_false, decide_true, decide_false, Int.reduceToNat, Int.cast_ofNat_Int, Int.reduceLT, Int.reduceLE, Int.reduceEq, Int.reduceNeg, eq_self, Option.isNone_some, Option.isNone_none, Bool.bne_false, Bool.bne_true]
    refine few_ (al := [a]) (by simpa [rows] using own4.sl) (fun x hx => by rw [List.mem_singleton.1 hx]; exact ha3.mod0 m4) (by simp) (by have := ha.sl; have := ha.kl; simp [heft]; omega) ?_
    intro w5 m5
    have st := st.mod0 m5
    unfold l9_1
    try simp only [go_sem, ↓reduceIte, Nat.reduceEqDiff, Nat.reduceAdd, Nat.reduceLT, List.length_cons, List.length_nil, List.getElem?_cons_zero, List.getElem?_cons_succ, Nat.mul_one, Bool.true_eq_false, Bool.false_eq_true, false_implies, true_implies, Bool.not_true, Bool.not_false, decide_true, decide_false, Int.reduceToNat, Int.cast_ofNat_Int, Int.reduceLT, Int.reduceLE, Int.reduceEq, Int.reduceNeg, eq_self, Option.isNone_some, Option.isNone_none, Bool.bne_false, Bool.bne_true]
    cases hfew2 : few [a]
    · try simp only [go_sem, ↓reduceIte, Nat.reduceEqDiff, Nat.reduceAdd, Nat.reduceLT, List.length_cons, List.length_nil, List.getElem?_cons_zero, List.getElem?_cons_succ, Nat.mul_one, Bool.true_eq_false, Bool.false_eq_true, false_implies, true_implies, Bool.not_true, Bool.not_false, decide_true, decide_false, Int.reduceToNat, Int.cast_ofNat_Int, Int.reduceLT, Int.reduceLE, Int.reduceEq, Int.reduceNeg, eq_self, Option.isNone_some, Option.isNone_none, Bool.bne_false, Bool.bne_true]
      exact k _ (mb.trans' st.mod)
    try simp only [go_sem, ↓reduceIte, Nat.reduceEqDiff, Nat.reduceAdd, Nat.reduceLT, List.length_cons, List.length_nil, List.getElem?_cons_zero, List.getElem?_cons_succ, Nat.mul_one, Bool.true_eq_false, Bool.false_eq_true, false_implies, true_implies, Bool.not_true, Bool.not_false, decide_true, decide_false, Int.reduceToNat, Int.cast_ofNat_Int, Int.reduceLT, Int.reduceLE, Int.reduceEq, Int.reduceNeg, eq_self, Option.isNone_some, Option.isNone_none, Bool.bne_false, Bool.bne_true]
    obtain ⟨h200, h5000⟩ := few_le hfew
    unfold h9_3
    try simp only [go_sem, ↓reduceIte, Nat.reduceEqDiff, Nat.reduceAdd, Nat.reduceLT, List.length_cons, List.length_nil, List.getElem?_cons_zero, List.getElem?_cons_succ, Nat.mul_one, Bool.true_eq_false, Bool.false_eq_true, false_implies, true_implies, Bool.not_true, Bool.not_false, decide_true, decide_false, Int.reduceToNat, Int.cast_ofNat_Int, Int.reduceLT, Int.reduceLE, Int.reduceEq, Int.reduceNeg, eq_self, Option.isNone_some, Option.isNone_none, Bool.bne_false, Bool.bne_true]
    refine loopN al.length (fun i τ w' => τ 0 = .slice la al.length lc ∧ τ 3 = ptr b ∧ τ 5 = .bool true ∧ τ 6 = ptr p ∧ τ 7 = .int .i64 i ∧ ∃ D : Dk, St FP0 wb w' p D ∧ D.queue.length ≤ heft (al.take i)) ⟨0, by omega, rfl, rfl, rfl, rfl, rfl, _, st, Nat.zero_le _⟩ ?_
    rintro i τ w6 hi ⟨t0, t3, t5, t6, t7, D, st, hq⟩
    have hhi := heft_le (l := al) (i := i)
    unfold h9_4
    try simp only [go_sem, ↓reduceIte, Nat.reduceEqDiff, Nat.reduceAdd, Nat.reduceLT, List.length_cons, List.length_nil, List.getElem?_cons_zero, List.getElem?_cons_succ, Nat.mul_one, Bool.true_eq_false, Bool.false_eq_true, false_implies, true_implies, Bool.not_true, Bool.not_false, decide_true, decide_false, Int.reduceToNat, Int.cast_ofNat_Int, Int.reduceLT, Int.reduceLE, Int.reduceEq, Int.reduceNeg, eq_self, Option.isNone_some, Option.isNone_none, Bool.bne_false, Bool.bne_true, t0, t3, t5, t6, t7]
    refine ⟨fun hlt => ?_, fun hge => ?_⟩
    · have hil : i < al.length := by simpa using hlt
      obtain ⟨gb, o, c', hva, hld, hsome⟩ := act_at hl (mb.trans' st.mod) hil
      simp only [Value.slice.injEq] at hva
      obtain ⟨rfl, -, rfl⟩ := hva
      have haO := ((hal _ (List.getElem_mem hil)).mod0 mb).mod0 st.mod
      have hsn := heft_snoc (l := al) hil
      have haq := act_queue D al[i]
      unfold h9_5
      try simp only [go_sem, ↓reduceIte, Nat.reduceEqDiff, Nat.reduceAdd, Nat.reduceLT, List.length_cons, List.length_nil, List.getElem?_cons_zero, List.getElem?_cons_succ, Nat.mul_one, Bool.true_eq_false, Bool.false_eq_true, false_implies, true_implies, Bool.not_true, Bool.not_false, decide_true, decide_false, Int.reduceToNat, Int.cast_ofNat_Int, Int.reduceLT, Int.reduceLE, Int.reduceEq, Int.reduceNeg, eq_self, Option.isNone_some, Option.isNone_none, Bool.bne_false, Bool.bne_true, t0, t3, t5, t6, t7, hld]
      refine ⟨⟨by omega, by omega⟩, hsome, ?_⟩
      refine do_ st.dr haO (fun hk e => ?_) (by omega) ?_
      · have := (hal _ (List.getElem_mem hil)).k.lt (by omega) hk p e
        have := mb.size; have := m1.size; omega
      intro w7 st'
      have st := st.trans st'
      clear st'
      unfold h9_6
      try simp only [go_sem, ↓reduceIte, Nat.reduceEqDiff, Nat.reduceAdd, Nat.reduceLT, List.length_cons, List.length_nil, List.getElem?_cons_zero, List.getElem?_cons_succ, Nat.mul_one, Bool.true_eq_false, Bool.false_eq_true, false_implies, true_implies, Bool.not_true, Bool.not_false, decide_true, decide_false, Int.reduceToNat, Int.cast_ofNat_Int, Int.reduceLT, Int.reduceLE, Int.reduceEq, Int.reduceNeg, eq_self, Option.isNone_some, Option.isNone_none, Bool.bne_false, Bool.bne_true, t0, t3, t5, t6, t7]
      rw [w64 (by omega) (by omega)]
      exact ⟨i + 1, by omega, by omega, rfl, _, st, by omega⟩
    · try simp only [go_sem, ↓reduceIte, Nat.reduceEqDiff, Nat.reduceAdd, Nat.reduceLT, List.length_cons, List.length_nil, List.getElem?_cons_zero, List.getElem?_cons_succ, Nat.mul_one, Bool.true_eq_false, Bool.false_eq_true, false_implies, true_implies, Bool.not_true, Bool.not_false, decide_true, decide_false, Int.reduceToNat, Int.cast_ofNat_Int, Int.reduceLT, Int.reduceLE, Int.reduceEq, Int.reduceNeg, eq_self, Option.isNone_some, Option.isNone_none, Bool.bne_false, Bool.bne_true]
      exact down_arm (by omega) st (ha.mod0 mb) hbb t3 t5 t6 fun w' m => k w' (mb.trans' m)
end
end Go.Proofs.Y
