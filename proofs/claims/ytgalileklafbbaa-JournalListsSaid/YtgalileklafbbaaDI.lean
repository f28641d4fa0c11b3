/- DI: the walks of Cut, Turn and Copy. -/
import Derived.Test.YtgalileklafbbaaDH
set_option linter.unusedSimpArgs false
set_option linter.unusedVariables false
set_option maxRecDepth 100000
namespace Go.Proofs.Y
open Go Go.HL Go.Proofs
section
variable {w : World} {next : Value → World → Prop} {QP : List PanicEntry → World → Prop}

theorem cut_ {p : Nat} {d : Dk} {S : FP} (h : DR w p d S) {f n : Int} (hqn : d.queue.length ≤ 1000000000000)
    (k : ∀ w', St S w w' p (d.cut f n) → next (.int .i64 (d.cutR f n)) w') :
    callvK Try.prog (.func (.func 42) #[] #[]) [ptr p, .int .i64 f, .int .i64 n] w next QP := by
  refine r42 rfl ?_
  unfold h42
  try simp only [go_sem, ↓reduceIte, Nat.reduceEqDiff, Nat.reduceAdd, Nat.reduceLT, List.length_cons, List.length_nil, List.getElem?_cons_zero, List.getElem?_cons_succ, Nat.mul_one, Bool.true_eq_false, Bool.false_eq_true, false_implies, true_implies, Bool.not_true, Bool.not_false, decide_true, decide_false, Int.reduceToNat, Int.cast_ofNat_Int, Int.reduceLT, Int.reduceLE, Int.reduceEq, Int.reduceNeg, eq_self]
  refine ends_ h ?_
  intro w1 dr1 m1 _
  have st1 : St S w w1 p d.tick := .of dr1 m1
  have hpq := pre_queue d
  have rest : ∀ (τ : Env) w2, τ 0 = ptr p → τ 1 = .int .i64 f → τ 2 = .int .i64 n → St S w w2 p d.pre → hw Try.prog noPanic h42_1 (endV [.tmp 6] next) τ w2 := by
    intro τ w2 t0 t1 t2 st2
    unfold h42_1
    try simp only [go_sem, ↓reduceIte, Nat.reduceEqDiff, Nat.reduceAdd, Nat.reduceLT, List.length_cons, List.length_nil, List.getElem?_cons_zero, List.getElem?_cons_succ, Nat.mul_one, Bool.true_eq_false, Bool.false_eq_true, false_implies, true_implies, Bool.not_true, Bool.not_false, decide_true, decide_false, Int.reduceToNat, Int.cast_ofNat_Int, Int.reduceLT, Int.reduceLE, Int.reduceEq, Int.reduceNeg, eq_self, t0, t1, t2]
    refine bsl1 sl22 rfl rfl (by omega) ?_
    intro b w3 hbb own3 blk3 m3 hsz3
    have st3 := st2.mod0 m3
    refine may_ st3.dr (by omega) (l := [f]) own3.sl ?_
    try simp only [go_sem, ↓reduceIte, Nat.reduceEqDiff, Nat.reduceAdd, Nat.reduceLT, List.length_cons, List.length_nil, List.getElem?_cons_zero, List.getElem?_cons_succ, Nat.mul_one, Bool.true_eq_false, Bool.false_eq_true, false_implies, true_implies, Bool.not_true, Bool.not_false, decide_true, decide_false, Int.reduceToNat, Int.cast_ofNat_Int, Int.reduceLT, Int.reduceLE, Int.reduceEq, Int.reduceNeg, eq_self, t0, t1, t2]
    refine ⟨fun he => ?_, fun he => ?_⟩
    · have he : d.pre.may [f] ≠ 0 := by simpa using he
      have := k w3
      simp only [Dk.cut, Dk.cutR, if_pos he] at this
      exact this st3
    have he : d.pre.may [f] = 0 := by simpa using he
    simp only [Dk.cut, Dk.cutR, he, ne_eq, not_true, if_false] at k
    obtain ⟨g, rfl, hg⟩ := may_ok he
    simp only [Int.toNat_natCast] at k
    have ok := st3.dr.ok
    obtain ⟨qv, kv, hb, hq, hk, h1, h2, c24, c25, c26, c27, c28⟩ := st3.dr.parts
    have hsize : d.pre.size g = (d.pre.file g).length := by
      rw [may1] at he
      have : isF g = true := by simp [isF]; omega
      simp [Dk.size, this]
    have fin : ∀ τ : Env, τ 0 = ptr p → τ 1 = .int .i64 g → τ 2 = .int .i64 n → ¬ (n < 0 ∨ (d.pre.size g : Int) < n) → hw Try.prog noPanic h42_3 (endV [.tmp 6] next) τ w3 := by
      intro τ t0 t1 t2 hn
      simp only [if_neg hn] at k
      have cf : w3.cell? ⟨p, 12 + g, none⟩ = some (str (d.pre.file g)) := by rw [hb.cell, cells_file ok.nl ok.nf hg]
      unfold h42_3
      try simp only [go_sem, ↓reduceIte, Nat.reduceEqDiff, Nat.reduceAdd, Nat.reduceLT, List.length_cons, List.length_nil, List.getElem?_cons_zero, List.getElem?_cons_succ, Nat.mul_one, Bool.true_eq_false, Bool.false_eq_true, false_implies, true_implies, Bool.not_true, Bool.not_false, decide_true, decide_false, Int.reduceToNat, Int.cast_ofNat_Int, Int.reduceLT, Int.reduceLE, Int.reduceEq, Int.reduceNeg, eq_self, t0, t1, t2, cf]
      refine ⟨⟨by omega, by omega⟩, ⟨by omega, by rw [hsize] at hn; omega⟩, ?_⟩
      have hfl : (d.pre.file g).length ≤ 16777216 := getD_le ok.bf g
      refine settle_ st3.dr hg (by rw [List.length_take]; omega) (by omega) ?_
      intro w4 st4
      try simp only [go_sem, ↓reduceIte, Nat.reduceEqDiff, Nat.reduceAdd, Nat.reduceLT, List.length_cons, List.length_nil, List.getElem?_cons_zero, List.getElem?_cons_succ, Nat.mul_one, Bool.true_eq_false, Bool.false_eq_true, false_implies, true_implies, Bool.not_true, Bool.not_false, decide_true, decide_false, Int.reduceToNat, Int.cast_ofNat_Int, Int.reduceLT, Int.reduceLE, Int.reduceEq, Int.reduceNeg, eq_self]
      exact k w4 (st3.trans st4)
    unfold h42_2
    try simp only [go_sem, ↓reduceIte, Nat.reduceEqDiff, Nat.reduceAdd, Nat.reduceLT, List.length_cons, List.length_nil, List.getElem?_cons_zero, List.getElem?_cons_succ, Nat.mul_one, Bool.true_eq_false, Bool.false_eq_true, false_implies, true_implies, Bool.not_true, Bool.not_false, decide_true, decide_false, Int.reduceToNat, Int.cast_ofNat_Int, Int.reduceLT, Int.reduceLE, Int.reduceEq, Int.reduceNeg, eq_self, t0, t1, t2]
    refine ⟨fun hn0 => ?_, fun hn0 => ?_⟩
    · have hn0 : 0 ≤ n := by simpa using hn0
      refine size_ st3.dr _ ?_
      try simp only [go_sem, ↓reduceIte, Nat.reduceEqDiff, Nat.reduceAdd, Nat.reduceLT, List.length_cons, List.length_nil, List.getElem?_cons_zero, List.getElem?_cons_succ, Nat.mul_one, Bool.true_eq_false, Bool.false_eq_true, false_implies, true_implies, Bool.not_true, Bool.not_false, decide_true, decide_false, Int.reduceToNat, Int.cast_ofNat_Int, Int.reduceLT, Int.reduceLE, Int.reduceEq, Int.reduceNeg, eq_self, t0, t1, t2]
      have hnn : decide (n < 0) = false := by simpa using hn0
      try simp only [go_sem, ↓reduceIte, Nat.reduceEqDiff, Nat.reduceAdd, Nat.reduceLT, List.length_cons, List.length_nil, List.getElem?_cons_zero, List.getElem?_cons_succ, Nat.mul_one, Bool.true_eq_false, Bool.false_eq_true, false_implies, true_implies, Bool.not_true, Bool.not_false, decide_true, decide_false, Int.reduceToNat, Int.cast_ofNat_Int, Int.reduceLT, Int.reduceLE, Int.reduceEq, Int.reduceNeg, eq_self, hnn]
      refine ⟨fun hn => ?_, fun hn => ?_⟩
      · have hn : (d.pre.size g : Int) < n := by simpa using hn
        simp only [if_pos (Or.inr hn)] at k
        exact k w3 st3
      · have hn : ¬ (d.pre.size g : Int) < n := by simpa using hn
        exact fin _ t0 t1 t2 (by omega)
    · have hn0 : n < 0 := by simpa using hn0
      have hnn : decide (n < 0) = true := by simpa using hn0
      simp only [if_pos (Or.inl hn0)] at k
      try simp only [go_sem, ↓reduceIte, Nat.reduceEqDiff, Nat.reduceAdd, Nat.reduceLT, List.length_cons, List.length_nil, List.getElem?_cons_zero, List.getElem?_cons_succ, Nat.mul_one, Bool.true_eq_false, Bool.false_eq_true, false_implies, true_implies, Bool.not_true, Bool.not_false, decide_true, decide_false, Int.reduceToNat, Int.cast_ofNat_Int, Int.reduceLT, Int.reduceLE, Int.reduceEq, Int.reduceNeg, eq_self, hnn]
      exact k w3 st3
  try simp only [go_sem, ↓reduceIte, Nat.reduceEqDiff, Nat.reduceAdd, Nat.reduceLT, List.length_cons, List.length_nil, List.getElem?_cons_zero, List.getElem?_cons_succ, Nat.mul_one, Bool.true_eq_false, Bool.false_eq_true, false_implies, true_implies, Bool.not_true, Bool.not_false, decide_true, decide_false, Int.reduceToNat, Int.cast_ofNat_Int, Int.reduceLT, Int.reduceLE, Int.reduceEq, Int.reduceNeg, eq_self]
  refine ⟨fun he => ?_, fun he => ?_⟩
  · refine crashK_ st1.dr (by rw [tick_queue]; omega) ?_
    intro w2 st2'
    have st2 := st1.trans st2'
    have e1 : d.tick.crash d.tick.keep = d.pre := by simp [Dk.pre, Dk.endW, he, tick_keep]
    rw [e1] at st2
    exact rest _ _ rfl rfl rfl st2
  · have e1 : d.tick = d.pre := by simp [Dk.pre, Dk.endW, he]
    rw [e1] at st1
    exact rest _ _ rfl rfl rfl st1

theorem turn_ {p : Nat} {d : Dk} {S : FP} (h : DR w p d S) {f g : Int} (hqn : d.queue.length ≤ 1000000000000)
    (k : ∀ w', St S w w' p (d.turn f g) → next (.int .i64 (d.turnR f g)) w') :
    callvK Try.prog (.func (.func 20) #[] #[]) [ptr p, .int .i64 f, .int .i64 g] w next QP := by
  refine r20 rfl ?_
  unfold h20
  try simp only [go_sem, ↓reduceIte, Nat.reduceEqDiff, Nat.reduceAdd, Nat.reduceLT, List.length_cons, List.length_nil, List.getElem?_cons_zero, List.getElem?_cons_succ, Nat.mul_one, Bool.true_eq_false, Bool.false_eq_true, false_implies, true_implies, Bool.not_true, Bool.not_false, decide_true, decide_false, Int.reduceToNat, Int.cast_ofNat_Int, Int.reduceLT, Int.reduceLE, Int.reduceEq, Int.reduceNeg, eq_self]
  refine box_ (cs := [.int .i64 g]) rfl ?_
  intro b w0 hb0 hbb m0 hsz0
  have st0 : St S w w0 p d := (St.refl h).mod0 m0
  have hbn : ¬ S.W b := fun hS => by have := h.lt b (h.sub b hS); omega
  have dr0 : DR w0 p d S := h.mod0 m0
  try simp only [go_sem, ↓reduceIte, Nat.reduceEqDiff, Nat.reduceAdd, Nat.reduceLT, List.length_cons, List.length_nil, List.getElem?_cons_zero, List.getElem?_cons_succ, Nat.mul_one, Bool.true_eq_false, Bool.false_eq_true, false_implies, true_implies, Bool.not_true, Bool.not_false, decide_true, decide_false, Int.reduceToNat, Int.cast_ofNat_Int, Int.reduceLT, Int.reduceLE, Int.reduceEq, Int.reduceNeg, eq_self]
  refine ends_ dr0 ?_
  intro w1 dr1 m1 hsz1
  have hbb1 := hbb.mod m1 hbn
  have hpq := pre_queue d
  have rest : ∀ (τ : Env) w2, τ 0 = ptr p → τ 1 = .int .i64 f → τ 5 = ptr b → St S w0 w2 p d.pre → hw Try.prog noPanic h20_1 (endV [.tmp 6] next) τ w2 := by
    intro τ w2 t0 t1 t5 st2
    have hbb2 : Blk w2 b 3 [.int .i64 g] := hbb.mod st2.mod hbn
    have cb : w2.cell? ⟨b, 0, none⟩ = some (.int .i64 g) := by rw [hbb2.cell]; rfl
    unfold h20_1
    try simp only [go_sem, ↓reduceIte, Nat.reduceEqDiff, Nat.reduceAdd, Nat.reduceLT, List.length_cons, List.length_nil, List.getElem?_cons_zero, List.getElem?_cons_succ, Nat.mul_one, Bool.true_eq_false, Bool.false_eq_true, false_implies, true_implies, Bool.not_true, Bool.not_false, decide_true, decide_false, Int.reduceToNat, Int.cast_ofNat_Int, Int.reduceLT, Int.reduceLE, Int.reduceEq, Int.reduceNeg, eq_self, t0, t1, t5, cb]
    refine bsl2 sl22 rfl rfl ?_
    intro b3 w3 hbb3 own3 blk3 m3 hsz3
    have st3 := st2.mod0 m3
    have hbb3' := hbb2.mod m3 fun h => h
    have cb3 : w3.cell? ⟨b, 0, none⟩ = some (.int .i64 g) := by rw [hbb3'.cell]; rfl
    have fs : ∀ {d' : Dk} {w' : World}, St S w0 w' p d' → St S w w' p d' := fun st => st.after m0
    refine may_ st3.dr (by omega) (l := [f, g]) own3.sl ?_
    try simp only [go_sem, ↓reduceIte, Nat.reduceEqDiff, Nat.reduceAdd, Nat.reduceLT, List.length_cons, List.length_nil, List.getElem?_cons_zero, List.getElem?_cons_succ, Nat.mul_one, Bool.true_eq_false, Bool.false_eq_true, false_implies, true_implies, Bool.not_true, Bool.not_false, decide_true, decide_false, Int.reduceToNat, Int.cast_ofNat_Int, Int.reduceLT, Int.reduceLE, Int.reduceEq, Int.reduceNeg, eq_self, t0, t1, t5, cb3]
    refine ⟨fun he => ?_, fun he => ?_⟩
    · have he : d.pre.may [f, g] ≠ 0 := by simpa using he
      have := k w3
      simp only [Dk.turn, Dk.turnR, if_pos he] at this
      exact this (fs st3)
    have he : d.pre.may [f, g] = 0 := by simpa using he
    simp only [Dk.turn, Dk.turnR, he, ne_eq, not_true, if_false] at k
    obtain ⟨⟨fn, rfl, hf⟩, gn, rfl, hg⟩ := may_ok2 he
    simp only [Int.toNat_natCast] at k
    have ok := st3.dr.ok
    obtain ⟨qv, kv, hb, hq, hk, h1, h2, c24, c25, c26, c27, c28⟩ := st3.dr.parts
    unfold h20_2
    try simp only [go_sem, ↓reduceIte, Nat.reduceEqDiff, Nat.reduceAdd, Nat.reduceLT, List.length_cons, List.length_nil, List.getElem?_cons_zero, List.getElem?_cons_succ, Nat.mul_one, Bool.true_eq_false, Bool.false_eq_true, false_implies, true_implies, Bool.not_true, Bool.not_false, decide_true, decide_false, Int.reduceToNat, Int.cast_ofNat_Int, Int.reduceLT, Int.reduceLE, Int.reduceEq, Int.reduceNeg, eq_self, t0, t1, t5, cb3, c24]
    refine ⟨fun hfg => ?_, fun hfg => ?_⟩
    · have hfg : (fn : Int) = gn := by simpa using hfg
      simp only [if_pos hfg] at k
      exact k w3 (fs st3)
    have hfg : ¬ (fn : Int) = gn := by simpa using hfg
    simp only [if_neg hfg] at k
    try simp only [go_sem, ↓reduceIte, Nat.reduceEqDiff, Nat.reduceAdd, Nat.reduceLT, List.length_cons, List.length_nil, List.getElem?_cons_zero, List.getElem?_cons_succ, Nat.mul_one, Bool.true_eq_false, Bool.false_eq_true, false_implies, true_implies, Bool.not_true, Bool.not_false, decide_true, decide_false, Int.reduceToNat, Int.cast_ofNat_Int, Int.reduceLT, Int.reduceLE, Int.reduceEq, Int.reduceNeg, eq_self, t0, t1, t5, cb3, c24, List.nil_append]
    refine contains_ (test42 b gn) hbb3' hq.sl (by omega) ?_
    intro w4 m4
    have st4 := st3.mod0 m4
    have hbb4 := hbb3'.mod m4 fun h => h
    try simp only [go_sem, ↓reduceIte, Nat.reduceEqDiff, Nat.reduceAdd, Nat.reduceLT, List.length_cons, List.length_nil, List.getElem?_cons_zero, List.getElem?_cons_succ, Nat.mul_one, Bool.true_eq_false, Bool.false_eq_true, false_implies, true_implies, Bool.not_true, Bool.not_false, decide_true, decide_false, Int.reduceToNat, Int.cast_ofNat_Int, Int.reduceLT, Int.reduceLE, Int.reduceEq, Int.reduceNeg, eq_self, t0, t1, t5]
    refine ⟨fun hp => ?_, fun hp => ?_⟩
    · have hp : d.pre.pends gn = true := hp
      simp only [if_pos hp] at k
      exact k w4 (fs st4)
    have hp : ¬ d.pre.pends gn = true := by simp only [Dk.pends, hp]; simp
    simp only [if_neg hp] at k
    obtain ⟨qv, kv, hb, -⟩ := st4.dr.parts
    have cb4 : w4.cell? ⟨b, 0, none⟩ = some (.int .i64 gn) := by rw [hbb4.cell]; rfl
    have cl : w4.cell? ⟨p, gn, none⟩ = some (str (d.pre.last gn)) := by rw [hb.cell, cells_last ok.nl hg]
    unfold h20_3
    try simp only [go_sem, ↓reduceIte, Nat.reduceEqDiff, Nat.reduceAdd, Nat.reduceLT, List.length_cons, List.length_nil, List.getElem?_cons_zero, List.getElem?_cons_succ, Nat.mul_one, Bool.true_eq_false, Bool.false_eq_true, false_implies, true_implies, Bool.not_true, Bool.not_false, decide_true, decide_false, Int.reduceToNat, Int.cast_ofNat_Int, Int.reduceLT, Int.reduceLE, Int.reduceEq, Int.reduceNeg, eq_self, t0, t1, t5, cb4, cl]
    refine ⟨⟨by omega, by omega⟩, ?_⟩
    refine settle_ st4.drew.dr hf (getD_le ok.bl gn) (by omega) ?_
    intro w5 st5'
    have st5 := st4.drew.trans st5'
    have hbb5 : Blk w5 b 3 [.int .i64 gn] := hbb.mod st5.mod hbn
    have cb5 : w5.cell? ⟨b, 0, none⟩ = some (.int .i64 gn) := by rw [hbb5.cell]; rfl
    try simp only [go_sem, ↓reduceIte, Nat.reduceEqDiff, Nat.reduceAdd, Nat.reduceLT, List.length_cons, List.length_nil, List.getElem?_cons_zero, List.getElem?_cons_succ, Nat.mul_one, Bool.true_eq_false, Bool.false_eq_true, false_implies, true_implies, Bool.not_true, Bool.not_false, decide_true, decide_false, Int.reduceToNat, Int.cast_ofNat_Int, Int.reduceLT, Int.reduceLE, Int.reduceEq, Int.reduceNeg, eq_self, t0, t1, t5, cb5]
    refine settle_ st5.dr hg (by simp) (Nat.le_trans (List.length_filter_le _ _) (by omega)) ?_
    intro w6 st6'
    have st6 := st5.trans st6'
    try simp only [go_sem, ↓reduceIte, Nat.reduceEqDiff, Nat.reduceAdd, Nat.reduceLT, List.length_cons, List.length_nil, List.getElem?_cons_zero, List.getElem?_cons_succ, Nat.mul_one, Bool.true_eq_false, Bool.false_eq_true, false_implies, true_implies, Bool.not_true, Bool.not_false, decide_true, decide_false, Int.reduceToNat, Int.cast_ofNat_Int, Int.reduceLT, Int.reduceLE, Int.reduceEq, Int.reduceNeg, eq_self]
    exact k w6 (fs st6)
  try simp only [go_sem, ↓reduceIte, Nat.reduceEqDiff, Nat.reduceAdd, Nat.reduceLT, List.length_cons, List.length_nil, List.getElem?_cons_zero, List.getElem?_cons_succ, Nat.mul_one, Bool.true_eq_false, Bool.false_eq_true, false_implies, true_implies, Bool.not_true, Bool.not_false, decide_true, decide_false, Int.reduceToNat, Int.cast_ofNat_Int, Int.reduceLT, Int.reduceLE, Int.reduceEq, Int.reduceNeg, eq_self]
  refine ⟨fun he => ?_, fun he => ?_⟩
  · refine crashK_ (St.of dr1 m1).dr (by rw [tick_queue]; omega) ?_
    intro w2 st2'
    have st2 := (St.of dr1 m1).trans st2'
    have e1 : d.tick.crash d.tick.keep = d.pre := by simp [Dk.pre, Dk.endW, he, tick_keep]
    rw [e1] at st2
    exact rest _ _ rfl rfl rfl st2
  · have e1 : d.tick = d.pre := by simp [Dk.pre, Dk.endW, he]
    have st1 : St S w0 w1 p d.tick := .of dr1 m1
    rw [e1] at st1
    exact rest _ _ rfl rfl rfl st1
end
end Go.Proofs.Y
