/- DI: the walks of Cut, Turn and Copy. -/
import Derived.Test.YtgalileklafbbaaDB
import Derived.Test.YtgalileklafbbaaHLH
import Derived.Lib.AppendStr
import Derived.Lib.UnsafeStr
import Derived.Test.YtgalileklafbbaaYCode
set_option linter.unusedSimpArgs false
set_option linter.unusedVariables false
set_option maxRecDepth 100000
namespace Go.Proofs.Y
open Go Go.HL Go.Proofs
section
variable {w : World} {next : Value → World → Prop} {QP : List PanicEntry → World → Prop}

theorem cut_ {p : Nat} {d : Dk} {S : FP} (h : DR w p d S) {f n : Int} (hqn : d.queue.length ≤ 1000000000000)
    (k : ∀ w', St S w w' p (d.cut f n) → next (.int .i64 (d.cutR f n)) w') :
    callvK Try.prog (.func (.func 42) #[] #[]) [ptr p, .int .i64 f, .int .i64 n] w next QP := by
  refine r42 rfl ?_
  unfold h42
  try simp only [go_sem, ↓reduceIte, Nat.reduceEqDiff, Nat.reduceAdd, Nat.reduceLT, List.length_cons, List.length_nil, List.getElem?_cons_zero, List.getElem?_cons_succ, Nat.mul_one, Bool.true_eq_false, Bool.false_eq_true, false_implies, true_implies, Bool.not_true, Bool.not_false, decide_true, decide_false, Int.reduceToNat, Int.cast_ofNat_Int, Int.reduceLT, Int.reduceLE, Int.reduceEq, Int.reduceNeg, eq_self]
  refine ends_ h ?_
  intro w1 dr1 m1 _
  have st1 : St S w w1 p d.tick := .of dr1 m1
  have hpq := pre_queue d
  have rest : ∀ (τ : Env) w2, τ 0 = ptr p → τ 1 = .int .i64 f → τ 2 = .int .i64 n → St S w w2 p d.pre → hw Try.prog noPanic h42_1 (endV [.tmp 6] next) τ w2 := by
    intro τ w2 t0 t1 t2 st2
    unfold h42_1
    try simp only [go_sem, ↓reduceIte, Nat.reduceEqDiff, Nat.reduceAdd, Nat.reduceLT, List.length_cons, List.length_nil, List.getElem?_cons_zero, List.getElem?_cons_succ, Nat.mul_one, Bool.true_eq_false, Bool.false_eq_true, false_implies, true_implies, Bool.not_true, Bool.not_false, decide_true, decide_false, Int.reduceToNat, Int.cast_ofNat_Int, Int.reduceLT, Int.reduceLE, Int.reduceEq, Int.reduceNeg, eq_self, t0, t1, t2]
    refine bsl1 sl22 rfl rfl (by omega) ?_
    intro b w3 hbb own3 blk3 m3 hsz3
    have st3 := st2.mod0 m3
    refine may_ st3.dr (by omega) (l := [f]) own3.sl ?_
    try simp only [go_sem, ↓reduceIte, Nat.reduceEqDiff, Nat.reduceAdd, Nat.reduceLT, List.length_cons, List.length_nil, List.getElem?_cons_zero, List.getElem?_cons_succ, Nat.mul_one, Bool.true_eq_false, Bool.false_eq_true, false_implies, true_implies, Bool.not_true, Bool.not_false, decide_true, decide_false, Int.reduceToNat, Int.cast_ofNat_Int, Int.reduceLT, Int.reduceLE, Int.reduceEq, Int.reduceNeg, eq_self, t0, t1, t2]
    refine ⟨fun he => ?_, fun he => ?_⟩
    · have he : d.pre.may [f] ≠ 0 := by simpa using he
      have := k w3
      simp only [Dk.cut, Dk.cutR, if_pos he] at this
      exact this st3
    have he : d.pre.may [f] = 0 := by simpa using he
    simp only [Dk.cut, Dk.cutR, he, ne_eq, not_true, if_false] at k
    obtain ⟨g, rfl, hg⟩ := may_ok he
    simp only [Int.toNat_natCast] at k
    have ok := st3.dr.ok
    obtain ⟨qv, kv, hb, hq, hk, h1, h2, c24, c25, c26, c27, c28⟩ := st3.dr.parts
    have hsize : d.pre.size g = (d.pre.file g).length := by
      rw [may1] at he
      have : isF g = true := by simp [isF]; omega
      simp [Dk.size, this]
    have fin : ∀ τ : Env, τ 0 = ptr p → τ 1 = .int .i64 g → τ 2 = .int .i64 n → ¬ (n < 0 ∨ (d.pre.size g : Int) < n) → hw Try.prog noPanic h42_3 (endV [.tmp 6] next) τ w3 := by
      intro τ t0 t1 t2 hn
      simp only [if_neg hn] at k
      have cf : w3.cell? ⟨p, 12 + g, none⟩ = some (str (d.pre.file g)) := by rw [hb.cell, cells_file ok.nl ok.nf hg]
      unfold h42_3
      try simp only [go_sem, ↓reduceIte, Nat.reduceEqDiff, Nat.reduceAdd, Nat.reduceLT, List.length_cons, List.length_nil, List.getElem?_cons_zero, List.getElem?_cons_succ, Nat.mul_one, Bool.true_eq_false, Bool.false_eq_true, false_implies, true_implies, Bool.not_true, Bool.not_false, decide_true, decide_false, Int.reduceToNat, Int.cast_ofNat_Int, Int.reduceLT, Int.reduceLE, Int.reduceEq, Int.reduceNeg, eq_self, t0, t1, t2, cf]
      refine ⟨⟨by omega, by omega⟩, ⟨by omega, by rw [hsize] at hn; omega⟩, ?_⟩
      have hfl : (d.pre.file g).length ≤ 16777216 := getD_le ok.bf g
      refine settle_ st3.dr hg (by rw [List.length_take]; omega) (by omega) ?_
      intro w4 st4
      try simp only [go_sem, ↓reduceIte, Nat.reduceEqDiff, Nat.reduceAdd, Nat.reduceLT, List.length_cons, List.length_nil, List.getElem?_cons_zero, List.getElem?_cons_succ, Nat.mul_one, Bool.true_eq_false, Bool.false_eq_true, false_implies, true_implies, Bool.not_true, Bool.not_false, decide_true, decide_false, Int.reduceToNat, Int.cast_ofNat_Int, Int.reduceLT, Int.reduceLE, Int.reduceEq, Int.reduceNeg, eq_self]
      exact k w4 (st3.trans st4)
    unfold h42_2
    try simp only [go_sem, ↓reduceIte, Nat.reduceEqDiff, Nat.reduceAdd, Nat.reduceLT, List.length_cons, List.length_nil, List.getElem?_cons_zero, List.getElem?_cons_succ, Nat.mul_one, Bool.true_eq_false, Bool.false_eq_true, false_implies, true_implies, Bool.not_true, Bool.not_false, decide_true, decide_false, Int.reduceToNat, Int.cast_ofNat_Int, Int.reduceLT, Int.reduceLE, Int.reduceEq, Int.reduceNeg, eq_self, t0, t1, t2]
    refine ⟨fun hn0 => ?_, fun hn0 => ?_⟩
    · have hn0 : 0 ≤ n := by simpa using hn0
      refine size_ st3.dr _ ?_
      try simp only [go_sem, ↓reduceIte, Nat.reduceEqDiff, Nat.reduceAdd, Nat.reduceLT, List.length_cons, List.length_nil, List.getElem?_cons_zero, List.getElem?_cons_succ, Nat.mul_one, Bool.true_eq_false, Bool.false_eq_true, false_implies, true_implies, Bool.not_true, Bool.not_false, decide_true, decide_false, Int.reduceToNat, Int.cast_ofNat_Int, Int.reduceLT, Int.reduceLE, Int.reduceEq, Int.reduceNeg, eq_self, t0, t1, t2]
      have hnn : decide (n < 0) = false := by simpa using hn0
      try simp only [go_sem, ↓reduceIte, Nat.reduceEqDiff, Nat.reduceAdd, Nat.reduceLT, List.length_cons, List.length_nil, List.getElem?_cons_zero, List.getElem?_cons_succ, Nat.mul_one, Bool.true_eq_false, Bool.false_eq_true, false_implies, true_implies, Bool.not_true, Bool.not_false, decide_true, decide_false, Int.reduceToNat, Int.cast_ofNat_Int, Int.reduceLT, Int.reduceLE, Int.reduceEq, Int.reduceNeg, eq_self, hnn]
      refine ⟨fun hn => ?_, fun hn => ?_⟩
      · have hn : (d.pre.size g : Int) < n := by simpa using hn
        simp only [if_pos (Or.inr hn)] at k
        exact k w3 st3
      · have hn : ¬ (d.pre.size g : Int) < n := by simpa using hn
        exact fin _ t0 t1 t2 (by omega)
    · have hn0 : n < 0 := by simpa using hn0
      have hnn : decide (n < 0) = true := by simpa using hn0
      simp only [if_pos (Or.inl hn0)] at k
      try simp only [go_sem, ↓reduceIte, Nat.reduceEqDiff, Nat.reduceAdd, Nat.reduceLT, List.length_cons, List.length_nil, List.getElem?_cons_zero, List.getElem?_cons_succ, Nat.mul_one, Bool.true_eq_false, Bool.false_eq_true, false_implies, true_implies, Bool.not_true, Bool.not_false, decide_true, decide_false, Int.reduceToNat, Int.cast_ofNat_Int, Int.reduceLT, Int.reduceLE, Int.reduceEq, Int.reduceNeg, eq_self, hnn]
      exact k w3 st3
  try simp only [go_sem, ↓reduceIte, Nat.reduceEqDiff, Nat.reduceAdd, Nat.reduceLT, List.length_cons, List.length_nil, List.getElem?_cons_zero, List.getElem?_cons_succ, Nat.mul_one, Bool.true_eq_false, Bool.false_eq_true, false_implies, true_implies, Bool.not_true, Bool.not_false, decide_true, decide_false, Int.reduceToNat, Int.cast_ofNat_Int, Int.reduceLT, Int.reduceLE, Int.reduceEq, Int.reduceNeg, eq_self]
  refine ⟨fun he => ?_, fun he => ?_⟩
  · refine crashK_ st1.dr (by rw [tick_queue]; omega) ?_
    intro w2 st2'
    have st2 := st1.trans st2'
    have e1 : d.tick.crash d.tick.keep = d.pre := by simp [Dk.pre, Dk.endW, he, tick_keep]
    rw [e1] at st2
    exact rest _ _ rfl rfl rfl st2
  · have e1 : d.tick = d.pre := by simp [Dk.pre, Dk.endW, he]
    rw [e1] at st1
    exact rest _ _ rfl rfl rfl st1

theorem turn_ {p : Nat} {d : Dk} {S : FP} (h : DR w p d S) {f g : Int} (hqn : d.queue.length ≤ 1000000000000)
    (k : ∀ w', St S w w' p (d.turn f g) → next (.int .i64 (d.turnR f g)) w') :
    callvK Try.prog (.func (.func 20) #[] #[]) [ptr p, .int .i64 f, .int .i64 g] w next QP := by
  refine r20 rfl ?_
  unfold h20
  try simp only [go_sem, ↓reduceIte, Nat.reduceEqDiff, Nat.reduceAdd, Nat.reduceLT, List.length_cons, List.length_nil, List.getElem?_cons_zero, List.getElem?_cons_succ, Nat.mul_one, Bool.true_eq_false, Bool.false_eq_true, false_implies, true_implies, Bool.not_true, Bool.not_false, decide_true, decide_false, Int.reduceToNat, Int.cast_ofNat_Int, Int.reduceLT, Int.reduceLE, Int.reduceEq, Int.reduceNeg, eq_self]
  refine box_ (cs := [.int .i64 g]) rfl ?_
  intro b w0 hb0 hbb m0 hsz0
  have st0 : St S w w0 p d := (St.refl h).mod0 m0
  have hbn : ¬ S.W b := fun hS => by have := h.lt b (h.sub b hS); omega
  have dr0 : DR w0 p d S := h.mod0 m0
  try simp only [go_sem, ↓reduceIte, Nat.reduceEqDiff, Nat.reduceAdd, Nat.reduceLT, List.length_cons, List.length_nil, List.getElem?_cons_zero, List.getElem?_cons_succ, Nat.mul_one, Bool.true_eq_false, Bool.false_eq_true, false_implies, true_implies, Bool.not_true, Bool.not_false, decide_true, decide_false, Int.reduceToNat, Int.cast_ofNat_Int, Int.reduceLT, Int.reduceLE, Int.reduceEq, Int.reduceNeg, eq_self]
  refine ends_ dr0 ?_
  intro w1 dr1 m1 hsz1
  have hbb1 := hbb.mod m1 hbn
  have hpq := pre_queue d
  have rest : ∀ (τ : Env) w2, τ 0 = ptr p → τ 1 = .int .i64 f → τ 5 = ptr b → St S w0 w2 p d.pre → hw Try.prog noPanic h20_1 (endV [.tmp 6] next) τ w2 := by
    intro τ w2 t0 t1 t5 st2
    have hbb2 : Blk w2 b 3 [.int .i64 g] := hbb.mod st2.mod hbn
    have cb : w2.cell? ⟨b, 0, none⟩ = some (.int .i64 g) := by rw [hbb2.cell]; rfl
    unfold h20_1
    try simp only [go_sem, ↓reduceIte, Nat.reduceEqDiff, Nat.reduceAdd, Nat.reduceLT, List.length_cons, List.length_nil, List.getElem?_cons_zero, List.getElem?_cons_succ, Nat.mul_one, Bool.true_eq_false, Bool.false_eq_true, false_implies, true_implies, Bool.not_true, Bool.not_false, decide_true, decide_false, Int.reduceToNat, Int.cast_ofNat_Int, Int.reduceLT, Int.reduceLE, Int.reduceEq, Int.reduceNeg, eq_self, t0, t1, t5, cb]
    refine bsl2 sl22 rfl rfl ?_
    intro b3 w3 hbb3 own3 blk3 m3 hsz3
    have st3 := st2.mod0 m3
    have hbb3' := hbb2.mod m3 fun h => h
    have cb3 : w3.cell? ⟨b, 0, none⟩ = some (.int .i64 g) := by rw [hbb3'.cell]; rfl
    have fs : ∀ {d' : Dk} {w' : World}, St S w0 w' p d' → St S w w' p d' := fun st => st.after m0
    refine may_ st3.dr (by omega) (l := [f, g]) own3.sl ?_
    try simp only [go_sem, ↓reduceIte, Nat.reduceEqDiff, Nat.reduceAdd, Nat.reduceLT, List.length_cons, List.length_nil, List.getElem?_cons_zero, List.getElem?_cons_succ, Nat.mul_one, Bool.true_eq_false, Bool.false_eq_true, false_implies, true_implies, Bool.not_true, Bool.not_false, decide_true, decide_false, Int.reduceToNat, Int.cast_ofNat_Int, Int.reduceLT, Int.reduceLE, Int.reduceEq, Int.reduceNeg, eq_self, t0, t1, t5, cb3]
    refine ⟨fun he => ?_, fun he => ?_⟩
    · have he : d.pre.may [f, g] ≠ 0 := by simpa using he
      have := k w3
      simp only [Dk.turn, Dk.turnR, if_pos he] at this
      exact this (fs st3)
    have he : d.pre.may [f, g] = 0 := by simpa using he
    simp only [Dk.turn, Dk.turnR, he, ne_eq, not_true, if_false] at k
    obtain ⟨⟨fn, rfl, hf⟩, gn, rfl, hg⟩ := may_ok2 he
    simp only [Int.toNat_natCast] at k
    have ok := st3.dr.ok
    obtain ⟨qv, kv, hb, hq, hk, h1, h2, c24, c25, c26, c27, c28⟩ := st3.dr.parts
    unfold h20_2
    try simp only [go_sem, ↓reduceIte, Nat.reduceEqDiff, Nat.reduceAdd, Nat.reduceLT, List.length_cons, List.length_nil, List.getElem?_cons_zero, List.getElem?_cons_succ, Nat.mul_one, Bool.true_eq_false, Bool.false_eq_true, false_implies, true_implies, Bool.not_true, Bool.not_false, decide_true, decide_false, Int.reduceToNat, Int.cast_ofNat_Int, Int.reduceLT, Int.reduceLE, Int.reduceEq, Int.reduceNeg, eq_self, t0, t1, t5, cb3, c24]
    refine ⟨fun hfg => ?_, fun hfg => ?_⟩
    · have hfg : (fn : Int) = gn := by simpa using hfg
      simp only [if_pos hfg] at k
      exact k w3 (fs st3)
    have hfg : ¬ (fn : Int) = gn := by simpa using hfg
    simp only [if_neg hfg] at k
    try simp only [go_sem, ↓reduceIte, Nat.reduceEqDiff, Nat.reduceAdd, Nat.reduceLT, List.length_cons, List.length_nil, List.getElem?_cons_zero, List.getElem?_cons_succ, Nat.mul_one, Bool.true_eq_false, Bool.false_eq_true, false_implies, true_implies, Bool.not_true, Bool.not_false, decide_true, decide_false, Int.reduceToNat, Int.cast_ofNat_Int, Int.reduceLT, Int.reduceLE, Int.reduceEq, Int.reduceNeg, eq_self, t0, t1, t5, cb3, c24, List.nil_append]
    refine contains_ (test42 b gn) hbb3' hq.sl (by omega) ?_
    intro w4 m4
    have st4 := st3.mod0 m4
    have hbb4 := hbb3'.mod m4 fun h => h
    try simp only [go_sem, ↓reduceIte, Nat.reduceEqDiff, Nat.reduceAdd, Nat.reduceLT, List.length_cons, List.length_nil, List.getElem?_cons_zero, List.getElem?_cons_succ, Nat.mul_one, Bool.true_eq_false, Bool.false_eq_true, false_implies, true_implies, Bool.not_true, Bool.not_false, decide_true, decide_false, Int.reduceToNat, Int.cast_ofNat_Int, Int.reduceLT, Int.reduceLE, Int.reduceEq, Int.reduceNeg, eq_self, t0, t1, t5]
    refine ⟨fun hp => ?_, fun hp => ?_⟩
    · have hp : d.pre.pends gn = true := hp
      simp only [if_pos hp] at k
      exact k w4 (fs st4)
    have hp : ¬ d.pre.pends gn = true := by simp only [Dk.pends, hp]; simp
    simp only [if_neg hp] at k
    obtain ⟨qv, kv, hb, -⟩ := st4.dr.parts
    have cb4 : w4.cell? ⟨b, 0, none⟩ = some (.int .i64 gn) := by rw [hbb4.cell]; rfl
    have cl : w4.cell? ⟨p, gn, none⟩ = some (str (d.pre.last gn)) := by rw [hb.cell, cells_last ok.nl hg]
    unfold h20_3
    try simp only [go_sem, ↓reduceIte, Nat.reduceEqDiff, Nat.reduceAdd, Nat.reduceLT, List.length_cons, List.length_nil, List.getElem?_cons_zero, List.getElem?_cons_succ, Nat.mul_one, Bool.true_eq_false, Bool.false_eq_true, false_implies, true_implies, Bool.not_true, Bool.not_false, decide_true, decide_false, Int.reduceToNat, Int.cast_ofNat_Int, Int.reduceLT, Int.reduceLE, Int.reduceEq, Int.reduceNeg, eq_self, t0, t1, t5, cb4, cl]
    refine ⟨⟨by omega, by omega⟩, ?_⟩
    refine settle_ st4.drew.dr hf (getD_le ok.bl gn) (by omega) ?_
    intro w5 st5'
    have st5 := st4.drew.trans st5'
    have hbb5 : Blk w5 b 3 [.int .i64 gn] := hbb.mod st5.mod hbn
    have cb5 : w5.cell? ⟨b, 0, none⟩ = some (.int .i64 gn) := by rw [hbb5.cell]; rfl
    try simp only [go_sem, ↓reduceIte, Nat.reduceEqDiff, Nat.reduceAdd, Nat.reduceLT, List.length_cons, List.length_nil, List.getElem?_cons_zero, List.getElem?_cons_succ, Nat.mul_one, Bool.true_eq_false, Bool.false_eq_true, false_implies, true_implies, Bool.not_true, Bool.not_false, decide_true, decide_false, Int.reduceToNat, Int.cast_ofNat_Int, Int.reduceLT, Int.reduceLE, Int.reduceEq, Int.reduceNeg, eq_self, t0, t1, t5, cb5]
    refine settle_ st5.dr hg (by simp) (Nat.le_trans (List.length_filter_le _ _) (by omega)) ?_
    intro w6 st6'
    have st6 := st5.trans st6'
    try simp only [go_sem, ↓reduceIte, Nat.reduceEqDiff, Nat.reduceAdd, Nat.reduceLT, List.length_cons, List.length_nil, List.getElem?_cons_zero, List.getElem?_cons_succ, Nat.mul_one, Bool.true_eq_false, Bool.false_eq_true, false_implies, true_implies, Bool.not_true, Bool.not_false, decide_true, decide_false, Int.reduceToNat, Int.cast_ofNat_Int, Int.reduceLT, Int.reduceLE, Int.reduceEq, Int.reduceNeg, eq_self]
    exact k w6 (fs st6)
  try simp only [go_sem, ↓reduceIte, Nat.reduceEqDiff, Nat.reduceAdd, Nat.reduceLT, List.length_cons, List.length_nil, List.getElem?_cons_zero, List.getElem?_cons_succ, Nat.mul_one, Bool.true_eq_false, Bool.false_eq_true, false_implies, true_implies, Bool.not_true, Bool.not_false, decide_true, decide_false, Int.reduceToNat, Int.cast_ofNat_Int, Int.reduceLT, Int.reduceLE, Int.reduceEq, Int.reduceNeg, eq_self]
  refine ⟨fun he => ?_, fun he => ?_⟩
  · refine crashK_ (St.of dr1 m1).dr (by rw [tick_queue]; omega) ?_
    intro w2 st2'
    have st2 := (St.of dr1 m1).trans st2'
    have e1 : d.tick.crash d.tick.keep = d.pre := by simp [Dk.pre, Dk.endW, he, tick_keep]
    rw [e1] at st2
    exact rest _ _ rfl rfl rfl st2
  · have e1 : d.tick = d.pre := by simp [Dk.pre, Dk.endW, he]
    have st1 : St S w0 w1 p d.tick := .of dr1 m1
    rw [e1] at st1
    exact rest _ _ rfl rfl rfl st1
end
end Go.Proofs.Y

/- DJ: the small example, printed by mksmall.py. -/
namespace Go.Proofs.Y
open Go Go.HL Go.Proofs
namespace Small
instance : DecidableEq Pd := fun a b => by
  cases a; cases b; simp only [Pd.mk.injEq]; infer_instance
def y1 : Dk := Dk.new.write 1 0 [104, 101, 108, 108, 111]
theorem z1 : Dk.new.writeR 1 0 [104, 101, 108, 108, 111] = 0 := by decide +kernel
theorem u1 : Dk.new.write 1 0 [104, 101, 108, 108, 111] = y1 := rfl
def y2 : Dk := y1.flush 1
theorem z2 : y1.flushR 1 = 0 := by decide +kernel
theorem u2 : y1.flush 1 = y2 := rfl
def y3 : Dk := y2.write 1 5 [121]
theorem z3 : y2.writeR 1 5 [121] = 0 := by decide +kernel
theorem u3 : y2.write 1 5 [121] = y3 := rfl
def y4 : Dk := y3.write 1 8 [122]
theorem z4 : y3.writeR 1 8 [122] = 0 := by decide +kernel
theorem u4 : y3.write 1 8 [122] = y4 := rfl
def y5 : Dk := y4.crash [1]
theorem u5 : y4.crash [1] = y5 := rfl
theorem z6 : y5.read 1 = [] := by decide +kernel
theorem zz6 : y5.may [1] = 8 := by decide +kernel
def y8 : Dk := y5.start
theorem u8 : y5.start = y8 := rfl
theorem z9 : y8.read 1 = [104, 101, 108, 108, 111, 121] := by decide +kernel
theorem zz9 : y8.may [1] = 0 := by decide +kernel
def y10 : Dk := y8.lose 1
theorem u10 : y8.lose 1 = y10 := rfl
def y11 : Dk := y10.flush 1
theorem z11 : y10.flushR 1 = 9 := by decide +kernel
theorem u11 : y10.flush 1 = y11 := rfl
def y12 : Dk := y11.write 2 0 [120]
theorem z12 : y11.writeR 2 0 [120] = 0 := by decide +kernel
theorem u12 : y11.write 2 0 [120] = y12 := rfl
def y13 : Dk := y12.turn 1 2
theorem z13 : y12.turnR 1 2 = 7 := by decide +kernel
theorem u13 : y12.turn 1 2 = y13 := rfl
def y14 : Dk := y13.flush 2
theorem z14 : y13.flushR 2 = 0 := by decide +kernel
theorem u14 : y13.flush 2 = y14 := rfl
def y15 : Dk := y14.turn 1 2
theorem z15 : y14.turnR 1 2 = 0 := by decide +kernel
theorem u15 : y14.turn 1 2 = y15 := rfl
theorem z16 : y15.read 1 = [120] := by decide +kernel
theorem zz16 : y15.may [1] = 0 := by decide +kernel
def y17 : Dk := y15.write 3 62 [97, 98, 99, 100]
theorem z17 : y15.writeR 3 62 [97, 98, 99, 100] = 0 := by decide +kernel
theorem u17 : y15.write 3 62 [97, 98, 99, 100] = y17 := rfl
def y18 : Dk := y17.crash [0, 1]
theorem u18 : y17.crash [0, 1] = y18 := rfl
def y19 : Dk := y18.start
theorem u19 : y18.start = y19 := rfl
theorem z20 : y19.read 3 = List.replicate 64 0 ++ [99, 100] := by decide +kernel
theorem zz20 : y19.may [3] = 0 := by decide +kernel
end Small
section
open Small
variable {w : World} {next : Value → World → Prop} {QP : List PanicEntry → World → Prop}

theorem small_ (k : ∀ w', Mod none' w w' → next (.bool true) w') : callvK Try.prog (.func (.func 16) #[] #[]) [] w next QP := by
  refine r16 rfl ?_
  unfold h16
  try simp only [go_sem, ↓reduceIte, Nat.reduceEqDiff, Nat.reduceAdd, Nat.reduceLT, List.length_cons, List.length_nil, List.getElem?_cons_zero, List.getElem?_cons_succ, Nat.mul_one, Bool.true_eq_false, Bool.false_eq_true, false_implies, true_implies, Bool.not_true, Bool.not_false, decide_true, decide_false, Int.reduceToNat, Int.cast_ofNat_Int, Int.reduceLT, Int.reduceLE, Int.reduceEq, Int.reduceNeg, eq_self]
  refine new_ ?_
  intro p w0 hp st
  try simp only [go_sem, ↓reduceIte, Nat.reduceEqDiff, Nat.reduceAdd, Nat.reduceLT, List.length_cons, List.length_nil, List.getElem?_cons_zero, List.getElem?_cons_succ, Nat.mul_one, Bool.true_eq_false, Bool.false_eq_true, false_implies, true_implies, Bool.not_true, Bool.not_false, decide_true, decide_false, Int.reduceToNat, Int.cast_ofNat_Int, Int.reduceLT, Int.reduceLE, Int.reduceEq, Int.reduceNeg, eq_self]
  refine ⟨fun h => absurd h (by simp), fun _ => ?_⟩
  unfold h16_1
  try simp only [go_sem, ↓reduceIte, Nat.reduceEqDiff, Nat.reduceAdd, Nat.reduceLT, List.length_cons, List.length_nil, List.getElem?_cons_zero, List.getElem?_cons_succ, Nat.mul_one, Bool.true_eq_false, Bool.false_eq_true, false_implies, true_implies, Bool.not_true, Bool.not_false, decide_true, decide_false, Int.reduceToNat, Int.cast_ofNat_Int, Int.reduceLT, Int.reduceLE, Int.reduceEq, Int.reduceNeg, eq_self]
  refine write_ st.dr (f := 1) (a := 0) (s := [104, 101, 108, 108, 111]) (by decide) (by decide) (by decide +kernel) ?_
  intro w1 st'
  have st := st.trans st'
  rw [u1] at st
  rw [z1]
  try simp only [go_sem, ↓reduceIte, Nat.reduceEqDiff, Nat.reduceAdd, Nat.reduceLT, List.length_cons, List.length_nil, List.getElem?_cons_zero, List.getElem?_cons_succ, Nat.mul_one, Bool.true_eq_false, Bool.false_eq_true, false_implies, true_implies, Bool.not_true, Bool.not_false, decide_true, decide_false, Int.reduceToNat, Int.cast_ofNat_Int, Int.reduceLT, Int.reduceLE, Int.reduceEq, Int.reduceNeg, eq_self]
  refine flush_ st.dr (f := 1) (by decide +kernel) ?_
  intro w2 st'
  have st := st.trans st'
  rw [u2] at st
  rw [z2]
  try simp only [go_sem, ↓reduceIte, Nat.reduceEqDiff, Nat.reduceAdd, Nat.reduceLT, List.length_cons, List.length_nil, List.getElem?_cons_zero, List.getElem?_cons_succ, Nat.mul_one, Bool.true_eq_false, Bool.false_eq_true, false_implies, true_implies, Bool.not_true, Bool.not_false, decide_true, decide_false, Int.reduceToNat, Int.cast_ofNat_Int, Int.reduceLT, Int.reduceLE, Int.reduceEq, Int.reduceNeg, eq_self]
  refine write_ st.dr (f := 1) (a := 5) (s := [121]) (by decide) (by decide) (by decide +kernel) ?_
  intro w3 st'
  have st := st.trans st'
  rw [u3] at st
  rw [z3]
  try simp only [go_sem, ↓reduceIte, Nat.reduceEqDiff, Nat.reduceAdd, Nat.reduceLT, List.length_cons, List.length_nil, List.getElem?_cons_zero, List.getElem?_cons_succ, Nat.mul_one, Bool.true_eq_false, Bool.false_eq_true, false_implies, true_implies, Bool.not_true, Bool.not_false, decide_true, decide_false, Int.reduceToNat, Int.cast_ofNat_Int, Int.reduceLT, Int.reduceLE, Int.reduceEq, Int.reduceNeg, eq_self]
  refine write_ st.dr (f := 1) (a := 8) (s := [122]) (by decide) (by decide) (by decide +kernel) ?_
  intro w4 st'
  have st := st.trans st'
  rw [u4] at st
  rw [z4]
  try simp only [go_sem, ↓reduceIte, Nat.reduceEqDiff, Nat.reduceAdd, Nat.reduceLT, List.length_cons, List.length_nil, List.getElem?_cons_zero, List.getElem?_cons_succ, Nat.mul_one, Bool.true_eq_false, Bool.false_eq_true, false_implies, true_implies, Bool.not_true, Bool.not_false, decide_true, decide_false, Int.reduceToNat, Int.cast_ofNat_Int, Int.reduceLT, Int.reduceLE, Int.reduceEq, Int.reduceNeg, eq_self]
  unfold h16_2
  try simp only [go_sem, ↓reduceIte, Nat.reduceEqDiff, Nat.reduceAdd, Nat.reduceLT, List.length_cons, List.length_nil, List.getElem?_cons_zero, List.getElem?_cons_succ, Nat.mul_one, Bool.true_eq_false, Bool.false_eq_true, false_implies, true_implies, Bool.not_true, Bool.not_false, decide_true, decide_false, Int.reduceToNat, Int.cast_ofNat_Int, Int.reduceLT, Int.reduceLE, Int.reduceEq, Int.reduceNeg, eq_self]
  have hp := st.dr.plt
  refine bsl1 sl22 rfl rfl (by decide) ?_
  intro b5 x5 hb5 own5 blk5 m5 sz5
  have st := st.mod0 m5
  try simp only [go_sem, ↓reduceIte, Nat.reduceEqDiff, Nat.reduceAdd, Nat.reduceLT, List.length_cons, List.length_nil, List.getElem?_cons_zero, List.getElem?_cons_succ, Nat.mul_one, Bool.true_eq_false, Bool.false_eq_true, false_implies, true_implies, Bool.not_true, Bool.not_false, decide_true, decide_false, Int.reduceToNat, Int.cast_ofNat_Int, Int.reduceLT, Int.reduceLE, Int.reduceEq, Int.reduceNeg, eq_self]
  refine crash_ st.dr (ks := [1]) own5.sl (fun _ e => by simp [Value.ownBlock] at e; omega) (by decide +kernel) ?_
  intro w5 st'
  have st := st.trans st'
  rw [u5] at st
  try simp only [go_sem, ↓reduceIte, Nat.reduceEqDiff, Nat.reduceAdd, Nat.reduceLT, List.length_cons, List.length_nil, List.getElem?_cons_zero, List.getElem?_cons_succ, Nat.mul_one, Bool.true_eq_false, Bool.false_eq_true, false_implies, true_implies, Bool.not_true, Bool.not_false, decide_true, decide_false, Int.reduceToNat, Int.cast_ofNat_Int, Int.reduceLT, Int.reduceLE, Int.reduceEq, Int.reduceNeg, eq_self]
  refine read_ st.dr 1 ?_
  intro w6 dr m
  have st := st.mod0 m
  rw [show y5.read 1 = _ from z6, show y5.may [1] = _ from zz6]
  try simp only [go_sem, ↓reduceIte, Nat.reduceEqDiff, Nat.reduceAdd, Nat.reduceLT, List.length_cons, List.length_nil, List.getElem?_cons_zero, List.getElem?_cons_succ, Nat.mul_one, Bool.true_eq_false, Bool.false_eq_true, false_implies, true_implies, Bool.not_true, Bool.not_false, decide_true, decide_false, Int.reduceToNat, Int.cast_ofNat_Int, Int.reduceLT, Int.reduceLE, Int.reduceEq, Int.reduceNeg, eq_self]
  refine down_ st.dr ?_
  rw [show y5.down = true from by decide +kernel]
  try simp only [go_sem, ↓reduceIte, Nat.reduceEqDiff, Nat.reduceAdd, Nat.reduceLT, List.length_cons, List.length_nil, List.getElem?_cons_zero, List.getElem?_cons_succ, Nat.mul_one, Bool.true_eq_false, Bool.false_eq_true, false_implies, true_implies, Bool.not_true, Bool.not_false, decide_true, decide_false, Int.reduceToNat, Int.cast_ofNat_Int, Int.reduceLT, Int.reduceLE, Int.reduceEq, Int.reduceNeg, eq_self]
  unfold h16_3
  try simp only [go_sem, ↓reduceIte, Nat.reduceEqDiff, Nat.reduceAdd, Nat.reduceLT, List.length_cons, List.length_nil, List.getElem?_cons_zero, List.getElem?_cons_succ, Nat.mul_one, Bool.true_eq_false, Bool.false_eq_true, false_implies, true_implies, Bool.not_true, Bool.not_false, decide_true, decide_false, Int.reduceToNat, Int.cast_ofNat_Int, Int.reduceLT, Int.reduceLE, Int.reduceEq, Int.reduceNeg, eq_self]
  refine start_ st.dr ?_
  intro w8 dr m _
  have st := st.trans (.of dr m)
  rw [u8] at st
  try simp only [go_sem, ↓reduceIte, Nat.reduceEqDiff, Nat.reduceAdd, Nat.reduceLT, List.length_cons, List.length_nil, List.getElem?_cons_zero, List.getElem?_cons_succ, Nat.mul_one, Bool.true_eq_false, Bool.false_eq_true, false_implies, true_implies, Bool.not_true, Bool.not_false, decide_true, decide_false, Int.reduceToNat, Int.cast_ofNat_Int, Int.reduceLT, Int.reduceLE, Int.reduceEq, Int.reduceNeg, eq_self]
  refine read_ st.dr 1 ?_
  intro w9 dr m
  have st := st.mod0 m
  rw [show y8.read 1 = _ from z9, show y8.may [1] = _ from zz9]
  try simp only [go_sem, ↓reduceIte, Nat.reduceEqDiff, Nat.reduceAdd, Nat.reduceLT, List.length_cons, List.length_nil, List.getElem?_cons_zero, List.getElem?_cons_succ, Nat.mul_one, Bool.true_eq_false, Bool.false_eq_true, false_implies, true_implies, Bool.not_true, Bool.not_false, decide_true, decide_false, Int.reduceToNat, Int.cast_ofNat_Int, Int.reduceLT, Int.reduceLE, Int.reduceEq, Int.reduceNeg, eq_self]
  refine lose_ st.dr (n := 1) (by decide) ?_
  intro w10 dr m _
  have st := st.trans (.of dr m)
  rw [u10] at st
  try simp only [go_sem, ↓reduceIte, Nat.reduceEqDiff, Nat.reduceAdd, Nat.reduceLT, List.length_cons, List.length_nil, List.getElem?_cons_zero, List.getElem?_cons_succ, Nat.mul_one, Bool.true_eq_false, Bool.false_eq_true, false_implies, true_implies, Bool.not_true, Bool.not_false, decide_true, decide_false, Int.reduceToNat, Int.cast_ofNat_Int, Int.reduceLT, Int.reduceLE, Int.reduceEq, Int.reduceNeg, eq_self]
  refine flush_ st.dr (f := 1) (by decide +kernel) ?_
  intro w11 st'
  have st := st.trans st'
  rw [u11] at st
  rw [z11]
  try simp only [go_sem, ↓reduceIte, Nat.reduceEqDiff, Nat.reduceAdd, Nat.reduceLT, List.length_cons, List.length_nil, List.getElem?_cons_zero, List.getElem?_cons_succ, Nat.mul_one, Bool.true_eq_false, Bool.false_eq_true, false_implies, true_implies, Bool.not_true, Bool.not_false, decide_true, decide_false, Int.reduceToNat, Int.cast_ofNat_Int, Int.reduceLT, Int.reduceLE, Int.reduceEq, Int.reduceNeg, eq_self]
  unfold h16_4
  try simp only [go_sem, ↓reduceIte, Nat.reduceEqDiff, Nat.reduceAdd, Nat.reduceLT, List.length_cons, List.length_nil, List.getElem?_cons_zero, List.getElem?_cons_succ, Nat.mul_one, Bool.true_eq_false, Bool.false_eq_true, false_implies, true_implies, Bool.not_true, Bool.not_false, decide_true, decide_false, Int.reduceToNat, Int.cast_ofNat_Int, Int.reduceLT, Int.reduceLE, Int.reduceEq, Int.reduceNeg, eq_self]
  refine write_ st.dr (f := 2) (a := 0) (s := [120]) (by decide) (by decide) (by decide +kernel) ?_
  intro w12 st'
  have st := st.trans st'
  rw [u12] at st
  rw [z12]
  try simp only [go_sem, ↓reduceIte, Nat.reduceEqDiff, Nat.reduceAdd, Nat.reduceLT, List.length_cons, List.length_nil, List.getElem?_cons_zero, List.getElem?_cons_succ, Nat.mul_one, Bool.true_eq_false, Bool.false_eq_true, false_implies, true_implies, Bool.not_true, Bool.not_false, decide_true, decide_false, Int.reduceToNat, Int.cast_ofNat_Int, Int.reduceLT, Int.reduceLE, Int.reduceEq, Int.reduceNeg, eq_self]
  refine turn_ st.dr (f := 1) (g := 2) (by decide +kernel) ?_
  intro w13 st'
  have st := st.trans st'
  rw [u13] at st
  rw [z13]
  try simp only [go_sem, ↓reduceIte, Nat.reduceEqDiff, Nat.reduceAdd, Nat.reduceLT, List.length_cons, List.length_nil, List.getElem?_cons_zero, List.getElem?_cons_succ, Nat.mul_one, Bool.true_eq_false, Bool.false_eq_true, false_implies, true_implies, Bool.not_true, Bool.not_false, decide_true, decide_false, Int.reduceToNat, Int.cast_ofNat_Int, Int.reduceLT, Int.reduceLE, Int.reduceEq, Int.reduceNeg, eq_self]
  refine flush_ st.dr (f := 2) (by decide +kernel) ?_
  intro w14 st'
  have st := st.trans st'
  rw [u14] at st
  rw [z14]
  try simp only [go_sem, ↓reduceIte, Nat.reduceEqDiff, Nat.reduceAdd, Nat.reduceLT, List.length_cons, List.length_nil, List.getElem?_cons_zero, List.getElem?_cons_succ, Nat.mul_one, Bool.true_eq_false, Bool.false_eq_true, false_implies, true_implies, Bool.not_true, Bool.not_false, decide_true, decide_false, Int.reduceToNat, Int.cast_ofNat_Int, Int.reduceLT, Int.reduceLE, Int.reduceEq, Int.reduceNeg, eq_self]
  refine turn_ st.dr (f := 1) (g := 2) (by decide +kernel) ?_
  intro w15 st'
  have st := st.trans st'
  rw [u15] at st
  rw [z15]
  try simp only [go_sem, ↓reduceIte, Nat.reduceEqDiff, Nat.reduceAdd, Nat.reduceLT, List.length_cons, List.length_nil, List.getElem?_cons_zero, List.getElem?_cons_succ, Nat.mul_one, Bool.true_eq_false, Bool.false_eq_true, false_implies, true_implies, Bool.not_true, Bool.not_false, decide_true, decide_false, Int.reduceToNat, Int.cast_ofNat_Int, Int.reduceLT, Int.reduceLE, Int.reduceEq, Int.reduceNeg, eq_self]
  unfold h16_5
  try simp only [go_sem, ↓reduceIte, Nat.reduceEqDiff, Nat.reduceAdd, Nat.reduceLT, List.length_cons, List.length_nil, List.getElem?_cons_zero, List.getElem?_cons_succ, Nat.mul_one, Bool.true_eq_false, Bool.false_eq_true, false_implies, true_implies, Bool.not_true, Bool.not_false, decide_true, decide_false, Int.reduceToNat, Int.cast_ofNat_Int, Int.reduceLT, Int.reduceLE, Int.reduceEq, Int.reduceNeg, eq_self]
  refine read_ st.dr 1 ?_
  intro w16 dr m
  have st := st.mod0 m
  rw [show y15.read 1 = _ from z16, show y15.may [1] = _ from zz16]
  try simp only [go_sem, ↓reduceIte, Nat.reduceEqDiff, Nat.reduceAdd, Nat.reduceLT, List.length_cons, List.length_nil, List.getElem?_cons_zero, List.getElem?_cons_succ, Nat.mul_one, Bool.true_eq_false, Bool.false_eq_true, false_implies, true_implies, Bool.not_true, Bool.not_false, decide_true, decide_false, Int.reduceToNat, Int.cast_ofNat_Int, Int.reduceLT, Int.reduceLE, Int.reduceEq, Int.reduceNeg, eq_self]
  refine write_ st.dr (f := 3) (a := 62) (s := [97, 98, 99, 100]) (by decide) (by decide) (by decide +kernel) ?_
  intro w17 st'
  have st := st.trans st'
  rw [u17] at st
  rw [z17]
  try simp only [go_sem, ↓reduceIte, Nat.reduceEqDiff, Nat.reduceAdd, Nat.reduceLT, List.length_cons, List.length_nil, List.getElem?_cons_zero, List.getElem?_cons_succ, Nat.mul_one, Bool.true_eq_false, Bool.false_eq_true, false_implies, true_implies, Bool.not_true, Bool.not_false, decide_true, decide_false, Int.reduceToNat, Int.cast_ofNat_Int, Int.reduceLT, Int.reduceLE, Int.reduceEq, Int.reduceNeg, eq_self]
  have hp := st.dr.plt
  refine bsl2 sl22 rfl rfl ?_
  intro b18 x18 hb18 own18 blk18 m18 sz18
  have st := st.mod0 m18
  try simp only [go_sem, ↓reduceIte, Nat.reduceEqDiff, Nat.reduceAdd, Nat.reduceLT, List.length_cons, List.length_nil, List.getElem?_cons_zero, List.getElem?_cons_succ, Nat.mul_one, Bool.true_eq_false, Bool.false_eq_true, false_implies, true_implies, Bool.not_true, Bool.not_false, decide_true, decide_false, Int.reduceToNat, Int.cast_ofNat_Int, Int.reduceLT, Int.reduceLE, Int.reduceEq, Int.reduceNeg, eq_self]
  refine crash_ st.dr (ks := [0, 1]) own18.sl (fun _ e => by simp [Value.ownBlock] at e; omega) (by decide +kernel) ?_
  intro w18 st'
  have st := st.trans st'
  rw [u18] at st
  try simp only [go_sem, ↓reduceIte, Nat.reduceEqDiff, Nat.reduceAdd, Nat.reduceLT, List.length_cons, List.length_nil, List.getElem?_cons_zero, List.getElem?_cons_succ, Nat.mul_one, Bool.true_eq_false, Bool.false_eq_true, false_implies, true_implies, Bool.not_true, Bool.not_false, decide_true, decide_false, Int.reduceToNat, Int.cast_ofNat_Int, Int.reduceLT, Int.reduceLE, Int.reduceEq, Int.reduceNeg, eq_self]
  unfold h16_6
  try simp only [go_sem, ↓reduceIte, Nat.reduceEqDiff, Nat.reduceAdd, Nat.reduceLT, List.length_cons, List.length_nil, List.getElem?_cons_zero, List.getElem?_cons_succ, Nat.mul_one, Bool.true_eq_false, Bool.false_eq_true, false_implies, true_implies, Bool.not_true, Bool.not_false, decide_true, decide_false, Int.reduceToNat, Int.cast_ofNat_Int, Int.reduceLT, Int.reduceLE, Int.reduceEq, Int.reduceNeg, eq_self]
  refine start_ st.dr ?_
  intro w19 dr m _
  have st := st.trans (.of dr m)
  rw [u19] at st
  try simp only [go_sem, ↓reduceIte, Nat.reduceEqDiff, Nat.reduceAdd, Nat.reduceLT, List.length_cons, List.length_nil, List.getElem?_cons_zero, List.getElem?_cons_succ, Nat.mul_one, Bool.true_eq_false, Bool.false_eq_true, false_implies, true_implies, Bool.not_true, Bool.not_false, decide_true, decide_false, Int.reduceToNat, Int.cast_ofNat_Int, Int.reduceLT, Int.reduceLE, Int.reduceEq, Int.reduceNeg, eq_self]
  refine read_ st.dr 3 ?_
  intro w20 dr m
  have st := st.mod0 m
  rw [show y19.read 3 = _ from z20, show y19.may [3] = _ from zz20]
  try simp only [go_sem, ↓reduceIte, Nat.reduceEqDiff, Nat.reduceAdd, Nat.reduceLT, List.length_cons, List.length_nil, List.getElem?_cons_zero, List.getElem?_cons_succ, Nat.mul_one, Bool.true_eq_false, Bool.false_eq_true, false_implies, true_implies, Bool.not_true, Bool.not_false, decide_true, decide_false, Int.reduceToNat, Int.cast_ofNat_Int, Int.reduceLT, Int.reduceLE, Int.reduceEq, Int.reduceNeg, eq_self]
  try simp only [List.length_append, List.length_replicate, List.drop_left', Nat.reduceAdd, List.length_cons, List.length_nil]
  refine ⟨fun _ => by omega, fun _ => by omega, fun _ => by omega, fun h => absurd h (by decide +kernel), fun _ => ?_⟩
  unfold h16_7
  try simp only [go_sem, ↓reduceIte, Nat.reduceEqDiff, Nat.reduceAdd, Nat.reduceLT, List.length_cons, List.length_nil, List.getElem?_cons_zero, List.getElem?_cons_succ, Nat.mul_one, Bool.true_eq_false, Bool.false_eq_true, false_implies, true_implies, Bool.not_true, Bool.not_false, decide_true, decide_false, Int.reduceToNat, Int.cast_ofNat_Int, Int.reduceLT, Int.reduceLE, Int.reduceEq, Int.reduceNeg, eq_self]
  try simp only [decide_true, ↓reduceIte, Bool.true_eq_false, false_implies, true_implies, and_true, true_and]
  refine size_ st.dr 2 ?_
  rw [show y19.size 2 = 0 from by decide +kernel]
  unfold l16_11
  try simp only [go_sem, ↓reduceIte, Nat.reduceEqDiff, Nat.reduceAdd, Nat.reduceLT, List.length_cons, List.length_nil, List.getElem?_cons_zero, List.getElem?_cons_succ, Nat.mul_one, Bool.true_eq_false, Bool.false_eq_true, false_implies, true_implies, Bool.not_true, Bool.not_false, decide_true, decide_false, Int.reduceToNat, Int.cast_ofNat_Int, Int.reduceLT, Int.reduceLE, Int.reduceEq, Int.reduceNeg, eq_self]
  try simp only [decide_true, ↓reduceIte, Bool.true_eq_false, false_implies, true_implies, and_true, true_and, Int.cast_ofNat_Int, Int.natCast_zero]
  refine write_ st.dr (f := 12) (a := 0) (s := []) (by decide) (by decide) (by decide +kernel) ?_
  intro w21 st'
  have st := st.trans st'
  rw [show y19.write 12 0 [] = y19 from rfl] at st
  rw [show y19.writeR 12 0 [] = 1 from by decide +kernel]
  unfold l16_10
  try simp only [go_sem, ↓reduceIte, Nat.reduceEqDiff, Nat.reduceAdd, Nat.reduceLT, List.length_cons, List.length_nil, List.getElem?_cons_zero, List.getElem?_cons_succ, Nat.mul_one, Bool.true_eq_false, Bool.false_eq_true, false_implies, true_implies, Bool.not_true, Bool.not_false, decide_true, decide_false, Int.reduceToNat, Int.cast_ofNat_Int, Int.reduceLT, Int.reduceLE, Int.reduceEq, Int.reduceNeg, eq_self]
  try simp only [decide_true, ↓reduceIte, Bool.true_eq_false, false_implies, true_implies, and_true, true_and, Int.cast_ofNat_Int, Int.natCast_zero]
  refine write_ st.dr (f := 0) (a := -1) (s := []) (by decide) (by decide) (by decide +kernel) ?_
  intro w22 st'
  have st := st.trans st'
  rw [show y19.write 0 (-1) [] = y19 from rfl] at st
  rw [show y19.writeR 0 (-1) [] = 1 from by decide +kernel]
  unfold l16_9
  try simp only [go_sem, ↓reduceIte, Nat.reduceEqDiff, Nat.reduceAdd, Nat.reduceLT, List.length_cons, List.length_nil, List.getElem?_cons_zero, List.getElem?_cons_succ, Nat.mul_one, Bool.true_eq_false, Bool.false_eq_true, false_implies, true_implies, Bool.not_true, Bool.not_false, decide_true, decide_false, Int.reduceToNat, Int.cast_ofNat_Int, Int.reduceLT, Int.reduceLE, Int.reduceEq, Int.reduceNeg, eq_self]
  try simp only [decide_true, ↓reduceIte, Bool.true_eq_false, false_implies, true_implies, and_true, true_and, Int.cast_ofNat_Int, Int.natCast_zero]
  refine cut_ st.dr (f := 1) (n := 2) (by decide +kernel) ?_
  intro w23 st'
  have st := st.trans st'
  rw [show y19.cutR 1 2 = 1 from by decide +kernel]
  unfold l16_8
  try simp only [go_sem, ↓reduceIte, Nat.reduceEqDiff, Nat.reduceAdd, Nat.reduceLT, List.length_cons, List.length_nil, List.getElem?_cons_zero, List.getElem?_cons_succ, Nat.mul_one, Bool.true_eq_false, Bool.false_eq_true, false_implies, true_implies, Bool.not_true, Bool.not_false, decide_true, decide_false, Int.reduceToNat, Int.cast_ofNat_Int, Int.reduceLT, Int.reduceLE, Int.reduceEq, Int.reduceNeg, eq_self]
  try simp only [decide_true, ↓reduceIte, Bool.true_eq_false, false_implies, true_implies, and_true, true_and, Int.cast_ofNat_Int, Int.natCast_zero]
  exact k _ st.mod
end
end Go.Proofs.Y

/- DZ: what came in with a call, as the walks ask for it. -/
namespace Go.Proofs.Y
open Go Go.HL Go.Proofs

theorem str_of (a : ByteArray) : Value.string a = str a.data.toList := rfl

theorem wf64 {a : Int} (h : (Lit.int .i64 a).wf = true) : -9223372036854775808 ≤ a ∧ a ≤ 9223372036854775807 := by
  simp only [Lit.wf, Bool.and_eq_true, decide_eq_true_eq] at h
  exact h

/-- a contract out of a rule -/
theorem calls_of_rule {f : FuncId} {args : List Value} {w : World} (h : ∀ next : Value → World → Prop, (∀ w', Mod none' w w' → next (.bool true) w') → callK Try.prog f args w next noPanic) :
    Calls Try.prog f args.toArray w fun e w' => e = .returned (.bool true) ∧ RowKit.Below w.heap.size w w' := by
  refine Calls.mono (h (fun v w' => v = .bool true ∧ RowKit.Below w.heap.size w w') fun w' m => ⟨rfl, m.below (Nat.le_refl _) fun _ _ h => h⟩) fun e w' he => ?_
  cases e with
  | returned v => exact ⟨by rw [he.1], he.2⟩
  | panicked c => exact he.elim
  | outgrown => exact he.elim

/-- a row of integers that came in can be read -/
theorem sl_of_row {w : World} {a : Option Addr} {len cap : Nat} {zs : List Int}
    (h : (a = none ∧ len = 0 ∧ cap = 0 ∧ zs = []) ∨ ∃ x, a = some x ∧ len ≤ cap ∧ cap ≤ maxLen ∧ zs.length = cap ∧ (∀ i, i < zs.length → w.cell? (x.add i) = some (.int .i64 (zs.getD i 0))) ∧ ∀ n ∈ zs, (Lit.int .i64 n).wf = true) :
    Sl w (.slice a len cap) 1 len (ints (zs.take len)) := by
  rcases h with ⟨rfl, rfl, rfl, rfl⟩ | ⟨x, rfl, hl, -, hz, hc, -⟩
  · exact ⟨rfl, none, 0, rfl, Nat.le_refl _, fun h => absurd h (Nat.lt_irrefl _)⟩
  · refine ⟨by rw [ints_len, List.length_take]; omega, some x, cap, rfl, hl, fun h0 => ?_⟩
    have hs : x.spot = none := by
      have := hc 0 (by omega)
      have e : x.add 0 = x := rfl
      rw [e] at this
      exact World.cell?_spot this
    obtain ⟨b, o, s⟩ := x
    simp only at hs
    subst hs
    refine ⟨b, o, rfl, fun j hj => ?_⟩
    have := hc j (by omega)
    rw [e_add] at this
    rw [this]
    simp only [ints, List.getElem?_map, List.getElem?_take, List.getD_eq_getElem?_getD]
    rw [if_pos (by omega), List.getElem?_eq_getElem (by omega)]
    rfl
end Go.Proofs.Y

/- HLM: more effects: a function outside the program that gives back what it got; append of a string; guards. -/
namespace Go.HL
open Go

section
variable {P : Program} {w : World} {next : Value → World → Prop} {QP : List PanicEntry → World → Prop}

theorem Mod.of_grown {w w' : World} {v : Value} (h : w.grownBy w' v.ownBlock) : Mod (ownS v) w w' :=
  ⟨h.os, h.tape, h.output, h.size, fun k hk hn => h.block k hk fun e => hn e.symm⟩

theorem strCells_bys (l : List UInt8) : Lib.strCells ⟨l.toArray⟩ = bys l := by
  simp [Lib.strCells, bys]

/-- append of a string to bytes of one's own -/
theorem appS_ {t u e : TypeId} {ty : TypeId} (ht : SlTy P t e 1 1 (.int .u8 0)) (hu : P.underlying u = some .string) {v : Value} {n : Nat} {xs : List Value} {l : List UInt8} (ho : Own w v e 1 n xs) (hm : n + l.length ≤ 140737488355328)
    (k : ∀ v' w', Own w' v' e 1 (n + l.length) (xs ++ bys l) → Mod (ownS v) w w' → (∀ k, v'.ownBlock = some k → v.ownBlock = some k ∨ w.heap.size ≤ k) → next v' w') :
    appK P #[t, u] ty v (str l) w next QP := by
  obtain ⟨i, hi, hz, hs, hby⟩ := ht.parts
  have hsz : (ByteArray.mk l.toArray).size = l.length := by simp [ByteArray.size]
  obtain ⟨hxl, hform⟩ := ho
  have hl2 : (xs ++ bys l).length = (n + l.length) * 1 := by rw [List.length_append, hxl, bys_len]; omega
  rcases hform with ⟨rfl, hn⟩ | ⟨g, cap, cur, fz, rfl, hfz, hg, hnc, hcm, hcs, htake⟩
  · subst hn
    obtain ⟨v', w', h1, h2, h3, h4⟩ := Lib.run_append_own_string (P := P) w w.heap.size t u ty e i ht.und hu hi hz hs hby (.slice none 0 0) 0 xs ⟨hxl, .inl ⟨rfl, rfl⟩⟩ ⟨l.toArray⟩ (by rw [hsz]; unfold maxLen; omega) (by rw [hsz]; exact hm) (Nat.le_refl _)
    rw [hsz, strCells_bys] at h2
    obtain ⟨h5, h6⟩ := h2
    refine eff_value h1 (k v' w' ⟨h5, ?_⟩ (.of_grown h3) fun b hb => .inr ?_)
    · rcases h6 with h6 | ⟨g, cap, cur, h7, -, h8, h9⟩
      · exact .inl h6
      · exact .inr ⟨g, cap, cur, _, h7, .inl rfl, h8, h9⟩
    · rcases h6 with ⟨rfl, -⟩ | ⟨g, cap, cur, rfl, h7, -⟩
      · cases hb
      · simp only [Value.ownBlock, Option.some.injEq] at hb; omega
  · have hcs' : cur.size = cap := by omega
    by_cases hroom : n + l.length ≤ cap
    · have hf := Lib.run_firstCells_string (P := P) w 1 ⟨l.toArray⟩
      have hst := storeCells_h P g n e fz (bys l) 0 cur w hg hfz (by rw [bys_len]; omega) (bys_one l)
      simp only [Nat.add_zero] at hst
      rw [strCells_bys, hsz] at hf
      have hr : (Builtin.append_ #[t, u] ty #[.slice (some ⟨g, 0, none⟩) n cap, str l]).run P w = .ok (.slice (some ⟨g, 0, none⟩) (n + l.length) cap) (w.setRow g (cur.toList.take n ++ bys l ++ cur.toList.drop (n + (bys l).length)).toArray) := by
        simp [Builtin.append_, run_und ht.und, run_und hu, sizeOf, typeInfo, hi, hs, str, Builtin.lenOf, hsz, hroom, hf, Addr.add_lit, hst]
      have hsize : ((cur.toList.take n ++ bys l ++ cur.toList.drop (n + (bys l).length)).toArray).size = cur.size := by
        simp only [List.size_toArray, List.length_append, List.length_take, List.length_drop, Array.length_toList, bys_len]; omega
      refine eff_value hr (k _ _ ⟨hl2, .inr ⟨g, cap, _, fz, rfl, by rw [hsize]; exact hfz, setRow_heap w g cur _ e _ hg, hroom, hcm, by rw [hsize]; omega, ?_⟩⟩ ?_ (fun k hk => .inl hk))
      · have e1 : cur.toList.take n = xs := by simpa using htake
        simp only [e1, Nat.mul_one]
        rw [show n + l.length = (xs ++ bys l).length by rw [hl2]; omega]
        exact List.take_left
      · exact ⟨rfl, rfl, rfl, by simp, fun k _ hk => setRow_other w g k _ (fun e => hk (by simp [ownS, Value.ownBlock, e]))⟩
    · have hr := Lib.run_append_grow_string (P := P) w t u ty e i (.int .u8 0) ht.und hu hi hz ⟨g, 0, none⟩ n cap xs (by rw [hs]; exact hxl) (holds_of hg hxl htake) ⟨l.toArray⟩ (by rw [hsz]; omega) (by rw [hsz]; omega) (growslice_fits (by rw [hsz]; omega) (by rw [hsz, hby]; omega))
      rw [hsz, strCells_bys] at hr
      have hge := grownCap_ge w (n + l.length) cap e
      have hcm2 := grownCap_le_maxLen w (n + l.length) cap e (by unfold maxLen; omega)
      have hz1 : (Value.int IntKind.u8 0).cells.size = 1 := rfl
      refine eff_value hr (k _ _ ⟨hl2, .inr ⟨w.heap.size, _, _, _, rfl, .inl rfl, heap_alloc_new w.drew _, hge, hcm2, ?_, ?_⟩⟩ ?_ (fun k hk => .inr (by simp [Value.ownBlock] at hk; omega)))
      · simp only [Array.size_append, List.size_toArray, size_zeroCells, hz1, hxl, bys_len]; omega
      · simp only [Array.toList_append, List.append_assoc]
        rw [← List.append_assoc, ← hl2]
        exact List.take_left
      · exact ⟨rfl, rfl, rfl, by simp, fun k hk _ => RowKit.Below.heap_alloc w.drew _ k hk⟩

theorem heap_alloc_newF (w : World) (o : Obj) : (w.alloc o).heap[w.heap.size]? = some o := by unfold World.alloc; simp

/-- []byte(s) -/
theorem s2b {s d e : TypeId} (hs : P.underlying s = some .string) (hd : P.underlying d = some (.slice e)) (he : P.underlying e = some (.int .u8)) {l : List UInt8} (hm : l.length ≤ maxLen)
    (k : ∀ b c w', w.heap.size = b → Own w' (.slice (some ⟨b, 0, none⟩) l.length c) e 1 l.length (bys l) → Mod none' w w' → w'.heap.size = b + 1 → next (.slice (some ⟨b, 0, none⟩) l.length c) w') :
    convK P s d (str l) w next QP := by
  have hsz : (ByteArray.mk l.toArray).size = l.length := by simp [ByteArray.size]
  have hr := run_bytes_of_string (P := P) w s d e ⟨l.toArray⟩ hs hd he
  rw [hsz] at hr
  have hge := grownCap_ge w l.length 0 e
  have hcm := grownCap_le_maxLen w l.length 0 e hm
  have hrow : (bytesRow ⟨l.toArray⟩ (grownCap w l.length 0 e)).toList = bys l ++ List.replicate (grownCap w l.length 0 e - l.length) (.int .u8 0) := by
    simp [bytesRow, bys, hsz]
  have hrl : (bytesRow ⟨l.toArray⟩ (grownCap w l.length 0 e)).size = grownCap w l.length 0 e := by
    rw [← Array.length_toList, hrow]; simp [bys_len]; omega
  refine eff_value hr (k _ _ _ rfl ⟨by rw [bys_len]; omega, .inr ⟨w.heap.size, _, _, _, rfl, .inr rfl, heap_alloc_newF w.drew _, hge, hcm, by rw [hrl]; omega, ?_⟩⟩ ⟨rfl, rfl, rfl, by simp, fun k hk _ => RowKit.Below.heap_alloc w.drew _ k hk⟩ (by simp))
  rw [hrow, Nat.mul_one, show l.length = (bys l).length by rw [bys_len]]
  exact List.take_left

theorem Blk.shape {w : World} {b t : Nat} {cs : List Value} (h : Blk w b t cs) : w.shape? b = Option.some (t, cs.length) := by
  obtain ⟨fz, h, -⟩ := h
  simp [World.shape?, h]

/-- unsafe.Pointer(p) -/
theorem conv_up {s d t : TypeId} (hs : P.underlying s = some (.pointer t)) (hd : P.underlying d = some .unsafePointer) (hsz : (P.info? t).map (fun i => decide (i.size = 0)) = some false)
    {b o e : Nat} {cs : List Value} (hb : Blk w b e cs) (ho : o < cs.length) (k : next (.pointer (some ⟨b, o, none⟩)) w) : convK P s d (.pointer (some ⟨b, o, none⟩)) w next QP := by
  obtain ⟨i, hi, hz0⟩ := Option.map_eq_some_iff.1 hsz
  have hz : i.size ≠ 0 := by simpa using hz0
  have hge : ¬ (cs.length ≤ o) := by omega
  refine eff_value (v := .pointer (some ⟨b, o, none⟩)) (w' := w) ?_ k
  simp [convert, Conv.unsafePointer, Conv.seenAt, viewAt, cellsIn, sizeOf, typeInfo, run_und hs, run_und hd, hi, hz, hb.shape, hge]
/-- ( *T)(p), p a block's beginning -/
theorem conv_dn {s d u : TypeId} (hs : P.underlying s = some .unsafePointer) (hd : P.underlying d = some (.pointer u)) (hsz : (P.info? u).map (fun i => decide (i.size = 0)) = some false)
    {b e : Nat} {cs : List Value} (hb : Blk w b e cs) (hl : liesAt P P.depth e (cs.length / P.cellsOf e) 0 u 1 = true) (k : next (.pointer (some ⟨b, 0, none⟩)) w) : convK P s d (.pointer (some ⟨b, 0, none⟩)) w next QP := by
  obtain ⟨i, hi, hz0⟩ := Option.map_eq_some_iff.1 hsz
  have hz : i.size ≠ 0 := by simpa using hz0
  refine eff_value (v := .pointer (some ⟨b, 0, none⟩)) (w' := w) ?_ k
  simp [convert, Conv.unsafePointer, Conv.seenAt, viewAt, variablesAt, sizeOf, typeInfo, run_und hs, run_und hd, hi, hz, hb.shape, hl]

theorem same_one (x : Value) : Extern.AbiNoEscape.same #[x] = pure x := rfl
/-- a call of a function that gives back its argument -/
theorem same_ {f : FuncId} {fn : Func} (hf : P.funcs[f]? = some fn) (hb : fn.body.isNone = true) (hn : (fn.name == "runtime.NumGoroutine") = false) (h1 : Extern.findNext fn = none) (h2 : Extern.find fn = some Extern.AbiNoEscape.same)
    {x : Value} (k : next x w) : callvK P (.func (.func f) #[] #[]) [x] w next QP := by
  unfold callvK
  have hn' : fn.name ≠ "runtime.NumGoroutine" := by simpa using hn
  have hb' : fn.body = none := by simpa using hb
  simp [Deferred.ofValue, invoke, callFunc, hf, hb', hn', h1, h2, same_one]
  exact k
theorem effUpon_mono {next' : Value → World → Prop} {r : Result Next} (h : effUpon P next QP r) (k : ∀ v w', next v w' → next' v w') : effUpon P next' QP r := by
  cases r with
  | ok n w' =>
    cases n <;> simp only [effUpon] at h ⊢
    case value v => exact k _ _ h
    case skip => exact k _ _ h
    case enter f args =>
      refine Calls.mono h fun e w'' he => ?_
      cases e <;> first | exact k _ _ he | exact he
    case row row args => exact Rows.mono h fun v w'' he => k _ _ he
  | halt x w' => cases x <;> simp only [effUpon] at h ⊢ <;> exact h
theorem callvK_mono {next' : Value → World → Prop} {f : Value} {args : List Value} (h : callvK P f args w next QP) (k : ∀ v w', next v w' → next' v w') : callvK P f args w next' QP := effUpon_mono h k

theorem bsl4 {t e by_ : Nat} {z v u x y : Value} (ht : SlTy P t e 1 by_ z) (hv : v.oneCell' = true) (hu : u.oneCell' = true) (hx : x.oneCell' = true) (hy : y.oneCell' = true)
    (k : ∀ b w', w.heap.size = b → Own w' (.slice (some ⟨b, 0, none⟩) 4 4) e 1 4 [v, u, x, y] → Blk w' b e [v, u, x, y] → Mod none' w w' → w'.heap.size = b + 1 → next (.slice (some ⟨b, 0, none⟩) 4 4) w') : bslK P t 4 [(0, v), (1, u), (2, x), (3, y)] w next QP := by
  refine bsl_ ht rfl (by omega) ?_ k
  rw [fill_one rfl hv (by simp), fill_one rfl hu (by simp), fill_one rfl hx (by simp), fill_one rfl hy (by simp), Instr.fill]
  congr 1
  apply Array.toList_inj.1
  simp [List.range_succ]

/-! ### unsafe.SliceData and unsafe.String -/
def usdK (P : Program) (ts : Array TypeId) (ty : TypeId) (s : Value) (w : World) (next : Value → World → Prop) (QP : List PanicEntry → World → Prop) : Prop := effUpon P next QP ((runV (Builtin.unsafeSliceData_ ts ty #[s])).run P w)
def usK (P : Program) (ts : Array TypeId) (ty : TypeId) (p n : Value) (w : World) (next : Value → World → Prop) (QP : List PanicEntry → World → Prop) : Prop := effUpon P next QP ((runV (Builtin.unsafeString_ ts ty #[p, n])).run P w)
@[congr] theorem usdK_congr {ts : Array TypeId} {ty : TypeId} {v v' : Value} {w' : World} (h : v = v') (hw : w = w') : usdK P ts ty v w next QP = usdK P ts ty v' w' next QP := by rw [h, hw]
@[congr] theorem usK_congr {ts : Array TypeId} {ty : TypeId} {a a' v v' : Value} {w' : World} (h : a = a') (h' : v = v') (hw : w = w') : usK P ts ty a v w next QP = usK P ts ty a' v' w' next QP := by rw [h, h', hw]
theorem f_usd {ty : TypeId} {ρ : Operand → Value} {s : Operand} {ts : Array TypeId} : heff P (.call { callee := .builtin .unsafeSliceData, args := #[s], argTypes := ts }) ty ρ w next QP = usdK P ts ty (ρ s) w next QP := by
  unfold heff usdK; rw [run_call_builtin .unsafeSliceData #[s] ts ty _ rfl rfl]; simp only [builtin, runV, List.map_toArray, List.map_cons, List.map_nil]
theorem f_us {ty : TypeId} {ρ : Operand → Value} {s x : Operand} {ts : Array TypeId} : heff P (.call { callee := .builtin .unsafeString, args := #[s, x], argTypes := ts }) ty ρ w next QP = usK P ts ty (ρ s) (ρ x) w next QP := by
  unfold heff usK; rw [run_call_builtin .unsafeString #[s, x] ts ty _ rfl rfl]; simp only [builtin, runV, List.map_toArray, List.map_cons, List.map_nil]

theorem usd_ {ts : Array TypeId} {ty e : TypeId} (hp : P.underlying ty = some (.pointer e)) {v : Value} {n : Nat} {xs : List Value} (ho : Own w v e 1 n xs)
    (k : ∀ p w', Mod none' w w' → (0 < n → ∃ g c, v = .slice (some ⟨g, 0, none⟩) n c ∧ p = some ⟨g, 0, none⟩) → next (.pointer p) w') : usdK P ts ty v w next QP := by
  rcases ho.2 with ⟨rfl, hn⟩ | ⟨g, cap, cur, fz, rfl, hfz, hg, hnc, hcm, hcs, htake⟩
  · exact eff_value (Lib.run_unsafeSliceData_nil w ts ty 0 0) (k none w (Mod.refl _ _) fun h => by omega)
  · by_cases hc : cap = 0
    · subst hc
      have hsh : w.shape? g = some (e, cur.size) := by simp [World.shape?, hg]
      exact eff_value (Lib.run_unsafeSliceData_zero (P := P) w ts ty e hp ⟨g, 0, none⟩ n _ hsh) (k _ _ (alloc_mod w _) fun h => by omega)
    · exact eff_value (Lib.run_unsafeSliceData_row (P := P) w ts ty ⟨g, 0, none⟩ n cap hc) (k _ w (Mod.refl _ _) fun _ => ⟨g, cap, rfl, rfl⟩)
theorem us_ {pt it ty e : TypeId} (hp : P.underlying pt = some (.pointer e)) (hc : P.cellsOf e = 1) {v : Value} {l : List UInt8} {p : Option Addr} (ho : Own w v e 1 l.length (bys l)) (hv : 0 < l.length → ∃ g c, v = .slice (some ⟨g, 0, none⟩) l.length c ∧ p = some ⟨g, 0, none⟩)
    (hm : l.length ≤ 9223372036854775807) (k : ∀ w', Mod (ownS v) w w' → next (str l) w') : usK P #[pt, it] ty (.pointer p) (.int .i64 l.length) w next QP := by
  rcases Nat.eq_zero_or_pos l.length with h0 | h0
  · obtain rfl : l = [] := List.eq_nil_of_length_eq_zero h0
    exact eff_value (Lib.run_unsafeString_none (P := P) w pt it ty p) (k w (Mod.refl _ _))
  · obtain ⟨g, c, rfl, rfl⟩ := hv h0
    rcases ho.2 with ⟨he, hn⟩ | ⟨g', cap, cur, fz, he, hfz, hg, hnc, hcm, hcs, htake⟩
    · cases he
    · simp only [Value.slice.injEq, Option.some.injEq, Addr.mk.injEq] at he
      obtain ⟨⟨rfl, -⟩, -, rfl⟩ := he
      have hsh : w.shape? g = some (e, cur.size) := by simp [World.shape?, hg]
      refine eff_value (Lib.run_unsafeString_row (P := P) w pt it ty _ hp hc g _ hsh l (by rintro rfl; simp at h0) (by omega) hm ?_) (k _ ⟨?_, ?_, ?_, ?_, ?_⟩)
      · intro j x hx
        refine holds_of hg ho.1 htake j _ ?_
        simp [bys, hx]
      · unfold World.freeze; split <;> rfl
      · unfold World.freeze; split <;> rfl
      · unfold World.freeze; split <;> rfl
      · unfold World.freeze; split <;> simp
      · intro k hk hn
        have hne : g ≠ k := fun e => hn (by simp [ownS, Value.ownBlock, e])
        unfold World.freeze; split
        · rfl
        · simp only [Array.getElem?_modify]; rw [if_neg hne]
end
attribute [go_sem] f_usd f_us
end Go.HL

/- HLO: operations on bits, at numbers that are not negative; the wrap written out. -/
namespace Go.HL
open Go

theorem bv_nat {n a : Nat} (h : a < 2 ^ n) : (BitVec.ofInt n (a : Int)).toNat = a := by
  rw [BitVec.ofInt_natCast, BitVec.toNat_ofNat, Nat.mod_eq_of_lt h]

theorem xorV {k : IntKind} {a b : Nat} (ha : a < 2 ^ k.bits) (hb : b < 2 ^ k.bits) : intV .xor k (a : Int) (b : Int) = .int k (k.wrap ((a ^^^ b : Nat) : Int)) := by
  simp only [intV, BitVec.toNat_xor, bv_nat ha, bv_nat hb]
theorem andV {k : IntKind} {a b : Nat} (ha : a < 2 ^ k.bits) (hb : b < 2 ^ k.bits) : intV .and k (a : Int) (b : Int) = .int k (k.wrap ((a &&& b : Nat) : Int)) := by
  simp only [intV, BitVec.toNat_and, bv_nat ha, bv_nat hb]
theorem orV {k : IntKind} {a b : Nat} (ha : a < 2 ^ k.bits) (hb : b < 2 ^ k.bits) : intV .or k (a : Int) (b : Int) = .int k (k.wrap ((a ||| b : Nat) : Int)) := by
  simp only [intV, BitVec.toNat_or, bv_nat ha, bv_nat hb]

theorem wrap_u8 (n : Int) : IntKind.u8.wrap n = n % 256 := by simp [IntKind.wrap, IntKind.bits, IntKind.signed]
theorem wrap_u32 (n : Int) : IntKind.u32.wrap n = n % 4294967296 := by simp [IntKind.wrap, IntKind.bits, IntKind.signed]
theorem wrap_u64 (n : Int) : IntKind.u64.wrap n = n % 18446744073709551616 := by simp [IntKind.wrap, IntKind.bits, IntKind.signed]
theorem wrap_i64 (n : Int) : IntKind.i64.wrap n = (n + 9223372036854775808) % 18446744073709551616 - 9223372036854775808 := by
  have h : IntKind.i64.wrap n = if n % 18446744073709551616 ≥ 9223372036854775808 then n % 18446744073709551616 - 18446744073709551616 else n % 18446744073709551616 := by
    simp [IntKind.wrap, IntKind.bits, IntKind.signed]
  rw [h]; split <;> omega
theorem wrap_i32 (n : Int) : IntKind.i32.wrap n = (n + 2147483648) % 4294967296 - 2147483648 := by
  have h : IntKind.i32.wrap n = if n % 4294967296 ≥ 2147483648 then n % 4294967296 - 4294967296 else n % 4294967296 := by
    simp [IntKind.wrap, IntKind.bits, IntKind.signed]
  rw [h]; split <;> omega

theorem xor32 {a b : Nat} (ha : a < 4294967296) (hb : b < 4294967296) : intV .xor .u32 (a : Int) (b : Int) = .int .u32 ((a ^^^ b : Nat) : Int) := by
  have h : (a ^^^ b) < 2 ^ 32 := Nat.xor_lt_two_pow (by omega) (by omega)
  rw [xorV (show a < 2 ^ 32 by omega) (show b < 2 ^ 32 by omega), wrap_u32]
  congr 1; omega
theorem xor64 {a b : Nat} (ha : a < 9223372036854775808) (hb : b < 9223372036854775808) : intV .xor .i64 (a : Int) (b : Int) = .int .i64 ((a ^^^ b : Nat) : Int) := by
  have h : (a ^^^ b) < 9223372036854775808 := Nat.xor_lt_two_pow (n := 63) ha hb
  have hx := xorV (k := .i64) (a := a) (b := b) (show a < 2 ^ 64 by omega) (show b < 2 ^ 64 by omega)
  have key : ∀ c : Nat, c < 9223372036854775808 → ((c : Int) + 9223372036854775808) % 18446744073709551616 - 9223372036854775808 = c := by intro c hc; omega
  rw [hx, wrap_i64, key _ h]
theorem and1_32 {a : Nat} (ha : a < 4294967296) : intV .and .u32 (a : Int) 1 = .int .u32 ((a % 2 : Nat) : Int) := by
  have := andV (k := .u32) (a := a) (b := 1) (show a < 2 ^ 32 by omega) (show 1 < 2 ^ 32 by omega)
  refine this.trans ?_
  rw [Nat.and_one_is_mod, wrap_u32]
  congr 1; omega
/-- an or with a byte behind a shift is an addition -/
theorem or_byte (x : Int) (b : Nat) (hb : b < 256) : intV .or .i64 (IntKind.i64.wrap (x * 256)) (b : Int) = .int .i64 (IntKind.i64.wrap (x * 256 + b)) := by
  simp only [intV]
  congr 1
  have h1 : (BitVec.ofInt IntKind.i64.bits (IntKind.i64.wrap (x * 256))).toNat = ((x * 256) % 18446744073709551616).toNat := by
    rw [BitVec.toNat_ofInt, wrap_i64]
    show (((x * 256 + 9223372036854775808) % 18446744073709551616 - 9223372036854775808) % ((2 ^ 64 : Nat) : Int)).toNat = _
    congr 1; omega
  rw [BitVec.toNat_or, h1, bv_nat (n := IntKind.i64.bits) (show b < 2 ^ 64 by omega)]
  obtain ⟨q, hq⟩ : ∃ q : Nat, ((x * 256) % 18446744073709551616).toNat = 2 ^ 8 * q := ⟨((x * 256) % 18446744073709551616).toNat / 256, by omega⟩
  have h2 := Nat.two_pow_add_eq_or_of_lt (show b < 2 ^ 8 by omega) q
  rw [hq, ← h2, wrap_i64, wrap_i64]
  omega
end Go.HL

/- YU: names of types that the walks share. -/
namespace Go.Proofs.Y
open Go Go.HL Go.Proofs
theorem u36 : Try.prog.underlying 36 = some (.slice 5) := by kernel_rfl
theorem u9 : Try.prog.underlying 9 = some .string := by kernel_rfl
theorem u5 : Try.prog.underlying 5 = some (.int .u8) := by kernel_rfl
theorem sz5 : szOf Try.prog 5 = some 1 := by kernel_rfl
theorem sl40 : SlTy Try.prog 40 9 1 16 (str []) := ⟨by kernel_rfl, by kernel_rfl, rfl, by decide⟩
theorem sz40 : szOf Try.prog 40 = some 1 := by kernel_rfl
end Go.Proofs.Y

/- JA: the journal's codec as plain functions: numbers, checksums, forms. -/
namespace Go.Proofs.Y
open Go Go.HL

/-! ### the checksum -/
def crcStep (x : Nat) : Nat := if x % 2 = 1 then (x / 2) ^^^ 3988292384 else x / 2
def crcIt : Nat → Nat → Nat
  | 0, x => x
  | n + 1, x => crcIt n (crcStep x)
theorem crcIt_succ : ∀ (n x : Nat), crcIt (n + 1) x = crcStep (crcIt n x)
  | 0, _ => rfl
  | n + 1, x => by rw [crcIt, crcIt_succ n]; rfl
def crcFold (x : Nat) (s : List UInt8) : Nat := s.foldl (fun x b => crcIt 8 (x ^^^ b.toNat)) x
def crc (s : List UInt8) : Nat := 4294967295 - crcFold 4294967295 s

theorem crcStep_lt {x : Nat} (h : x < 4294967296) : crcStep x < 4294967296 := by
  unfold crcStep; split
  · exact Nat.xor_lt_two_pow (n := 32) (by omega) (by decide)
  · omega
theorem crcIt_lt : ∀ (n x : Nat), x < 4294967296 → crcIt n x < 4294967296
  | 0, _, h => h
  | n + 1, x, h => crcIt_lt n _ (crcStep_lt h)
theorem crcFold_lt : ∀ (s : List UInt8) (x : Nat), x < 4294967296 → crcFold x s < 4294967296
  | [], _, h => h
  | b :: s, x, h => by
    simp only [crcFold, List.foldl_cons]
    exact crcFold_lt s _ (crcIt_lt 8 _ (Nat.xor_lt_two_pow (n := 32) h (by have := b.toNat_lt; omega)))
theorem crc_lt (s : List UInt8) : crc s < 4294967296 := by unfold crc; omega

theorem xor_big {a : Nat} (ha : a < 2147483648) : 2147483648 ≤ a ^^^ 3988292384 := by
  have h1 : (a ^^^ 3988292384).testBit 31 = true := by
    rw [Nat.testBit_xor, Nat.testBit_lt_two_pow (by omega : a < 2 ^ 31)]; decide
  have := Nat.ge_two_pow_of_testBit h1
  omega
theorem xor_cancel {a b c : Nat} (h : a ^^^ c = b ^^^ c) : a = b := by
  have := congrArg (· ^^^ c) h
  simpa [Nat.xor_assoc] using this
theorem crcStep_inj {x y : Nat} (hx : x < 4294967296) (hy : y < 4294967296) (h : crcStep x = crcStep y) : x = y := by
  unfold crcStep at h
  have b1 := xor_big (a := x / 2) (by omega)
  have b2 := xor_big (a := y / 2) (by omega)
  split at h <;> split at h
  · have := xor_cancel h; omega
  · omega
  · omega
  · omega
theorem crcIt_inj : ∀ (n x y : Nat), x < 4294967296 → y < 4294967296 → crcIt n x = crcIt n y → x = y
  | 0, _, _, _, _, h => h
  | n + 1, x, y, hx, hy, h => crcStep_inj hx hy (crcIt_inj n _ _ (crcStep_lt hx) (crcStep_lt hy) h)
theorem xor_byte {x : Nat} (h : x < 4294967296) (b : UInt8) : x ^^^ b.toNat < 4294967296 := Nat.xor_lt_two_pow (n := 32) h (by have := b.toNat_lt; omega)
theorem crcFold_inj : ∀ (s : List UInt8) (x y : Nat), x < 4294967296 → y < 4294967296 → crcFold x s = crcFold y s → x = y
  | [], _, _, _, _, h => h
  | b :: s, x, y, hx, hy, h => by
    simp only [crcFold, List.foldl_cons] at h
    have h1 := crcFold_inj s _ _ (crcIt_lt 8 _ (xor_byte hx b)) (crcIt_lt 8 _ (xor_byte hy b)) h
    exact xor_cancel (crcIt_inj 8 _ _ (xor_byte hx b) (xor_byte hy b) h1)
/-- one byte changed is seen -/
theorem crc_changed {s : List UInt8} {i : Nat} {b : UInt8} (hi : i < s.length) (hb : s[i] ≠ b) : crc (s.set i b) ≠ crc s := by
  intro h
  have hl1 := crcFold_lt s 4294967295 (by decide)
  have hl2 := crcFold_lt (s.set i b) 4294967295 (by decide)
  have h1 : crcFold 4294967295 (s.set i b) = crcFold 4294967295 s := by unfold crc at h; omega
  have e1 : s = s.take i ++ s[i] :: s.drop (i + 1) := by simp
  have e2 : s.set i b = s.take i ++ b :: s.drop (i + 1) := by rw [List.set_eq_take_append_cons_drop, if_pos hi]
  rw [e2] at h1
  conv at h1 => rhs; rw [e1]
  simp only [crcFold, List.foldl_append, List.foldl_cons] at h1
  have hm : List.foldl (fun x (b : UInt8) => crcIt 8 (x ^^^ b.toNat)) 4294967295 (s.take i) < 4294967296 := crcFold_lt _ _ (by decide)
  generalize List.foldl (fun x (b : UInt8) => crcIt 8 (x ^^^ b.toNat)) 4294967295 (s.take i) = m at h1 hm
  have h2 := crcFold_inj _ _ _ (crcIt_lt 8 _ (xor_byte hm b)) (crcIt_lt 8 _ (xor_byte hm s[i])) h1
  have h3 := crcIt_inj 8 _ _ (xor_byte hm b) (xor_byte hm s[i]) h2
  rw [Nat.xor_comm m, Nat.xor_comm m] at h3
  exact hb (UInt8.toNat_inj.1 (xor_cancel h3).symm)

/-! ### numbers -/
def byteOf (n : Int) (i : Nat) : UInt8 := UInt8.ofNat (n / 256 ^ i % 256).toNat
def num (n : Int) : List UInt8 := (List.range 8).map (byteOf n)
theorem num_len (n : Int) : (num n).length = 8 := by simp [num]
def wr (n : Int) : Int := IntKind.i64.wrap n
/-- the number of which the first bytes are the form -/
def valAt (s : List UInt8) (i : Nat) : Int := ((s[i]?).getD 0).toNat
/-- the bytes from the eighth down to number i -/
def valFrom (s : List UInt8) : Nat → Int
  | 0 => 0
  | k + 1 => wr (valFrom s k * 256 + valAt s (7 - k))
def val (s : List UInt8) : Int := valFrom s 8

theorem byteOf_nat (n : Int) (i : Nat) : ((byteOf n i).toNat : Int) = n / 256 ^ i % 256 := by
  have h : 0 ≤ n / 256 ^ i % 256 := Int.emod_nonneg _ (by decide)
  have h2 : n / 256 ^ i % 256 < 256 := Int.emod_lt_of_pos _ (by decide)
  simp only [byteOf, UInt8.toNat_ofNat']
  omega
theorem val_num {n : Int} (h1 : -9223372036854775808 ≤ n) (h2 : n ≤ 9223372036854775807) (t : List UInt8) : val (num n ++ t) = n := by
  have hb : ∀ i, i < 8 → valAt (num n ++ t) i = n / 256 ^ i % 256 := by
    intro i hi
    unfold valAt
    rw [List.getElem?_append_left (by rw [num_len]; exact hi)]
    simp [num, hi, byteOf_nat]
  have small : ∀ x : Int, 0 ≤ x → x < 9223372036854775808 → wr x = x := by intro x h0 h1; rw [wr, wrap_i64]; omega
  have q : ∀ i : Nat, n / 256 ^ (i + 1) = n / 256 ^ i / 256 := fun i => by
    have hp : (0 : Int) < 256 ^ i := Int.pow_pos (by decide)
    rw [Int.ediv_ediv, if_neg (by omega), Int.sub_zero, Int.pow_succ]
  have e0 : n / 256 ^ 0 = n := by simp
  have q0 := q 0; have q1 := q 1; have q2 := q 2; have q3 := q 3; have q4 := q 4; have q5 := q 5; have q6 := q 6
  rw [e0] at q0
  simp only [Nat.zero_add, Nat.reduceAdd] at q0 q1 q2 q3 q4 q5 q6
  simp only [val, valFrom, hb 0 (by omega), hb 1 (by omega), hb 2 (by omega), hb 3 (by omega), hb 4 (by omega), hb 5 (by omega), hb 6 (by omega), hb 7 (by omega), Nat.sub_zero, Nat.reduceSub, e0]
  generalize n / 256 ^ 7 = n7 at *
  generalize n / 256 ^ 6 = n6 at *
  generalize n / 256 ^ 5 = n5 at *
  generalize n / 256 ^ 4 = n4 at *
  generalize n / 256 ^ 3 = n3 at *
  generalize n / 256 ^ 2 = n2 at *
  generalize n / 256 ^ 1 = n1 at *
  rw [small (0 * 256 + n7 % 256) (by omega) (by omega)]
  rw [small ((0 * 256 + n7 % 256) * 256 + n6 % 256) (by omega) (by omega)]
  rw [small (((0 * 256 + n7 % 256) * 256 + n6 % 256) * 256 + n5 % 256) (by omega) (by omega)]
  rw [small ((((0 * 256 + n7 % 256) * 256 + n6 % 256) * 256 + n5 % 256) * 256 + n4 % 256) (by omega) (by omega)]
  rw [small (((((0 * 256 + n7 % 256) * 256 + n6 % 256) * 256 + n5 % 256) * 256 + n4 % 256) * 256 + n3 % 256) (by omega) (by omega)]
  rw [small ((((((0 * 256 + n7 % 256) * 256 + n6 % 256) * 256 + n5 % 256) * 256 + n4 % 256) * 256 + n3 % 256) * 256 + n2 % 256) (by omega) (by omega)]
  rw [small (((((((0 * 256 + n7 % 256) * 256 + n6 % 256) * 256 + n5 % 256) * 256 + n4 % 256) * 256 + n3 % 256) * 256 + n2 % 256) * 256 + n1 % 256) (by omega) (by omega)]
  rw [wr, wrap_i64]
  omega
end Go.Proofs.Y
