/- JX: JournalSpoils. -/
import Derived.Test.YtgalileklafbbaaJQ
set_option linter.unusedSimpArgs false
set_option linter.unusedVariables false
set_option maxRecDepth 100000
namespace Go.Proofs.Y
open Go Go.HL Go.Proofs

theorem wf8 {a : Int} (h : (Lit.int .u8 a).wf = true) : ∃ b : UInt8, a = b.toNat := by
  simp only [Lit.wf, Bool.and_eq_true, decide_eq_true_eq] at h
  have h1 : 0 ≤ a ∧ a ≤ 255 := h
  exact ⟨UInt8.ofNat a.toNat, by simp; omega⟩
theorem put_zeros (x : Bytes) : put [] 16 x = List.replicate 16 0 ++ x := by
  have hr : (List.replicate 16 (0 : UInt8)).length = 16 := rfl
  have hn : ([] : Bytes).length = 0 := rfl
  apply List.ext_getElem?
  intro i
  rw [put_at, hn]
  by_cases hi : i < 16
  · rw [List.getElem?_append_left (by omega), if_neg (by omega), if_neg (by omega), if_pos (by omega), List.getElem?_replicate, if_pos hi]
  · rw [List.getElem?_append_right (by omega), hr]
    by_cases hx : i < 16 + x.length
    · rw [if_pos ⟨by omega, hx⟩]
    · rw [if_neg (fun h => hx h.2), if_neg (by omega), if_neg hx, List.getElem?_eq_none (by omega)]
theorem put_head16 (x hd : Bytes) (h : hd.length = 16) : put (put [] 16 x) 0 hd = hd ++ x := by
  have hr : (List.replicate 16 (0 : UInt8)).length = 16 := rfl
  rw [put_zeros]
  apply List.ext_getElem?
  intro i
  rw [put_at, h, List.length_append, hr]
  by_cases hi : i < 16
  · rw [if_pos (by omega), List.getElem?_append_left (by omega)]; rfl
  · rw [if_neg (by omega), List.getElem?_append_right (show hd.length ≤ i by omega), h]
    by_cases hx : i < 16 + x.length
    · rw [if_pos hx, List.getElem?_append_right (by omega), hr]
    · rw [if_neg hx, if_neg (by omega), List.getElem?_eq_none (by omega)]
theorem put_one (s : Bytes) {i : Nat} (b : UInt8) (hi : i < s.length) : put s i [b] = s.set i b := by
  apply List.ext_getElem?
  intro j
  rw [put_at, List.getElem?_set]
  by_cases h : i = j
  · subst h
    rw [if_pos (by simp), if_pos rfl, if_pos hi, Nat.sub_self]; rfl
  · rw [if_neg (by simp; omega), if_neg h]
    by_cases hj : j < s.length
    · rw [if_pos hj]
    · rw [if_neg hj, List.getElem?_eq_none (by omega)]
      rw [if_neg (by simp; omega)]

section
variable {d : Dk} {f : Nat}
theorem At.flush_file (h : At d) (hf : f < 12) : (d.flush f).file f = d.file f := (flush_ok h.len hf (h.flush hf).1).1.file
theorem At.write_file (h : At d) (hf : f < 12) {a : Nat} {s : Bytes} (hs : s ≠ []) (hfit : a + s.length ≤ 16777216) : (d.write f a s).file f = put (d.file f) a s := by
  rw [idle_file h.armed hf h.len.nf (may_up h.down hf) hfit, if_neg hs]
theorem At.batch_file (h : At d) (hf : f < 12) {rows : List Bytes} (hne : rows ≠ []) (h0 : d.file f = []) (hsz : (formsB rows).length ≤ 1000000) : (batchJ d ⟨[], 0, 16⟩ f rows).1.file f = image rows := by
  have hfr := formsB_rows rows
  have hrl : 0 < rows.length := List.length_pos_iff.2 hne
  have hfne : formsB rows ≠ [] := fun h => by have := congrArg List.length h; simp only [List.length_nil] at this; omega
  obtain ⟨a1, a2⟩ := h.add hf ⟨[], 0, 16⟩ rows (by dsimp only; omega)
  have f1 : (addD' d ⟨[], 0, 16⟩ f rows).file f = put [] 16 (formsB rows) := by
    have := h.write_file hf (a := 16) hfne (by omega)
    rw [h0] at this
    exact this
  unfold batchJ
  rw [if_neg hne, if_neg (fun hn => hn a1)]
  generalize addD' d ⟨[], 0, 16⟩ f rows = d1 at *
  obtain ⟨b1, c1⟩ := a2.flush hf
  have hh := header_len (16 + (formsB rows).length : Nat) rows.length
  have hhne : header (16 + (formsB rows).length : Nat) rows.length ≠ [] := fun h => by have := congrArg List.length h; rw [hh] at this; simp at this
  obtain ⟨b2, c2⟩ := c1.write hf (a := 0) (s := header (16 + (formsB rows).length : Nat) rows.length) (by omega)
  have f2 := c1.write_file hf (a := 0) hhne (by omega)
  rw [a2.flush_file hf, f1, put_head16 _ _ hh] at f2
  have f3 := (c2.flush_file hf).trans f2
  have b2 : (d1.flush f).writeR f 0 (header (16 + (formsB rows).length : Nat) rows.length) = 0 := b2
  have eL : (Lg.add ⟨[], 0, 16⟩ rows) = ⟨rows, 0, 16 + (formsB rows).length⟩ := by simp [Lg.add]
  rw [eL]
  unfold Y.flushJ flush3
  dsimp only
  rw [if_neg (by omega), if_neg (fun hn => hn b1), if_neg (fun hn => hn b2)]
  exact f3
end

section
variable {w : World} {next : Value → World → Prop} {QP : List PanicEntry → World → Prop}
theorem bsl1d {a : Deed} (k : ∀ q w', w.heap.size = q → Own w' (.slice (some ⟨q, 0, none⟩) 1 1) 65 5 1 (rows Deed.cells [a]) → Mod none' w w' → next (.slice (some ⟨q, 0, none⟩) 1 1) w') :
    bslK Try.prog 66 1 [(0, .agg #[.int .i64 a.Do, str a.Row, a.rv, a.kv, .int .i64 a.N])] w next QP := by
  refine bsl1 sl66 (cs := a.cells) rfl rfl (by omega) ?_
  intro q w' hq own _ m _
  have e : rows Deed.cells [a] = a.cells := by simp [rows]
  exact k q w' hq (e ▸ own) m

theorem beginOf_succ (rs : List Bytes) {j : Nat} (hj : j < rs.length) : beginOf rs (j + 1) = beginOf rs j + 16 + rs[j].length := by
  unfold beginOf
  rw [formsB_take hj, List.length_append, formB_len]; omega
theorem jspoils3 {v0 : Value} {rs : List Bytes} {n : UInt8} {p i : Nat} {d : Dk} {F : FP} {w1 : World} {σ : Env} (dr : DR w1 p d F) (f0 : ∀ k, F.R k → w.heap.size ≤ k) (m : Mod none' w w1) (hat : At d) (hq : d.queue.length ≤ 10000) (hfl : d.file 4 = image rs) (hi : i < (image rs).length) (hb : (image rs)[i] ≠ n)
    (hr0 : ∀ r ∈ rs, r.length ≤ 200) (hl0 : rs.length ≤ 6) (b0 : (formsB rs).length ≤ 1296) (h0 : Sl w v0 1 rs.length (rs.map str)) (s0 : σ 0 = v0) (s1 : σ 1 = .int .i64 i) (s2 : σ 2 = .int .u8 n.toNat) (s7 : σ 7 = .bool true) (s9 : σ 9 = ptr p)
    (k : ∀ w', Mod none' w w' → next (.bool true) w') : hw Try.prog noPanic h13_3 (endV [.tmp 6] next) σ w1 := by
  obtain ⟨a0, c0, rfl, -, hc0⟩ := h0.form
  have hil := image_len rs
  have hfr := formsB_rows rs
  unfold h13_3
  try simp only [go_sem, ↓reduceIte, Nat.reduceEqDiff, Nat.reduceAdd, Nat.reduceLT, List.length_cons, List.length_nil, List.getElem?_cons_zero, List.getElem?_cons_succ, Nat.mul_one, Bool.true_eq_false, Bool.false_eq_true, false_implies, true_implies, Bool.not_true, Bool.not_false, decide_true, decide_false, Int.reduceToNat, Int.cast_ofNat_Int, Int.reduceLT, Int.reduceLE, Int.reduceEq, Int.reduceNeg, eq_self, Option.isNone_some, Option.isNone_none, Bool.bne_false, Bool.bne_true]
  refine loopN rs.length (fun j τ w' => w' = w1 ∧ τ 0 = .slice a0 rs.length c0 ∧ τ 1 = .int .i64 i ∧ τ 2 = .int .u8 n.toNat ∧ τ 7 = .bool true ∧ τ 9 = ptr p ∧ τ 14 = .int .i64 (beginOf rs j : Nat) ∧ τ 15 = .int .i64 j ∧ ∀ j', j' < j → ¬ (beginOf rs j' ≤ i ∧ i < beginOf rs j' + 8))
    ⟨0, by omega, rfl, s0, s1, s2, s7, s9, rfl, rfl, fun j' h => absurd h (by omega)⟩ ?_
  rintro j τ w2 hj ⟨rfl, t0, t1, t2, t7, t9, t14, t15, hno⟩
  unfold h13_4
  try simp only [go_sem, ↓reduceIte, Nat.reduceEqDiff, Nat.reduceAdd, Nat.reduceLT, List.length_cons, List.length_nil, List.getElem?_cons_zero, List.getElem?_cons_succ, Nat.mul_one, Bool.true_eq_false, Bool.false_eq_true, false_implies, true_implies, Bool.not_true, Bool.not_false, decide_true, decide_false, Int.reduceToNat, Int.cast_ofNat_Int, Int.reduceLT, Int.reduceLE, Int.reduceEq, Int.reduceNeg, eq_self, Option.isNone_some, Option.isNone_none, Bool.bne_false, Bool.bne_true, t0, t15]
  have hbj : beginOf rs j ≤ 16 + (formsB rs).length := by
    unfold beginOf
    have := formsB_le (l := rs) (i := j)
    omega
  refine ⟨fun hlt => ?_, fun hge => ?_⟩
  · have hjl : j < rs.length := by
      have : (j : Int) < rs.length := by simpa using hlt
      omega
    obtain ⟨gr, or_, rfl, hrc⟩ := hc0 (by omega)
    have xr : w2.cell? ⟨gr, or_ + j, none⟩ = some (str rs[j]) := by
      refine m.cell (hrc j (by omega) |>.trans ?_) fun h => h
      rw [List.getElem?_map, List.getElem?_eq_getElem hjl]; rfl
    unfold h13_5
    try simp only [go_sem, ↓reduceIte, Nat.reduceEqDiff, Nat.reduceAdd, Nat.reduceLT, List.length_cons, List.length_nil, List.getElem?_cons_zero, List.getElem?_cons_succ, Nat.mul_one, Bool.true_eq_false, Bool.false_eq_true, false_implies, true_implies, Bool.not_true, Bool.not_false, decide_true, decide_false, Int.reduceToNat, Int.cast_ofNat_Int, Int.reduceLT, Int.reduceLE, Int.reduceEq, Int.reduceNeg, eq_self, Option.isNone_some, Option.isNone_none, Bool.bne_false, Bool.bne_true, t0, t1, t7, t14, t15]
    rw [w64 (by omega) (by omega)]
    refine ⟨fun _ => k _ m, fun hn => ?_⟩
    have hn : ¬ (beginOf rs j ≤ i ∧ i < beginOf rs j + 8) := by
      intro ⟨h1, h2⟩
      rw [if_pos (by simp; omega)] at hn
      simp at hn; omega
    have hbs := beginOf_succ rs hjl
    have hrj := hr0 _ (List.getElem_mem hjl)
    unfold h13_6
    try simp only [go_sem, ↓reduceIte, Nat.reduceEqDiff, Nat.reduceAdd, Nat.reduceLT, List.length_cons, List.length_nil, List.getElem?_cons_zero, List.getElem?_cons_succ, Nat.mul_one, Bool.true_eq_false, Bool.false_eq_true, false_implies, true_implies, Bool.not_true, Bool.not_false, decide_true, decide_false, Int.reduceToNat, Int.cast_ofNat_Int, Int.reduceLT, Int.reduceLE, Int.reduceEq, Int.reduceNeg, eq_self, Option.isNone_some, Option.isNone_none, Bool.bne_false, Bool.bne_true, t0, t1, t7, t14, t15, xr]
    refine ⟨⟨by omega, by omega⟩, ?_⟩
    unfold h13_7
    try simp only [go_sem, ↓reduceIte, Nat.reduceEqDiff, Nat.reduceAdd, Nat.reduceLT, List.length_cons, List.length_nil, List.getElem?_cons_zero, List.getElem?_cons_succ, Nat.mul_one, Bool.true_eq_false, Bool.false_eq_true, false_implies, true_implies, Bool.not_true, Bool.not_false, decide_true, decide_false, Int.reduceToNat, Int.cast_ofNat_Int, Int.reduceLT, Int.reduceLE, Int.reduceEq, Int.reduceNeg, eq_self, Option.isNone_some, Option.isNone_none, Bool.bne_false, Bool.bne_true, t0, t1, t2, t7, t9, t14, t15]
    rw [w64 (show (-9223372036854775808 : Int) ≤ (j : Int) + 1 by omega) (by omega), w64 (show (-9223372036854775808 : Int) ≤ (beginOf rs j : Int) + 16 by omega) (by omega), w64 (by omega) (by omega)]
    refine ⟨j + 1, by omega, by omega, ?_, rfl, fun j' hj' => ?_⟩
    · rw [hbs]; congr 1
    · by_cases h : j' = j
      · subst h; exact hn
      · exact hno j' (by omega)
  · have hjo : j = rs.length := by
      have : ¬ (j : Int) < rs.length := by simpa using hge
      omega
    subst hjo
    have hsp := spoil (by omega) hr0 hi hb fun i' hi' => hno i' hi'
    unfold h13_8
    try simp only [go_sem, ↓reduceIte, Nat.reduceEqDiff, Nat.reduceAdd, Nat.reduceLT, List.length_cons, List.length_nil, List.getElem?_cons_zero, List.getElem?_cons_succ, Nat.mul_one, Bool.true_eq_false, Bool.false_eq_true, false_implies, true_implies, Bool.not_true, Bool.not_false, decide_true, decide_false, Int.reduceToNat, Int.cast_ofNat_Int, Int.reduceLT, Int.reduceLE, Int.reduceEq, Int.reduceNeg, eq_self, Option.isNone_some, Option.isNone_none, Bool.bne_false, Bool.bne_true, t0, t1, t2, t7, t9]
    refine bsl1 sl36 (cs := [.int .u8 n.toNat]) rfl rfl (by omega) ?_
    intro b3 w3 hb3 own3 _ m3 hs3
    try simp only [go_sem, ↓reduceIte, Nat.reduceEqDiff, Nat.reduceAdd, Nat.reduceLT, List.length_cons, List.length_nil, List.getElem?_cons_zero, List.getElem?_cons_succ, Nat.mul_one, Bool.true_eq_false, Bool.false_eq_true, false_implies, true_implies, Bool.not_true, Bool.not_false, decide_true, decide_false, Int.reduceToNat, Int.cast_ofNat_Int, Int.reduceLT, Int.reduceLE, Int.reduceEq, Int.reduceNeg, eq_self, Option.isNone_some, Option.isNone_none, Bool.bne_false, Bool.bne_true, t0, t1, t2, t7, t9]
    refine b2s u36 u9 u5 (n := 1) (l := [n]) own3.sl ?_
    try simp only [go_sem, ↓reduceIte, Nat.reduceEqDiff, Nat.reduceAdd, Nat.reduceLT, List.length_cons, List.length_nil, List.getElem?_cons_zero, List.getElem?_cons_succ, Nat.mul_one, Bool.true_eq_false, Bool.false_eq_true, false_implies, true_implies, Bool.not_true, Bool.not_false, decide_true, decide_false, Int.reduceToNat, Int.cast_ofNat_Int, Int.reduceLT, Int.reduceLE, Int.reduceEq, Int.reduceNeg, eq_self, Option.isNone_some, Option.isNone_none, Bool.bne_false, Bool.bne_true, t0, t1, t2, t7, t9]
    have dr3 := dr.mod0 m3
    obtain ⟨x1, x2⟩ := hat.write (f := 4) (by omega) (a := i) (s := [n]) (by simp; omega)
    have x3 := hat.write_file (f := 4) (by omega) (a := i) (s := [n]) (by simp) (by simp; omega)
    rw [hfl, put_one _ _ hi] at x3
    have x1 : d.writeR 4 i [n] = 0 := x1
    refine write_ dr3 (by omega) (by omega) (by simp; omega) ?_
    intro w4 st4
    rw [x1]
    try simp only [go_sem, ↓reduceIte, Nat.reduceEqDiff, Nat.reduceAdd, Nat.reduceLT, List.length_cons, List.length_nil, List.getElem?_cons_zero, List.getElem?_cons_succ, Nat.mul_one, Bool.true_eq_false, Bool.false_eq_true, false_implies, true_implies, Bool.not_true, Bool.not_false, decide_true, decide_false, Int.reduceToNat, Int.cast_ofNat_Int, Int.reduceLT, Int.reduceLE, Int.reduceEq, Int.reduceNeg, eq_self, Option.isNone_some, Option.isNone_none, Bool.bne_false, Bool.bne_true, t0, t1, t2, t7, t9]
    unfold h13_9
    try simp only [go_sem, ↓reduceIte, Nat.reduceEqDiff, Nat.reduceAdd, Nat.reduceLT, List.length_cons, List.length_nil, List.getElem?_cons_zero, List.getElem?_cons_succ, Nat.mul_one, Bool.true_eq_false, Bool.false_eq_true, false_implies, true_implies, Bool.not_true, Bool.not_false, decide_true, decide_false, Int.reduceToNat, Int.cast_ofNat_Int, Int.reduceLT, Int.reduceLE, Int.reduceEq, Int.reduceNeg, eq_self, Option.isNone_some, Option.isNone_none, Bool.bne_false, Bool.bne_true, t0, t1, t2, t7, t9]
    have dr4 := st4.dr
    have x2 : At (d.write 4 i [n]) := x2
    have x3 : (d.write 4 i [n]).file 4 = (image rs).set i n := x3
    have f4 : ∀ k, st4.foot.R k → w.heap.size ≤ k := fun k hk => by
      have := m.size
      have := m3.size
      rcases st4.footR k hk with h | h
      · exact f0 k h
      · omega
    have m04 : Mod none' w w4 := (m.trans' m3).trans st4.mod fun k hk hW => by have := f0 k (dr.sub k hW); omega
    generalize d.write 4 i [n] = d4 at *
    have hm4 : d4.may [(4 : Int)] = 0 := may_up x2.down (f := 4) (by omega)
    have hrd : d4.read 4 = (image rs).set i n := by
      unfold Dk.read; rw [if_neg (fun hn => hn hm4)]; exact x3
    have hE : openE d4 4 = if (openB ((image rs).set i n)).isNone then 2 else 0 := by
      have h1 : ¬ ((4 : Int) < 0 ∨ (6 : Int) < 4) := by decide
      simp only [openE, if_neg h1, hm4, show ((4 : Int)).toNat = 4 from rfl, x3]; rfl
    have hlen8 : 8 ≤ ((image rs).set i n).length := by rw [List.length_set]; omega
    by_cases hz : ((image rs).set i n).take 8 = List.replicate 8 0
    · rw [if_pos hz] at hsp
      refine jopen_ (g := 4) dr4 f4 m04 rfl (by omega) x2.down (by rw [x3]; exact hsp) ?_
      intro q5 w5 S5 h5 m5
      try simp only [go_sem, ↓reduceIte, Nat.reduceEqDiff, Nat.reduceAdd, Nat.reduceLT, List.length_cons, List.length_nil, List.getElem?_cons_zero, List.getElem?_cons_succ, Nat.mul_one, Bool.true_eq_false, Bool.false_eq_true, false_implies, true_implies, Bool.not_true, Bool.not_false, decide_true, decide_false, Int.reduceToNat, Int.cast_ofNat_Int, Int.reduceLT, Int.reduceLE, Int.reduceEq, Int.reduceNeg, eq_self, Option.isNone_some, Option.isNone_none, Bool.bne_false, Bool.bne_true, t0, t1, t2, t7, t9]
      refine read_ h5.dr 4 ?_
      intro w6 _ m6
      rw [hrd]
      try simp only [go_sem, ↓reduceIte, Nat.reduceEqDiff, Nat.reduceAdd, Nat.reduceLT, List.length_cons, List.length_nil, List.getElem?_cons_zero, List.getElem?_cons_succ, Nat.mul_one, Bool.true_eq_false, Bool.false_eq_true, false_implies, true_implies, Bool.not_true, Bool.not_false, decide_true, decide_false, Int.reduceToNat, Int.cast_ofNat_Int, Int.reduceLT, Int.reduceLE, Int.reduceEq, Int.reduceNeg, eq_self, Option.isNone_some, Option.isNone_none, Bool.bne_false, Bool.bne_true, t0, t1, t2, t7, t9]
      refine ⟨by omega, fun _ => ?_, fun h => absurd hz (of_decide_eq_false h)⟩
      refine jall_ (h5.mod0 m6).lg ?_
      intro v7 w7 own7 m7 _
      obtain ⟨va, vc, rfl, -⟩ := own7.form
      try simp only [go_sem, ↓reduceIte, Nat.reduceEqDiff, Nat.reduceAdd, Nat.reduceLT, List.length_cons, List.length_nil, List.getElem?_cons_zero, List.getElem?_cons_succ, Nat.mul_one, Bool.true_eq_false, Bool.false_eq_true, false_implies, true_implies, Bool.not_true, Bool.not_false, decide_true, decide_false, Int.reduceToNat, Int.cast_ofNat_Int, Int.reduceLT, Int.reduceLE, Int.reduceEq, Int.reduceNeg, eq_self, Option.isNone_some, Option.isNone_none, Bool.bne_false, Bool.bne_true, t0, t1, t2, t7, t9]
      exact k _ ((h5.m.trans' m6).trans' m7)
    · rw [if_neg hz] at hsp
      have hE : openE d4 4 = 2 := by rw [hE, hsp]; rfl
      refine open_ dr4 (fun w5 m5 hne => ?_) (fun g L hg _ _ hL q5 w5 S5 lg5 hS5 m5 => ?_)
      · rw [hE]
        try simp only [go_sem, ↓reduceIte, Nat.reduceEqDiff, Nat.reduceAdd, Nat.reduceLT, List.length_cons, List.length_nil, List.getElem?_cons_zero, List.getElem?_cons_succ, Nat.mul_one, Bool.true_eq_false, Bool.false_eq_true, false_implies, true_implies, Bool.not_true, Bool.not_false, decide_true, decide_false, Int.reduceToNat, Int.cast_ofNat_Int, Int.reduceLT, Int.reduceLE, Int.reduceEq, Int.reduceNeg, eq_self, Option.isNone_some, Option.isNone_none, Bool.bne_false, Bool.bne_true, t0, t1, t2, t7, t9]
        refine read_ (dr4.mod0 m5) 4 ?_
        intro w6 _ m6
        rw [hrd]
        try simp only [go_sem, ↓reduceIte, Nat.reduceEqDiff, Nat.reduceAdd, Nat.reduceLT, List.length_cons, List.length_nil, List.getElem?_cons_zero, List.getElem?_cons_succ, Nat.mul_one, Bool.true_eq_false, Bool.false_eq_true, false_implies, true_implies, Bool.not_true, Bool.not_false, decide_true, decide_false, Int.reduceToNat, Int.cast_ofNat_Int, Int.reduceLT, Int.reduceLE, Int.reduceEq, Int.reduceNeg, eq_self, Option.isNone_some, Option.isNone_none, Bool.bne_false, Bool.bne_true, t0, t1, t2, t7, t9]
        refine ⟨by omega, fun h => absurd (of_decide_eq_true h) hz, fun _ => ?_⟩
        unfold h13_10
        try simp only [go_sem, ↓reduceIte, Nat.reduceEqDiff, Nat.reduceAdd, Nat.reduceLT, List.length_cons, List.length_nil, List.getElem?_cons_zero, List.getElem?_cons_succ, Nat.mul_one, Bool.true_eq_false, Bool.false_eq_true, false_implies, true_implies, Bool.not_true, Bool.not_false, decide_true, decide_false, Int.reduceToNat, Int.cast_ofNat_Int, Int.reduceLT, Int.reduceLE, Int.reduceEq, Int.reduceNeg, eq_self, Option.isNone_some, Option.isNone_none, Bool.bne_false, Bool.bne_true, t0, t1, t2, t7, t9]
        exact k _ ((m04.trans' m5).trans' m6)
      · obtain rfl : g = 4 := by omega
        rw [x3, hsp] at hL; cases hL
theorem jspoils_ {v0 : Value} {rs : List Bytes} {a : Int} {n : UInt8} (ha : i64 a) (h0 : Sl w v0 1 rs.length (rs.map str))
    (k : ∀ w', Mod none' w w' → next (.bool true) w') : callK Try.prog 13 [v0, .int .i64 a, .int .u8 n.toNat] w next QP := by
  refine q13 rfl ?_
  obtain ⟨a0, c0, rfl, -, hc0⟩ := h0.form
  unfold h13
  try simp only [go_sem, ↓reduceIte, Nat.reduceEqDiff, Nat.reduceAdd, Nat.reduceLT, List.length_cons, List.length_nil, List.getElem?_cons_zero, List.getElem?_cons_succ, Nat.mul_one, Bool.true_eq_false, Bool.false_eq_true, false_implies, true_implies, Bool.not_true, Bool.not_false, decide_true, decide_false, Int.reduceToNat, Int.cast_ofNat_Int, Int.reduceLT, Int.reduceLE, Int.reduceEq, Int.reduceNeg, eq_self, Option.isNone_some, Option.isNone_none, Bool.bne_false, Bool.bne_true]
  refine jsmall_ ?_
  intro w1 m1
  have ok1 : (⟨0, [], .slice a0 rs.length c0, rs, .slice none 0 0, [], 0⟩ : Deed).OK w1 := ⟨i64_0, i64_0, h0.mod m1 fun _ _ h => h, sl_nil⟩
  try simp only [go_sem, ↓reduceIte, Nat.reduceEqDiff, Nat.reduceAdd, Nat.reduceLT, List.length_cons, List.length_nil, List.getElem?_cons_zero, List.getElem?_cons_succ, Nat.mul_one, Bool.true_eq_false, Bool.false_eq_true, false_implies, true_implies, Bool.not_true, Bool.not_false, decide_true, decide_false, Int.reduceToNat, Int.cast_ofNat_Int, Int.reduceLT, Int.reduceLE, Int.reduceEq, Int.reduceNeg, eq_self, Option.isNone_some, Option.isNone_none, Bool.bne_false, Bool.bne_true]
  refine ⟨by simp, ?_⟩
  refine bsl1d (a := ⟨0, [], .slice a0 rs.length c0, rs, .slice none 0 0, [], 0⟩) ?_
  intro b2 w2 _ own2 m2
  try simp only [go_sem, ↓reduceIte, Nat.reduceEqDiff, Nat.reduceAdd, Nat.reduceLT, List.length_cons, List.length_nil, List.getElem?_cons_zero, List.getElem?_cons_succ, Nat.mul_one, Bool.true_eq_false, Bool.false_eq_true, false_implies, true_implies, Bool.not_true, Bool.not_false, decide_true, decide_false, Int.reduceToNat, Int.cast_ofNat_Int, Int.reduceLT, Int.reduceLE, Int.reduceEq, Int.reduceNeg, eq_self, Option.isNone_some, Option.isNone_none, Bool.bne_false, Bool.bne_true]
  refine fewJ_ (l := [⟨0, [], .slice a0 rs.length c0, rs, .slice none 0 0, [], 0⟩]) own2.sl (fun x hx => ?_) ?_
  · rw [List.mem_singleton.1 hx]; exact ok1.mod0 m2
  try simp only [go_sem, ↓reduceIte, Nat.reduceEqDiff, Nat.reduceAdd, Nat.reduceLT, List.length_cons, List.length_nil, List.getElem?_cons_zero, List.getElem?_cons_succ, Nat.mul_one, Bool.true_eq_false, Bool.false_eq_true, false_implies, true_implies, Bool.not_true, Bool.not_false, decide_true, decide_false, Int.reduceToNat, Int.cast_ofNat_Int, Int.reduceLT, Int.reduceLE, Int.reduceEq, Int.reduceNeg, eq_self, Option.isNone_some, Option.isNone_none, Bool.bne_false, Bool.bne_true]
  have m12 := m1.trans' m2
  refine ⟨fun _ => k _ m12, fun hb => ?_⟩
  have hb : Deed.few1 ⟨0, [], .slice a0 rs.length c0, rs, .slice none 0 0, [], 0⟩ = true ∧ rs.length ≠ 0 := by
    by_cases h1 : Deed.few1 ⟨0, [], .slice a0 rs.length c0, rs, .slice none 0 0, [], 0⟩ = true
    · by_cases h2 : rs.length = 0
      · simp [fewJ, h1, h2] at hb
      · exact ⟨h1, h2⟩
    · simp [fewJ, h1] at hb
  obtain ⟨-, hl0, -, hr0, b0⟩ := Deed.few1_le hb.1
  dsimp only at hl0 hr0 b0
  have hne : rs ≠ [] := fun h => hb.2 (by rw [h]; rfl)
  unfold h13_1
  try simp only [go_sem, ↓reduceIte, Nat.reduceEqDiff, Nat.reduceAdd, Nat.reduceLT, List.length_cons, List.length_nil, List.getElem?_cons_zero, List.getElem?_cons_succ, Nat.mul_one, Bool.true_eq_false, Bool.false_eq_true, false_implies, true_implies, Bool.not_true, Bool.not_false, decide_true, decide_false, Int.reduceToNat, Int.cast_ofNat_Int, Int.reduceLT, Int.reduceLE, Int.reduceEq, Int.reduceNeg, eq_self, Option.isNone_some, Option.isNone_none, Bool.bne_false, Bool.bne_true]
  refine jnew_ ?_
  intro p w3 F3 dr3 f3 m3
  have s12 := m12.size
  try simp only [go_sem, ↓reduceIte, Nat.reduceEqDiff, Nat.reduceAdd, Nat.reduceLT, List.length_cons, List.length_nil, List.getElem?_cons_zero, List.getElem?_cons_succ, Nat.mul_one, Bool.true_eq_false, Bool.false_eq_true, false_implies, true_implies, Bool.not_true, Bool.not_false, decide_true, decide_false, Int.reduceToNat, Int.cast_ofNat_Int, Int.reduceLT, Int.reduceLE, Int.reduceEq, Int.reduceNeg, eq_self, Option.isNone_some, Option.isNone_none, Bool.bne_false, Bool.bne_true]
  refine jopen_ (g := 4) dr3 (fun k hk => by have := f3 k hk; omega) (m12.trans' m3) rfl (by omega) rfl (openB_core (s := []) .nil (by decide)) ?_
  intro q4 w4 S4 h4 m4
  try simp only [go_sem, ↓reduceIte, Nat.reduceEqDiff, Nat.reduceAdd, Nat.reduceLT, List.length_cons, List.length_nil, List.getElem?_cons_zero, List.getElem?_cons_succ, Nat.mul_one, Bool.true_eq_false, Bool.false_eq_true, false_implies, true_implies, Bool.not_true, Bool.not_false, decide_true, decide_false, Int.reduceToNat, Int.cast_ofNat_Int, Int.reduceLT, Int.reduceLE, Int.reduceEq, Int.reduceNeg, eq_self, Option.isNone_some, Option.isNone_none, Bool.bne_false, Bool.bne_true]
  have hq0 : Dk.new.queue.length = 0 := rfl
  refine batch_ h4 (h0.mod h4.m fun _ _ h => h) (fun hn k hk hR => ?_) (by omega) ?_
  · have := h0.lt (by omega) hn k hk
    have := h4.f0 k hR; omega
  intro w5 ⟨F5, S5, h5⟩
  obtain ⟨e1, e2, e3⟩ := at_new.batch (f := 4) (by omega) ⟨[], 0, 16⟩ rs (by dsimp only; omega)
  have hfl := at_new.batch_file (f := 4) (by omega) hne rfl (by omega)
  have hqb := batchJ_queue Dk.new ⟨[], 0, 16⟩ 4 rs
  have e1 : (batchJ Dk.new ⟨[], ([] : List Bytes).length, 16⟩ 4 rs).2.2 = 0 := e1
  have h5 : JS w w5 p q4 4 (batchJ Dk.new ⟨[], 0, 16⟩ 4 rs).1 _ F5 S5 := h5
  generalize (batchJ Dk.new ⟨[], 0, 16⟩ 4 rs).1 = d at *
  rw [e1]
  try simp only [go_sem, ↓reduceIte, Nat.reduceEqDiff, Nat.reduceAdd, Nat.reduceLT, List.length_cons, List.length_nil, List.getElem?_cons_zero, List.getElem?_cons_succ, Nat.mul_one, Bool.true_eq_false, Bool.false_eq_true, false_implies, true_implies, Bool.not_true, Bool.not_false, decide_true, decide_false, Int.reduceToNat, Int.cast_ofNat_Int, Int.reduceLT, Int.reduceLE, Int.reduceEq, Int.reduceNeg, eq_self, Option.isNone_some, Option.isNone_none, Bool.bne_false, Bool.bne_true]
  unfold h13_2
  try simp only [go_sem, ↓reduceIte, Nat.reduceEqDiff, Nat.reduceAdd, Nat.reduceLT, List.length_cons, List.length_nil, List.getElem?_cons_zero, List.getElem?_cons_succ, Nat.mul_one, Bool.true_eq_false, Bool.false_eq_true, false_implies, true_implies, Bool.not_true, Bool.not_false, decide_true, decide_false, Int.reduceToNat, Int.cast_ofNat_Int, Int.reduceLT, Int.reduceLE, Int.reduceEq, Int.reduceNeg, eq_self, Option.isNone_some, Option.isNone_none, Bool.bne_false, Bool.bne_true]
  have hm4 : d.may [(4 : Int)] = 0 := may_up e3.down (f := 4) (by omega)
  have hrd : d.read 4 = image rs := by
    unfold Dk.read; rw [if_neg (fun hn => hn hm4)]; exact hfl
  refine read_ h5.dr 4 ?_
  intro w6 _ m6
  have h6 := h5.mod0 m6
  have hil := image_len rs
  have hfr := formsB_rows rs
  rw [hrd]
  try simp only [go_sem, ↓reduceIte, Nat.reduceEqDiff, Nat.reduceAdd, Nat.reduceLT, List.length_cons, List.length_nil, List.getElem?_cons_zero, List.getElem?_cons_succ, Nat.mul_one, Bool.true_eq_false, Bool.false_eq_true, false_implies, true_implies, Bool.not_true, Bool.not_false, decide_true, decide_false, Int.reduceToNat, Int.cast_ofNat_Int, Int.reduceLT, Int.reduceLE, Int.reduceEq, Int.reduceNeg, eq_self, Option.isNone_some, Option.isNone_none, Bool.bne_false, Bool.bne_true]
  rw [w64 (by omega) (by omega)]
  by_cases hin : 0 ≤ a ∧ a < (image rs).length
  · obtain ⟨i, rfl⟩ : ∃ i : Nat, a = i := ⟨a.toNat, by omega⟩
    have hi : i < (image rs).length := by omega
    have x1 : decide ((i : Int) < 0) = false := by simp
    have x2 : decide (((image rs).length : Int) ≤ i) = false := by simp; omega
    have x3 : (if ((image rs).length : Int) - 1 < i then ((image rs).length : Int) - 1 else i) = i := if_neg (by omega)
    simp only [x1, x2, x3, Bool.false_eq_true, if_false, Int.toNat_natCast, List.getElem?_eq_getElem hi, Option.getD_some]
    refine ⟨fun _ => ⟨by omega, by omega⟩, fun _ => k _ h6.m, fun hb => ?_⟩
    have hb : (image rs)[i] ≠ n := by
      intro h
      rw [h] at hb
      simp at hb
    exact jspoils3 h6.dr h6.f0 h6.m e3 (by omega) hfl hi hb hr0 hl0 b0 h0 rfl rfl rfl rfl rfl k
  · have x2 : (if decide (a < 0) = true then true else decide (((image rs).length : Int) ≤ a)) = true := by
      by_cases h : a < 0
      · simp [h]
      · simp [h]; omega
    simp only [x2, if_true]
    exact ⟨fun h => absurd h (by simp), fun _ => k _ h6.m, fun h => absurd h (by simp)⟩
end
end Go.Proofs.Y
