/- JG: the log's operations: all, Flush, Batch. -/
import Derived.Test.YtgalileklafbbaaJF
set_option linter.unusedSimpArgs false
set_option linter.unusedVariables false
set_option maxRecDepth 100000
namespace Go.Proofs.Y
open Go Go.HL Go.Proofs

theorem flush_queue (d : Dk) (f : Int) : (d.flush f).queue.length ≤ d.queue.length := by
  have hp := pre_queue d
  unfold Dk.flush; dsimp only
  split
  · omega
  · split
    · show d.pre.queue.length ≤ _; omega
    · exact Nat.le_trans (List.length_filter_le _ _) (by omega)
theorem write_queue (d : Dk) (f a : Int) (s : Bytes) : (d.write f a s).queue.length ≤ d.queue.length + s.length := by
  unfold Dk.write Dk.endW
  have := writeD_queue d.tick f a s
  rw [tick_queue] at this
  split
  · exact Nat.le_trans (crash_queue _ _) this
  · exact this
theorem cut_queue (d : Dk) (f n : Int) : (d.cut f n).queue.length ≤ d.queue.length := by
  have hp := pre_queue d
  unfold Dk.cut; dsimp only
  split
  · omega
  · split
    · omega
    · exact Nat.le_trans (List.length_filter_le _ _) (by omega)
theorem turn_queue (d : Dk) (f g : Int) : (d.turn f g).queue.length ≤ d.queue.length := by
  have hp := pre_queue d
  unfold Dk.turn; dsimp only
  split
  · omega
  · split
    · omega
    · split
      · omega
      · exact Nat.le_trans (List.length_filter_le _ _) (Nat.le_trans (List.length_filter_le _ _) (by omega))

/-- steps one behind the other, up to the first that fails -/
def allK (S : Nat → Prop) (w0 : World) : List Value → World → (Int → World → Prop) → Prop
  | [], w, K => K 0 w
  | g :: gs, w, K => callvK Try.prog g [] w (fun v w' => ∃ e : Int, v = .int .i64 e ∧ Mod S w0 w' ∧ (e = 0 → allK S w0 gs w' K) ∧ (e ≠ 0 → K e w')) noPanic

section
variable {w : World} {next : Value → World → Prop} {QP : List PanicEntry → World → Prop}

theorem all_ {S : Nat → Prop} {v : Value} {n : Nat} {gs : List Value} {K : Int → World → Prop} (hv : Sl w v 1 n gs) (hd : 0 < n → ∀ k, v.ownBlock = some k → ¬ S k) (hn : n ≤ 1000) (h : allK S w gs w K) (k : ∀ e w', K e w' → next (.int .i64 e) w') :
    callvK Try.prog (.func (.func 86) #[] #[]) [v] w next QP := by
  refine r86 rfl ?_
  have hgl : gs.length = n := by have := hv.len; omega
  obtain ⟨va, vc, rfl, hvc, -⟩ := hv.form
  unfold h86
  try simp only [go_sem, ↓reduceIte, Nat.reduceEqDiff, Nat.reduceAdd, Nat.reduceLT, List.length_cons, List.length_nil, List.getElem?_cons_zero, List.getElem?_cons_succ, Nat.mul_one, Bool.true_eq_false, Bool.false_eq_true, false_implies, true_implies, Bool.not_true, Bool.not_false, decide_true, decide_false, Int.reduceToNat, Int.cast_ofNat_Int, Int.reduceLT, Int.reduceLE, Int.reduceEq, Int.reduceNeg, eq_self, Option.isNone_some, Option.isNone_none, Bool.bne_false, Bool.bne_true]
  refine loopN n (fun i τ w' => τ 6 = .slice va n vc ∧ τ 7 = .int .i64 n ∧ τ 8 = .int .i64 i ∧ Mod S w w' ∧ allK S w (gs.drop i) w' K) ⟨0, by omega, rfl, rfl, rfl, Mod.refl _ _, h⟩ ?_
  rintro i τ w1 hi ⟨t6, t7, t8, m1, hK⟩
  unfold h86_1
  try simp only [go_sem, ↓reduceIte, Nat.reduceEqDiff, Nat.reduceAdd, Nat.reduceLT, List.length_cons, List.length_nil, List.getElem?_cons_zero, List.getElem?_cons_succ, Nat.mul_one, Bool.true_eq_false, Bool.false_eq_true, false_implies, true_implies, Bool.not_true, Bool.not_false, decide_true, decide_false, Int.reduceToNat, Int.cast_ofNat_Int, Int.reduceLT, Int.reduceLE, Int.reduceEq, Int.reduceNeg, eq_self, Option.isNone_some, Option.isNone_none, Bool.bne_false, Bool.bne_true, t6, t7, t8]
  refine ⟨fun hlt => ?_, fun hge => ?_⟩
  · have hin : i < n := by
      have : (i : Int) < n := by simpa using hlt
      omega
    obtain ⟨-, a', c', e', -, hcell⟩ := hv.mod' m1 hd
    simp only [Value.slice.injEq] at e'
    obtain ⟨rfl, -, rfl⟩ := e'
    obtain ⟨gb, o, rfl, hc⟩ := hcell (by omega)
    have hci : w1.cell? ⟨gb, o + i, none⟩ = some (gs[i]'(by omega)) := by rw [hc i (by omega), List.getElem?_eq_getElem (by omega)]
    rw [List.drop_eq_getElem_cons (by omega)] at hK
    simp only [allK] at hK
    unfold h86_2
    try simp only [go_sem, ↓reduceIte, Nat.reduceEqDiff, Nat.reduceAdd, Nat.reduceLT, List.length_cons, List.length_nil, List.getElem?_cons_zero, List.getElem?_cons_succ, Nat.mul_one, Bool.true_eq_false, Bool.false_eq_true, false_implies, true_implies, Bool.not_true, Bool.not_false, decide_true, decide_false, Int.reduceToNat, Int.cast_ofNat_Int, Int.reduceLT, Int.reduceLE, Int.reduceEq, Int.reduceNeg, eq_self, Option.isNone_some, Option.isNone_none, Bool.bne_false, Bool.bne_true, t6, t7, t8, hci]
    repeat refine ⟨⟨by omega, by omega⟩, ?_⟩
    refine callvK_mono hK ?_
    rintro v w2 ⟨e, rfl, m2, h0, h1⟩
    try simp only [go_sem, ↓reduceIte, Nat.reduceEqDiff, Nat.reduceAdd, Nat.reduceLT, List.length_cons, List.length_nil, List.getElem?_cons_zero, List.getElem?_cons_succ, Nat.mul_one, Bool.true_eq_false, Bool.false_eq_true, false_implies, true_implies, Bool.not_true, Bool.not_false, decide_true, decide_false, Int.reduceToNat, Int.cast_ofNat_Int, Int.reduceLT, Int.reduceLE, Int.reduceEq, Int.reduceNeg, eq_self, Option.isNone_some, Option.isNone_none, Bool.bne_false, Bool.bne_true, t6, t7, t8]
    refine ⟨fun he => ?_, fun he => ?_⟩
    · have he : ¬ e = 0 := by simpa using he
      exact k e w2 (h1 he)
    · have he : e = 0 := by simpa using he
      unfold h86_3
      try simp only [go_sem, ↓reduceIte, Nat.reduceEqDiff, Nat.reduceAdd, Nat.reduceLT, List.length_cons, List.length_nil, List.getElem?_cons_zero, List.getElem?_cons_succ, Nat.mul_one, Bool.true_eq_false, Bool.false_eq_true, false_implies, true_implies, Bool.not_true, Bool.not_false, decide_true, decide_false, Int.reduceToNat, Int.cast_ofNat_Int, Int.reduceLT, Int.reduceLE, Int.reduceEq, Int.reduceNeg, eq_self, Option.isNone_some, Option.isNone_none, Bool.bne_false, Bool.bne_true, t6, t7, t8]
      rw [w64 (by omega) (by omega)]
      exact ⟨i + 1, by omega, by omega, rfl, m2, h0 he⟩
  · have hio : i = n := by
      have : ¬ (i : Int) < n := by simpa using hge
      omega
    subst hio
    rw [List.drop_of_length_le (by omega)] at hK
    unfold h86_4
    try simp only [go_sem, ↓reduceIte, Nat.reduceEqDiff, Nat.reduceAdd, Nat.reduceLT, List.length_cons, List.length_nil, List.getElem?_cons_zero, List.getElem?_cons_succ, Nat.mul_one, Bool.true_eq_false, Bool.false_eq_true, false_implies, true_implies, Bool.not_true, Bool.not_false, decide_true, decide_false, Int.reduceToNat, Int.cast_ofNat_Int, Int.reduceLT, Int.reduceLE, Int.reduceEq, Int.reduceNeg, eq_self, Option.isNone_some, Option.isNone_none, Bool.bne_false, Bool.bne_true]
    exact k 0 w1 hK

/-- what Flush asks of the disk: the end's error and the disk behind it -/
def flush3 (d : Dk) (L : Lg) (f : Nat) : Dk × Int :=
  if d.flushR f ≠ 0 then (d.flush f, d.flushR f)
  else if (d.flush f).writeR f 0 (header L.end_ L.rows.length) ≠ 0 then ((d.flush f).write f 0 (header L.end_ L.rows.length), (d.flush f).writeR f 0 (header L.end_ L.rows.length))
  else (((d.flush f).write f 0 (header L.end_ L.rows.length)).flush f, ((d.flush f).write f 0 (header L.end_ L.rows.length)).flushR f)
def flushJ (d : Dk) (L : Lg) (f : Nat) : Dk × Lg × Int :=
  if L.sure = L.rows.length then (d, L, if d.down = true then 8 else 0)
  else ((flush3 d L f).1, if (flush3 d L f).2 = 0 then ⟨L.rows, L.rows.length, L.end_⟩ else L, (flush3 d L f).2)

theorem fl92_ {w0 : Base} {p q f : Nat} {d : Dk} {L : Lg} {F : FP} {S : Nat → Prop} (h : GS w0 w p q f d L F S) (hqn : d.queue.length ≤ 1000000000) (k : ∀ w', St F w w' p (d.flush f) → next (.int .i64 (d.flushR f)) w') :
    callvK Try.prog (.func (.func 92) #[ptr q] #[]) [] w next QP := by
  refine callv (first := [ptr q]) (caps := []) c92 (q92 rfl ?_)
  simp only [List.nil_append, List.append_nil, List.cons_append]
  obtain ⟨rv, hb, ho, ho1, c0, c1, c2, c3, c4⟩ := h.lg.parts
  unfold h92
  try simp only [go_sem, ↓reduceIte, Nat.reduceEqDiff, Nat.reduceAdd, Nat.reduceLT, List.length_cons, List.length_nil, List.getElem?_cons_zero, List.getElem?_cons_succ, Nat.mul_one, Bool.true_eq_false, Bool.false_eq_true, false_implies, true_implies, Bool.not_true, Bool.not_false, decide_true, decide_false, Int.reduceToNat, Int.cast_ofNat_Int, Int.reduceLT, Int.reduceLE, Int.reduceEq, Int.reduceNeg, eq_self, Option.isNone_some, Option.isNone_none, Bool.bne_false, Bool.bne_true, c0, c1]
  refine flush_ (h.dr.mod0 (Mod.drew none' w)) (by omega) ?_
  intro w' st
  try simp only [go_sem, ↓reduceIte, Nat.reduceEqDiff, Nat.reduceAdd, Nat.reduceLT, List.length_cons, List.length_nil, List.getElem?_cons_zero, List.getElem?_cons_succ, Nat.mul_one, Bool.true_eq_false, Bool.false_eq_true, false_implies, true_implies, Bool.not_true, Bool.not_false, decide_true, decide_false, Int.reduceToNat, Int.cast_ofNat_Int, Int.reduceLT, Int.reduceLE, Int.reduceEq, Int.reduceNeg, eq_self, Option.isNone_some, Option.isNone_none, Bool.bne_false, Bool.bne_true]
  exact k w' (st.after (Mod.drew none' w))

theorem fl93_ {w0 : Base} {p q f b : Nat} {d : Dk} {L : Lg} {F : FP} {S : Nat → Prop} (h : GS w0 w p q f d L F S) (hb : Blk w b 55 [ptr q]) (hqn : d.queue.length ≤ 1000000000) (k : ∀ w', St F w w' p (d.write f 0 (header L.end_ L.rows.length)) → next (.int .i64 (d.writeR f 0 (header L.end_ L.rows.length))) w') :
    callvK Try.prog (.func (.func 93) #[] #[ptr b]) [] w next QP := by
  refine callv (first := []) (caps := [ptr b]) c93 (q93 rfl ?_)
  simp only [List.nil_append, List.append_nil, List.cons_append]
  obtain ⟨rv, hbl, ho, ho1, c0, c1, c2, c3, c4⟩ := h.lg.parts
  obtain ⟨ra, rc, rfl, -, -⟩ := ho.form
  have b0 : w.cell? ⟨b, 0, none⟩ = some (ptr q) := hb.cell 0
  unfold h93
  try simp only [go_sem, ↓reduceIte, Nat.reduceEqDiff, Nat.reduceAdd, Nat.reduceLT, List.length_cons, List.length_nil, List.getElem?_cons_zero, List.getElem?_cons_succ, Nat.mul_one, Bool.true_eq_false, Bool.false_eq_true, false_implies, true_implies, Bool.not_true, Bool.not_false, decide_true, decide_false, Int.reduceToNat, Int.cast_ofNat_Int, Int.reduceLT, Int.reduceLE, Int.reduceEq, Int.reduceNeg, eq_self, Option.isNone_some, Option.isNone_none, Bool.bne_false, Bool.bne_true, b0, c0, c1, c2, c4]
  refine header_ _ _ ?_
  intro w1 m1
  have b0' := m1.cell (show w.drew.cell? ⟨b, 0, none⟩ = _ from b0) fun h => h
  have c0' := m1.cell (show w.drew.cell? ⟨q, 0, none⟩ = _ from c0) fun h => h
  have c1' := m1.cell (show w.drew.cell? ⟨q, 1, none⟩ = _ from c1) fun h => h
  have hh := header_len L.end_ L.rows.length
  try simp only [go_sem, ↓reduceIte, Nat.reduceEqDiff, Nat.reduceAdd, Nat.reduceLT, List.length_cons, List.length_nil, List.getElem?_cons_zero, List.getElem?_cons_succ, Nat.mul_one, Bool.true_eq_false, Bool.false_eq_true, false_implies, true_implies, Bool.not_true, Bool.not_false, decide_true, decide_false, Int.reduceToNat, Int.cast_ofNat_Int, Int.reduceLT, Int.reduceLE, Int.reduceEq, Int.reduceNeg, eq_self, Option.isNone_some, Option.isNone_none, Bool.bne_false, Bool.bne_true, b0', c0', c1']
  have m01 := (Mod.drew none' w).trans' m1
  refine write_ (h.dr.mod0 m01) (by omega) (by omega) (by omega) ?_
  intro w' st
  try simp only [go_sem, ↓reduceIte, Nat.reduceEqDiff, Nat.reduceAdd, Nat.reduceLT, List.length_cons, List.length_nil, List.getElem?_cons_zero, List.getElem?_cons_succ, Nat.mul_one, Bool.true_eq_false, Bool.false_eq_true, false_implies, true_implies, Bool.not_true, Bool.not_false, decide_true, decide_false, Int.reduceToNat, Int.cast_ofNat_Int, Int.reduceLT, Int.reduceLE, Int.reduceEq, Int.reduceNeg, eq_self, Option.isNone_some, Option.isNone_none, Bool.bne_false, Bool.bne_true]
  exact k w' (st.after m01)

theorem gflushJ_ {w0 : Base} {p q f : Nat} {d : Dk} {L : Lg} {F : FP} {S : Nat → Prop} (h : GS w0 w p q f d L F S) (hqn : d.queue.length ≤ 1000000) (k : ∀ w', GT w0 w' p q f (flushJ d L f).1 (flushJ d L f).2.1 → next (.int .i64 (flushJ d L f).2.2) w') :
    callvK Try.prog (.func (.func 51) #[] #[]) [ptr q] w next QP := by
  refine r51 rfl ?_
  unfold h51
  try simp only [go_sem, ↓reduceIte, Nat.reduceEqDiff, Nat.reduceAdd, Nat.reduceLT, List.length_cons, List.length_nil, List.getElem?_cons_zero, List.getElem?_cons_succ, Nat.mul_one, Bool.true_eq_false, Bool.false_eq_true, false_implies, true_implies, Bool.not_true, Bool.not_false, decide_true, decide_false, Int.reduceToNat, Int.cast_ofNat_Int, Int.reduceLT, Int.reduceLE, Int.reduceEq, Int.reduceNeg, eq_self, Option.isNone_some, Option.isNone_none, Bool.bne_false, Bool.bne_true]
  refine box_ (cs := [ptr q]) rfl ?_
  intro b w1 hb blk1 m1 hs1
  have h1 := h.mod0 m1
  obtain ⟨rv, hbl, ho, ho1, c0, c1, c2, c3, c4⟩ := h1.lg.parts
  obtain ⟨ra, rc, rfl, -, -⟩ := ho.form
  have b0 : w1.cell? ⟨b, 0, none⟩ = some (ptr q) := blk1.cell 0
  have h2 := h1.mod0 (Mod.drew none' w1)
  try simp only [go_sem, ↓reduceIte, Nat.reduceEqDiff, Nat.reduceAdd, Nat.reduceLT, List.length_cons, List.length_nil, List.getElem?_cons_zero, List.getElem?_cons_succ, Nat.mul_one, Bool.true_eq_false, Bool.false_eq_true, false_implies, true_implies, Bool.not_true, Bool.not_false, decide_true, decide_false, Int.reduceToNat, Int.cast_ofNat_Int, Int.reduceLT, Int.reduceLE, Int.reduceEq, Int.reduceNeg, eq_self, Option.isNone_some, Option.isNone_none, Bool.bne_false, Bool.bne_true, b0, c0, c1, c2, c3, c4]
  refine ⟨fun he => ?_, fun he => ?_⟩
  · have he : L.sure = L.rows.length := by
      have h0 : (L.sure : Int) = L.rows.length := by simpa using he
      omega
    have hJ : flushJ d L f = (d, L, if d.down = true then 8 else 0) := by rw [flushJ, if_pos he]
    rw [hJ] at k
    refine down_ h2.dr ?_
    try simp only [go_sem, ↓reduceIte, Nat.reduceEqDiff, Nat.reduceAdd, Nat.reduceLT, List.length_cons, List.length_nil, List.getElem?_cons_zero, List.getElem?_cons_succ, Nat.mul_one, Bool.true_eq_false, Bool.false_eq_true, false_implies, true_implies, Bool.not_true, Bool.not_false, decide_true, decide_false, Int.reduceToNat, Int.cast_ofNat_Int, Int.reduceLT, Int.reduceLE, Int.reduceEq, Int.reduceNeg, eq_self, Option.isNone_some, Option.isNone_none, Bool.bne_false, Bool.bne_true]
    refine ⟨fun hd => ?_, fun hd => ?_⟩
    · have := k w1.drew h2.jt
      rw [hd] at this; exact this
    · unfold h51_1
      try simp only [go_sem, ↓reduceIte, Nat.reduceEqDiff, Nat.reduceAdd, Nat.reduceLT, List.length_cons, List.length_nil, List.getElem?_cons_zero, List.getElem?_cons_succ, Nat.mul_one, Bool.true_eq_false, Bool.false_eq_true, false_implies, true_implies, Bool.not_true, Bool.not_false, decide_true, decide_false, Int.reduceToNat, Int.cast_ofNat_Int, Int.reduceLT, Int.reduceLE, Int.reduceEq, Int.reduceNeg, eq_self, Option.isNone_some, Option.isNone_none, Bool.bne_false, Bool.bne_true]
      have := k w1.drew h2.jt
      rw [hd] at this; exact this
  · have he : ¬ L.sure = L.rows.length := by
      have h0 : ¬ (L.sure : Int) = L.rows.length := by simpa using he
      omega
    have hJ : flushJ d L f = ((flush3 d L f).1, if (flush3 d L f).2 = 0 then ⟨L.rows, L.rows.length, L.end_⟩ else L, (flush3 d L f).2) := by rw [flushJ, if_neg he]
    rw [hJ] at k
    have b0' : w1.drew.cell? ⟨b, 0, none⟩ = some (ptr q) := b0
    unfold h51_2
    try simp only [go_sem, ↓reduceIte, Nat.reduceEqDiff, Nat.reduceAdd, Nat.reduceLT, List.length_cons, List.length_nil, List.getElem?_cons_zero, List.getElem?_cons_succ, Nat.mul_one, Bool.true_eq_false, Bool.false_eq_true, false_implies, true_implies, Bool.not_true, Bool.not_false, decide_true, decide_false, Int.reduceToNat, Int.cast_ofNat_Int, Int.reduceLT, Int.reduceLE, Int.reduceEq, Int.reduceNeg, eq_self, Option.isNone_some, Option.isNone_none, Bool.bne_false, Bool.bne_true, b0]
    refine bsl3 (t := 128) (e := 70) (by_ := 8) (z := .nilFunc) ⟨by kernel_rfl, by kernel_rfl, rfl, by decide⟩ rfl rfl rfl ?_
    intro b2 w3 hb2 own3 blk3 m3 hs3
    have h3 := h2.mod0 m3
    have blk1' : Blk w3 b 55 [ptr q] := (blk1.mod (Mod.drew none' w1) fun h => h).mod m3 fun h => h
    have hbF : ¬ F.W b := fun hW => by have := h.dr.lt b (h.dr.sub b hW); omega
    have hb2F : ¬ F.W b2 := fun hW => by have := h2.dr.lt b2 (h2.dr.sub b2 hW); omega
    have hbl1 := blk1.lt
    refine all_ (S := F.W) (K := fun e w' => e = (flush3 d L f).2 ∧ Mod F.W w3 w' ∧ GT w0 w' p q f (flush3 d L f).1 L) own3.sl (fun _ k hk hW => hb2F (by simp [Value.ownBlock] at hk; exact hk ▸ hW)) (by omega) ?_ ?_
    · have hhl := header_len L.end_ L.rows.length
      have q1 := flush_queue d f
      have q2 := write_queue (d.flush f) f 0 (header L.end_ L.rows.length)
      simp only [allK]
      refine fl92_ h3 (by omega) ?_
      intro w4 st4
      have h4 := h3.disk st4
      have m4 : Mod F.W w3 w4 := st4.mod
      refine ⟨_, rfl, m4, fun he1 => ?_, fun he1 => ⟨by simp only [flush3, if_pos he1], m4, by simp only [flush3, if_pos he1]; exact h4.jt⟩⟩
      have n1 : ¬ (d.flushR f ≠ 0) := fun h => h he1
      refine fl93_ h4 (blk1'.mod m4 hbF) (by omega) ?_
      intro w5 st5
      have h5 := h4.disk st5
      have m5 : Mod F.W w3 w5 := m4.trans st5.mod fun k hk hW => by
        rcases st4.footW k hW with h' | h'
        · exact h'
        · omega
      refine ⟨_, rfl, m5, fun he2 => ?_, fun he2 => ⟨by simp only [flush3, if_neg n1, if_pos he2], m5, by simp only [flush3, if_neg n1, if_pos he2]; exact h5.jt⟩⟩
      have n2 : ¬ ((d.flush f).writeR f 0 (header L.end_ L.rows.length) ≠ 0) := fun h => h he2
      refine fl92_ h5 (by omega) ?_
      intro w6 st6
      have h6 := h5.disk st6
      have hs4 := m4.size
      have m6 : Mod F.W w3 w6 := m5.trans st6.mod fun k hk hW => by
        rcases st5.footW k hW with h' | h'
        · rcases st4.footW k h' with h'' | h''
          · exact h''
          · omega
        · omega
      exact ⟨_, rfl, m6, fun he3 => ⟨by simp only [flush3, if_neg n1, if_neg n2]; exact he3.symm, m6, by simp only [flush3, if_neg n1, if_neg n2]; exact h6.jt⟩, fun he3 => ⟨by simp only [flush3, if_neg n1, if_neg n2], m6, by simp only [flush3, if_neg n1, if_neg n2]; exact h6.jt⟩⟩
    · rintro e w4 ⟨rfl, m4, F4, S4, h4⟩
      have b4 : w4.cell? ⟨b, 0, none⟩ = some (ptr q) := (blk1'.mod m4 hbF).cell 0
      obtain ⟨rv, hbl, ho, ho1, c0, c1, c2, c3, c4⟩ := h4.lg.parts
      obtain ⟨ra, rc, rfl, -, -⟩ := ho.form
      try simp only [go_sem, ↓reduceIte, Nat.reduceEqDiff, Nat.reduceAdd, Nat.reduceLT, List.length_cons, List.length_nil, List.getElem?_cons_zero, List.getElem?_cons_succ, Nat.mul_one, Bool.true_eq_false, Bool.false_eq_true, false_implies, true_implies, Bool.not_true, Bool.not_false, decide_true, decide_false, Int.reduceToNat, Int.cast_ofNat_Int, Int.reduceLT, Int.reduceLE, Int.reduceEq, Int.reduceNeg, eq_self, Option.isNone_some, Option.isNone_none, Bool.bne_false, Bool.bne_true, b4]
      refine ⟨fun he => ?_, fun he => ?_⟩
      · have he : (flush3 d L f).2 = 0 := by simpa using he
        rw [if_pos he, he] at k
        try simp only [go_sem, ↓reduceIte, Nat.reduceEqDiff, Nat.reduceAdd, Nat.reduceLT, List.length_cons, List.length_nil, List.getElem?_cons_zero, List.getElem?_cons_succ, Nat.mul_one, Bool.true_eq_false, Bool.false_eq_true, false_implies, true_implies, Bool.not_true, Bool.not_false, decide_true, decide_false, Int.reduceToNat, Int.cast_ofNat_Int, Int.reduceLT, Int.reduceLE, Int.reduceEq, Int.reduceNeg, eq_self, Option.isNone_some, Option.isNone_none, Bool.bne_false, Bool.bne_true, b4, c2]
        refine store1 sz3 (hbl.mod (Mod.drew none' w4) fun h => h) (by simp) rfl ?_
        intro w5 hb5 m5 hs5
        unfold h51_3
        try simp only [go_sem, ↓reduceIte, Nat.reduceEqDiff, Nat.reduceAdd, Nat.reduceLT, List.length_cons, List.length_nil, List.getElem?_cons_zero, List.getElem?_cons_succ, Nat.mul_one, Bool.true_eq_false, Bool.false_eq_true, false_implies, true_implies, Bool.not_true, Bool.not_false, decide_true, decide_false, Int.reduceToNat, Int.cast_ofNat_Int, Int.reduceLT, Int.reduceLE, Int.reduceEq, Int.reduceNeg, eq_self, Option.isNone_some, Option.isNone_none, Bool.bne_false, Bool.bne_true, he]
        refine k _ (GS.jt ((h4.mod0 (Mod.drew none' w4)).log (S' := S4) ⟨⟨.slice ra L.rows.length rc, by simpa using hb5, (ho.mod (Mod.drew none' w4) fun _ _ h => h).mod m5 fun k hk (e : k = q) => (ho1 k hk).2 e, fun k hk => (ho1 k hk).1⟩, h4.lg.self, fun k hk => ?_, h4.lg.bd, h4.lg.rb⟩ (fun k hk => .inl hk) (m5.mono fun k _ (e : k = q) => e ▸ h4.lg.self)))
        have := h4.lg.lt k hk; have := m5.size; simp at this; omega
      · have he : ¬ (flush3 d L f).2 = 0 := by simpa using he
        rw [if_neg he] at k
        unfold h51_3
        try simp only [go_sem, ↓reduceIte, Nat.reduceEqDiff, Nat.reduceAdd, Nat.reduceLT, List.length_cons, List.length_nil, List.getElem?_cons_zero, List.getElem?_cons_succ, Nat.mul_one, Bool.true_eq_false, Bool.false_eq_true, false_implies, true_implies, Bool.not_true, Bool.not_false, decide_true, decide_false, Int.reduceToNat, Int.cast_ofNat_Int, Int.reduceLT, Int.reduceLE, Int.reduceEq, Int.reduceNeg, eq_self, Option.isNone_some, Option.isNone_none, Bool.bne_false, Bool.bne_true]
        exact k _ h4.jt
end
end Go.Proofs.Y
