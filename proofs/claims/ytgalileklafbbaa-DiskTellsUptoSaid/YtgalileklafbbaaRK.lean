/- RK: DiskTells: the disk and the reference side by side. -/
import Derived.Test.YtgalileklafbbaaRJ
import Derived.Test.YtgalileklafbbaaDWa
set_option linter.unusedSimpArgs false
set_option linter.unusedVariables false
set_option maxRecDepth 100000
namespace Go.Proofs.Y
open Go Go.HL Go.Proofs

structure TT (w0 w : World) (p q : Nat) (d e : Dk) (F : FP) (S : Nat → Prop) : Prop where
  dr : DR w p d F
  rr : RR w q e S
  ap : ∀ k, F.R k → ¬ S k
  f0 : ∀ k, F.R k → w0.heap.size ≤ k
  s0 : ∀ k, S k → w0.heap.size ≤ k
  m : Mod none' w0 w

section
variable {w0 w w' : World} {p q : Nat} {d e d' e' : Dk} {F : FP} {S : Nat → Prop}
theorem TT.left (h : TT w0 w p q d e F S) (st : St F w w' p d') : TT w0 w' p q d' e st.foot S := by
  have hs := h.m.size
  refine ⟨st.dr, h.rr.mod st.mod fun k hk hW => h.ap k (h.dr.sub k hW) hk, fun k hk hS => ?_, fun k hk => ?_, h.s0, h.m.trans st.mod fun k hk hW => ?_⟩
  · rcases st.footR k hk with h' | h'
    · exact h.ap k h' hS
    · have := h.rr.lt k hS; omega
  · rcases st.footR k hk with h' | h'
    · exact h.f0 k h'
    · omega
  · have := h.f0 k (h.dr.sub k hW); omega
theorem TT.right (h : TT w0 w p q d e F S) (rt : RT S w w' q e') : TT w0 w' p q d e' F rt.foot := by
  have hs := h.m.size
  refine ⟨h.dr.mod rt.mod fun k hk hS => h.ap k hk hS, rt.rr, fun k hk hS => ?_, h.f0, fun k hk => ?_, h.m.trans rt.mod fun k hk hS => ?_⟩
  · rcases rt.footS k hS with h' | h'
    · exact h.ap k hk h'
    · have := h.dr.lt k hk; omega
  · rcases rt.footS k hk with h' | h'
    · exact h.s0 k h'
    · omega
  · have := h.s0 k hS; omega
theorem TT.mod0 (h : TT w0 w p q d e F S) (m : Mod none' w w') : TT w0 w' p q d e F S := ⟨h.dr.mod0 m, h.rr.mod0 m, h.ap, h.f0, h.s0, h.m.trans' m⟩
end

section
variable {w : World} {next : Value → World → Prop} {QP : List PanicEntry → World → Prop}

theorem crash_keep (d : Dk) (ks : List Int) : (d.crash ks).keep = d.keep := by unfold Dk.crash; split <;> rfl
theorem pre_keep (d : Dk) : d.pre.keep = d.keep := by
  unfold Dk.pre Dk.endW; split
  · rw [crash_keep, tick_keep]
  · exact tick_keep d
theorem act_keep (d : Dk) (a : Act) : (d.act a).keep = d.keep ∨ (d.act a).keep = a.ks := by
  have hp := pre_keep d
  unfold Dk.act
  split
  · left; unfold Dk.write Dk.endW; split
    · rw [crash_keep, writeD_keep, tick_keep]
    · rw [writeD_keep, tick_keep]
  split
  · left; unfold Dk.flush; dsimp only; split
    · exact hp
    · split <;> exact hp
  split
  · left; unfold Dk.cut; dsimp only; split
    · exact hp
    · split <;> exact hp
  split
  · left; unfold Dk.turn; dsimp only; split
    · exact hp
    · split
      · exact hp
      · split <;> exact hp
  split
  · exact .inl (crash_keep _ _)
  split
  · exact .inl rfl
  split
  · exact .inl rfl
  split
  · exact .inl rfl
  split
  · exact .inr rfl
  · exact .inl rfl

theorem act_all {v : Value} {al : List Act} {i : Nat} (hv : Sl w v 6 al.length (rows Act.cells al)) (hi : i < al.length) : ∃ gb o c, v = .slice (some ⟨gb, o, none⟩) al.length c ∧
    ∀ w', Mod none' w w' → loadN w' ⟨gb, o + i * 6, none⟩ 6 = al[i].cells.toArray ∧ (∀ j, j < 6 → (w'.cell? ⟨gb, o + i * 6 + j, none⟩).isSome = true) ∧ w'.cell? ⟨gb, o + i * 6, none⟩ = some (.int .i64 al[i].Do) ∧ w'.cell? ⟨gb, o + i * 6 + 1, none⟩ = some (.int .i64 al[i].F) := by
  obtain ⟨gb, o, c, hva, hcc, hcell⟩ := hv.get Act.cells_len rfl (by omega)
  refine ⟨gb, o, c, hva, fun w' m => ?_⟩
  have hc : ∀ j, j < 6 → w'.cell? ⟨gb, o + i * 6 + j, none⟩ = al[i].cells[j]? := fun j hj => by
    have h1 := hcell i j hi hj
    rw [List.getElem?_eq_getElem (by rw [Act.cells_len]; exact hj)] at h1 ⊢
    exact m.cell h1 fun h => h
  exact ⟨loadN_of rfl fun j hj => by rw [e_add]; exact hc j hj, fun j hj => by rw [hc j hj]; simp [Act.cells_len, hj], hc 0 (by omega), hc 1 (by omega)⟩

/-- the operation on both, and the comparison -/
theorem tells5 {Q : HX → Env → World → Prop} {w1 : World} {lv : Value} {al : List Act} {i : Nat} {p q : Nat} {D : Dk} {F : FP} {S : Nat → Prop} {σ : Env} (hl : Sl w lv 6 al.length (rows Act.cells al)) (hil : i < al.length) (ha : al[i].OK w) (h : TT w w1 p q D D F S) (hp : w.heap.size ≤ p) (hq : w.heap.size ≤ q)
    (hql : D.queue.length + al[i].S.length ≤ 1000000) (s0 : σ 0 = lv) (s3 : σ 3 = .bool true) (s4 : σ 4 = ptr p) (s5 : σ 5 = ptr q) (s6 : σ 6 = .int .i64 i)
    (hQ : ∀ τ w' F' S', τ 0 = lv → τ 3 = .bool true → τ 4 = ptr p → τ 5 = ptr q → τ 6 = .int .i64 i → TT w w' p q (D.act al[i]) (D.act al[i]) F' S' → Q .normal τ w') :
    hw Try.prog noPanic h8_5 Q σ w1 := by
  obtain ⟨gb, o, c, rfl, hA⟩ := act_all hl hil
  obtain ⟨hld, hsome, x0, x1⟩ := hA w1 h.m
  have hkb : ∀ {x : Nat}, w.heap.size ≤ x → 0 < al[i].ks.length → al[i].kv.ownBlock ≠ some x := fun hx hk e => by have := ha.k.lt (by omega) hk _ e; omega
  have haq := act_queue D al[i]
  unfold h8_5
  try simp only [go_sem, ↓reduceIte, Nat.reduceEqDiff, Nat.reduceAdd, Nat.reduceLT, List.length_cons, List.length_nil, List.getElem?_cons_zero, List.getElem?_cons_succ, Nat.mul_one, Bool.true_eq_false, Bool.false_eq_true, false_implies, true_implies, Bool.not_true, Bool.not_false, decide_true, decide_false, Int.reduceToNat, Int.cast_ofNat_Int, Int.reduceLT, Int.reduceLE, Int.reduceEq, Int.reduceNeg, eq_self, Option.isNone_some, Option.isNone_none, Bool.bne_false, Bool.bne_true, s0, s3, s4, s5, s6, hld]
  repeat refine ⟨⟨by omega, by omega⟩, ?_⟩
  refine ⟨hsome, ?_⟩
  refine do_ h.dr (ha.mod0 h.m) (hkb hp) (by omega) ?_
  intro w2 st2
  have h := h.left st2
  obtain ⟨hld, hsome, x0, x1⟩ := hA w2 h.m
  try simp only [go_sem, ↓reduceIte, Nat.reduceEqDiff, Nat.reduceAdd, Nat.reduceLT, List.length_cons, List.length_nil, List.getElem?_cons_zero, List.getElem?_cons_succ, Nat.mul_one, Bool.true_eq_false, Bool.false_eq_true, false_implies, true_implies, Bool.not_true, Bool.not_false, decide_true, decide_false, Int.reduceToNat, Int.cast_ofNat_Int, Int.reduceLT, Int.reduceLE, Int.reduceEq, Int.reduceNeg, eq_self, Option.isNone_some, Option.isNone_none, Bool.bne_false, Bool.bne_true, s0, s3, s4, s5, s6, hld]
  repeat refine ⟨⟨by omega, by omega⟩, ?_⟩
  refine ⟨hsome, ?_⟩
  refine twin_ h.rr (ha.mod0 h.m) (hkb hq) (by omega) ?_
  intro w3 rt3
  have h := h.right rt3
  have h := h.mod0 (Mod.drew none' w3)
  try simp only [go_sem, ↓reduceIte, Nat.reduceEqDiff, Nat.reduceAdd, Nat.reduceLT, List.length_cons, List.length_nil, List.getElem?_cons_zero, List.getElem?_cons_succ, Nat.mul_one, Bool.true_eq_false, Bool.false_eq_true, false_implies, true_implies, Bool.not_true, Bool.not_false, decide_true, decide_false, Int.reduceToNat, Int.cast_ofNat_Int, Int.reduceLT, Int.reduceLE, Int.reduceEq, Int.reduceNeg, eq_self, Option.isNone_some, Option.isNone_none, Bool.bne_false, Bool.bne_true, s0, s3, s4, s5, s6]
  refine down_ h.dr ?_
  unfold l8_9
  try simp only [go_sem, ↓reduceIte, Nat.reduceEqDiff, Nat.reduceAdd, Nat.reduceLT, List.length_cons, List.length_nil, List.getElem?_cons_zero, List.getElem?_cons_succ, Nat.mul_one, Bool.true_eq_false, Bool.false_eq_true, false_implies, true_implies, Bool.not_true, Bool.not_false, decide_true, decide_false, Int.reduceToNat, Int.cast_ofNat_Int, Int.reduceLT, Int.reduceLE, Int.reduceEq, Int.reduceNeg, eq_self, Option.isNone_some, Option.isNone_none, Bool.bne_false, Bool.bne_true, s0, s3, s4, s5, s6]
  refine rdown_ h.rr ?_
  obtain ⟨hld, hsome, x0, x1⟩ := hA w3.drew h.m
  unfold l8_8
  try simp only [go_sem, ↓reduceIte, Nat.reduceEqDiff, Nat.reduceAdd, Nat.reduceLT, List.length_cons, List.length_nil, List.getElem?_cons_zero, List.getElem?_cons_succ, Nat.mul_one, Bool.true_eq_false, Bool.false_eq_true, false_implies, true_implies, Bool.not_true, Bool.not_false, decide_true, decide_false, Int.reduceToNat, Int.cast_ofNat_Int, Int.reduceLT, Int.reduceLE, Int.reduceEq, Int.reduceNeg, eq_self, Option.isNone_some, Option.isNone_none, Bool.bne_false, Bool.bne_true, s0, s3, s4, s5, s6, x1, beq_self_eq_true]
  repeat refine ⟨⟨by omega, by omega⟩, ?_⟩
  refine size_ h.dr _ ?_
  try simp only [go_sem, ↓reduceIte, Nat.reduceEqDiff, Nat.reduceAdd, Nat.reduceLT, List.length_cons, List.length_nil, List.getElem?_cons_zero, List.getElem?_cons_succ, Nat.mul_one, Bool.true_eq_false, Bool.false_eq_true, false_implies, true_implies, Bool.not_true, Bool.not_false, decide_true, decide_false, Int.reduceToNat, Int.cast_ofNat_Int, Int.reduceLT, Int.reduceLE, Int.reduceEq, Int.reduceNeg, eq_self, Option.isNone_some, Option.isNone_none, Bool.bne_false, Bool.bne_true, x1]
  unfold l8_7
  try simp only [go_sem, ↓reduceIte, Nat.reduceEqDiff, Nat.reduceAdd, Nat.reduceLT, List.length_cons, List.length_nil, List.getElem?_cons_zero, List.getElem?_cons_succ, Nat.mul_one, Bool.true_eq_false, Bool.false_eq_true, false_implies, true_implies, Bool.not_true, Bool.not_false, decide_true, decide_false, Int.reduceToNat, Int.cast_ofNat_Int, Int.reduceLT, Int.reduceLE, Int.reduceEq, Int.reduceNeg, eq_self, Option.isNone_some, Option.isNone_none, Bool.bne_false, Bool.bne_true, s0, s3, s4, s5, s6, x1, beq_self_eq_true]
  refine rsize_ h.rr _ (by omega) ?_
  intro w4 m4
  unfold l8_6
  try simp only [go_sem, ↓reduceIte, Nat.reduceEqDiff, Nat.reduceAdd, Nat.reduceLT, List.length_cons, List.length_nil, List.getElem?_cons_zero, List.getElem?_cons_succ, Nat.mul_one, Bool.true_eq_false, Bool.false_eq_true, false_implies, true_implies, Bool.not_true, Bool.not_false, decide_true, decide_false, Int.reduceToNat, Int.cast_ofNat_Int, Int.reduceLT, Int.reduceLE, Int.reduceEq, Int.reduceNeg, eq_self, Option.isNone_some, Option.isNone_none, Bool.bne_false, Bool.bne_true, s0, s3, s4, s5, s6, x1, beq_self_eq_true]
  unfold h8_10
  try simp only [go_sem, ↓reduceIte, Nat.reduceEqDiff, Nat.reduceAdd, Nat.reduceLT, List.length_cons, List.length_nil, List.getElem?_cons_zero, List.getElem?_cons_succ, Nat.mul_one, Bool.true_eq_false, Bool.false_eq_true, false_implies, true_implies, Bool.not_true, Bool.not_false, decide_true, decide_false, Int.reduceToNat, Int.cast_ofNat_Int, Int.reduceLT, Int.reduceLE, Int.reduceEq, Int.reduceNeg, eq_self, Option.isNone_some, Option.isNone_none, Bool.bne_false, Bool.bne_true, s0, s3, s4, s5, s6, x1, beq_self_eq_true]
  exact hQ _ _ _ _ s0 s3 s4 s5 s6 (h.mod0 m4)

theorem tells_ {lv : Value} {al : List Act} (hl : Sl w lv 6 al.length (rows Act.cells al)) (hal : ∀ x ∈ al, x.OK w) (hn : al.length ≤ 1048576) (hh : heft al ≤ 1048576) (k : ∀ w', Mod none' w w' → next (.bool true) w') :
    callK Try.prog 8 [lv] w next QP := by
  refine q8 rfl ?_
  obtain ⟨la, lc, rfl, hlc, -⟩ := hl.form
  unfold h8
  try simp only [go_sem, ↓reduceIte, Nat.reduceEqDiff, Nat.reduceAdd, Nat.reduceLT, List.length_cons, List.length_nil, List.getElem?_cons_zero, List.getElem?_cons_succ, Nat.mul_one, Bool.true_eq_false, Bool.false_eq_true, false_implies, true_implies, Bool.not_true, Bool.not_false, decide_true, decide_false, Int.reduceToNat, Int.cast_ofNat_Int, Int.reduceLT, Int.reduceLE, Int.reduceEq, Int.reduceNeg, eq_self, Option.isNone_some, Option.isNone_none, Bool.bne_false, Bool.bne_true]
  refine small_ ?_
  intro w1 m1
  try simp only [go_sem, ↓reduceIte, Nat.reduceEqDiff, Nat.reduceAdd, Nat.reduceLT, List.length_cons, List.length_nil, List.getElem?_cons_zero, List.getElem?_cons_succ, Nat.mul_one, Bool.true_eq_false, Bool.false_eq_true, false_implies, true_implies, Bool.not_true, Bool.not_false, decide_true, decide_false, Int.reduceToNat, Int.cast_ofNat_Int, Int.reduceLT, Int.reduceLE, Int.reduceEq, Int.reduceNeg, eq_self, Option.isNone_some, Option.isNone_none, Bool.bne_false, Bool.bne_true]
  refine new_ ?_
  intro p w2 hp st0
  have st : St FP0 w w2 p Dk.new := st0.after m1
  try simp only [go_sem, ↓reduceIte, Nat.reduceEqDiff, Nat.reduceAdd, Nat.reduceLT, List.length_cons, List.length_nil, List.getElem?_cons_zero, List.getElem?_cons_succ, Nat.mul_one, Bool.true_eq_false, Bool.false_eq_true, false_implies, true_implies, Bool.not_true, Bool.not_false, decide_true, decide_false, Int.reduceToNat, Int.cast_ofNat_Int, Int.reduceLT, Int.reduceLE, Int.reduceEq, Int.reduceNeg, eq_self, Option.isNone_some, Option.isNone_none, Bool.bne_false, Bool.bne_true]
  refine few_ (hl.mod st.mod fun _ _ h => h) (fun x hx => (hal x hx).mod0 st.mod) hn (by omega) ?_
  intro w3 m3
  have st := st.mod0 m3
  cases hfew : few al
  · try simp only [go_sem, ↓reduceIte, Nat.reduceEqDiff, Nat.reduceAdd, Nat.reduceLT, List.length_cons, List.length_nil, List.getElem?_cons_zero, List.getElem?_cons_succ, Nat.mul_one, Bool.true_eq_false, Bool.false_eq_true, false_implies, true_implies, Bool.not_true, Bool.not_false, decide_true, decide_false, Int.reduceToNat, Int.cast_ofNat_Int, Int.reduceLT, Int.reduceLE, Int.reduceEq, Int.reduceNeg, eq_self, Option.isNone_some, Option.isNone_none, Bool.bne_false, Bool.bne_true]
    exact k _ st.mod
  try simp only [go_sem, ↓reduceIte, Nat.reduceEqDiff, Nat.reduceAdd, Nat.reduceLT, List.length_cons, List.length_nil, List.getElem?_cons_zero, List.getElem?_cons_succ, Nat.mul_one, Bool.true_eq_false, Bool.false_eq_true, false_implies, true_implies, Bool.not_true, Bool.not_false, decide_true, decide_false, Int.reduceToNat, Int.cast_ofNat_Int, Int.reduceLT, Int.reduceLE, Int.reduceEq, Int.reduceNeg, eq_self, Option.isNone_some, Option.isNone_none, Bool.bne_false, Bool.bne_true]
  obtain ⟨h200, h5000⟩ := few_le hfew
  unfold h8_1
  try simp only [go_sem, ↓reduceIte, Nat.reduceEqDiff, Nat.reduceAdd, Nat.reduceLT, List.length_cons, List.length_nil, List.getElem?_cons_zero, List.getElem?_cons_succ, Nat.mul_one, Bool.true_eq_false, Bool.false_eq_true, false_implies, true_implies, Bool.not_true, Bool.not_false, decide_true, decide_false, Int.reduceToNat, Int.cast_ofNat_Int, Int.reduceLT, Int.reduceLE, Int.reduceEq, Int.reduceNeg, eq_self, Option.isNone_some, Option.isNone_none, Bool.bne_false, Bool.bne_true]
  refine rnew_ ?_
  intro q w4 hq rt
  have hpw : w.heap.size ≤ p := by have := m1.size; omega
  have htt : TT w w4 p q Dk.new Dk.new st.foot rt.foot := by
    have hs := st.mod.size
    refine ⟨st.dr.mod0 rt.mod, rt.rr, fun k hk hS => ?_, fun k hk => ?_, fun k hk => ?_, st.mod.trans rt.mod fun k hk h => h⟩
    · have := st.dr.lt k hk
      rcases rt.footS k hS with h' | h'
      · exact h'
      · omega
    · rcases st.footR k hk with h' | h'
      · exact h'.elim
      · exact h'
    · rcases rt.footS k hk with h' | h'
      · exact h'.elim
      · omega
  try simp only [go_sem, ↓reduceIte, Nat.reduceEqDiff, Nat.reduceAdd, Nat.reduceLT, List.length_cons, List.length_nil, List.getElem?_cons_zero, List.getElem?_cons_succ, Nat.mul_one, Bool.true_eq_false, Bool.false_eq_true, false_implies, true_implies, Bool.not_true, Bool.not_false, decide_true, decide_false, Int.reduceToNat, Int.cast_ofNat_Int, Int.reduceLT, Int.reduceLE, Int.reduceEq, Int.reduceNeg, eq_self, Option.isNone_some, Option.isNone_none, Bool.bne_false, Bool.bne_true]
  refine loopN al.length (fun i τ w' => τ 0 = .slice la al.length lc ∧ τ 3 = .bool true ∧ τ 6 = .int .i64 i ∧ ∃ (p q : Nat) (D : Dk) (F : FP) (S : Nat → Prop), τ 4 = ptr p ∧ τ 5 = ptr q ∧ TT w w' p q D D F S ∧ D.queue.length ≤ heft (al.take i) ∧ D.keep.length ≤ 1048576)
    ⟨0, by omega, rfl, rfl, rfl, p, q, Dk.new, _, _, rfl, rfl, htt, Nat.zero_le _, by simp [Dk.new]⟩ ?_
  rintro i τ w5 hi ⟨t0, t3, t6, p, q, D, F, S, t4, t5, h, hql, hkl⟩
  have hhi := heft_le (l := al) (i := i)
  unfold h8_2
  try simp only [go_sem, ↓reduceIte, Nat.reduceEqDiff, Nat.reduceAdd, Nat.reduceLT, List.length_cons, List.length_nil, List.getElem?_cons_zero, List.getElem?_cons_succ, Nat.mul_one, Bool.true_eq_false, Bool.false_eq_true, false_implies, true_implies, Bool.not_true, Bool.not_false, decide_true, decide_false, Int.reduceToNat, Int.cast_ofNat_Int, Int.reduceLT, Int.reduceLE, Int.reduceEq, Int.reduceNeg, eq_self, Option.isNone_some, Option.isNone_none, Bool.bne_false, Bool.bne_true, t0, t3, t4, t5, t6]
  refine ⟨fun hlt => ?_, fun hge => ?_⟩
  · have hil : i < al.length := by have : (i : Int) < al.length := by simpa using hlt
                                   omega
    have ha := hal _ (List.getElem_mem hil)
    have hsn := heft_snoc (l := al) hil
    have hle := heft_le (l := al) (i := i + 1)
    have haq := act_queue D al[i]
    have hk1 : (D.act al[i]).keep.length ≤ 1048576 := by
      rcases act_keep D al[i] with e | e <;> rw [e]
      · exact hkl
      · exact ha.kl
    obtain ⟨gb, o, c', hva, hA⟩ := act_all hl hil
    have hva' := hva
    simp only [Value.slice.injEq] at hva'
    obtain ⟨rfl, -, rfl⟩ := hva'
    obtain ⟨hld, hsome, x0, x1⟩ := hA w5 h.m
    have hpp : w.heap.size ≤ p := h.f0 p (h.dr.sub p h.dr.self)
    have hqq : w.heap.size ≤ q := h.s0 q h.rr.self
    unfold h8_3
    try simp only [go_sem, ↓reduceIte, Nat.reduceEqDiff, Nat.reduceAdd, Nat.reduceLT, List.length_cons, List.length_nil, List.getElem?_cons_zero, List.getElem?_cons_succ, Nat.mul_one, Bool.true_eq_false, Bool.false_eq_true, false_implies, true_implies, Bool.not_true, Bool.not_false, decide_true, decide_false, Int.reduceToNat, Int.cast_ofNat_Int, Int.reduceLT, Int.reduceLE, Int.reduceEq, Int.reduceNeg, eq_self, Option.isNone_some, Option.isNone_none, Bool.bne_false, Bool.bne_true, t0, t3, t4, t5, t6, x0]
    repeat refine ⟨⟨by omega, by omega⟩, ?_⟩
    refine pick_ ha.d ?_
    try simp only [go_sem, ↓reduceIte, Nat.reduceEqDiff, Nat.reduceAdd, Nat.reduceLT, List.length_cons, List.length_nil, List.getElem?_cons_zero, List.getElem?_cons_succ, Nat.mul_one, Bool.true_eq_false, Bool.false_eq_true, false_implies, true_implies, Bool.not_true, Bool.not_false, decide_true, decide_false, Int.reduceToNat, Int.cast_ofNat_Int, Int.reduceLT, Int.reduceLE, Int.reduceEq, Int.reduceNeg, eq_self, Option.isNone_some, Option.isNone_none, Bool.bne_false, Bool.bne_true, t0, t3, t4, t5, t6]
    refine ⟨fun h9 => ?_, fun h9 => ?_⟩
    · refine copyd_ h.dr (by omega) ?_
      intro p' w6 stc
      have hD6 : DR w6 p D F := h.dr.mod0 stc.mod
      try simp only [go_sem, ↓reduceIte, Nat.reduceEqDiff, Nat.reduceAdd, Nat.reduceLT, List.length_cons, List.length_nil, List.getElem?_cons_zero, List.getElem?_cons_succ, Nat.mul_one, Bool.true_eq_false, Bool.false_eq_true, false_implies, true_implies, Bool.not_true, Bool.not_false, decide_true, decide_false, Int.reduceToNat, Int.cast_ofNat_Int, Int.reduceLT, Int.reduceLE, Int.reduceEq, Int.reduceNeg, eq_self, Option.isNone_some, Option.isNone_none, Bool.bne_false, Bool.bne_true, t0, t3, t4, t5, t6]
      unfold h8_4
      try simp only [go_sem, ↓reduceIte, Nat.reduceEqDiff, Nat.reduceAdd, Nat.reduceLT, List.length_cons, List.length_nil, List.getElem?_cons_zero, List.getElem?_cons_succ, Nat.mul_one, Bool.true_eq_false, Bool.false_eq_true, false_implies, true_implies, Bool.not_true, Bool.not_false, decide_true, decide_false, Int.reduceToNat, Int.cast_ofNat_Int, Int.reduceLT, Int.reduceLE, Int.reduceEq, Int.reduceNeg, eq_self, Option.isNone_some, Option.isNone_none, Bool.bne_false, Bool.bne_true, t0, t3, t4, t5, t6]
      refine write_ hD6 (by omega) (by omega) (by simp; omega) ?_
      intro w7 st7
      have hq7 : (D.write 0 0 [103, 111, 110, 101]).queue.length ≤ 1000000 := by
        unfold Dk.write Dk.endW
        have := writeD_queue D.tick 0 0 [103, 111, 110, 101]
        rw [tick_queue] at this
        simp only [List.length_cons, List.length_nil] at this
        split
        · have := crash_queue (D.tick.writeD 0 0 [103, 111, 110, 101]) (D.tick.writeD 0 0 [103, 111, 110, 101]).keep; omega
        · omega
      try simp only [go_sem, ↓reduceIte, Nat.reduceEqDiff, Nat.reduceAdd, Nat.reduceLT, List.length_cons, List.length_nil, List.getElem?_cons_zero, List.getElem?_cons_succ, Nat.mul_one, Bool.true_eq_false, Bool.false_eq_true, false_implies, true_implies, Bool.not_true, Bool.not_false, decide_true, decide_false, Int.reduceToNat, Int.cast_ofNat_Int, Int.reduceLT, Int.reduceLE, Int.reduceEq, Int.reduceNeg, eq_self, Option.isNone_some, Option.isNone_none, Bool.bne_false, Bool.bne_true, t0, t3, t4, t5, t6]
      refine crash_ st7.dr sl_nil (fun h => by omega) (by omega) ?_
      intro w8 st8
      have st78 := st7.trans st8
      have hD8 : DR w8 p' D stc.foot := stc.dr.mod st78.mod fun k hk hW => by
        rcases stc.footR k hk with h' | h'
        · exact h'.2 hW
        · have := h.dr.lt k (h.dr.sub k hW); omega
      have m58 : Mod F.W w5 w8 := (stc.mod.mono fun _ _ h => h.elim).trans st78.mod fun _ _ h => h
      have hR8 : RR w8 q D S := h.rr.mod m58 fun k hk hW => h.ap k (h.dr.sub k hW) hk
      have hs5 := h.m.size
      have hs8 := m58.size
      try simp only [go_sem, ↓reduceIte, Nat.reduceEqDiff, Nat.reduceAdd, Nat.reduceLT, List.length_cons, List.length_nil, List.getElem?_cons_zero, List.getElem?_cons_succ, Nat.mul_one, Bool.true_eq_false, Bool.false_eq_true, false_implies, true_implies, Bool.not_true, Bool.not_false, decide_true, decide_false, Int.reduceToNat, Int.cast_ofNat_Int, Int.reduceLT, Int.reduceLE, Int.reduceEq, Int.reduceNeg, eq_self, Option.isNone_some, Option.isNone_none, Bool.bne_false, Bool.bne_true, t0, t3, t4, t5, t6]
      refine rcopy_ hR8 (by omega) (by omega) ?_
      intro q' w9 hq' rt9
      have h9' : TT w w9 p' q' D D stc.foot rt9.foot := by
        refine ⟨hD8.mod0 rt9.mod, rt9.rr, fun k hk hS => ?_, fun k hk => ?_, fun k hk => ?_, (h.m.trans m58 fun k hk hW => ?_).trans' rt9.mod⟩
        · have := hD8.lt k hk
          rcases rt9.footS k hS with h' | h'
          · exact h'
          · omega
        · rcases stc.footR k hk with h' | h'
          · exact h.f0 k h'.1
          · omega
        · rcases rt9.footS k hk with h' | h'
          · exact h'.elim
          · omega
        · have := h.f0 k (h.dr.sub k hW); omega
      try simp only [go_sem, ↓reduceIte, Nat.reduceEqDiff, Nat.reduceAdd, Nat.reduceLT, List.length_cons, List.length_nil, List.getElem?_cons_zero, List.getElem?_cons_succ, Nat.mul_one, Bool.true_eq_false, Bool.false_eq_true, false_implies, true_implies, Bool.not_true, Bool.not_false, decide_true, decide_false, Int.reduceToNat, Int.cast_ofNat_Int, Int.reduceLT, Int.reduceLE, Int.reduceEq, Int.reduceNeg, eq_self, Option.isNone_some, Option.isNone_none, Bool.bne_false, Bool.bne_true, t0, t3, t4, t5, t6]
      refine tells5 hl hil ha h9' (h9'.f0 p' (h9'.dr.sub p' h9'.dr.self)) (by omega) (by omega) t0 t3 rfl rfl t6 ?_
      intro τ' w' F' S' u0 u3 u4 u5 u6 h'
      unfold h8_11
      try simp only [go_sem, ↓reduceIte, Nat.reduceEqDiff, Nat.reduceAdd, Nat.reduceLT, List.length_cons, List.length_nil, List.getElem?_cons_zero, List.getElem?_cons_succ, Nat.mul_one, Bool.true_eq_false, Bool.false_eq_true, false_implies, true_implies, Bool.not_true, Bool.not_false, decide_true, decide_false, Int.reduceToNat, Int.cast_ofNat_Int, Int.reduceLT, Int.reduceLE, Int.reduceEq, Int.reduceNeg, eq_self, Option.isNone_some, Option.isNone_none, Bool.bne_false, Bool.bne_true, u0, u3, u4, u5, u6]
      rw [w64 (by omega) (by omega)]
      exact ⟨i + 1, by omega, by omega, rfl, p', q', D.act al[i], F', S', rfl, rfl, h', by omega, hk1⟩
    · refine tells5 hl hil ha h hpp hqq (by omega) t0 t3 t4 t5 t6 ?_
      intro τ' w' F' S' u0 u3 u4 u5 u6 h'
      unfold h8_11
      try simp only [go_sem, ↓reduceIte, Nat.reduceEqDiff, Nat.reduceAdd, Nat.reduceLT, List.length_cons, List.length_nil, List.getElem?_cons_zero, List.getElem?_cons_succ, Nat.mul_one, Bool.true_eq_false, Bool.false_eq_true, false_implies, true_implies, Bool.not_true, Bool.not_false, decide_true, decide_false, Int.reduceToNat, Int.cast_ofNat_Int, Int.reduceLT, Int.reduceLE, Int.reduceEq, Int.reduceNeg, eq_self, Option.isNone_some, Option.isNone_none, Bool.bne_false, Bool.bne_true, u0, u3, u4, u5, u6]
      rw [w64 (by omega) (by omega)]
      exact ⟨i + 1, by omega, by omega, rfl, p, q, D.act al[i], F', S', rfl, rfl, h', by omega, hk1⟩
  · have hio : i = al.length := by have : ¬ (i : Int) < al.length := by simpa using hge
                                   omega
    subst hio
    unfold h8_12
    try simp only [go_sem, ↓reduceIte, Nat.reduceEqDiff, Nat.reduceAdd, Nat.reduceLT, List.length_cons, List.length_nil, List.getElem?_cons_zero, List.getElem?_cons_succ, Nat.mul_one, Bool.true_eq_false, Bool.false_eq_true, false_implies, true_implies, Bool.not_true, Bool.not_false, decide_true, decide_false, Int.reduceToNat, Int.cast_ofNat_Int, Int.reduceLT, Int.reduceLE, Int.reduceEq, Int.reduceNeg, eq_self, Option.isNone_some, Option.isNone_none, Bool.bne_false, Bool.bne_true, t0, t3, t4, t5, t6]
    refine start_ h.dr ?_
    intro w6 dr6 m6 _
    have h := h.left (.of dr6 m6)
    try simp only [go_sem, ↓reduceIte, Nat.reduceEqDiff, Nat.reduceAdd, Nat.reduceLT, List.length_cons, List.length_nil, List.getElem?_cons_zero, List.getElem?_cons_succ, Nat.mul_one, Bool.true_eq_false, Bool.false_eq_true, false_implies, true_implies, Bool.not_true, Bool.not_false, decide_true, decide_false, Int.reduceToNat, Int.cast_ofNat_Int, Int.reduceLT, Int.reduceLE, Int.reduceEq, Int.reduceNeg, eq_self, Option.isNone_some, Option.isNone_none, Bool.bne_false, Bool.bne_true, t0, t3, t4, t5, t6]
    refine rstart_ h.rr ?_
    intro w7 rr7 m7
    have h := h.right (.of rr7 m7)
    have hq1 : D.start.queue.length ≤ 1000000 := by show D.queue.length ≤ _; omega
    obtain ⟨F', S', h⟩ : ∃ F' S', TT w w7 p q D.start D.start F' S' := ⟨_, _, h⟩
    have hup : D.start.down = false := rfl
    generalize D.start = D1 at h hup hq1
    try simp only [go_sem, ↓reduceIte, Nat.reduceEqDiff, Nat.reduceAdd, Nat.reduceLT, List.length_cons, List.length_nil, List.getElem?_cons_zero, List.getElem?_cons_succ, Nat.mul_one, Bool.true_eq_false, Bool.false_eq_true, false_implies, true_implies, Bool.not_true, Bool.not_false, decide_true, decide_false, Int.reduceToNat, Int.cast_ofNat_Int, Int.reduceLT, Int.reduceLE, Int.reduceEq, Int.reduceNeg, eq_self, Option.isNone_some, Option.isNone_none, Bool.bne_false, Bool.bne_true, t0, t3, t4, t5, t6]
    refine loopN 12 (fun j τ w' => τ 3 = .bool true ∧ τ 4 = ptr p ∧ τ 5 = ptr q ∧ τ 12 = .int .i64 j ∧ Mod none' w7 w') ⟨0, by omega, t3, t4, t5, rfl, Mod.refl _ _⟩ ?_
    rintro j τ w8 hj ⟨t3, t4, t5, t12, m8⟩
    unfold h8_13
    try simp only [go_sem, ↓reduceIte, Nat.reduceEqDiff, Nat.reduceAdd, Nat.reduceLT, List.length_cons, List.length_nil, List.getElem?_cons_zero, List.getElem?_cons_succ, Nat.mul_one, Bool.true_eq_false, Bool.false_eq_true, false_implies, true_implies, Bool.not_true, Bool.not_false, decide_true, decide_false, Int.reduceToNat, Int.cast_ofNat_Int, Int.reduceLT, Int.reduceLE, Int.reduceEq, Int.reduceNeg, eq_self, Option.isNone_some, Option.isNone_none, Bool.bne_false, Bool.bne_true, t3, t4, t5, t12]
    refine ⟨fun hlt => ?_, fun hge => ?_⟩
    · have hj12 : j < 12 := by
        have : (j : Int) < 12 := by simpa using hlt
        omega
      have hm : D1.may [(j : Int)] = 0 := by
        have : isF (j : Int) = true := by simp [isF]; omega
        simp [Dk.may, hup, this]
      unfold h8_14
      try simp only [go_sem, ↓reduceIte, Nat.reduceEqDiff, Nat.reduceAdd, Nat.reduceLT, List.length_cons, List.length_nil, List.getElem?_cons_zero, List.getElem?_cons_succ, Nat.mul_one, Bool.true_eq_false, Bool.false_eq_true, false_implies, true_implies, Bool.not_true, Bool.not_false, decide_true, decide_false, Int.reduceToNat, Int.cast_ofNat_Int, Int.reduceLT, Int.reduceLE, Int.reduceEq, Int.reduceNeg, eq_self, Option.isNone_some, Option.isNone_none, Bool.bne_false, Bool.bne_true, t3, t4, t5, t12]
      refine read_ (h.mod0 m8).dr j ?_
      intro w9 _ m9
      try simp only [go_sem, ↓reduceIte, Nat.reduceEqDiff, Nat.reduceAdd, Nat.reduceLT, List.length_cons, List.length_nil, List.getElem?_cons_zero, List.getElem?_cons_succ, Nat.mul_one, Bool.true_eq_false, Bool.false_eq_true, false_implies, true_implies, Bool.not_true, Bool.not_false, decide_true, decide_false, Int.reduceToNat, Int.cast_ofNat_Int, Int.reduceLT, Int.reduceLE, Int.reduceEq, Int.reduceNeg, eq_self, Option.isNone_some, Option.isNone_none, Bool.bne_false, Bool.bne_true, t3, t4, t5, t12]
      refine rread_ (h.mod0 (m8.trans' m9)).rr j (by omega) ?_
      intro w10 m10
      rw [hm]
      try simp only [go_sem, ↓reduceIte, Nat.reduceEqDiff, Nat.reduceAdd, Nat.reduceLT, List.length_cons, List.length_nil, List.getElem?_cons_zero, List.getElem?_cons_succ, Nat.mul_one, Bool.true_eq_false, Bool.false_eq_true, false_implies, true_implies, Bool.not_true, Bool.not_false, decide_true, decide_false, Int.reduceToNat, Int.cast_ofNat_Int, Int.reduceLT, Int.reduceLE, Int.reduceEq, Int.reduceNeg, eq_self, Option.isNone_some, Option.isNone_none, Bool.bne_false, Bool.bne_true, t3, t4, t5, t12]
      unfold h8_15
      try simp only [go_sem, ↓reduceIte, Nat.reduceEqDiff, Nat.reduceAdd, Nat.reduceLT, List.length_cons, List.length_nil, List.getElem?_cons_zero, List.getElem?_cons_succ, Nat.mul_one, Bool.true_eq_false, Bool.false_eq_true, false_implies, true_implies, Bool.not_true, Bool.not_false, decide_true, decide_false, Int.reduceToNat, Int.cast_ofNat_Int, Int.reduceLT, Int.reduceLE, Int.reduceEq, Int.reduceNeg, eq_self, Option.isNone_some, Option.isNone_none, Bool.bne_false, Bool.bne_true, t3, t4, t5, t12]
      rw [w64 (by omega) (by omega)]
      exact ⟨j + 1, by omega, by omega, rfl, (m8.trans' m9).trans' m10⟩
    · unfold h8_16
      try simp only [go_sem, ↓reduceIte, Nat.reduceEqDiff, Nat.reduceAdd, Nat.reduceLT, List.length_cons, List.length_nil, List.getElem?_cons_zero, List.getElem?_cons_succ, Nat.mul_one, Bool.true_eq_false, Bool.false_eq_true, false_implies, true_implies, Bool.not_true, Bool.not_false, decide_true, decide_false, Int.reduceToNat, Int.cast_ofNat_Int, Int.reduceLT, Int.reduceLE, Int.reduceEq, Int.reduceNeg, eq_self, Option.isNone_some, Option.isNone_none, Bool.bne_false, Bool.bne_true, t3]
      exact k _ (h.m.trans' m8)
end
end Go.Proofs.Y
