/- JF: the log's operations: add, Append. -/
import Derived.Test.YtgalileklafbbaaJE
set_option linter.unusedSimpArgs false
set_option linter.unusedVariables false
set_option maxRecDepth 100000
namespace Go.Proofs.Y
open Go Go.HL Go.Proofs

/-- a world that was, and blocks of it that are to be left alone -/
structure Base where
  w : World
  A : Nat → Prop
  lt : ∀ k, A k → k < w.heap.size
structure GS (w0 : Base) (w : World) (p q f : Nat) (d : Dk) (L : Lg) (F : FP) (S : Nat → Prop) : Prop where
  dr : DR w p d F
  lg : LG w q p f L S
  ap : ∀ k, F.R k → ¬ S k
  f0 : ∀ k, F.R k → ¬ w0.A k
  s0 : ∀ k, S k → ¬ w0.A k
  m : Mod (fun k => ¬ w0.A k) w0.w w

section
variable {w0 : Base} {w w' : World} {p q f : Nat} {d d' : Dk} {L L' : Lg} {F : FP} {S : Nat → Prop}
theorem GS.disk (h : GS w0 w p q f d L F S) (st : St F w w' p d') : GS w0 w' p q f d' L st.foot S := by
  have hs := h.m.size
  refine ⟨st.dr, h.lg.mod st.mod fun k hk hW => h.ap k (h.dr.sub k hW) hk, fun k hk hS => ?_, fun k hk => ?_, h.s0, h.m.trans st.mod fun k hk hW => h.f0 k (h.dr.sub k hW)⟩
  · rcases st.footR k hk with h' | h'
    · exact h.ap k h' hS
    · have := h.lg.lt k hS; omega
  · rcases st.footR k hk with h' | h'
    · exact h.f0 k h'
    · intro hA; have := w0.lt k hA; omega
theorem GS.log (h : GS w0 w p q f d L F S) {S' : Nat → Prop} (lg : LG w' q p f L' S') (hS : ∀ k, S' k → S k ∨ w.heap.size ≤ k) (m : Mod S w w') : GS w0 w' p q f d L' F S' := by
  have hs := h.m.size
  refine ⟨h.dr.mod m fun k hk hS => h.ap k hk hS, lg, fun k hk hS' => ?_, h.f0, fun k hk => ?_, h.m.trans m fun k hk hS => h.s0 k hS⟩
  · rcases hS k hS' with h' | h'
    · exact h.ap k hk h'
    · have := h.dr.lt k hk; omega
  · rcases hS k hk with h' | h'
    · exact h.s0 k h'
    · intro hA; have := w0.lt k hA; omega
theorem GS.mod0 (h : GS w0 w p q f d L F S) (m : Mod none' w w') : GS w0 w' p q f d L F S := ⟨h.dr.mod0 m, h.lg.mod0 m, h.ap, h.f0, h.s0, h.m.trans m fun _ _ h => h.elim⟩
end

/-- a step of disk and log together -/
def GT (w0 : Base) (w' : World) (p q f : Nat) (d : Dk) (L : Lg) : Prop := ∃ F S, GS w0 w' p q f d L F S
theorem GS.jt {w0 : Base} {w' : World} {p q f : Nat} {d : Dk} {L : Lg} {F : FP} {S : Nat → Prop} (h : GS w0 w' p q f d L F S) : GT w0 w' p q f d L := ⟨F, S, h⟩

/-! ### what the operations do -/
/-- rows added -/
def addE (d : Dk) (L : Lg) (f : Nat) (rows : List Bytes) : Int := d.writeR f L.end_ (formsB rows)
def addD' (d : Dk) (L : Lg) (f : Nat) (rows : List Bytes) : Dk := d.write f L.end_ (formsB rows)
def Lg.add (L : Lg) (rows : List Bytes) : Lg := ⟨L.rows ++ rows, L.sure, L.end_ + (formsB rows).length⟩

theorem formsB_rows : ∀ l : List Bytes, l.length * 16 ≤ (formsB l).length
  | [] => by simp
  | x :: l => by
    have := formsB_rows l
    simp only [formsB, List.flatMap_cons, List.length_append, List.length_cons, formB_len] at this ⊢
    omega

theorem writeR_fit {d : Dk} {f a : Int} {s : Bytes} (h : d.writeR f a s = 0) : a + s.length ≤ 16777216 := by
  unfold Dk.writeR at h
  split at h
  · omega
  · unfold Dk.writeE at h
    split at h
    · rename_i h1; exact absurd h h1
    · split at h
      · omega
      · split at h
        · omega
        · omega

section
variable {w : World} {next : Value → World → Prop} {QP : List PanicEntry → World → Prop}

theorem gadd_ {w0 : Base} {p q f : Nat} {d : Dk} {L : Lg} {F : FP} {S : Nat → Prop} (h : GS w0 w p q f d L F S) {v : Value} {rows : List Bytes} {n : Nat} (hv : Sl w v 1 n (rows.map str)) (hvd : 0 < n → ∀ k, v.ownBlock = some k → ¬ F.R k) (hqn : d.queue.length + (formsB rows).length ≤ 1000000000)
    (k : ∀ w', GT w0 w' p q f (addD' d L f rows) (if addE d L f rows = 0 then L.add rows else L) → next (.int .i64 (addE d L f rows)) w') :
    callvK Try.prog (.func (.func 94) #[] #[]) [ptr q, v] w next QP := by
  refine r94 rfl ?_
  unfold h94
  try simp only [go_sem, ↓reduceIte, Nat.reduceEqDiff, Nat.reduceAdd, Nat.reduceLT, List.length_cons, List.length_nil, List.getElem?_cons_zero, List.getElem?_cons_succ, Nat.mul_one, Bool.true_eq_false, Bool.false_eq_true, false_implies, true_implies, Bool.not_true, Bool.not_false, decide_true, decide_false, Int.reduceToNat, Int.cast_ofNat_Int, Int.reduceLT, Int.reduceLE, Int.reduceEq, Int.reduceNeg, eq_self, Option.isNone_some, Option.isNone_none, Bool.bne_false, Bool.bne_true]
  refine forms_ hv (by omega) ?_
  intro w1 m1
  have h1 := h.mod0 m1
  have hbd := h.lg.bd
  have hrb := h.lg.rb
  obtain ⟨rv, hb, ho, ho1, c0, c1, c2, c3, c4⟩ := h1.lg.parts
  try simp only [go_sem, ↓reduceIte, Nat.reduceEqDiff, Nat.reduceAdd, Nat.reduceLT, List.length_cons, List.length_nil, List.getElem?_cons_zero, List.getElem?_cons_succ, Nat.mul_one, Bool.true_eq_false, Bool.false_eq_true, false_implies, true_implies, Bool.not_true, Bool.not_false, decide_true, decide_false, Int.reduceToNat, Int.cast_ofNat_Int, Int.reduceLT, Int.reduceLE, Int.reduceEq, Int.reduceNeg, eq_self, Option.isNone_some, Option.isNone_none, Bool.bne_false, Bool.bne_true, c0, c1, c4]
  have h2 := h1.mod0 (Mod.drew none' w1)
  refine write_ h2.dr (by omega) (by omega) (by omega) ?_
  intro w2 st2
  have h3 := h2.disk st2
  have hv3 : Sl w2 v 1 n (rows.map str) := (hv.mod (m1.trans' (Mod.drew none' w1)) fun _ _ h => h).mod' st2.mod fun hn k hk hW => hvd hn k hk (h.dr.sub k hW)
  have hE : d.writeR f L.end_ (formsB rows) = addE d L f rows := rfl
  rw [hE]
  try simp only [go_sem, ↓reduceIte, Nat.reduceEqDiff, Nat.reduceAdd, Nat.reduceLT, List.length_cons, List.length_nil, List.getElem?_cons_zero, List.getElem?_cons_succ, Nat.mul_one, Bool.true_eq_false, Bool.false_eq_true, false_implies, true_implies, Bool.not_true, Bool.not_false, decide_true, decide_false, Int.reduceToNat, Int.cast_ofNat_Int, Int.reduceLT, Int.reduceLE, Int.reduceEq, Int.reduceNeg, eq_self, Option.isNone_some, Option.isNone_none, Bool.bne_false, Bool.bne_true]
  refine ⟨fun he => ?_, fun he => ?_⟩
  · have he : ¬ addE d L f rows = 0 := by simpa using he
    have := k w2
    rw [if_neg he] at this
    exact this h3.jt
  · have he : addE d L f rows = 0 := by simpa using he
    have hfit := writeR_fit (show d.writeR f L.end_ (formsB rows) = 0 from he)
    have hfr := formsB_rows rows
    have hrn : rows.length = n := by have := hv.len; simpa using this
    obtain ⟨rv, hb, ho, ho1, c0, c1, c2, c3, c4⟩ := h3.lg.parts
    unfold h94_1
    try simp only [go_sem, ↓reduceIte, Nat.reduceEqDiff, Nat.reduceAdd, Nat.reduceLT, List.length_cons, List.length_nil, List.getElem?_cons_zero, List.getElem?_cons_succ, Nat.mul_one, Bool.true_eq_false, Bool.false_eq_true, false_implies, true_implies, Bool.not_true, Bool.not_false, decide_true, decide_false, Int.reduceToNat, Int.cast_ofNat_Int, Int.reduceLT, Int.reduceLE, Int.reduceEq, Int.reduceNeg, eq_self, Option.isNone_some, Option.isNone_none, Bool.bne_false, Bool.bne_true, c2]
    refine append_ sl40 ho hv3 (by intro u hu; obtain ⟨x, -, rfl⟩ := List.mem_map.1 hu; rfl) (by omega) (by unfold maxLen; omega) ?_
    intro v4 w4 own4 m4 hb4 _
    obtain ⟨ua, uc, rfl, -, -⟩ := own4.form
    have hbb4 := hb.mod m4 fun hS => (ho1 q hS).2 rfl
    refine store1 sz40 hbb4 (by simp) rfl ?_
    intro w5 hb5 m5 hs5
    have c4' : w5.cell? ⟨q, 4, none⟩ = some (.int .i64 L.end_) := hb5.cell 4
    try simp only [go_sem, ↓reduceIte, Nat.reduceEqDiff, Nat.reduceAdd, Nat.reduceLT, List.length_cons, List.length_nil, List.getElem?_cons_zero, List.getElem?_cons_succ, Nat.mul_one, Bool.true_eq_false, Bool.false_eq_true, false_implies, true_implies, Bool.not_true, Bool.not_false, decide_true, decide_false, Int.reduceToNat, Int.cast_ofNat_Int, Int.reduceLT, Int.reduceLE, Int.reduceEq, Int.reduceNeg, eq_self, Option.isNone_some, Option.isNone_none, Bool.bne_false, Bool.bne_true, c4']
    rw [w64 (by omega) (by omega)]
    refine store1 sz3 hb5 (by simp) rfl ?_
    intro w6 hb6 m6 hs6
    try simp only [go_sem, ↓reduceIte, Nat.reduceEqDiff, Nat.reduceAdd, Nat.reduceLT, List.length_cons, List.length_nil, List.getElem?_cons_zero, List.getElem?_cons_succ, Nat.mul_one, Bool.true_eq_false, Bool.false_eq_true, false_implies, true_implies, Bool.not_true, Bool.not_false, decide_true, decide_false, Int.reduceToNat, Int.cast_ofNat_Int, Int.reduceLT, Int.reduceLE, Int.reduceEq, Int.reduceNeg, eq_self, Option.isNone_some, Option.isNone_none, Bool.bne_false, Bool.bne_true]
    have m56 : Mod (fun k => k = q) w4 w6 := m5.trans' m6
    have hs4 := m4.size
    have hnew : ∀ k, (Value.slice ua (L.rows.length + n) uc).ownBlock = some k → (S k ∨ w2.heap.size ≤ k) ∧ k ≠ q := by
      intro k hk
      rcases hb4 k hk with h' | h'
      · exact ⟨.inl (ho1 k h').1, (ho1 k h').2⟩
      · have := hb.lt; exact ⟨.inr h', by omega⟩
    have hself := h.lg.self
    have hlen : (L.rows ++ rows).length = L.rows.length + n := by rw [List.length_append, hrn]
    have := k w6
    rw [if_pos he, he] at this
    refine this (GS.jt (S := fun k => S k ∨ (w2.heap.size ≤ k ∧ k < w6.heap.size)) (h3.log (w' := w6) (L' := L.add rows) ⟨⟨.slice ua (L.rows.length + n) uc, ?_, ?_, fun k hk => ?_⟩, .inl hself, fun k hk => ?_, ?_, ?_⟩ (fun k hk => hk.imp id fun h => h.1) ?_))
    · have e : ((L.end_ + (formsB rows).length : Nat) : Int) = (L.end_ : Int) + (formsB rows).length := by omega
      simp only [Lg.add, e]
      simpa using hb6
    · simp only [Lg.add, hlen, List.map_append]
      exact own4.mod m56 fun k hk (e : k = q) => (hnew k hk).2 e
    · rcases (hnew k hk).1 with h' | h'
      · exact .inl h'
      · have := own4.lt k hk; have := m56.size; exact .inr ⟨h', by omega⟩
    · rcases hk with h' | h'
      · have := h3.lg.lt k h'; have := m56.size; omega
      · exact h'.2
    · simp only [Lg.add]; omega
    · simp only [Lg.add, hlen]; omega
    · refine m4.mono (T := S) (fun k hk hS => (ho1 k hS).1) |>.trans m56 fun k hk (e : k = q) => e ▸ hself

theorem gappend1_ {w0 : Base} {p q f : Nat} {d : Dk} {L : Lg} {F : FP} {S : Nat → Prop} (h : GS w0 w p q f d L F S) {row : Bytes} (hqn : d.queue.length + (formsB [row]).length ≤ 1000000000)
    (k : ∀ w', GT w0 w' p q f (addD' d L f [row]) (if addE d L f [row] = 0 then L.add [row] else L) → next (.int .i64 (addE d L f [row])) w') :
    callvK Try.prog (.func (.func 53) #[] #[]) [ptr q, str row] w next QP := by
  refine r53 rfl ?_
  unfold h53
  try simp only [go_sem, ↓reduceIte, Nat.reduceEqDiff, Nat.reduceAdd, Nat.reduceLT, List.length_cons, List.length_nil, List.getElem?_cons_zero, List.getElem?_cons_succ, Nat.mul_one, Bool.true_eq_false, Bool.false_eq_true, false_implies, true_implies, Bool.not_true, Bool.not_false, decide_true, decide_false, Int.reduceToNat, Int.cast_ofNat_Int, Int.reduceLT, Int.reduceLE, Int.reduceEq, Int.reduceNeg, eq_self, Option.isNone_some, Option.isNone_none, Bool.bne_false, Bool.bne_true]
  refine bsl1 sl40 (cs := [str row]) rfl rfl (by omega) ?_
  intro b1 w1 hb1 own1 _ m1 hs1
  try simp only [go_sem, ↓reduceIte, Nat.reduceEqDiff, Nat.reduceAdd, Nat.reduceLT, List.length_cons, List.length_nil, List.getElem?_cons_zero, List.getElem?_cons_succ, Nat.mul_one, Bool.true_eq_false, Bool.false_eq_true, false_implies, true_implies, Bool.not_true, Bool.not_false, decide_true, decide_false, Int.reduceToNat, Int.cast_ofNat_Int, Int.reduceLT, Int.reduceLE, Int.reduceEq, Int.reduceNeg, eq_self, Option.isNone_some, Option.isNone_none, Bool.bne_false, Bool.bne_true]
  refine gadd_ (rows := [row]) (h.mod0 m1) (by simpa using own1.sl) (fun _ k hk hR => ?_) hqn ?_
  · have := h.dr.lt k hR
    simp [Value.ownBlock] at hk; omega
  intro w2 jt
  try simp only [go_sem, ↓reduceIte, Nat.reduceEqDiff, Nat.reduceAdd, Nat.reduceLT, List.length_cons, List.length_nil, List.getElem?_cons_zero, List.getElem?_cons_succ, Nat.mul_one, Bool.true_eq_false, Bool.false_eq_true, false_implies, true_implies, Bool.not_true, Bool.not_false, decide_true, decide_false, Int.reduceToNat, Int.cast_ofNat_Int, Int.reduceLT, Int.reduceLE, Int.reduceEq, Int.reduceNeg, eq_self, Option.isNone_some, Option.isNone_none, Bool.bne_false, Bool.bne_true]
  exact k _ jt
end
end Go.Proofs.Y
