/- JQ: JournalTurns. -/
import Derived.Test.YtgalileklafbbaaJP
set_option linter.unusedSimpArgs false
set_option linter.unusedVariables false
set_option maxRecDepth 100000
namespace Go.Proofs.Y
open Go Go.HL Go.Proofs

theorem sl66 : SlTy Try.prog 66 65 5 80 (.agg #[.int .i64 0, str [], .slice none 0 0, .slice none 0 0, .int .i64 0]) := ⟨by kernel_rfl, by kernel_rfl, rfl, by decide⟩
def image (rows : List Bytes) : Bytes := header (16 + (formsB rows).length : Nat) rows.length ++ formsB rows
theorem openB_image {rows : List Bytes} (h : (formsB rows).length ≤ 1000000) : openB (image rows) = some ⟨rows, rows.length, 16 + (formsB rows).length⟩ := by
  have := openB_core (Core.full rows []) (by rw [List.append_nil, List.length_append, header_len]; omega)
  rw [List.append_nil] at this
  exact this
theorem forms_le : ∀ {l : List Bytes}, (∀ r ∈ l, r.length ≤ 200) → (formsB l).length ≤ l.length * 216
  | [], _ => by simp [formsB]
  | x :: l, h => by
    have := forms_le (l := l) fun r hr => h r (List.mem_cons_of_mem _ hr)
    have hx := h x (List.mem_cons_self ..)
    simp only [formsB, List.flatMap_cons, List.length_append, List.length_cons, formB_len] at this ⊢
    omega
theorem Deed.few1_le {a : Deed} (h : a.few1 = true) : a.Row.length ≤ 200 ∧ a.rows.length ≤ 6 ∧ a.ks.length ≤ 60 ∧ (∀ r ∈ a.rows, r.length ≤ 200) ∧ (formsB a.rows).length ≤ 1296 := by
  simp only [Deed.few1, Bool.and_eq_true, decide_eq_true_eq, List.all_eq_true] at h
  obtain ⟨⟨⟨h1, h2⟩, h3⟩, h4⟩ := h
  have := forms_le h4
  exact ⟨h1, h2, h3, h4, by omega⟩
theorem rewr_queue (d : Dk) (f : Nat) (rows : List Bytes) : (rewr d f rows).1.queue.length ≤ d.queue.length + 16 + (formsB rows).length := by
  have hh := header_len (16 + (formsB rows).length : Nat) rows.length
  have h1 := cut_queue d (f + 1 : Nat) 0
  unfold rewr
  dsimp only
  generalize ht : header (16 + (formsB rows).length : Nat) rows.length ++ formsB rows = t
  have htl : t.length = 16 + (formsB rows).length := by rw [← ht, List.length_append, hh]
  have h2 := write_queue (d.cut (f + 1 : Nat) 0) (f + 1 : Nat) 0 t
  have h3 := flush_queue ((d.cut (f + 1 : Nat) 0).write (f + 1 : Nat) 0 t) (f + 1 : Nat)
  have h4 := turn_queue (((d.cut (f + 1 : Nat) 0).write (f + 1 : Nat) 0 t).flush (f + 1 : Nat)) f (f + 1 : Nat)
  repeat' split
  all_goals dsimp only
  all_goals omega

section
variable {w w0 : World} {next : Value → World → Prop} {QP : List PanicEntry → World → Prop}

theorem fill_rec {place : Nat → Option (Nat × Nat)} {cells : Array Value} {i o n : Nat} {v : Value} {cs : List Value} {rest : List (Nat × Value)} (hp : place i = some (o, n)) (hv : v.cells = cs.toArray) (hl : cs.length = n) (ho : o + n ≤ cells.size) :
    Instr.fill place cells ((i, v) :: rest) = Instr.fill place (cells.toList.take o ++ cs ++ cells.toList.drop (o + n)).toArray rest := by
  rw [Instr.fill, hp]
  simp only [hv, List.size_toArray, hl]
  rw [if_neg (by simp; omega)]
  congr 1
  rw [← Array.foldl_toList]
  simp only [Array.toList_zipIdx, List.toList_toArray]
  have key : ∀ (l : List Value) (k : Nat) (Z : Array Value), o + k + l.length ≤ Z.size → (l.zipIdx k).foldl (fun cs (x : Value × Nat) => cs.setIfInBounds (o + x.2) x.1) Z = (Z.toList.take (o + k) ++ l ++ Z.toList.drop (o + k + l.length)).toArray := by
    intro l
    induction l with
    | nil => intro k Z hk; simp
    | cons x r ih =>
      intro k Z hk
      rw [List.zipIdx_cons, List.foldl_cons, ih _ _ (by simp at hk ⊢; omega)]
      apply Array.toList_inj.1
      apply List.ext_getElem?
      intro j
      simp only [List.length_cons] at hk
      simp only [Array.toList_setIfInBounds, List.append_assoc, List.getElem?_append, List.length_take, List.length_set, Array.length_toList, List.getElem?_take, List.getElem?_set, List.getElem?_drop, List.length_cons, List.getElem?_cons]
      repeat' split
      all_goals first
        | rfl
        | (exfalso; omega)
        | (congr 1; omega)
        | (exfalso; simp_all; omega)
  have := key cs 0 cells (by omega)
  simpa [hl] using this
theorem bsl2d {a b : Deed} (k : ∀ q w', w.heap.size = q → Own w' (.slice (some ⟨q, 0, none⟩) 2 2) 65 5 2 (rows Deed.cells [a, b]) → Mod none' w w' → next (.slice (some ⟨q, 0, none⟩) 2 2) w') :
    bslK Try.prog 66 2 [(0, .agg #[.int .i64 a.Do, str a.Row, a.rv, a.kv, .int .i64 a.N]), (1, .agg #[.int .i64 b.Do, str b.Row, b.rv, b.kv, .int .i64 b.N])] w next QP := by
  refine bsl_ sl66 (cs := rows Deed.cells [a, b]) rfl (by omega) ?_ ?_
  · have f1 := fill_rec (place := fun i => some (i * 5, 5)) (cells := (Array.range (2 * 5)).map ((Value.agg #[.int .i64 0, str [], .slice none 0 0, .slice none 0 0, .int .i64 0]).cells[· % (Value.agg #[.int .i64 0, str [], .slice none 0 0, .slice none 0 0, .int .i64 0]).cells.size]!)) (i := 0) (o := 0) (n := 5) (v := .agg #[.int .i64 a.Do, str a.Row, a.rv, a.kv, .int .i64 a.N]) (cs := a.cells) (rest := [(1, .agg #[.int .i64 b.Do, str b.Row, b.rv, b.kv, .int .i64 b.N])]) rfl rfl rfl (by simp)
    rw [f1, fill_rec (i := 1) (o := 5) (n := 5) (cs := b.cells) rfl rfl rfl (by simp [Deed.cells]), Instr.fill]
    congr 1
    apply Array.toList_inj.1
    simp [rows, Deed.cells]
  intro q w' hq own _ m _
  exact k q w' hq own m

theorem jopen_ {p g : Nat} {d : Dk} {F : FP} {L : Lg} {f : Int} (dr : DR w p d F) (f0 : ∀ k, F.R k → w0.heap.size ≤ k) (m : Mod none' w0 w) (hf : f = g) (hg : g ≤ 6) (hd : d.down = false) (hO : openB (d.file g) = some L)
    (k : ∀ q w' S, JS w0 w' p q g d L F S → Mod none' w w' → next (.tuple #[ptr q, .int .i64 0]) w') : callvK Try.prog (.func (.func 44) #[] #[]) [ptr p, .int .i64 f] w next QP := by
  subst hf
  have hm := may_up hd (f := g) (by omega)
  have hE : openE d g = 0 := by
    have h1 : ¬ ((g : Int) < 0 ∨ (6 : Int) < g) := by omega
    simp only [openE, if_neg h1, hm, Int.toNat_natCast, hO]; rfl
  refine open_ dr (fun w9 m9 hne => absurd hE hne) ?_
  intro g' L' hg' _ _ hL q w' S lg hS m'
  obtain rfl : g' = g := by omega
  rw [hO] at hL
  obtain rfl := Option.some.inj hL
  exact k q w' S (JS.opened dr f0 m lg hS m') m'
theorem jnew_ (k : ∀ p w' F, DR w' p Dk.new F → (∀ k, F.R k → w.heap.size ≤ k) → Mod none' w w' → next (ptr p) w') : callvK Try.prog (.func (.func 17) #[] #[]) [] w next QP := by
  refine new_ ?_
  intro p w' _ st
  exact k p w' st.foot st.dr (fun k hk => by rcases st.footR k hk with h | h; exact h.elim; exact h) (st.mod.mono fun _ _ h => h)

/-- at rest: up, no crash armed, no flush lost, with this file durable -/
structure Rest (d : Dk) (f : Nat) (s : Bytes) : Prop where
  len : Len d
  clean : Clean d f s
  down : d.down = false
  armed : d.armed = 0
  lost : d.lost = 0
theorem Rest.rewr {d : Dk} {f : Nat} {s : Bytes} (h : Rest d f s) (hf : f ≤ 6) (rows : List Bytes) (hsz : (formsB rows).length ≤ 1000000) : (rewr d f rows).2 = 0 ∧ Rest (rewr d f rows).1 f (image rows) := by
  obtain ⟨c1, c2, c3⟩ := rewr_clean h.len hf h.clean rows
  obtain ⟨e1, e2, e3⟩ := rewr_err h.len hf h.lost rows hsz
  obtain ⟨e4, e5⟩ := e2 h.down h.armed
  obtain ⟨c4, c5⟩ := c1 e4
  exact ⟨e4, c3, c4, c5, e5, e3⟩

theorem jturns2 {p q : Nat} {d : Dk} {L : Lg} {F : FP} {S : Nat → Prop} {s : Bytes} {e : Int} {v0 v1 v3 : Value} {old nw : List Bytes} {keep : List Int} {σ : Env} {w1 : World} (h : JS w w1 p q 5 d L F S) (hr : Rest d 5 s) (hq : d.queue.length ≤ 10000)
    (h0 : Sl w v0 1 old.length (old.map str)) (h1 : Sl w v1 1 nw.length (nw.map str)) (h3 : Sl w v3 1 keep.length (ints keep)) (b0 : (formsB old).length ≤ 1296) (b1 : (formsB nw).length ≤ 1296) (b3 : keep.length ≤ 60)
    (he : (e = 0 ∧ L.rows = nw) ∨ (e = 8 ∧ L.rows = old)) (s0 : σ 0 = v0) (s1 : σ 1 = v1) (s3 : σ 3 = v3) (s9 : σ 9 = .bool true) (s11 : σ 11 = ptr p) (s13 : σ 13 = .int .i64 e) (s14 : σ 14 = ptr q)
    (k : ∀ w', Mod none' w w' → next (.bool true) w') : hw Try.prog noPanic h11_5 (endV [.tmp 8] next) σ w1 := by
  have hrb := h.lg.rb
  have hbd := h.lg.bd
  have l1 := formsB_rows nw
  have l0 := formsB_rows old
  have lt1 := fun hn => h1.lt (by omega) hn
  have lt3 := fun hn => h3.lt (by omega) hn
  unfold h11_5
  try simp only [go_sem, ↓reduceIte, Nat.reduceEqDiff, Nat.reduceAdd, Nat.reduceLT, List.length_cons, List.length_nil, List.getElem?_cons_zero, List.getElem?_cons_succ, Nat.mul_one, Bool.true_eq_false, Bool.false_eq_true, false_implies, true_implies, Bool.not_true, Bool.not_false, decide_true, decide_false, Int.reduceToNat, Int.cast_ofNat_Int, Int.reduceLT, Int.reduceLE, Int.reduceEq, Int.reduceNeg, eq_self, Option.isNone_some, Option.isNone_none, Bool.bne_false, Bool.bne_true, s0, s1, s3, s9, s11, s13, s14]
  refine jall_ h.lg ?_
  intro v2 w2 own2 m2 _
  try simp only [go_sem, ↓reduceIte, Nat.reduceEqDiff, Nat.reduceAdd, Nat.reduceLT, List.length_cons, List.length_nil, List.getElem?_cons_zero, List.getElem?_cons_succ, Nat.mul_one, Bool.true_eq_false, Bool.false_eq_true, false_implies, true_implies, Bool.not_true, Bool.not_false, decide_true, decide_false, Int.reduceToNat, Int.cast_ofNat_Int, Int.reduceLT, Int.reduceLE, Int.reduceEq, Int.reduceNeg, eq_self, Option.isNone_some, Option.isNone_none, Bool.bne_false, Bool.bne_true, s0, s1, s3, s9, s11, s13, s14]
  refine same__ own2.sl ((h0.mod h.m fun _ _ h => h).mod m2 fun _ _ h => h) (by omega) ?_
  intro w3 m3
  try simp only [go_sem, ↓reduceIte, Nat.reduceEqDiff, Nat.reduceAdd, Nat.reduceLT, List.length_cons, List.length_nil, List.getElem?_cons_zero, List.getElem?_cons_succ, Nat.mul_one, Bool.true_eq_false, Bool.false_eq_true, false_implies, true_implies, Bool.not_true, Bool.not_false, decide_true, decide_false, Int.reduceToNat, Int.cast_ofNat_Int, Int.reduceLT, Int.reduceLE, Int.reduceEq, Int.reduceNeg, eq_self, Option.isNone_some, Option.isNone_none, Bool.bne_false, Bool.bne_true, s0, s1, s3, s9, s11, s13, s14]
  refine jall_ ((h.mod0 m2).mod0 m3).lg ?_
  intro v4 w4 own4 m4 _
  try simp only [go_sem, ↓reduceIte, Nat.reduceEqDiff, Nat.reduceAdd, Nat.reduceLT, List.length_cons, List.length_nil, List.getElem?_cons_zero, List.getElem?_cons_succ, Nat.mul_one, Bool.true_eq_false, Bool.false_eq_true, false_implies, true_implies, Bool.not_true, Bool.not_false, decide_true, decide_false, Int.reduceToNat, Int.cast_ofNat_Int, Int.reduceLT, Int.reduceLE, Int.reduceEq, Int.reduceNeg, eq_self, Option.isNone_some, Option.isNone_none, Bool.bne_false, Bool.bne_true, s0, s1, s3, s9, s11, s13, s14]
  refine same__ own4.sl ((((h1.mod h.m fun _ _ h => h).mod m2 fun _ _ h => h).mod m3 fun _ _ h => h).mod m4 fun _ _ h => h) (by omega) ?_
  intro w5 m5
  have h5 := (((h.mod0 m2).mod0 m3).mod0 m4).mod0 m5
  try simp only [go_sem, ↓reduceIte, Nat.reduceEqDiff, Nat.reduceAdd, Nat.reduceLT, List.length_cons, List.length_nil, List.getElem?_cons_zero, List.getElem?_cons_succ, Nat.mul_one, Bool.true_eq_false, Bool.false_eq_true, false_implies, true_implies, Bool.not_true, Bool.not_false, decide_true, decide_false, Int.reduceToNat, Int.cast_ofNat_Int, Int.reduceLT, Int.reduceLE, Int.reduceEq, Int.reduceNeg, eq_self, Option.isNone_some, Option.isNone_none, Bool.bne_false, Bool.bne_true, s0, s1, s3, s9, s11, s13, s14]
  have hc : (if (if decide (e = 0) = true then !decide (L.rows = nw) else false) = true then true else if (!decide (L.rows = old)) = true then !decide (L.rows = nw) else false) = false := by
    rcases he with ⟨rfl, h⟩ | ⟨rfl, h⟩ <;> simp [h]
  obtain ⟨re, rr⟩ := hr.rewr (by omega) nw (by omega)
  have rq := rewr_queue d 5 nw
  unfold h11_6
  try simp only [go_sem, ↓reduceIte, Nat.reduceEqDiff, Nat.reduceAdd, Nat.reduceLT, List.length_cons, List.length_nil, List.getElem?_cons_zero, List.getElem?_cons_succ, Nat.mul_one, Bool.true_eq_false, Bool.false_eq_true, false_implies, true_implies, Bool.not_true, Bool.not_false, decide_true, decide_false, Int.reduceToNat, Int.cast_ofNat_Int, Int.reduceLT, Int.reduceLE, Int.reduceEq, Int.reduceNeg, eq_self, Option.isNone_some, Option.isNone_none, Bool.bne_false, Bool.bne_true, s0, s1, s3, s9, s11, s13, s14, hc]
  refine rewrite_ h5 (by omega) (h1.mod h5.m fun _ _ h => h) (fun hn k hk => ?_) (by omega) ?_
  · have := lt1 hn k hk
    have := h5.m.size
    exact ⟨fun hR => by have := h5.f0 k hR; omega, by omega⟩
  intro w6 ⟨F6, S6, h6⟩
  have e6 : (rewriteJ d L 5 nw).2.2 = 0 := re
  rw [e6]
  have h6 : JS w w6 p q 5 (rewr d 5 nw).1 _ F6 S6 := h6
  generalize (rewr d 5 nw).1 = d6 at *
  try simp only [go_sem, ↓reduceIte, Nat.reduceEqDiff, Nat.reduceAdd, Nat.reduceLT, List.length_cons, List.length_nil, List.getElem?_cons_zero, List.getElem?_cons_succ, Nat.mul_one, Bool.true_eq_false, Bool.false_eq_true, false_implies, true_implies, Bool.not_true, Bool.not_false, decide_true, decide_false, Int.reduceToNat, Int.cast_ofNat_Int, Int.reduceLT, Int.reduceLE, Int.reduceEq, Int.reduceNeg, eq_self, Option.isNone_some, Option.isNone_none, Bool.bne_false, Bool.bne_true, s0, s1, s3, s9, s11, s13, s14, hc]
  unfold h11_7
  try simp only [go_sem, ↓reduceIte, Nat.reduceEqDiff, Nat.reduceAdd, Nat.reduceLT, List.length_cons, List.length_nil, List.getElem?_cons_zero, List.getElem?_cons_succ, Nat.mul_one, Bool.true_eq_false, Bool.false_eq_true, false_implies, true_implies, Bool.not_true, Bool.not_false, decide_true, decide_false, Int.reduceToNat, Int.cast_ofNat_Int, Int.reduceLT, Int.reduceLE, Int.reduceEq, Int.reduceNeg, eq_self, Option.isNone_some, Option.isNone_none, Bool.bne_false, Bool.bne_true, s0, s1, s3, s9, s11, s13, s14]
  refine crash_ h6.dr (h3.mod h6.m fun _ _ h => h) (fun hn hk => ?_) (by omega) ?_
  · have := lt3 hn p hk
    have := h6.f0 p (h6.dr.sub p h6.dr.self)
    omega
  intro w7 st7
  have h7 := h6.disk st7
  try simp only [go_sem, ↓reduceIte, Nat.reduceEqDiff, Nat.reduceAdd, Nat.reduceLT, List.length_cons, List.length_nil, List.getElem?_cons_zero, List.getElem?_cons_succ, Nat.mul_one, Bool.true_eq_false, Bool.false_eq_true, false_implies, true_implies, Bool.not_true, Bool.not_false, decide_true, decide_false, Int.reduceToNat, Int.cast_ofNat_Int, Int.reduceLT, Int.reduceLE, Int.reduceEq, Int.reduceNeg, eq_self, Option.isNone_some, Option.isNone_none, Bool.bne_false, Bool.bne_true, s0, s1, s3, s9, s11, s13, s14]
  refine start_ h7.dr ?_
  intro w8 dr8 m8 _
  have h8 := h7.disk (.of dr8 m8)
  try simp only [go_sem, ↓reduceIte, Nat.reduceEqDiff, Nat.reduceAdd, Nat.reduceLT, List.length_cons, List.length_nil, List.getElem?_cons_zero, List.getElem?_cons_succ, Nat.mul_one, Bool.true_eq_false, Bool.false_eq_true, false_implies, true_implies, Bool.not_true, Bool.not_false, decide_true, decide_false, Int.reduceToNat, Int.cast_ofNat_Int, Int.reduceLT, Int.reduceLE, Int.reduceEq, Int.reduceNeg, eq_self, Option.isNone_some, Option.isNone_none, Bool.bne_false, Bool.bne_true, s0, s1, s3, s9, s11, s13, s14]
  have hcl : Clean (d6.crash keep).start 5 (image nw) := (rr.clean.crash _).start
  refine jopen_ (g := 5) h8.dr h8.f0 h8.m rfl (by omega) rfl (by rw [hcl.file]; exact openB_image (by omega)) ?_
  intro q9 w9 S9 h9 m9
  try simp only [go_sem, ↓reduceIte, Nat.reduceEqDiff, Nat.reduceAdd, Nat.reduceLT, List.length_cons, List.length_nil, List.getElem?_cons_zero, List.getElem?_cons_succ, Nat.mul_one, Bool.true_eq_false, Bool.false_eq_true, false_implies, true_implies, Bool.not_true, Bool.not_false, decide_true, decide_false, Int.reduceToNat, Int.cast_ofNat_Int, Int.reduceLT, Int.reduceLE, Int.reduceEq, Int.reduceNeg, eq_self, Option.isNone_some, Option.isNone_none, Bool.bne_false, Bool.bne_true, s0, s1, s3, s9, s11, s13, s14]
  unfold h11_8
  try simp only [go_sem, ↓reduceIte, Nat.reduceEqDiff, Nat.reduceAdd, Nat.reduceLT, List.length_cons, List.length_nil, List.getElem?_cons_zero, List.getElem?_cons_succ, Nat.mul_one, Bool.true_eq_false, Bool.false_eq_true, false_implies, true_implies, Bool.not_true, Bool.not_false, decide_true, decide_false, Int.reduceToNat, Int.cast_ofNat_Int, Int.reduceLT, Int.reduceLE, Int.reduceEq, Int.reduceNeg, eq_self, Option.isNone_some, Option.isNone_none, Bool.bne_false, Bool.bne_true, s0, s1, s3, s9, s11, s13, s14]
  refine jall_ h9.lg ?_
  intro v10 w10 own10 m10 _
  try simp only [go_sem, ↓reduceIte, Nat.reduceEqDiff, Nat.reduceAdd, Nat.reduceLT, List.length_cons, List.length_nil, List.getElem?_cons_zero, List.getElem?_cons_succ, Nat.mul_one, Bool.true_eq_false, Bool.false_eq_true, false_implies, true_implies, Bool.not_true, Bool.not_false, decide_true, decide_false, Int.reduceToNat, Int.cast_ofNat_Int, Int.reduceLT, Int.reduceLE, Int.reduceEq, Int.reduceNeg, eq_self, Option.isNone_some, Option.isNone_none, Bool.bne_false, Bool.bne_true, s0, s1, s3, s9, s11, s13, s14]
  refine same__ own10.sl ((h1.mod h9.m fun _ _ h => h).mod m10 fun _ _ h => h) (by dsimp only; omega) ?_
  intro w11 m11
  try simp only [go_sem, ↓reduceIte, Nat.reduceEqDiff, Nat.reduceAdd, Nat.reduceLT, List.length_cons, List.length_nil, List.getElem?_cons_zero, List.getElem?_cons_succ, Nat.mul_one, Bool.true_eq_false, Bool.false_eq_true, false_implies, true_implies, Bool.not_true, Bool.not_false, decide_true, decide_false, Int.reduceToNat, Int.cast_ofNat_Int, Int.reduceLT, Int.reduceLE, Int.reduceEq, Int.reduceNeg, eq_self, Option.isNone_some, Option.isNone_none, Bool.bne_false, Bool.bne_true, s0, s1, s3, s9, s11, s13, s14]
  exact k _ ((h9.m.trans' m10).trans' m11)

theorem i64_0 : i64 0 := ⟨by decide, by decide⟩
theorem jturns_ {v0 v1 v3 : Value} {old nw : List Bytes} {n : Int} {keep : List Int} (hn : i64 n) (h0 : Sl w v0 1 old.length (old.map str)) (h1 : Sl w v1 1 nw.length (nw.map str)) (h3 : Sl w v3 1 keep.length (ints keep))
    (k : ∀ w', Mod none' w w' → next (.bool true) w') : callK Try.prog 11 [v0, v1, .int .i64 n, v3] w next QP := by
  refine q11 rfl ?_
  obtain ⟨a0, c0, hv0, -, -⟩ := h0.form
  obtain ⟨a1, c1, hv1, -, -⟩ := h1.form
  obtain ⟨a3, c3, hv3, -, -⟩ := h3.form
  unfold h11
  try simp only [go_sem, ↓reduceIte, Nat.reduceEqDiff, Nat.reduceAdd, Nat.reduceLT, List.length_cons, List.length_nil, List.getElem?_cons_zero, List.getElem?_cons_succ, Nat.mul_one, Bool.true_eq_false, Bool.false_eq_true, false_implies, true_implies, Bool.not_true, Bool.not_false, decide_true, decide_false, Int.reduceToNat, Int.cast_ofNat_Int, Int.reduceLT, Int.reduceLE, Int.reduceEq, Int.reduceNeg, eq_self, Option.isNone_some, Option.isNone_none, Bool.bne_false, Bool.bne_true]
  refine jsmall_ ?_
  intro w1 m1
  have ok1 : (⟨0, [], v0, old, v3, keep, 0⟩ : Deed).OK w1 := ⟨i64_0, i64_0, h0.mod m1 fun _ _ h => h, h3.mod m1 fun _ _ h => h⟩
  have ok2 : (⟨0, [], v1, nw, .slice none 0 0, [], 0⟩ : Deed).OK w1 := ⟨i64_0, i64_0, h1.mod m1 fun _ _ h => h, sl_nil⟩
  have e1 : v2 (.put 3 1) (v2 (.put 2 1) (.agg #[.int .i64 0, str [], .slice none 0 0, .slice none 0 0, .int .i64 0]) v0) v3 = .agg #[.int .i64 0, str [], v0, v3, .int .i64 0] := by rw [hv0, hv3]; rfl
  have e2 : v2 (.put 2 1) (.agg #[.int .i64 0, str [], .slice none 0 0, .slice none 0 0, .int .i64 0]) v1 = .agg #[.int .i64 0, str [], v1, .slice none 0 0, .int .i64 0] := by rw [hv1]; rfl
  have f1 : c2 (.put 2 1) (.agg #[.int .i64 0, str [], .slice none 0 0, .slice none 0 0, .int .i64 0]) v0 := by rw [hv0]; simp [c2, Value.cells]
  have f2 : c2 (.put 3 1) (v2 (.put 2 1) (.agg #[.int .i64 0, str [], .slice none 0 0, .slice none 0 0, .int .i64 0]) v0) v3 := by
    have : v2 (.put 2 1) (.agg #[.int .i64 0, str [], .slice none 0 0, .slice none 0 0, .int .i64 0]) v0 = .agg #[.int .i64 0, str [], v0, .slice none 0 0, .int .i64 0] := by rw [hv0]; rfl
    rw [this, hv3]; simp [c2, Value.cells]
  have f3 : c2 (.put 2 1) (.agg #[.int .i64 0, str [], .slice none 0 0, .slice none 0 0, .int .i64 0]) v1 := by rw [hv1]; simp [c2, Value.cells]
  try simp only [go_sem, ↓reduceIte, Nat.reduceEqDiff, Nat.reduceAdd, Nat.reduceLT, List.length_cons, List.length_nil, List.getElem?_cons_zero, List.getElem?_cons_succ, Nat.mul_one, Bool.true_eq_false, Bool.false_eq_true, false_implies, true_implies, Bool.not_true, Bool.not_false, decide_true, decide_false, Int.reduceToNat, Int.cast_ofNat_Int, Int.reduceLT, Int.reduceLE, Int.reduceEq, Int.reduceNeg, eq_self, Option.isNone_some, Option.isNone_none, Bool.bne_false, Bool.bne_true]
  refine ⟨f1, f2, f3, ?_⟩
  rw [e1, e2]
  refine bsl2d (a := ⟨0, [], v0, old, v3, keep, 0⟩) (b := ⟨0, [], v1, nw, .slice none 0 0, [], 0⟩) ?_
  intro b2 w2 _ own2 m2
  try simp only [go_sem, ↓reduceIte, Nat.reduceEqDiff, Nat.reduceAdd, Nat.reduceLT, List.length_cons, List.length_nil, List.getElem?_cons_zero, List.getElem?_cons_succ, Nat.mul_one, Bool.true_eq_false, Bool.false_eq_true, false_implies, true_implies, Bool.not_true, Bool.not_false, decide_true, decide_false, Int.reduceToNat, Int.cast_ofNat_Int, Int.reduceLT, Int.reduceLE, Int.reduceEq, Int.reduceNeg, eq_self, Option.isNone_some, Option.isNone_none, Bool.bne_false, Bool.bne_true]
  refine fewJ_ (l := [⟨0, [], v0, old, v3, keep, 0⟩, ⟨0, [], v1, nw, .slice none 0 0, [], 0⟩]) own2.sl (fun a ha => ?_) ?_
  · simp only [List.mem_cons, List.not_mem_nil, or_false] at ha
    rcases ha with rfl | rfl
    · exact ok1.mod0 m2
    · exact ok2.mod0 m2
  try simp only [go_sem, ↓reduceIte, Nat.reduceEqDiff, Nat.reduceAdd, Nat.reduceLT, List.length_cons, List.length_nil, List.getElem?_cons_zero, List.getElem?_cons_succ, Nat.mul_one, Bool.true_eq_false, Bool.false_eq_true, false_implies, true_implies, Bool.not_true, Bool.not_false, decide_true, decide_false, Int.reduceToNat, Int.cast_ofNat_Int, Int.reduceLT, Int.reduceLE, Int.reduceEq, Int.reduceNeg, eq_self, Option.isNone_some, Option.isNone_none, Bool.bne_false, Bool.bne_true]
  refine ⟨fun hf => k _ (m1.trans' m2), fun hf => ?_⟩
  have hf : (Deed.few1 ⟨0, [], v0, old, v3, keep, 0⟩ = true) ∧ (Deed.few1 ⟨0, [], v1, nw, .slice none 0 0, [], 0⟩ = true) := by simpa [fewJ] using hf
  obtain ⟨-, hl0, hlk, -, b0⟩ := Deed.few1_le hf.1
  obtain ⟨-, hl1, -, -, b1⟩ := Deed.few1_le hf.2
  dsimp only at hl0 hlk b0 hl1 b1
  unfold h11_1
  try simp only [go_sem, ↓reduceIte, Nat.reduceEqDiff, Nat.reduceAdd, Nat.reduceLT, List.length_cons, List.length_nil, List.getElem?_cons_zero, List.getElem?_cons_succ, Nat.mul_one, Bool.true_eq_false, Bool.false_eq_true, false_implies, true_implies, Bool.not_true, Bool.not_false, decide_true, decide_false, Int.reduceToNat, Int.cast_ofNat_Int, Int.reduceLT, Int.reduceLE, Int.reduceEq, Int.reduceNeg, eq_self, Option.isNone_some, Option.isNone_none, Bool.bne_false, Bool.bne_true]
  refine jnew_ ?_
  intro p w3 F3 dr3 f3 m3
  have M3 := (m1.trans' m2).trans' m3
  have s12 := (m1.trans' m2).size
  have f3 : ∀ k, F3.R k → w.heap.size ≤ k := fun k hk => by have := f3 k hk; omega
  try simp only [go_sem, ↓reduceIte, Nat.reduceEqDiff, Nat.reduceAdd, Nat.reduceLT, List.length_cons, List.length_nil, List.getElem?_cons_zero, List.getElem?_cons_succ, Nat.mul_one, Bool.true_eq_false, Bool.false_eq_true, false_implies, true_implies, Bool.not_true, Bool.not_false, decide_true, decide_false, Int.reduceToNat, Int.cast_ofNat_Int, Int.reduceLT, Int.reduceLE, Int.reduceEq, Int.reduceNeg, eq_self, Option.isNone_some, Option.isNone_none, Bool.bne_false, Bool.bne_true]
  refine jopen_ (g := 5) dr3 f3 M3 rfl (by omega) rfl (openB_core (s := []) .nil (by decide)) ?_
  intro q4 w4 S4 h4 m4
  try simp only [go_sem, ↓reduceIte, Nat.reduceEqDiff, Nat.reduceAdd, Nat.reduceLT, List.length_cons, List.length_nil, List.getElem?_cons_zero, List.getElem?_cons_succ, Nat.mul_one, Bool.true_eq_false, Bool.false_eq_true, false_implies, true_implies, Bool.not_true, Bool.not_false, decide_true, decide_false, Int.reduceToNat, Int.cast_ofNat_Int, Int.reduceLT, Int.reduceLE, Int.reduceEq, Int.reduceNeg, eq_self, Option.isNone_some, Option.isNone_none, Bool.bne_false, Bool.bne_true]
  have r0 : Rest Dk.new 5 [] := ⟨⟨rfl, rfl⟩, ⟨rfl, rfl, fun p hp => (nomatch hp)⟩, rfl, rfl, rfl⟩
  obtain ⟨re1, rr1⟩ := r0.rewr (by omega) old (by omega)
  have rq1 := rewr_queue Dk.new 5 old
  have hq0 : Dk.new.queue.length = 0 := rfl
  refine rewrite_ h4 (by omega) (h0.mod h4.m fun _ _ h => h) (fun hn k hk => ?_) (by omega) ?_
  · have := h0.lt (by omega) hn k hk
    have := h4.m.size
    exact ⟨fun hR => by have := h4.f0 k hR; omega, by omega⟩
  intro w5 ⟨F5, S5, h5⟩
  have e5 : ∀ L, (rewriteJ Dk.new L 5 old).2.2 = 0 := fun _ => re1
  rw [e5]
  have h5 : JS w w5 p q4 5 (rewr Dk.new 5 old).1 _ F5 S5 := h5
  generalize (rewr Dk.new 5 old).1 = d5 at *
  try simp only [go_sem, ↓reduceIte, Nat.reduceEqDiff, Nat.reduceAdd, Nat.reduceLT, List.length_cons, List.length_nil, List.getElem?_cons_zero, List.getElem?_cons_succ, Nat.mul_one, Bool.true_eq_false, Bool.false_eq_true, false_implies, true_implies, Bool.not_true, Bool.not_false, decide_true, decide_false, Int.reduceToNat, Int.cast_ofNat_Int, Int.reduceLT, Int.reduceLE, Int.reduceEq, Int.reduceNeg, eq_self, Option.isNone_some, Option.isNone_none, Bool.bne_false, Bool.bne_true]
  unfold h11_2
  try simp only [go_sem, ↓reduceIte, Nat.reduceEqDiff, Nat.reduceAdd, Nat.reduceLT, List.length_cons, List.length_nil, List.getElem?_cons_zero, List.getElem?_cons_succ, Nat.mul_one, Bool.true_eq_false, Bool.false_eq_true, false_implies, true_implies, Bool.not_true, Bool.not_false, decide_true, decide_false, Int.reduceToNat, Int.cast_ofNat_Int, Int.reduceLT, Int.reduceLE, Int.reduceEq, Int.reduceNeg, eq_self, Option.isNone_some, Option.isNone_none, Bool.bne_false, Bool.bne_true]
  refine jpick_ hn (by omega) ?_
  have hp1 := Int.emod_nonneg n (show (5 : Int) ≠ 0 by omega)
  have hp2 := Int.emod_lt_of_pos n (show (0 : Int) < 5 by omega)
  try simp only [go_sem, ↓reduceIte, Nat.reduceEqDiff, Nat.reduceAdd, Nat.reduceLT, List.length_cons, List.length_nil, List.getElem?_cons_zero, List.getElem?_cons_succ, Nat.mul_one, Bool.true_eq_false, Bool.false_eq_true, false_implies, true_implies, Bool.not_true, Bool.not_false, decide_true, decide_false, Int.reduceToNat, Int.cast_ofNat_Int, Int.reduceLT, Int.reduceLE, Int.reduceEq, Int.reduceNeg, eq_self, Option.isNone_some, Option.isNone_none, Bool.bne_false, Bool.bne_true]
  rw [w64 (by omega) (by omega)]
  refine arm_ h5.dr (by omega) (h3.mod h5.m fun _ _ h => h) (by omega) ?_
  intro w6 st6
  have h6 := h5.disk st6
  try simp only [go_sem, ↓reduceIte, Nat.reduceEqDiff, Nat.reduceAdd, Nat.reduceLT, List.length_cons, List.length_nil, List.getElem?_cons_zero, List.getElem?_cons_succ, Nat.mul_one, Bool.true_eq_false, Bool.false_eq_true, false_implies, true_implies, Bool.not_true, Bool.not_false, decide_true, decide_false, Int.reduceToNat, Int.cast_ofNat_Int, Int.reduceLT, Int.reduceLE, Int.reduceEq, Int.reduceNeg, eq_self, Option.isNone_some, Option.isNone_none, Bool.bne_false, Bool.bne_true]
  have l6 : Len (d5.arm (1 + n % 5) keep) := ⟨rr1.len.nl, rr1.len.nf⟩
  have lost6 : (d5.arm (1 + n % 5) keep).lost = 0 := rr1.lost
  have hq6 : (d5.arm (1 + n % 5) keep).queue.length = d5.queue.length := rfl
  obtain ⟨c1, c2, c3⟩ := rewr_clean l6 (by omega) (rr1.clean.arm (1 + n % 5) keep) nw
  obtain ⟨x1, -, x3⟩ := rewr_err l6 (by omega) lost6 nw (f := 5) (by omega)
  have rq6 := rewr_queue (d5.arm (1 + n % 5) keep) 5 nw
  refine rewrite_ h6 (by omega) (h1.mod h6.m fun _ _ h => h) (fun hn k hk => ?_) (by omega) ?_
  · have := h1.lt (by omega) hn k hk
    have := h6.m.size
    exact ⟨fun hR => by have := h6.f0 k hR; omega, by omega⟩
  intro w7 ⟨F7, S7, h7⟩
  have e7 : ∀ L, (rewriteJ (d5.arm (1 + n % 5) keep) L 5 nw).2.2 = (rewr (d5.arm (1 + n % 5) keep) 5 nw).2 := fun _ => rfl
  rw [e7]
  have h7 : JS w w7 p q4 5 (rewr (d5.arm (1 + n % 5) keep) 5 nw).1 _ F7 S7 := h7
  generalize (rewr (d5.arm (1 + n % 5) keep) 5 nw).1 = d7 at *
  generalize (rewr (d5.arm (1 + n % 5) keep) 5 nw).2 = e at *
  try simp only [go_sem, ↓reduceIte, Nat.reduceEqDiff, Nat.reduceAdd, Nat.reduceLT, List.length_cons, List.length_nil, List.getElem?_cons_zero, List.getElem?_cons_succ, Nat.mul_one, Bool.true_eq_false, Bool.false_eq_true, false_implies, true_implies, Bool.not_true, Bool.not_false, decide_true, decide_false, Int.reduceToNat, Int.cast_ofNat_Int, Int.reduceLT, Int.reduceLE, Int.reduceEq, Int.reduceNeg, eq_self, Option.isNone_some, Option.isNone_none, Bool.bne_false, Bool.bne_true]
  refine arm_ h7.dr (by omega) sl_nil (by omega) ?_
  intro w8 st8
  have h8 := h7.disk st8
  try simp only [go_sem, ↓reduceIte, Nat.reduceEqDiff, Nat.reduceAdd, Nat.reduceLT, List.length_cons, List.length_nil, List.getElem?_cons_zero, List.getElem?_cons_succ, Nat.mul_one, Bool.true_eq_false, Bool.false_eq_true, false_implies, true_implies, Bool.not_true, Bool.not_false, decide_true, decide_false, Int.reduceToNat, Int.cast_ofNat_Int, Int.reduceLT, Int.reduceLE, Int.reduceEq, Int.reduceNeg, eq_self, Option.isNone_some, Option.isNone_none, Bool.bne_false, Bool.bne_true]
  unfold h11_3
  try simp only [go_sem, ↓reduceIte, Nat.reduceEqDiff, Nat.reduceAdd, Nat.reduceLT, List.length_cons, List.length_nil, List.getElem?_cons_zero, List.getElem?_cons_succ, Nat.mul_one, Bool.true_eq_false, Bool.false_eq_true, false_implies, true_implies, Bool.not_true, Bool.not_false, decide_true, decide_false, Int.reduceToNat, Int.cast_ofNat_Int, Int.reduceLT, Int.reduceLE, Int.reduceEq, Int.reduceNeg, eq_self, Option.isNone_some, Option.isNone_none, Bool.bne_false, Bool.bne_true]
  refine ⟨fun he => ?_, fun he => ?_⟩
  · have he : e ≠ 0 := by simpa using he
    have he8 : e = 8 := by omega
    have cc := c2 he
    refine start_ h8.dr ?_
    intro w9 dr9 m9 _
    have h9 := h8.disk (.of dr9 m9)
    try simp only [go_sem, ↓reduceIte, Nat.reduceEqDiff, Nat.reduceAdd, Nat.reduceLT, List.length_cons, List.length_nil, List.getElem?_cons_zero, List.getElem?_cons_succ, Nat.mul_one, Bool.true_eq_false, Bool.false_eq_true, false_implies, true_implies, Bool.not_true, Bool.not_false, decide_true, decide_false, Int.reduceToNat, Int.cast_ofNat_Int, Int.reduceLT, Int.reduceLE, Int.reduceEq, Int.reduceNeg, eq_self, Option.isNone_some, Option.isNone_none, Bool.bne_false, Bool.bne_true]
    unfold h11_4
    try simp only [go_sem, ↓reduceIte, Nat.reduceEqDiff, Nat.reduceAdd, Nat.reduceLT, List.length_cons, List.length_nil, List.getElem?_cons_zero, List.getElem?_cons_succ, Nat.mul_one, Bool.true_eq_false, Bool.false_eq_true, false_implies, true_implies, Bool.not_true, Bool.not_false, decide_true, decide_false, Int.reduceToNat, Int.cast_ofNat_Int, Int.reduceLT, Int.reduceLE, Int.reduceEq, Int.reduceNeg, eq_self, Option.isNone_some, Option.isNone_none, Bool.bne_false, Bool.bne_true]
    refine jopen_ (g := 5) h9.dr h9.f0 h9.m rfl (by omega) rfl (L := ⟨old, old.length, 16 + (formsB old).length⟩) ?_ ?_
    · have := ((cc.arm 0 []).start).file
      rw [this]; exact openB_image (by omega)
    intro q10 w10 S10 h10 m10
    try simp only [go_sem, ↓reduceIte, Nat.reduceEqDiff, Nat.reduceAdd, Nat.reduceLT, List.length_cons, List.length_nil, List.getElem?_cons_zero, List.getElem?_cons_succ, Nat.mul_one, Bool.true_eq_false, Bool.false_eq_true, false_implies, true_implies, Bool.not_true, Bool.not_false, decide_true, decide_false, Int.reduceToNat, Int.cast_ofNat_Int, Int.reduceLT, Int.reduceLE, Int.reduceEq, Int.reduceNeg, eq_self, Option.isNone_some, Option.isNone_none, Bool.bne_false, Bool.bne_true, he8]
    exact jturns2 h10 ⟨⟨c3.nl, c3.nf⟩, (cc.arm 0 []).start, rfl, rfl, x3⟩ (by show d7.queue.length ≤ _; omega) h0 h1 h3 b0 b1 hlk (.inr ⟨rfl, rfl⟩) rfl rfl rfl rfl rfl rfl rfl k
  · have he : e = 0 := by simpa using he
    subst he
    obtain ⟨cc, hd⟩ := c1 rfl
    unfold h11_4
    try simp only [go_sem, ↓reduceIte, Nat.reduceEqDiff, Nat.reduceAdd, Nat.reduceLT, List.length_cons, List.length_nil, List.getElem?_cons_zero, List.getElem?_cons_succ, Nat.mul_one, Bool.true_eq_false, Bool.false_eq_true, false_implies, true_implies, Bool.not_true, Bool.not_false, decide_true, decide_false, Int.reduceToNat, Int.cast_ofNat_Int, Int.reduceLT, Int.reduceLE, Int.reduceEq, Int.reduceNeg, eq_self, Option.isNone_some, Option.isNone_none, Bool.bne_false, Bool.bne_true]
    refine jopen_ (g := 5) h8.dr h8.f0 h8.m rfl (by omega) hd (L := ⟨nw, nw.length, 16 + (formsB nw).length⟩) ?_ ?_
    · rw [(cc.arm 0 []).file]; exact openB_image (by omega)
    intro q10 w10 S10 h10 m10
    try simp only [go_sem, ↓reduceIte, Nat.reduceEqDiff, Nat.reduceAdd, Nat.reduceLT, List.length_cons, List.length_nil, List.getElem?_cons_zero, List.getElem?_cons_succ, Nat.mul_one, Bool.true_eq_false, Bool.false_eq_true, false_implies, true_implies, Bool.not_true, Bool.not_false, decide_true, decide_false, Int.reduceToNat, Int.cast_ofNat_Int, Int.reduceLT, Int.reduceLE, Int.reduceEq, Int.reduceNeg, eq_self, Option.isNone_some, Option.isNone_none, Bool.bne_false, Bool.bne_true]
    exact jturns2 h10 ⟨⟨c3.nl, c3.nf⟩, cc.arm 0 [], hd, rfl, x3⟩ (by show d7.queue.length ≤ _; omega) h0 h1 h3 b0 b1 hlk (.inl ⟨rfl, rfl⟩) rfl rfl rfl rfl rfl rfl rfl k
end
end Go.Proofs.Y
