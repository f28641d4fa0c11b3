/- JQ: JournalTurns. -/
import Derived.Test.YtgalileklafbbaaDU
set_option linter.unusedSimpArgs false
set_option linter.unusedVariables false
set_option maxRecDepth 100000
namespace Go.Proofs.Y
open Go Go.HL Go.Proofs

theorem sl66 : SlTy Try.prog 66 65 5 80 (.agg #[.int .i64 0, str [], .slice none 0 0, .slice none 0 0, .int .i64 0]) := ⟨by kernel_rfl, by kernel_rfl, rfl, by decide⟩
def image (rows : List Bytes) : Bytes := header (16 + (formsB rows).length : Nat) rows.length ++ formsB rows
theorem openB_image {rows : List Bytes} (h : (formsB rows).length ≤ 1000000) : openB (image rows) = some ⟨rows, rows.length, 16 + (formsB rows).length⟩ := by
  have := openB_core (Core.full rows []) (by rw [List.append_nil, List.length_append, header_len]; omega)
  rw [List.append_nil] at this
  exact this
theorem forms_le : ∀ {l : List Bytes}, (∀ r ∈ l, r.length ≤ 200) → (formsB l).length ≤ l.length * 216
  | [], _ => by simp [formsB]
  | x :: l, h => by
    have := forms_le (l := l) fun r hr => h r (List.mem_cons_of_mem _ hr)
    have hx := h x (List.mem_cons_self ..)
    simp only [formsB, List.flatMap_cons, List.length_append, List.length_cons, formB_len] at this ⊢
    omega
theorem Deed.few1_le {a : Deed} (h : a.few1 = true) : a.Row.length ≤ 200 ∧ a.rows.length ≤ 6 ∧ a.ks.length ≤ 60 ∧ (∀ r ∈ a.rows, r.length ≤ 200) ∧ (formsB a.rows).length ≤ 1296 := by
  simp only [Deed.few1, Bool.and_eq_true, decide_eq_true_eq, List.all_eq_true] at h
  obtain ⟨⟨⟨h1, h2⟩, h3⟩, h4⟩ := h
  have := forms_le h4
  exact ⟨h1, h2, h3, h4, by omega⟩
theorem rewr_queue (d : Dk) (f : Nat) (rows : List Bytes) : (rewr d f rows).1.queue.length ≤ d.queue.length + 16 + (formsB rows).length := by
  have hh := header_len (16 + (formsB rows).length : Nat) rows.length
  have h1 := cut_queue d (f + 1 : Nat) 0
  unfold rewr
  dsimp only
  generalize ht : header (16 + (formsB rows).length : Nat) rows.length ++ formsB rows = t
  have htl : t.length = 16 + (formsB rows).length := by rw [← ht, List.length_append, hh]
  have h2 := write_queue (d.cut (f + 1 : Nat) 0) (f + 1 : Nat) 0 t
  have h3 := flush_queue ((d.cut (f + 1 : Nat) 0).write (f + 1 : Nat) 0 t) (f + 1 : Nat)
  have h4 := turn_queue (((d.cut (f + 1 : Nat) 0).write (f + 1 : Nat) 0 t).flush (f + 1 : Nat)) f (f + 1 : Nat)
  repeat' split
  all_goals dsimp only
  all_goals omega

section
variable {w w0 : World} {next : Value → World → Prop} {QP : List PanicEntry → World → Prop}

theorem fill_rec {place : Nat → Option (Nat × Nat)} {cells : Array Value} {i o n : Nat} {v : Value} {cs : List Value} {rest : List (Nat × Value)} (hp : place i = some (o, n)) (hv : v.cells = cs.toArray) (hl : cs.length = n) (ho : o + n ≤ cells.size) :
    Instr.fill place cells ((i, v) :: rest) = Instr.fill place (cells.toList.take o ++ cs ++ cells.toList.drop (o + n)).toArray rest := by
  rw [Instr.fill, hp]
  simp only [hv, List.size_toArray, hl]
  rw [if_neg (by simp; omega)]
  congr 1
  rw [← Array.foldl_toList]
  simp only [Array.toList_zipIdx, List.toList_toArray]
  have key : ∀ (l : List Value) (k : Nat) (Z : Array Value), o + k + l.length ≤ Z.size → (l.zipIdx k).foldl (fun cs (x : Value × Nat) => cs.setIfInBounds (o + x.2) x.1) Z = (Z.toList.take (o + k) ++ l ++ Z.toList.drop (o + k + l.length)).toArray := by
    intro l
    induction l with
    | nil => intro k Z hk; simp
    | cons x r ih =>
      intro k Z hk
      rw [List.zipIdx_cons, List.foldl_cons, ih _ _ (by simp at hk ⊢; omega)]
      apply Array.toList_inj.1
      apply List.ext_getElem?
      intro j
      simp only [List.length_cons] at hk
      simp only [Array.toList_setIfInBounds, List.append_assoc, List.getElem?_append, List.length_take, List.length_set, Array.length_toList, List.getElem?_take, List.getElem?_set, List.getElem?_drop, List.length_cons, List.getElem?_cons]
      repeat' split
      all_goals first
        | rfl
        | (exfalso; omega)
        | (congr 1; omega)
        | (exfalso; simp_all; omega)
  have := key cs 0 cells (by omega)
  simpa [hl] using this
theorem bsl2d {a b : Deed} (k : ∀ q w', w.heap.size = q → Own w' (.slice (some ⟨q, 0, none⟩) 2 2) 65 5 2 (rows Deed.cells [a, b]) → Mod none' w w' → next (.slice (some ⟨q, 0, none⟩) 2 2) w') :
    bslK Try.prog 66 2 [(0, .agg #[.int .i64 a.Do, str a.Row, a.rv, a.kv, .int .i64 a.N]), (1, .agg #[.int .i64 b.Do, str b.Row, b.rv, b.kv, .int .i64 b.N])] w next QP := by
  refine bsl_ sl66 (cs := rows Deed.cells [a, b]) rfl (by omega) ?_ ?_
  · have f1 := fill_rec (place := fun i => some (i * 5, 5)) (cells := (Array.range (2 * 5)).map ((Value.agg #[.int .i64 0, str [], .slice none 0 0, .slice none 0 0, .int .i64 0]).cells[· % (Value.agg #[.int .i64 0, str [], .slice none 0 0, .slice none 0 0, .int .i64 0]).cells.size]!)) (i := 0) (o := 0) (n := 5) (v := .agg #[.int .i64 a.Do, str a.Row, a.rv, a.kv, .int .i64 a.N]) (cs := a.cells) (rest := [(1, .agg #[.int .i64 b.Do, str b.Row, b.rv, b.kv, .int .i64 b.N])]) rfl rfl rfl (by simp)
    rw [f1, fill_rec (i := 1) (o := 5) (n := 5) (cs := b.cells) rfl rfl rfl (by simp [Deed.cells]), Instr.fill]
    congr 1
    apply Array.toList_inj.1
    simp [rows, Deed.cells]
  intro q w' hq own _ m _
  exact k q w' hq own m

theorem jopen_ {p g : Nat} {d : Dk} {F : FP} {L : Lg} {f : Int} (dr : DR w p d F) (f0 : ∀ k, F.R k → w0.heap.size ≤ k) (m : Mod none' w0 w) (hf : f = g) (hg : g ≤ 6) (hd : d.down = false) (hO : openB (d.file g) = some L)
    (k : ∀ q w' S, JS w0 w' p q g d L F S → Mod none' w w' → next (.tuple #[ptr q, .int .i64 0]) w') : callvK Try.prog (.func (.func 44) #[] #[]) [ptr p, .int .i64 f] w next QP := by
  subst hf
  have hm := may_up hd (f := g) (by omega)
  have hE : openE d g = 0 := by
    have h1 : ¬ ((g : Int) < 0 ∨ (6 : Int) < g) := by omega
    simp only [openE, if_neg h1, hm, Int.toNat_natCast, hO]; rfl
  refine open_ dr (fun w9 m9 hne => absurd hE hne) ?_
  intro g' L' hg' _ _ hL q w' S lg hS m'
  obtain rfl : g' = g := by omega
  rw [hO] at hL
  obtain rfl := Option.some.inj hL
  exact k q w' S (JS.opened dr f0 m lg hS m') m'
theorem jnew_ (k : ∀ p w' F, DR w' p Dk.new F → (∀ k, F.R k → w.heap.size ≤ k) → Mod none' w w' → next (ptr p) w') : callvK Try.prog (.func (.func 17) #[] #[]) [] w next QP := by
  refine new_ ?_
  intro p w' _ st
  exact k p w' st.foot st.dr (fun k hk => by rcases st.footR k hk with h | h; exact h.elim; exact h) (st.mod.mono fun _ _ h => h)

/-- at rest: up, no crash armed, no flush lost, with this file durable -/
structure Rest (d : Dk) (f : Nat) (s : Bytes) : Prop where
  len : Len d
  clean : Clean d f s
  down : d.down = false
  armed : d.armed = 0
  lost : d.lost = 0
theorem Rest.rewr {d : Dk} {f : Nat} {s : Bytes} (h : Rest d f s) (hf : f ≤ 6) (rows : List Bytes) (hsz : (formsB rows).length ≤ 1000000) : (rewr d f rows).2 = 0 ∧ Rest (rewr d f rows).1 f (image rows) := by
  obtain ⟨c1, c2, c3⟩ := rewr_clean h.len hf h.clean rows
  obtain ⟨e1, e2, e3⟩ := rewr_err h.len hf h.lost rows hsz
  obtain ⟨e4, e5⟩ := e2 h.down h.armed
  obtain ⟨c4, c5⟩ := c1 e4
  exact ⟨e4, c3, c4, c5, e5, e3⟩

theorem jturns2 {p q : Nat} {d : Dk} {L : Lg} {F : FP} {S : Nat → Prop} {s : Bytes} {e : Int} {v0 v1 v3 : Value} {old nw : List Bytes} {keep : List Int} {σ : Env} {w1 : World} (h : JS w w1 p q 5 d L F S) (hr : Rest d 5 s) (hq : d.queue.length ≤ 10000)
    (h0 : Sl w v0 1 old.length (old.map str)) (h1 : Sl w v1 1 nw.length (nw.map str)) (h3 : Sl w v3 1 keep.length (ints keep)) (b0 : (formsB old).length ≤ 1296) (b1 : (formsB nw).length ≤ 1296) (b3 : keep.length ≤ 60)
    (he : (e = 0 ∧ L.rows = nw) ∨ (e = 8 ∧ L.rows = old)) (s0 : σ 0 = v0) (s1 : σ 1 = v1) (s3 : σ 3 = v3) (s9 : σ 9 = .bool true) (s11 : σ 11 = ptr p) (s13 : σ 13 = .int .i64 e) (s14 : σ 14 = ptr q)
    (k : ∀ w', Mod none' w w' → next (.bool true) w') : hw Try.prog noPanic h11_5 (endV [.tmp 8] next) σ w1 := by
  have hrb := h.lg.rb
  have hbd := h.lg.bd
  have l1 := formsB_rows nw
  have l0 := formsB_rows old
  have lt1 := fun hn => h1.lt (by omega) hn
  have lt3 := fun hn => h3.lt (by omega) hn
  unfold h11_5
  try simp only [go_sem, ↓reduceIte, Nat.reduceEqDiff, Nat.reduceAdd, Nat.reduceLT, List.length_cons, List.length_nil, List.getElem?_cons_zero, List.getElem?_cons_succ, Nat.mul_one, Bool.true_eq_false, Bool.false_eq_true, false_implies, true_implies, Bool.not_true, Bool.not_false, decide_true, decide_false, Int.reduceToNat, Int.cast_ofNat_Int, Int.reduceLT, Int.reduceLE, Int.reduceEq, Int.reduceNeg, eq_self, Option.isNone_some, Option.isNone_none, Bool.bne_false, Bool.bne_true, s0, s1, s3, s9, s11, s13, s14]
  refine jall_ h.lg ?_
  intro v2 w2 own2 m2 _
  try simp only [go_sem, ↓reduceIte, Nat.reduceEqDiff, Nat.reduceAdd, Nat.reduceLT, List.length_cons, List.length_nil, List.getElem?_cons_zero, List.getElem?_cons_succ, Nat.mul_one, Bool.true_eq_false, Bool.false_eq_true, false_implies, true_implies, Bool.not_true, Bool.not_false, decide_true, decide_false, Int.reduceToNat, Int.cast_ofNat_Int, Int.reduceLT, Int.reduceLE, Int.reduceEq, Int.reduceNeg, eq_self, Option.isNone_some, Option.isNone_none, Bool.bne_false, Bool.bne_true, s0, s1, s3, s9, s11, s13, s14]
  refine same__ own2.sl ((h0.mod h.m fun _ _ h => h).mod m2 fun _ _ h => h) (by omega) ?_
  intro w3 m3
  try simp only [go_sem, ↓reduceIte, Nat.reduceEqDiff, Nat.reduceAdd, Nat.reduceLT, List.length_cons, List.length_nil, List.getElem?_cons_zero, List.getElem?_cons_succ, Nat.mul_one, Bool.true_eq_false, Bool.false_eq_true, false_implies, true_implies, Bool.not_true, Bool.not_false, decide_true, decide_false, Int.reduceToNat, Int.cast_ofNat_Int, Int.reduceLT, Int.reduceLE, Int.reduceEq, Int.reduceNeg, eq_self, Option.isNone_some, Option.isNone_none, Bool.bne_false, Bool.bne_true, s0, s1, s3, s9, s11, s13, s14]
  refine jall_ ((h.mod0 m2).mod0 m3).lg ?_
  intro v4 w4 own4 m4 _
  try simp only [go_sem, ↓reduceIte, Nat.reduceEqDiff, Nat.reduceAdd, Nat.reduceLT, List.length_cons, List.length_nil, List.getElem?_cons_zero, List.getElem?_cons_succ, Nat.mul_one, Bool.true_eq_false, Bool.false_eq_true, false_implies, true_implies, Bool.not_true, Bool.not_false, decide_true, decide_false, Int.reduceToNat, Int.cast_ofNat_Int, Int.reduceLT, Int.reduceLE, Int.reduceEq, Int.reduceNeg, eq_self, Option.isNone_some, Option.isNone_none, Bool.bne_false, Bool.bne_true, s0, s1, s3, s9, s11, s13, s14]
  refine same__ own4.sl ((((h1.mod h.m fun _ _ h => h).mod m2 fun _ _ h => h).mod m3 fun _ _ h => h).mod m4 fun _ _ h => h) (by omega) ?_
  intro w5 m5
  have h5 := (((h.mod0 m2).mod0 m3).mod0 m4).mod0 m5
  try simp only [go_sem, ↓reduceIte, Nat.reduceEqDiff, Nat.reduceAdd, Nat.reduceLT, List.length_cons, List.length_nil, List.getElem?_cons_zero, List.getElem?_cons_succ, Nat.mul_one, Bool.true_eq_false, Bool.false_eq_true, false_implies, true_implies, Bool.not_true, Bool.not_false, decide_true, decide_false, Int.reduceToNat, Int.cast_ofNat_Int, Int.reduceLT, Int.reduceLE, Int.reduceEq, Int.reduceNeg, eq_self, Option.isNone_some, Option.isNone_none, Bool.bne_false, Bool.bne_true, s0, s1, s3, s9, s11, s13, s14]
  have hc : (if (if decide (e = 0) = true then !decide (L.rows = nw) else false) = true then true else if (!decide (L.rows = old)) = true then !decide (L.rows = nw) else false) = false := by
    rcases he with ⟨rfl, h⟩ | ⟨rfl, h⟩ <;> simp [h]
  obtain ⟨re, rr⟩ := hr.rewr (by omega) nw (by omega)
  have rq := rewr_queue d 5 nw
  unfold h11_6
  try simp only [go_sem, ↓reduceIte, Nat.reduceEqDiff, Nat.reduceAdd, Nat.reduceLT, List.length_cons, List.length_nil, List.getElem?_cons_zero, List.getElem?_cons_succ, Nat.mul_one, Bool.true_eq_false, Bool.false_eq_true, false_implies, true_implies, Bool.not_true, Bool.not_false, decide_true, decide_false, Int.reduceToNat, Int.cast_ofNat_Int, Int.reduceLT, Int.reduceLE, Int.reduceEq, Int.reduceNeg, eq_self, Option.isNone_some, Option.isNone_none, Bool.bne_false, Bool.bne_true, s0, s1, s3, s9, s11, s13, s14, hc]
  refine rewrite_ h5 (by omega) (h1.mod h5.m fun _ _ h => h) (fun hn k hk => ?_) (by omega) ?_
  · have := lt1 hn k hk
    have := h5.m.size
    exact ⟨fun hR => by have := h5.f0 k hR; omega, by omega⟩
  intro w6 ⟨F6, S6, h6⟩
  have e6 : (rewriteJ d L 5 nw).2.2 = 0 := re
  rw [e6]
  have h6 : JS w w6 p q 5 (rewr d 5 nw).1 _ F6 S6 := h6
  generalize (rewr d 5 nw).1 = d6 at *
  try simp only [go_sem, ↓reduceIte, Nat.reduceEqDiff, Nat.reduceAdd, Nat.reduceLT, List.length_cons, List.length_nil, List.getElem?_cons_zero, List.getElem?_cons_succ, Nat.mul_one, Bool.true_eq_false, Bool.false_eq_true, false_implies, true_implies, Bool.not_true, Bool.not_false, decide_true, decide_false, Int.reduceToNat, Int.cast_ofNat_Int, Int.reduceLT, Int.reduceLE, Int.reduceEq, Int.reduceNeg, eq_self, Option.isNone_some, Option.isNone_none, Bool.bne_false, Bool.bne_true, s0, s1, s3, s9, s11, s13, s14, hc]
  unfold h11_7
  try simp only [go_sem, ↓reduceIte, Nat.reduceEqDiff, Nat.reduceAdd, Nat.reduceLT, List.length_cons, List.length_nil, List.getElem?_cons_zero, List.getElem?_cons_succ, Nat.mul_one, Bool.true_eq_false, Bool.false_eq_true, false_implies, true_implies, Bool.not_true, Bool.not_false, decide_true, decide_false, Int.reduceToNat, Int.cast_ofNat_Int, Int.reduceLT, Int.reduceLE, Int.reduceEq, Int.reduceNeg, eq_self, Option.isNone_some, Option.isNone_none, Bool.bne_false, Bool.bne_true, s0, s1, s3, s9, s11, s13, s14]
  refine crash_ h6.dr (h3.mod h6.m fun _ _ h => h) (fun hn hk => ?_) (by omega) ?_
  · have := lt3 hn p hk
    have := h6.f0 p (h6.dr.sub p h6.dr.self)
    omega
  intro w7 st7
  have h7 := h6.disk st7
  try simp only [go_sem, ↓reduceIte, Nat.reduceEqDiff, Nat.reduceAdd, Nat.reduceLT, List.length_cons, List.length_nil, List.getElem?_cons_zero, List.getElem?_cons_succ, Nat.mul_one, Bool.true_eq_false, Bool.false_eq_true, false_implies, true_implies, Bool.not_true, Bool.not_false, decide_true, decide_false, Int.reduceToNat, Int.cast_ofNat_Int, Int.reduceLT, Int.reduceLE, Int.reduceEq, Int.reduceNeg, eq_self, Option.isNone_some, Option.isNone_none, Bool.bne_false, Bool.bne_true, s0, s1, s3, s9, s11, s13, s14]
  refine start_ h7.dr ?_
  intro w8 dr8 m8 _
  have h8 := h7.disk (.of dr8 m8)
  try simp only [go_sem, ↓reduceIte, Nat.reduceEqDiff, Nat.reduceAdd, Nat.reduceLT, List.length_cons, List.length_nil, List.getElem?_cons_zero, List.getElem?_cons_succ, Nat.mul_one, Bool.true_eq_false, Bool.false_eq_true, false_implies, true_implies, Bool.not_true, Bool.not_false, decide_true, decide_false, Int.reduceToNat, Int.cast_ofNat_Int, Int.reduceLT, Int.reduceLE, Int.reduceEq, Int.reduceNeg, eq_self, Option.isNone_some, Option.isNone_none, Bool.bne_false, Bool.bne_true, s0, s1, s3, s9, s11, s13, s14]
  have hcl : Clean (d6.crash keep).start 5 (image nw) := (rr.clean.crash _).start
  refine jopen_ (g := 5) h8.dr h8.f0 h8.m rfl (by omega) rfl (by rw [hcl.file]; exact openB_image (by omega)) ?_
  intro q9 w9 S9 h9 m9
  try simp only [go_sem, ↓reduceIte, Nat.reduceEqDiff, Nat.reduceAdd, Nat.reduceLT, List.length_cons, List.length_nil, List.getElem?_cons_zero, List.getElem?_cons_succ, Nat.mul_one, Bool.true_eq_false, Bool.false_eq_true, false_implies, true_implies, Bool.not_true, Bool.not_false, decide_true, decide_false, Int.reduceToNat, Int.cast_ofNat_Int, Int.reduceLT, Int.reduceLE, Int.reduceEq, Int.reduceNeg, eq_self, Option.isNone_some, Option.isNone_none, Bool.bne_false, Bool.bne_true, s0, s1, s3, s9, s11, s13, s14]
  unfold h11_8
  try simp only [go_sem, ↓reduceIte, Nat.reduceEqDiff, Nat.reduceAdd, Nat.reduceLT, List.length_cons, List.length_nil, List.getElem?_cons_zero, List.getElem?_cons_succ, Nat.mul_one, Bool.true_eq_false, Bool.false_eq_true, false_implies, true_implies, Bool.not_true, Bool.not_false, decide_true, decide_false, Int.reduceToNat, Int.cast_ofNat_Int, Int.reduceLT, Int.reduceLE, Int.reduceEq, Int.reduceNeg, eq_self, Option.isNone_some, Option.isNone_none, Bool.bne_false, Bool.bne_true, s0, s1, s3, s9, s11, s13, s14]
  refine jall_ h9.lg ?_
  intro v10 w10 own10 m10 _
  try simp only [go_sem, ↓reduceIte, Nat.reduceEqDiff, Nat.reduceAdd, Nat.reduceLT, List.length_cons, List.length_nil, List.getElem?_cons_zero, List.getElem?_cons_succ, Nat.mul_one, Bool.true_eq_false, Bool.false_eq_true, false_implies, true_implies, Bool.not_true, Bool.not_false, decide_true, decide_false, Int.reduceToNat, Int.cast_ofNat_Int, Int.reduceLT, Int.reduceLE, Int.reduceEq, Int.reduceNeg, eq_self, Option.isNone_some, Option.isNone_none, Bool.bne_false, Bool.bne_true, s0, s1, s3, s9, s11, s13, s14]
  refine same__ own10.sl ((h1.mod h9.m fun _ _ h => h).mod m10 fun _ _ h => h) (by dsimp only; omega) ?_
  intro w11 m11
  try simp only [go_sem, ↓reduceIte, Nat.reduceEqDiff, Nat.reduceAdd, Nat.reduceLT, List.length_cons, List.length_nil, List.getElem?_cons_zero, List.getElem?_cons_succ, Nat.mul_one, Bool.true_eq_false, Bool.false_eq_true, false_implies, true_implies, Bool.not_true, Bool.not_false, decide_true, decide_false, Int.reduceToNat, Int.cast_ofNat_Int, Int.reduceLT, Int.reduceLE, Int.reduceEq, Int.reduceNeg, eq_self, Option.isNone_some, Option.isNone_none, Bool.bne_false, Bool.bne_true, s0, s1, s3, s9, s11, s13, s14]
  exact k _ ((h9.m.trans' m10).trans' m11)

theorem i64_0 : i64 0 := ⟨by decide, by decide⟩
theorem jturns_ {v0 v1 v3 : Value} {old nw : List Bytes} {n : Int} {keep : List Int} (hn : i64 n) (h0 : Sl w v0 1 old.length (old.map str)) (h1 : Sl w v1 1 nw.length (nw.map str)) (h3 : Sl w v3 1 keep.length (ints keep))
    (k : ∀ w', Mod none' w w' → next (.bool true) w') : callK Try.prog 11 [v0, v1, .int .i64 n, v3] w next QP := by
  refine q11 rfl ?_
  obtain ⟨a0, c0, hv0, -, -⟩ := h0.form
  obtain ⟨a1, c1, hv1, -, -⟩ := h1.form
  obtain ⟨a3, c3, hv3, -, -⟩ := h3.form
  unfold h11
  try simp only [go_sem, ↓reduceIte, Nat.reduceEqDiff, Nat.reduceAdd, Nat.reduceLT, List.length_cons, List.length_nil, List.getElem?_cons_zero, List.getElem?_cons_succ, Nat.mul_one, Bool.true_eq_false, Bool.false_eq_true, false_implies, true_implies, Bool.not_true, Bool.not_false, decide_true, decide_false, Int.reduceToNat, Int.cast_ofNat_Int, Int.reduceLT, Int.reduceLE, Int.reduceEq, Int.reduceNeg, eq_self, Option.isNone_some, Option.isNone_none, Bool.bne_false, Bool.bne_true]
  refine jsmall_ ?_
  intro w1 m1
  have ok1 : (⟨0, [], v0, old, v3, keep, 0⟩ : Deed).OK w1 := ⟨i64_0, i64_0, h0.mod m1 fun _ _ h => h, h3.mod m1 fun _ _ h => h⟩
  have ok2 : (⟨0, [], v1, nw, .slice none 0 0, [], 0⟩ : Deed).OK w1 := ⟨i64_0, i64_0, h1.mod m1 fun _ _ h => h, sl_nil⟩
  have e1 : v2 (.put 3 1) (v2 (.put 2 1) (.agg #[.int .i64 0, str [], .slice none 0 0, .slice none 0 0, .int .i64 0]) v0) v3 = .agg #[.int .i64 0, str [], v0, v3, .int .i64 0] := by rw [hv0, hv3]; rfl
  have e2 : v2 (.put 2 1) (.agg #[.int .i64 0, str [], .slice none 0 0, .slice none 0 0, .int .i64 0]) v1 = .agg #[.int .i64 0, str [], v1, .slice none 0 0, .int .i64 0] := by rw [hv1]; rfl
  have f1 : c2 (.put 2 1) (.agg #[.int .i64 0, str [], .slice none 0 0, .slice none 0 0, .int .i64 0]) v0 := by rw [hv0]; simp [c2, Value.cells]
  have f2 : c2 (.put 3 1) (v2 (.put 2 1) (.agg #[.int .i64 0, str [], .slice none 0 0, .slice none 0 0, .int .i64 0]) v0) v3 := by
    have : v2 (.put 2 1) (.agg #[.int .i64 0, str [], .slice none 0 0, .slice none 0 0, .int .i64 0]) v0 = .agg #[.int .i64 0, str [], v0, .slice none 0 0, .int .i64 0] := by rw [hv0]; rfl
    rw [this, hv3]; simp [c2, Value.cells]
  have f3 : c2 (.put 2 1) (.agg #[.int .i64 0, str [], .slice none 0 0, .slice none 0 0, .int .i64 0]) v1 := by rw [hv1]; simp [c2, Value.cells]
  try simp only [go_sem, ↓reduceIte, Nat.reduceEqDiff, Nat.reduceAdd, Nat.reduceLT, List.length_cons, List.length_nil, List.getElem?_cons_zero, List.getElem?_cons_succ, Nat.mul_one, Bool.true_eq_false, Bool.false_eq_true, false_implies, true_implies, Bool.not_true, Bool.not_false, decide_true, decide_false, Int.reduceToNat, Int.cast_ofNat_Int, Int.reduceLT, Int.reduceLE, Int.reduceEq, Int.reduceNeg, eq_self, Option.isNone_some, Option.isNone_none, Bool.bne_false, Bool.bne_true]
  refine ⟨f1, f2, f3, ?_⟩
  rw [e1, e2]
  refine bsl2d (a := ⟨0, [], v0, old, v3, keep, 0⟩) (b := ⟨0, [], v1, nw, .slice none 0 0, [], 0⟩) ?_
  intro b2 w2 _ own2 m2
  try simp only [go_sem, ↓reduceIte, Nat.reduceEqDiff, Nat.reduceAdd, Nat.reduceLT, List.length_cons, List.length_nil, List.getElem?_cons_zero, List.getElem?_cons_succ, Nat.mul_one, Bool.true_eq_false, Bool.false_eq_true, false_implies, true_implies, Bool.not_true, Bool.not_false, decide_true, decide_false, Int.reduceToNat, Int.cast_ofNat_Int, Int.reduceLT, Int.reduceLE, Int.reduceEq, Int.reduceNeg, eq_self, Option.isNone_some, Option.isNone_none, Bool.bne_false, Bool.bne_true]
  refine fewJ_ (l := [⟨0, [], v0, old, v3, keep, 0⟩, ⟨0, [], v1, nw, .slice none 0 0, [], 0⟩]) own2.sl (fun a ha => ?_) ?_
  · simp only [List.mem_cons, List.not_mem_nil, or_false] at ha
    rcases ha with rfl | rfl
    · exact ok1.mod0 m2
    · exact ok2.mod0 m2
  try simp only [go_sem, ↓reduceIte, Nat.reduceEqDiff, Nat.reduceAdd, Nat.reduceLT, List.length_cons, List.length_nil, List.getElem?_cons_zero, List.getElem?_cons_succ, Nat.mul_one, Bool.true_eq_false, Bool.false_eq_true, false_implies, true_implies, Bool.not_true, Bool.not_false, decide_true, decide_false, Int.reduceToNat, Int.cast_ofNat_Int, Int.reduceLT, Int.reduceLE, Int.reduceEq, Int.reduceNeg, eq_self, Option.isNone_some, Option.isNone_none, Bool.bne_false, Bool.bne_true]
  refine ⟨fun hf => k _ (m1.trans' m2), fun hf => ?_⟩
  have hf : (Deed.few1 ⟨0, [], v0, old, v3, keep, 0⟩ = true) ∧ (Deed.few1 ⟨0, [], v1, nw, .slice none 0 0, [], 0⟩ = true) := by simpa [fewJ] using hf
  obtain ⟨-, hl0, hlk, -, b0⟩ := Deed.few1_le hf.1
  obtain ⟨-, hl1, -, -, b1⟩ := Deed.few1_le hf.2
  dsimp only at hl0 hlk b0 hl1 b1
  unfold h11_1
  try simp only [go_sem, ↓reduceIte, Nat.reduceEqDiff, Nat.reduceAdd, Nat.reduceLT, List.length_cons, List.length_nil, List.getElem?_cons_zero, List.getElem?_cons_succ, Nat.mul_one, Bool.true_eq_false, Bool.false_eq_true, false_implies, true_implies, Bool.not_true, Bool.not_false, decide_true, decide_false, Int.reduceToNat, Int.cast_ofNat_Int, Int.reduceLT, Int.reduceLE, Int.reduceEq, Int.reduceNeg, eq_self, Option.isNone_some, Option.isNone_none, Bool.bne_false, Bool.bne_true]
  refine jnew_ ?_
  intro p w3 F3 dr3 f3 m3
  have M3 := (m1.trans' m2).trans' m3
  have s12 := (m1.trans' m2).size
  have f3 : ∀ k, F3.R k → w.heap.size ≤ k := fun k hk => by have := f3 k hk; omega
  try simp only [go_sem, ↓reduceIte, Nat.reduceEqDiff, Nat.reduceAdd, Nat.reduceLT, List.length_cons, List.length_nil, List.getElem?_cons_zero, List.getElem?_cons_succ, Nat.mul_one, Bool.true_eq_false, Bool.false_eq_true, false_implies, true_implies, Bool.not_true, Bool.not_false, decide_true, decide_false, Int.reduceToNat, Int.cast_ofNat_Int, Int.reduceLT, Int.reduceLE, Int.reduceEq, Int.reduceNeg, eq_self, Option.isNone_some, Option.isNone_none, Bool.bne_false, Bool.bne_true]
  refine jopen_ (g := 5) dr3 f3 M3 rfl (by omega) rfl (openB_core (s := []) .nil (by decide)) ?_
  intro q4 w4 S4 h4 m4
  try simp only [go_sem, ↓reduceIte, Nat.reduceEqDiff, Nat.reduceAdd, Nat.reduceLT, List.length_cons, List.length_nil, List.getElem?_cons_zero, List.getElem?_cons_succ, Nat.mul_one, Bool.true_eq_false, Bool.false_eq_true, false_implies, true_implies, Bool.not_true, Bool.not_false, decide_true, decide_false, Int.reduceToNat, Int.cast_ofNat_Int, Int.reduceLT, Int.reduceLE, Int.reduceEq, Int.reduceNeg, eq_self, Option.isNone_some, Option.isNone_none, Bool.bne_false, Bool.bne_true]
  have r0 : Rest Dk.new 5 [] := ⟨⟨rfl, rfl⟩, ⟨rfl, rfl, fun p hp => (nomatch hp)⟩, rfl, rfl, rfl⟩
  obtain ⟨re1, rr1⟩ := r0.rewr (by omega) old (by omega)
  have rq1 := rewr_queue Dk.new 5 old
  have hq0 : Dk.new.queue.length = 0 := rfl
  refine rewrite_ h4 (by omega) (h0.mod h4.m fun _ _ h => h) (fun hn k hk => ?_) (by omega) ?_
  · have := h0.lt (by omega) hn k hk
    have := h4.m.size
    exact ⟨fun hR => by have := h4.f0 k hR; omega, by omega⟩
  intro w5 ⟨F5, S5, h5⟩
  have e5 : ∀ L, (rewriteJ Dk.new L 5 old).2.2 = 0 := fun _ => re1
  rw [e5]
  have h5 : JS w w5 p q4 5 (rewr Dk.new 5 old).1 _ F5 S5 := h5
  generalize (rewr Dk.new 5 old).1 = d5 at *
  try simp only [go_sem, ↓reduceIte, Nat.reduceEqDiff, Nat.reduceAdd, Nat.reduceLT, List.length_cons, List.length_nil, List.getElem?_cons_zero, List.getElem?_cons_succ, Nat.mul_one, Bool.true_eq_false, Bool.false_eq_true, false_implies, true_implies, Bool.not_true, Bool.not_false, decide_true, decide_false, Int.reduceToNat, Int.cast_ofNat_Int, Int.reduceLT, Int.reduceLE, Int.reduceEq, Int.reduceNeg, eq_self, Option.isNone_some, Option.isNone_none, Bool.bne_false, Bool.bne_true]
  unfold h11_2
  try simp only [go_sem, ↓reduceIte, Nat.reduceEqDiff, Nat.reduceAdd, Nat.reduceLT, List.length_cons, List.length_nil, List.getElem?_cons_zero, List.getElem?_cons_succ, Nat.mul_one, Bool.true_eq_false, Bool.false_eq_true, false_implies, true_implies, Bool.not_true, Bool.not_false, decide_true, decide_false, Int.reduceToNat, Int.cast_ofNat_Int, Int.reduceLT, Int.reduceLE, Int.reduceEq, Int.reduceNeg, eq_self, Option.isNone_some, Option.isNone_none, Bool.bne_false, Bool.bne_true]
  refine jpick_ hn (by omega) ?_
  have hp1 := Int.emod_nonneg n (show (5 : Int) ≠ 0 by omega)
  have hp2 := Int.emod_lt_of_pos n (show (0 : Int) < 5 by omega)
  try simp only [go_sem, ↓reduceIte, Nat.reduceEqDiff, Nat.reduceAdd, Nat.reduceLT, List.length_cons, List.length_nil, List.getElem?_cons_zero, List.getElem?_cons_succ, Nat.mul_one, Bool.true_eq_false, Bool.false_eq_true, false_implies, true_implies, Bool.not_true, Bool.not_false, decide_true, decide_false, Int.reduceToNat, Int.cast_ofNat_Int, Int.reduceLT, Int.reduceLE, Int.reduceEq, Int.reduceNeg, eq_self, Option.isNone_some, Option.isNone_none, Bool.bne_false, Bool.bne_true]
  rw [w64 (by omega) (by omega)]
  refine arm_ h5.dr (by omega) (h3.mod h5.m fun _ _ h => h) (by omega) ?_
  intro w6 st6
  have h6 := h5.disk st6
  try simp only [go_sem, ↓reduceIte, Nat.reduceEqDiff, Nat.reduceAdd, Nat.reduceLT, List.length_cons, List.length_nil, List.getElem?_cons_zero, List.getElem?_cons_succ, Nat.mul_one, Bool.true_eq_false, Bool.false_eq_true, false_implies, true_implies, Bool.not_true, Bool.not_false, decide_true, decide_false, Int.reduceToNat, Int.cast_ofNat_Int, Int.reduceLT, Int.reduceLE, Int.reduceEq, Int.reduceNeg, eq_self, Option.isNone_some, Option.isNone_none, Bool.bne_false, Bool.bne_true]
  have l6 : Len (d5.arm (1 + n % 5) keep) := ⟨rr1.len.nl, rr1.len.nf⟩
  have lost6 : (d5.arm (1 + n % 5) keep).lost = 0 := rr1.lost
  have hq6 : (d5.arm (1 + n % 5) keep).queue.length = d5.queue.length := rfl
  obtain ⟨c1, c2, c3⟩ := rewr_clean l6 (by omega) (rr1.clean.arm (1 + n % 5) keep) nw
  obtain ⟨x1, -, x3⟩ := rewr_err l6 (by omega) lost6 nw (f := 5) (by omega)
  have rq6 := rewr_queue (d5.arm (1 + n % 5) keep) 5 nw
  refine rewrite_ h6 (by omega) (h1.mod h6.m fun _ _ h => h) (fun hn k hk => ?_) (by omega) ?_
  · have := h1.lt (by omega) hn k hk
    have := h6.m.size
    exact ⟨fun hR => by have := h6.f0 k hR; omega, by omega⟩
  intro w7 ⟨F7, S7, h7⟩
  have e7 : ∀ L, (rewriteJ (d5.arm (1 + n % 5) keep) L 5 nw).2.2 = (rewr (d5.arm (1 + n % 5) keep) 5 nw).2 := fun _ => rfl
  rw [e7]
  have h7 : JS w w7 p q4 5 (rewr (d5.arm (1 + n % 5) keep) 5 nw).1 _ F7 S7 := h7
  generalize (rewr (d5.arm (1 + n % 5) keep) 5 nw).1 = d7 at *
  generalize (rewr (d5.arm (1 + n % 5) keep) 5 nw).2 = e at *
  try simp only [go_sem, ↓reduceIte, Nat.reduceEqDiff, Nat.reduceAdd, Nat.reduceLT, List.length_cons, List.length_nil, List.getElem?_cons_zero, List.getElem?_cons_succ, Nat.mul_one, Bool.true_eq_false, Bool.false_eq_true, false_implies, true_implies, Bool.not_true, Bool.not_false, decide_true, decide_false, Int.reduceToNat, Int.cast_ofNat_Int, Int.reduceLT, Int.reduceLE, Int.reduceEq, Int.reduceNeg, eq_self, Option.isNone_some, Option.isNone_none, Bool.bne_false, Bool.bne_true]
  refine arm_ h7.dr (by omega) sl_nil (by omega) ?_
  intro w8 st8
  have h8 := h7.disk st8
  try simp only [go_sem, ↓reduceIte, Nat.reduceEqDiff, Nat.reduceAdd, Nat.reduceLT, List.length_cons, List.length_nil, List.getElem?_cons_zero, List.getElem?_cons_succ, Nat.mul_one, Bool.true_eq_false, Bool.false_eq_true, false_implies, true_implies, Bool.not_true, Bool.not_false, decide_true, decide_false, Int.reduceToNat, Int.cast_ofNat_Int, Int.reduceLT, Int.reduceLE, Int.reduceEq, Int.reduceNeg, eq_self, Option.isNone_some, Option.isNone_none, Bool.bne_false, Bool.bne_true]
  unfold h11_3
  try simp only [go_sem, ↓reduceIte, Nat.reduceEqDiff, Nat.reduceAdd, Nat.reduceLT, List.length_cons, List.length_nil, List.getElem?_cons_zero, List.getElem?_cons_succ, Nat.mul_one, Bool.true_eq_false, Bool.false_eq_true, false_implies, true_implies, Bool.not_true, Bool.not_false, decide_true, decide_false, Int.reduceToNat, Int.cast_ofNat_Int, Int.reduceLT, Int.reduceLE, Int.reduceEq, Int.reduceNeg, eq_self, Option.isNone_some, Option.isNone_none, Bool.bne_false, Bool.bne_true]
  refine ⟨fun he => ?_, fun he => ?_⟩
  · have he : e ≠ 0 := by simpa using he
    have he8 : e = 8 := by omega
    have cc := c2 he
    refine start_ h8.dr ?_
    intro w9 dr9 m9 _
    have h9 := h8.disk (.of dr9 m9)
    try simp only [go_sem, ↓reduceIte, Nat.reduceEqDiff, Nat.reduceAdd, Nat.reduceLT, List.length_cons, List.length_nil, List.getElem?_cons_zero, List.getElem?_cons_succ, Nat.mul_one, Bool.true_eq_false, Bool.false_eq_true, false_implies, true_implies, Bool.not_true, Bool.not_false, decide_true, decide_false, Int.reduceToNat, Int.cast_ofNat_Int, Int.reduceLT, Int.reduceLE, Int.reduceEq, Int.reduceNeg, eq_self, Option.isNone_some, Option.isNone_none, Bool.bne_false, Bool.bne_true]
    unfold h11_4
    try simp only [go_sem, ↓reduceIte, Nat.reduceEqDiff, Nat.reduceAdd, Nat.reduceLT, List.length_cons, List.length_nil, List.getElem?_cons_zero, List.getElem?_cons_succ, Nat.mul_one, Bool.true_eq_false, Bool.false_eq_true, false_implies, true_implies, Bool.not_true, Bool.not_false, decide_true, decide_false, Int.reduceToNat, Int.cast_ofNat_Int, Int.reduceLT, Int.reduceLE, Int.reduceEq, Int.reduceNeg, eq_self, Option.isNone_some, Option.isNone_none, Bool.bne_false, Bool.bne_true]
    refine jopen_ (g := 5) h9.dr h9.f0 h9.m rfl (by omega) rfl (L := ⟨old, old.length, 16 + (formsB old).length⟩) ?_ ?_
    · have := ((cc.arm 0 []).start).file
      rw [this]; exact openB_image (by omega)
    intro q10 w10 S10 h10 m10
    try simp only [go_sem, ↓reduceIte, Nat.reduceEqDiff, Nat.reduceAdd, Nat.reduceLT, List.length_cons, List.length_nil, List.getElem?_cons_zero, List.getElem?_cons_succ, Nat.mul_one, Bool.true_eq_false, Bool.false_eq_true, false_implies, true_implies, Bool.not_true, Bool.not_false, decide_true, decide_false, Int.reduceToNat, Int.cast_ofNat_Int, Int.reduceLT, Int.reduceLE, Int.reduceEq, Int.reduceNeg, eq_self, Option.isNone_some, Option.isNone_none, Bool.bne_false, Bool.bne_true, he8]
    exact jturns2 h10 ⟨⟨c3.nl, c3.nf⟩, (cc.arm 0 []).start, rfl, rfl, x3⟩ (by show d7.queue.length ≤ _; omega) h0 h1 h3 b0 b1 hlk (.inr ⟨rfl, rfl⟩) rfl rfl rfl rfl rfl rfl rfl k
  · have he : e = 0 := by simpa using he
    subst he
    obtain ⟨cc, hd⟩ := c1 rfl
    unfold h11_4
    try simp only [go_sem, ↓reduceIte, Nat.reduceEqDiff, Nat.reduceAdd, Nat.reduceLT, List.length_cons, List.length_nil, List.getElem?_cons_zero, List.getElem?_cons_succ, Nat.mul_one, Bool.true_eq_false, Bool.false_eq_true, false_implies, true_implies, Bool.not_true, Bool.not_false, decide_true, decide_false, Int.reduceToNat, Int.cast_ofNat_Int, Int.reduceLT, Int.reduceLE, Int.reduceEq, Int.reduceNeg, eq_self, Option.isNone_some, Option.isNone_none, Bool.bne_false, Bool.bne_true]
    refine jopen_ (g := 5) h8.dr h8.f0 h8.m rfl (by omega) hd (L := ⟨nw, nw.length, 16 + (formsB nw).length⟩) ?_ ?_
    · rw [(cc.arm 0 []).file]; exact openB_image (by omega)
    intro q10 w10 S10 h10 m10
    try simp only [go_sem, ↓reduceIte, Nat.reduceEqDiff, Nat.reduceAdd, Nat.reduceLT, List.length_cons, List.length_nil, List.getElem?_cons_zero, List.getElem?_cons_succ, Nat.mul_one, Bool.true_eq_false, Bool.false_eq_true, false_implies, true_implies, Bool.not_true, Bool.not_false, decide_true, decide_false, Int.reduceToNat, Int.cast_ofNat_Int, Int.reduceLT, Int.reduceLE, Int.reduceEq, Int.reduceNeg, eq_self, Option.isNone_some, Option.isNone_none, Bool.bne_false, Bool.bne_true]
    exact jturns2 h10 ⟨⟨c3.nl, c3.nf⟩, cc.arm 0 [], hd, rfl, x3⟩ (by show d7.queue.length ≤ _; omega) h0 h1 h3 b0 b1 hlk (.inl ⟨rfl, rfl⟩) rfl rfl rfl rfl rfl rfl rfl k
end
end Go.Proofs.Y

/- JR: plain laws: a log over a disk at rest. -/
namespace Go.Proofs.Y
open Go Go.HL Go.Proofs

/-- up, no crash armed, no flush lost -/
structure At (d : Dk) : Prop where
  len : Len d
  down : d.down = false
  armed : d.armed = 0
  lost : d.lost = 0
theorem at_new : At Dk.new := ⟨⟨rfl, rfl⟩, rfl, rfl, rfl⟩

theorem rewr_done {d : Dk} {f : Nat} (hl : Len d) (hf : f ≤ 6) (rows : List Bytes) (h : (rewr d f rows).2 = 0) : Clean (rewr d f rows).1 f (image rows) ∧ (rewr d f rows).1.down = false := by
  have hne : f + 1 ≠ f := by omega
  unfold image
  unfold rewr at h ⊢
  dsimp only at h ⊢
  generalize ht : header (16 + (formsB rows).length : Nat) rows.length ++ formsB rows = t at *
  have htn : t ≠ [] := ht ▸ head_ne _ _ _
  have l1 := hl.cut (f + 1 : Nat) 0
  split at h
  · rename_i h1; exact absurd h h1
  · rename_i h1
    rw [if_neg h1]
    have h1 : d.cutR (f + 1 : Nat) 0 = 0 := Decidable.byContradiction fun hn => h1 hn
    obtain ⟨g1, -⟩ := cut_ok hl (g := f + 1) (by omega) h1
    have l2 := l1.write (f + 1 : Nat) 0 t
    split at h
    · rename_i h2; exact absurd h h2
    · rename_i h2
      rw [if_neg h2]
      have h2 : (d.cut (f + 1 : Nat) 0).writeR (f + 1 : Nat) 0 t = 0 := Decidable.byContradiction fun hn => h2 hn
      obtain ⟨g2, -⟩ := write_ok l1 (g := f + 1) (by omega) htn g1.file h2
      have l3 := l2.flush (f + 1 : Nat)
      split at h
      · rename_i h3; exact absurd h h3
      · rename_i h3
        rw [if_neg h3]
        have h3 : ((d.cut (f + 1 : Nat) 0).write (f + 1 : Nat) 0 t).flushR (f + 1 : Nat) = 0 := Decidable.byContradiction fun hn => h3 hn
        obtain ⟨g3, -⟩ := flush_ok l2 (g := f + 1) (by omega) h3
        rw [g2] at g3
        have := turn_ok l3 (f := f) (g := f + 1) (by omega) (by omega) hne h
        rw [g3.last] at this
        exact this
theorem rewr_len {d : Dk} {f : Nat} (hl : Len d) (rows : List Bytes) : Len (rewr d f rows).1 := by
  unfold rewr
  dsimp only
  split
  · exact hl.cut _ _
  · split
    · exact (hl.cut _ _).write _ _ _
    · split
      · exact ((hl.cut _ _).write _ _ _).flush _
      · exact (((hl.cut _ _).write _ _ _).flush _).turn _ _

section
variable {d : Dk} {f : Nat}
theorem At.rewr (h : At d) (hf : f ≤ 6) (rows : List Bytes) (hsz : (formsB rows).length ≤ 1000000) : (rewr d f rows).2 = 0 ∧ At (rewr d f rows).1 := by
  obtain ⟨-, e2, e3⟩ := rewr_err h.len hf h.lost rows hsz
  obtain ⟨e4, e5⟩ := e2 h.down h.armed
  exact ⟨e4, rewr_len h.len rows, (rewr_done h.len hf rows e4).2, e5, e3⟩
theorem At.write (h : At d) (hf : f < 12) {a : Nat} {s : Bytes} (hfit : a + s.length ≤ 16777216) : d.writeR f a s = 0 ∧ At (d.write f a s) := by
  have hm := may_up h.down hf
  obtain ⟨h1, h2, -⟩ := idle_same h.armed hm (a := a) (s := s) (by omega) (by omega)
  exact ⟨idle_writeR h.armed hm (by omega) (by omega), h.len.write _ _ _, h2.trans h.down, h1, (write_lost _ _ _).trans h.lost⟩
theorem At.flush (h : At d) (hf : f < 12) : d.flushR f = 0 ∧ At (d.flush f) := by
  have h1 := (flushR_cases (d := d) hf h.lost).2 h.down (ends_of h.armed)
  exact ⟨h1, h.len.flush _, (flush_ok h.len hf h1).2, flush_armed h.armed _, flush_lost h.lost _⟩
theorem At.flushJ (h : At d) (hf : f < 12) (L : Lg) : (flushJ d L f).2.2 = 0 ∧ (flushJ d L f).2.1 = ⟨L.rows, L.rows.length, L.end_⟩ ∧ At (flushJ d L f).1 := by
  obtain ⟨f1, a1⟩ := h.flush hf
  obtain ⟨f2, a2⟩ := a1.write hf (a := 0) (s := header L.end_ L.rows.length) (by rw [header_len]; omega)
  obtain ⟨f3, a3⟩ := a2.flush hf
  have f2 : (d.flush f).writeR f 0 (header L.end_ L.rows.length) = 0 := f2
  have e : flush3 d L f = (((d.flush f).write f 0 (header L.end_ L.rows.length)).flush f, 0) := by
    unfold flush3
    rw [if_neg (fun hn => hn f1), if_neg (fun hn => hn f2)]
    exact congrArg (Prod.mk _) f3
  unfold Y.flushJ
  split
  · rename_i hs
    refine ⟨by simp [h.down], ?_, h⟩
    show L = _
    rw [← hs]
  · rw [e]
    exact ⟨rfl, rfl, a3⟩
theorem At.add (h : At d) (hf : f < 12) (L : Lg) (rows : List Bytes) (hfit : L.end_ + (formsB rows).length ≤ 16777216) : addE d L f rows = 0 ∧ At (addD' d L f rows) := h.write hf hfit
theorem At.batch (h : At d) (hf : f < 12) (L : Lg) (rows : List Bytes) (hfit : L.end_ + (formsB rows).length ≤ 16777216) : (batchJ d L f rows).2.2 = 0 ∧ (batchJ d L f rows).2.1 = ⟨L.rows ++ rows, (L.rows ++ rows).length, L.end_ + (formsB rows).length⟩ ∧ At (batchJ d L f rows).1 := by
  unfold batchJ
  split
  · rename_i h0
    subst h0
    obtain ⟨e1, e2, e3⟩ := h.flushJ hf L
    exact ⟨e1, by rw [e2]; simp [formsB], e3⟩
  · obtain ⟨a1, a2⟩ := h.add hf L rows hfit
    rw [if_neg (fun hn => hn a1)]
    obtain ⟨e1, e2, e3⟩ := a2.flushJ hf (L.add rows)
    exact ⟨e1, e2, e3⟩
theorem flushJ_queue (d : Dk) (L : Lg) (f : Nat) : (flushJ d L f).1.queue.length ≤ d.queue.length + 16 := by
  unfold flushJ
  split
  · dsimp only; omega
  · dsimp only
    have h1 := flush_queue d f
    have h2 := write_queue (d.flush f) f 0 (header L.end_ L.rows.length)
    have h3 := flush_queue ((d.flush f).write f 0 (header L.end_ L.rows.length)) f
    rw [header_len] at h2
    unfold flush3
    split
    · dsimp only; omega
    · split <;> (dsimp only; omega)
theorem addJ_queue (d : Dk) (L : Lg) (f : Nat) (rows : List Bytes) : (addD' d L f rows).queue.length ≤ d.queue.length + (formsB rows).length := write_queue _ _ _ _
theorem batchJ_queue (d : Dk) (L : Lg) (f : Nat) (rows : List Bytes) : (batchJ d L f rows).1.queue.length ≤ d.queue.length + 16 + (formsB rows).length := by
  unfold batchJ
  have h1 := flushJ_queue d L f
  have h2 := addJ_queue d L f rows
  have h3 := flushJ_queue (addD' d L f rows) (L.add rows) f
  split
  · omega
  · split
    · dsimp only; omega
    · omega
end
end Go.Proofs.Y

/- JU: JournalLists. -/
namespace Go.Proofs.Y
open Go Go.HL Go.Proofs

def base (w0 w : World) (B : Nat → Prop) (hw : w0.heap.size ≤ w.heap.size) (hB : ∀ k, B k → k < w.heap.size) : Base := ⟨w, fun k => k < w0.heap.size ∨ B k, fun k hk => by rcases hk with hk | hk; omega; exact hB k hk⟩
/-- a value's block, apart from disk and log -/
def Apart (w0 : World) (v : Value) (F : FP) (S : Nat → Prop) : Prop := ∀ k, v.ownBlock = some k → w0.heap.size ≤ k ∧ ¬ F.R k ∧ ¬ S k

section
variable {w0 w w' : World} {p q f : Nat} {d d' : Dk} {L L' : Lg} {F F' : FP} {S S' B : Nat → Prop} {v v' : Value}
theorem JS.base (h : JS w0 w p q f d L F S) (ha : ∀ k, B k → ¬ F.R k ∧ ¬ S k) (hw : w0.heap.size ≤ w.heap.size) (hB : ∀ k, B k → k < w.heap.size) : GS (base w0 w B hw hB) w p q f d L F S :=
  ⟨h.dr, h.lg, h.ap, fun k hk hA => hA.elim (fun h1 => by have := h.f0 k hk; omega) fun h1 => (ha k h1).1 hk, fun k hk hA => hA.elim (fun h1 => by have := h.s0 k hk; omega) fun h1 => (ha k h1).2 hk, Mod.refl _ _⟩
theorem GS.back {hw : w0.heap.size ≤ w.heap.size} {hB : ∀ k, B k → k < w.heap.size} (g : GS (Y.base w0 w B hw hB) w' p q f d' L' F' S') (m : Mod none' w0 w) :
    JS w0 w' p q f d' L' F' S' ∧ (∀ k, B k → ¬ F'.R k ∧ ¬ S' k) ∧ Mod (fun k => ¬ (k < w0.heap.size ∨ B k)) w w' := by
  refine ⟨⟨g.dr, g.lg, g.ap, fun k hk => Nat.not_lt.1 fun h => g.f0 k hk (.inl h), fun k hk => Nat.not_lt.1 fun h => g.s0 k hk (.inl h), m.trans g.m fun k hk h => h (.inl hk)⟩, fun k hk => ⟨fun h => g.f0 k h (.inr hk), fun h => g.s0 k h (.inr hk)⟩, g.m⟩
theorem JS.held (h : JS w0 w p q f d L F S) (ha : Apart w0 v F S) (m : Mod (ownS v) w w') : JS w0 w' p q f d L F S :=
  ⟨h.dr.mod m fun k hk hT => (ha k hT).2.1 hk, h.lg.mod m fun k hk hT => (ha k hT).2.2 hk, h.ap, h.f0, h.s0, h.m.trans m fun k hk hT => by have := (ha k hT).1; omega⟩
theorem Apart.next (h : JS w0 w p q f d L F S) (ha : Apart w0 v F S) (hb : ∀ k, v'.ownBlock = some k → v.ownBlock = some k ∨ w.heap.size ≤ k) : Apart w0 v' F S := by
  intro k hk
  rcases hb k hk with h' | h'
  · exact ha k h'
  · have := h.m.size
    exact ⟨by omega, fun hR => by have := h.dr.lt k hR; omega, fun hS => by have := h.lg.lt k hS; omega⟩
end

/-- disk, log, and the rows that were kept by -/
def Tr (w0 w : World) (p q f : Nat) (L : Lg) (v : Value) (b n : Nat) : Prop :=
  ∃ F S d, JS w0 w p q f d L F S ∧ At d ∧ Own w v 9 1 L.rows.length (L.rows.map str) ∧ Apart w0 v F S ∧ L.end_ = 16 + (formsB L.rows).length ∧ (formsB L.rows).length ≤ b ∧ d.queue.length ≤ n

section
variable {w : World} {next : Value → World → Prop} {QP : List PanicEntry → World → Prop}

theorem and_i64 (a b : Int) : ∃ t, intV .and .i64 a b = .int .i64 t := ⟨_, rfl⟩

theorem Tr.mod0 {w0 w w' : World} {p q f b n : Nat} {L : Lg} {v : Value} (h : Tr w0 w p q f L v b n) (m : Mod none' w w') : Tr w0 w' p q f L v b n := by
  obtain ⟨F, S, d, h, a, o, ap, r⟩ := h
  exact ⟨F, S, d, h.mod0 m, a, o.mod m fun _ _ h => h, ap, r⟩

theorem jlists6 {p q b n : Nat} {L : Lg} {v7 : Value} {w1 : World} {τ : Env} {X : HX → Env → World → Prop} (hT : Tr w w1 p q 0 L v7 b n) (t5 : τ 5 = ptr q) (t6 : τ 6 = .int .i64 0) (t7 : τ 7 = v7) (t8 : τ 8 = .int .i64 L.sure)
    (k : ∀ σ' w', Tr w w' p q 0 L v7 b n → (∀ j, j < 10 → σ' j = τ j) → X .normal σ' w') : hw Try.prog noPanic h12_6 X τ w1 := by
  have hT' := hT
  obtain ⟨F, S, d, h, hat, own7, hap, hend, hb, hq⟩ := hT'
  have hrb := h.lg.rb
  have hbd := h.lg.bd
  unfold h12_6
  try simp only [go_sem, ↓reduceIte, Nat.reduceEqDiff, Nat.reduceAdd, Nat.reduceLT, List.length_cons, List.length_nil, List.getElem?_cons_zero, List.getElem?_cons_succ, Nat.mul_one, Bool.true_eq_false, Bool.false_eq_true, false_implies, true_implies, Bool.not_true, Bool.not_false, decide_true, decide_false, Int.reduceToNat, Int.cast_ofNat_Int, Int.reduceLT, Int.reduceLE, Int.reduceEq, Int.reduceNeg, eq_self, Option.isNone_some, Option.isNone_none, Bool.bne_false, Bool.bne_true, t5, t6, t7, t8]
  refine jall_ h.lg ?_
  intro v2 w2 own2 m2 _
  try simp only [go_sem, ↓reduceIte, Nat.reduceEqDiff, Nat.reduceAdd, Nat.reduceLT, List.length_cons, List.length_nil, List.getElem?_cons_zero, List.getElem?_cons_succ, Nat.mul_one, Bool.true_eq_false, Bool.false_eq_true, false_implies, true_implies, Bool.not_true, Bool.not_false, decide_true, decide_false, Int.reduceToNat, Int.cast_ofNat_Int, Int.reduceLT, Int.reduceLE, Int.reduceEq, Int.reduceNeg, eq_self, Option.isNone_some, Option.isNone_none, Bool.bne_false, Bool.bne_true, t5, t6, t7, t8]
  refine same__ own2.sl (own7.mod m2 fun _ _ h => h).sl (by omega) ?_
  intro w3 m3
  try simp only [go_sem, ↓reduceIte, Nat.reduceEqDiff, Nat.reduceAdd, Nat.reduceLT, List.length_cons, List.length_nil, List.getElem?_cons_zero, List.getElem?_cons_succ, Nat.mul_one, Bool.true_eq_false, Bool.false_eq_true, false_implies, true_implies, Bool.not_true, Bool.not_false, decide_true, decide_false, Int.reduceToNat, Int.cast_ofNat_Int, Int.reduceLT, Int.reduceLE, Int.reduceEq, Int.reduceNeg, eq_self, Option.isNone_some, Option.isNone_none, Bool.bne_false, Bool.bne_true, t5, t6, t7, t8]
  refine jsure_ ((h.lg.mod0 m2).mod0 m3) ?_
  try simp only [go_sem, ↓reduceIte, Nat.reduceEqDiff, Nat.reduceAdd, Nat.reduceLT, List.length_cons, List.length_nil, List.getElem?_cons_zero, List.getElem?_cons_succ, Nat.mul_one, Bool.true_eq_false, Bool.false_eq_true, false_implies, true_implies, Bool.not_true, Bool.not_false, decide_true, decide_false, Int.reduceToNat, Int.cast_ofNat_Int, Int.reduceLT, Int.reduceLE, Int.reduceEq, Int.reduceNeg, eq_self, Option.isNone_some, Option.isNone_none, Bool.bne_false, Bool.bne_true, t5, t6, t7, t8, bne_self_eq_false]
  refine k _ _ ((hT.mod0 m2).mod0 m3) fun j hj => ?_
  simp only [upd]
  repeat rw [if_neg (by omega)]

theorem jlists67 {p q b n i m : Nat} {L : Lg} {v7 v0 : Value} {w1 : World} {τ : Env} {X : HX → Env → World → Prop} (hT : Tr w w1 p q 0 L v7 b n) (hi : i ≤ 30) (t0 : τ 0 = v0) (t3 : τ 3 = .bool true) (t5 : τ 5 = ptr q) (t6 : τ 6 = .int .i64 0) (t7 : τ 7 = v7) (t8 : τ 8 = .int .i64 L.sure) (t9 : τ 9 = .int .i64 i)
    (k : ∀ σ' w' L' v', Tr w w' p q 0 L' v' b n → σ' 0 = v0 → σ' 3 = .bool true → σ' 5 = ptr q → σ' 7 = v' → σ' 8 = .int .i64 L'.sure → σ' 9 = .int .i64 ((i + 1 : Nat) : Int) → X .normal σ' w') : hw Try.prog noPanic h12_6 (blockX m (seqX (hw Try.prog noPanic h12_7 X) X)) τ w1 := by
  refine jlists6 hT t5 t6 t7 t8 ?_
  intro σ' w' T' e
  show hw Try.prog noPanic h12_7 X σ' w'
  have e9 := (e 9 (by omega)).trans t9
  have e0 := (e 0 (by omega)).trans t0
  have e3 := (e 3 (by omega)).trans t3
  have e5 := (e 5 (by omega)).trans t5
  have e7 := (e 7 (by omega)).trans t7
  have e8 := (e 8 (by omega)).trans t8
  unfold h12_7
  try simp only [go_sem, ↓reduceIte, Nat.reduceEqDiff, Nat.reduceAdd, Nat.reduceLT, List.length_cons, List.length_nil, List.getElem?_cons_zero, List.getElem?_cons_succ, Nat.mul_one, Bool.true_eq_false, Bool.false_eq_true, false_implies, true_implies, Bool.not_true, Bool.not_false, decide_true, decide_false, Int.reduceToNat, Int.cast_ofNat_Int, Int.reduceLT, Int.reduceLE, Int.reduceEq, Int.reduceNeg, eq_self, Option.isNone_some, Option.isNone_none, Bool.bne_false, Bool.bne_true, e9]
  rw [w64 (by omega) (by omega)]
  exact k _ _ _ _ T' e0 e3 e5 e7 e8 rfl

theorem jlists4 {al : List Deed} {gb o c i p q : Nat} {L : Lg} {v7 : Value} {w1 : World} {τ : Env} {X : HX → Env → World → Prop} (hi : i < al.length) (hl : Sl w (.slice (some ⟨gb, o, none⟩) al.length c) 5 al.length (rows Deed.cells al)) (ha : ∀ a ∈ al, a.OK w) (hn : al.length ≤ 30) (hf : ∀ a ∈ al, a.few1 = true)
    (hT : Tr w w1 p q 0 L v7 (i * 1296) (i * 1400)) (t0 : τ 0 = .slice (some ⟨gb, o, none⟩) al.length c) (t3 : τ 3 = .bool true) (t5 : τ 5 = ptr q) (t7 : τ 7 = v7) (t8 : τ 8 = .int .i64 L.sure) (t9 : τ 9 = .int .i64 i)
    (k : ∀ σ' w' L' v', Tr w w' p q 0 L' v' ((i + 1) * 1296) ((i + 1) * 1400) → σ' 0 = .slice (some ⟨gb, o, none⟩) al.length c → σ' 3 = .bool true → σ' 5 = ptr q → σ' 7 = v' → σ' 8 = .int .i64 L'.sure → σ' 9 = .int .i64 ((i + 1 : Nat) : Int) → X .normal σ' w') :
    hw Try.prog noPanic h12_4 X τ w1 := by
  obtain ⟨F, S, d, h, hat, own7, hap, hend, hb, hq⟩ := hT
  obtain ⟨gb', o', c', hva, hA⟩ := deed_at hl hi
  simp only [Value.slice.injEq, Option.some.injEq, Addr.mk.injEq] at hva
  obtain ⟨⟨rfl, rfl, -⟩, -, rfl⟩ := hva
  obtain ⟨x0, xs, x1, x2, x3⟩ := hA w1 h.m
  have hmem := List.getElem_mem hi
  have hok := (ha _ hmem).mod0 h.m
  have hfe := Deed.few1_le (hf _ hmem)
  have hone := Deed.one (ha _ hmem)
  generalize al[i] = a at *
  obtain ⟨hf1, hf2, hf3, hf4, hf5⟩ := hfe
  unfold h12_4
  try simp only [go_sem, ↓reduceIte, Nat.reduceEqDiff, Nat.reduceAdd, Nat.reduceLT, List.length_cons, List.length_nil, List.getElem?_cons_zero, List.getElem?_cons_succ, Nat.mul_one, Bool.true_eq_false, Bool.false_eq_true, false_implies, true_implies, Bool.not_true, Bool.not_false, decide_true, decide_false, Int.reduceToNat, Int.cast_ofNat_Int, Int.reduceLT, Int.reduceLE, Int.reduceEq, Int.reduceNeg, eq_self, Option.isNone_some, Option.isNone_none, Bool.bne_false, Bool.bne_true, t0, t9, x0]
  refine ⟨⟨by omega, by omega⟩, xs, ?_⟩
  refine alloc_ (z := .agg #[.int .i64 0, str [], .slice none 0 0, .slice none 0 0, .int .i64 0]) (cs := [.int .i64 0, str [], .slice none 0 0, .slice none 0 0, .int .i64 0]) (by kernel_rfl) rfl ?_
  intro b2 w2 hb2 blk2 m2 hs2
  refine storeN (n := 5) (vs := a.cells) (by kernel_rfl) rfl blk2 (by simp) hone ?_
  intro w3 blk3 m3 hs3
  have m13 : Mod none' w1 w3 := m2.trans m3 fun k hk (e : k = b2) => by omega
  simp only [List.take_zero, List.nil_append, Nat.zero_add, List.drop_of_length_le (show ([Value.int IntKind.i64 0, str [], .slice none 0 0, .slice none 0 0, .int .i64 0] : List Value).length ≤ 5 by simp), List.append_nil] at blk3
  have y0 : w3.cell? ⟨b2, 0, none⟩ = some (.int .i64 a.Do) := by rw [blk3.cell]; rfl
  have y1 : w3.cell? ⟨b2, 1, none⟩ = some (str a.Row) := by rw [blk3.cell]; rfl
  have y2 : w3.cell? ⟨b2, 2, none⟩ = some a.rv := by rw [blk3.cell]; rfl
  have h3 := h.mod0 m13
  have own3 := own7.mod m13 fun _ _ h => h
  have hw3 := h3.m.size
  have hB3 : ∀ k, (v7.ownBlock = some k ∨ k = b2) → k < w3.heap.size := fun k hk => by
    rcases hk with hk | rfl
    · exact own3.lt k hk
    · omega
  have hA3 : ∀ k, (v7.ownBlock = some k ∨ k = b2) → ¬ F.R k ∧ ¬ S k := fun k hk => by
    rcases hk with hk | rfl
    · exact (hap k hk).2
    · exact ⟨fun hR => by have := h.dr.lt k hR; omega, fun hS => by have := h.lg.lt k hS; omega⟩
  have g3 := h3.base hA3 hw3 hB3
  have hr3 := hok.r.mod m13 fun _ _ h => h
  obtain ⟨t, ht⟩ := and_i64 a.Do 7
  try simp only [go_sem, ↓reduceIte, Nat.reduceEqDiff, Nat.reduceAdd, Nat.reduceLT, List.length_cons, List.length_nil, List.getElem?_cons_zero, List.getElem?_cons_succ, Nat.mul_one, Bool.true_eq_false, Bool.false_eq_true, false_implies, true_implies, Bool.not_true, Bool.not_false, decide_true, decide_false, Int.reduceToNat, Int.cast_ofNat_Int, Int.reduceLT, Int.reduceLE, Int.reduceEq, Int.reduceNeg, eq_self, Option.isNone_some, Option.isNone_none, Bool.bne_false, Bool.bne_true, t0, t3, t5, t7, t8, t9, y0, ht]
  obtain ⟨va, vc, rfl, -⟩ := own7.form
  have lr := fun hn => (ha a hmem).r.lt (by omega) hn
  have nF : ∀ k, k < w.heap.size → ¬ F.R k := fun k hk hR => by have := h.f0 k hR; omega
  have hlrows := formsB_rows a.rows
  have hrr := h.lg.rb
  have hbd := h.lg.bd
  have bb : ∀ {w4 : World} {F4 : FP} {S4 : Nat → Prop}, (∀ k, ((Value.slice va L.rows.length vc).ownBlock = some k ∨ k = b2) → ¬ F4.R k ∧ ¬ S4 k) → Mod (fun k => ¬ (k < w.heap.size ∨ ((Value.slice va L.rows.length vc).ownBlock = some k ∨ k = b2))) w3 w4 →
      Apart w (.slice va L.rows.length vc) F4 S4 ∧ Own w4 (.slice va L.rows.length vc) 9 1 L.rows.length (L.rows.map str) ∧ w4.cell? ⟨b2, 1, none⟩ = some (str a.Row) ∧ w4.cell? ⟨b2, 2, none⟩ = some a.rv ∧ Sl w4 a.rv 1 a.rows.length (a.rows.map str) := by
    intro w4 F4 S4 ha4 m4
    exact ⟨fun k hk => ⟨(hap k hk).1, ha4 k (.inl hk)⟩, own3.mod m4 fun k hk h => h (.inr (.inl hk)), m4.cell y1 fun h => h (.inr (.inr rfl)), m4.cell y2 fun h => h (.inr (.inr rfl)), hr3.mod' m4 fun hn k hk h => h (.inl (lr hn k hk))⟩
  refine ⟨fun c3 => ?_, fun c3 => ?_⟩
  · refine gflushJ_ g3 (by omega) ?_
    intro w4 ⟨F4, S4, g4⟩
    obtain ⟨e1, e2, e3⟩ := hat.flushJ (f := 0) (by omega) L
    rw [e2] at g4
    obtain ⟨h4, ap4, m4⟩ := g4.back h3.m
    obtain ⟨ap4, own4, -, -, -⟩ := bb ap4 m4
    have hq4 := flushJ_queue d L 0
    rw [e1]
    try simp only [go_sem, ↓reduceIte, Nat.reduceEqDiff, Nat.reduceAdd, Nat.reduceLT, List.length_cons, List.length_nil, List.getElem?_cons_zero, List.getElem?_cons_succ, Nat.mul_one, Bool.true_eq_false, Bool.false_eq_true, false_implies, true_implies, Bool.not_true, Bool.not_false, decide_true, decide_false, Int.reduceToNat, Int.cast_ofNat_Int, Int.reduceLT, Int.reduceLE, Int.reduceEq, Int.reduceNeg, eq_self, Option.isNone_some, Option.isNone_none, Bool.bne_false, Bool.bne_true, t0, t3, t5, t7, t8, t9]
    exact jlists67 (L := ⟨L.rows, L.rows.length, L.end_⟩) ⟨F4, S4, _, h4, e3, own4, ap4, hend, by dsimp only; omega, by omega⟩ (by omega) t0 t3 t5 rfl t7 rfl t9 k
  refine ⟨fun c4 => ?_, fun c4 => ?_⟩
  · try simp only [go_sem, ↓reduceIte, Nat.reduceEqDiff, Nat.reduceAdd, Nat.reduceLT, List.length_cons, List.length_nil, List.getElem?_cons_zero, List.getElem?_cons_succ, Nat.mul_one, Bool.true_eq_false, Bool.false_eq_true, false_implies, true_implies, Bool.not_true, Bool.not_false, decide_true, decide_false, Int.reduceToNat, Int.cast_ofNat_Int, Int.reduceLT, Int.reduceLE, Int.reduceEq, Int.reduceNeg, eq_self, Option.isNone_some, Option.isNone_none, Bool.bne_false, Bool.bne_true, t0, t3, t5, t7, t8, t9, y2]
    refine gbatch_ g3 hr3 (fun hn k hk => nF k (lr hn k hk)) (by omega) ?_
    intro w4 ⟨F4, S4, g4⟩
    obtain ⟨e1, e2, e3⟩ := hat.batch (f := 0) (by omega) L a.rows (by omega)
    rw [e2] at g4
    obtain ⟨h4, ap4, m4⟩ := g4.back h3.m
    obtain ⟨ap4, own4, -, z2, hr4⟩ := bb ap4 m4
    have hq4 := batchJ_queue d L 0 a.rows
    rw [e1]
    try simp only [go_sem, ↓reduceIte, Nat.reduceEqDiff, Nat.reduceAdd, Nat.reduceLT, List.length_cons, List.length_nil, List.getElem?_cons_zero, List.getElem?_cons_succ, Nat.mul_one, Bool.true_eq_false, Bool.false_eq_true, false_implies, true_implies, Bool.not_true, Bool.not_false, decide_true, decide_false, Int.reduceToNat, Int.cast_ofNat_Int, Int.reduceLT, Int.reduceLE, Int.reduceEq, Int.reduceNeg, eq_self, Option.isNone_some, Option.isNone_none, Bool.bne_false, Bool.bne_true, t0, t3, t5, t7, t8, t9, z2]
    refine append_ sl40 own4 hr4 (by intro u hu; obtain ⟨x, -, rfl⟩ := List.mem_map.1 hu; rfl) (by omega) (by unfold maxLen; omega) ?_
    intro v5 w5 own5 m5 hv5 _
    have h5 := h4.held ap4 m5
    have ap5 := Apart.next h4 ap4 hv5
    rw [← List.length_append, ← List.map_append] at own5
    obtain ⟨va5, vc5, rfl, -⟩ := own5.form
    try simp only [go_sem, ↓reduceIte, Nat.reduceEqDiff, Nat.reduceAdd, Nat.reduceLT, List.length_cons, List.length_nil, List.getElem?_cons_zero, List.getElem?_cons_succ, Nat.mul_one, Bool.true_eq_false, Bool.false_eq_true, false_implies, true_implies, Bool.not_true, Bool.not_false, decide_true, decide_false, Int.reduceToNat, Int.cast_ofNat_Int, Int.reduceLT, Int.reduceLE, Int.reduceEq, Int.reduceNeg, eq_self, Option.isNone_some, Option.isNone_none, Bool.bne_false, Bool.bne_true, t0, t3, t5, t7, t8, t9]
    have hfa := formsB_app L.rows a.rows
    have hfl := congrArg List.length hfa
    rw [List.length_append] at hfl
    exact jlists67 (L := ⟨L.rows ++ a.rows, (L.rows ++ a.rows).length, L.end_ + (formsB a.rows).length⟩) ⟨F4, S4, _, h5, e3, own5, ap5, by dsimp only; omega, by dsimp only; omega, by omega⟩ (by omega) t0 t3 t5 rfl rfl rfl t9 k
  refine ⟨fun c5 => ?_, fun c5 => ?_⟩
  · try simp only [go_sem, ↓reduceIte, Nat.reduceEqDiff, Nat.reduceAdd, Nat.reduceLT, List.length_cons, List.length_nil, List.getElem?_cons_zero, List.getElem?_cons_succ, Nat.mul_one, Bool.true_eq_false, Bool.false_eq_true, false_implies, true_implies, Bool.not_true, Bool.not_false, decide_true, decide_false, Int.reduceToNat, Int.cast_ofNat_Int, Int.reduceLT, Int.reduceLE, Int.reduceEq, Int.reduceNeg, eq_self, Option.isNone_some, Option.isNone_none, Bool.bne_false, Bool.bne_true, t0, t3, t5, t7, t8, t9, y2]
    refine grewrite_ g3 (by omega) hr3 (fun hn k hk => ⟨nF k (lr hn k hk), by have := lr hn k hk; omega⟩) (by omega) ?_
    intro w4 ⟨F4, S4, g4⟩
    obtain ⟨e1, e3⟩ := hat.rewr (f := 0) (by omega) a.rows (by omega)
    have e2 : (rewriteJ d L 0 a.rows).2.1 = ⟨a.rows, a.rows.length, 16 + (formsB a.rows).length⟩ := if_pos e1
    have e4 : (rewriteJ d L 0 a.rows).2.2 = 0 := e1
    rw [e2] at g4
    obtain ⟨h4, ap4, m4⟩ := g4.back h3.m
    obtain ⟨ap4, own4, -, z2, hr4⟩ := bb ap4 m4
    have hq4 := rewr_queue d 0 a.rows
    rw [e4]
    try simp only [go_sem, ↓reduceIte, Nat.reduceEqDiff, Nat.reduceAdd, Nat.reduceLT, List.length_cons, List.length_nil, List.getElem?_cons_zero, List.getElem?_cons_succ, Nat.mul_one, Bool.true_eq_false, Bool.false_eq_true, false_implies, true_implies, Bool.not_true, Bool.not_false, decide_true, decide_false, Int.reduceToNat, Int.cast_ofNat_Int, Int.reduceLT, Int.reduceLE, Int.reduceEq, Int.reduceNeg, eq_self, Option.isNone_some, Option.isNone_none, Bool.bne_false, Bool.bne_true, t0, t3, t5, t7, t8, t9, z2]
    refine bsl0 sl40 ?_
    intro b5 w5 hb5 own5 m5 hs5
    have z5 := m5.cell z2 fun h => h
    have h5 := h4.mod0 m5
    have ap5 : Apart w (.slice (some ⟨b5, 0, none⟩) 0 0) F4 S4 := fun k hk => by
      have e : b5 = k := by simpa [Value.ownBlock] using hk
      have := h4.m.size
      exact ⟨by omega, fun hR => by have := h4.dr.lt k hR; omega, fun hS => by have := h4.lg.lt k hS; omega⟩
    try simp only [go_sem, ↓reduceIte, Nat.reduceEqDiff, Nat.reduceAdd, Nat.reduceLT, List.length_cons, List.length_nil, List.getElem?_cons_zero, List.getElem?_cons_succ, Nat.mul_one, Bool.true_eq_false, Bool.false_eq_true, false_implies, true_implies, Bool.not_true, Bool.not_false, decide_true, decide_false, Int.reduceToNat, Int.cast_ofNat_Int, Int.reduceLT, Int.reduceLE, Int.reduceEq, Int.reduceNeg, eq_self, Option.isNone_some, Option.isNone_none, Bool.bne_false, Bool.bne_true, t0, t3, t5, t7, t8, t9, z5]
    refine append_ sl40 (xs := []) own5 (hr4.mod m5 fun _ _ h => h) (by intro u hu; obtain ⟨x, -, rfl⟩ := List.mem_map.1 hu; rfl) (by omega) (by unfold maxLen; omega) ?_
    intro v6 w6 own6 m6 hv6 _
    rw [Nat.zero_add, List.nil_append] at own6
    have h6 := h5.held ap5 m6
    have ap6 := Apart.next h5 ap5 hv6
    obtain ⟨va6, vc6, rfl, -⟩ := own6.form
    try simp only [go_sem, ↓reduceIte, Nat.reduceEqDiff, Nat.reduceAdd, Nat.reduceLT, List.length_cons, List.length_nil, List.getElem?_cons_zero, List.getElem?_cons_succ, Nat.mul_one, Bool.true_eq_false, Bool.false_eq_true, false_implies, true_implies, Bool.not_true, Bool.not_false, decide_true, decide_false, Int.reduceToNat, Int.cast_ofNat_Int, Int.reduceLT, Int.reduceLE, Int.reduceEq, Int.reduceNeg, eq_self, Option.isNone_some, Option.isNone_none, Bool.bne_false, Bool.bne_true, t0, t3, t5, t7, t8, t9]
    exact jlists67 (L := ⟨a.rows, a.rows.length, 16 + (formsB a.rows).length⟩) ⟨F4, S4, _, h6, e3, own6, ap6, rfl, by dsimp only; omega, by show (rewr d 0 a.rows).1.queue.length ≤ _; omega⟩ (by omega) t0 t3 t5 rfl rfl rfl t9 k
  have T3 : Tr w w3 p q 0 L (.slice va L.rows.length vc) ((i + 1) * 1296) ((i + 1) * 1400) := ⟨F, S, d, h3, hat, own3, hap, hend, by omega, by omega⟩
  refine ⟨fun c6 => ?_, fun c6 => ?_⟩
  · unfold h12_5
    have c6 : t = 6 := by simpa using c6
    try simp only [go_sem, ↓reduceIte, Nat.reduceEqDiff, Nat.reduceAdd, Nat.reduceLT, List.length_cons, List.length_nil, List.getElem?_cons_zero, List.getElem?_cons_succ, Nat.mul_one, Bool.true_eq_false, Bool.false_eq_true, false_implies, true_implies, Bool.not_true, Bool.not_false, decide_true, decide_false, Int.reduceToNat, Int.cast_ofNat_Int, Int.reduceLT, Int.reduceLE, Int.reduceEq, Int.reduceNeg, eq_self, Option.isNone_some, Option.isNone_none, Bool.bne_false, Bool.bne_true, t0, t3, t5, t7, t8, t9, c6]
    exact jlists67 T3 (by omega) t0 t3 t5 rfl t7 t8 t9 k
  unfold h12_5
  try simp only [go_sem, ↓reduceIte, Nat.reduceEqDiff, Nat.reduceAdd, Nat.reduceLT, List.length_cons, List.length_nil, List.getElem?_cons_zero, List.getElem?_cons_succ, Nat.mul_one, Bool.true_eq_false, Bool.false_eq_true, false_implies, true_implies, Bool.not_true, Bool.not_false, decide_true, decide_false, Int.reduceToNat, Int.cast_ofNat_Int, Int.reduceLT, Int.reduceLE, Int.reduceEq, Int.reduceNeg, eq_self, Option.isNone_some, Option.isNone_none, Bool.bne_false, Bool.bne_true, t0, t3, t5, t7, t8, t9, y1]
  refine ⟨fun c7 => ?_, fun c7 => ?_⟩
  · exact jlists67 T3 (by omega) t0 t3 t5 rfl t7 t8 t9 k
  have hf1' : (formsB [a.Row]).length = 16 + a.Row.length := by simp [formsB, formB_len]
  refine gappend1_ g3 (by omega) ?_
  intro w4 ⟨F4, S4, g4⟩
  obtain ⟨e1, e3⟩ := hat.add (f := 0) (by omega) L [a.Row] (by omega)
  rw [if_pos e1] at g4
  obtain ⟨h4, ap4, m4⟩ := g4.back h3.m
  obtain ⟨ap4, own4, z1, -, -⟩ := bb ap4 m4
  have hq4 := addJ_queue d L 0 [a.Row]
  rw [e1]
  try simp only [go_sem, ↓reduceIte, Nat.reduceEqDiff, Nat.reduceAdd, Nat.reduceLT, List.length_cons, List.length_nil, List.getElem?_cons_zero, List.getElem?_cons_succ, Nat.mul_one, Bool.true_eq_false, Bool.false_eq_true, false_implies, true_implies, Bool.not_true, Bool.not_false, decide_true, decide_false, Int.reduceToNat, Int.cast_ofNat_Int, Int.reduceLT, Int.reduceLE, Int.reduceEq, Int.reduceNeg, eq_self, Option.isNone_some, Option.isNone_none, Bool.bne_false, Bool.bne_true, t0, t3, t5, t7, t8, t9, z1]
  refine bsl1 sl40 (cs := [str a.Row]) rfl rfl (by omega) ?_
  intro b5 w5 hb5 own5 _ m5 hs5
  have h5 := h4.mod0 m5
  try simp only [go_sem, ↓reduceIte, Nat.reduceEqDiff, Nat.reduceAdd, Nat.reduceLT, List.length_cons, List.length_nil, List.getElem?_cons_zero, List.getElem?_cons_succ, Nat.mul_one, Bool.true_eq_false, Bool.false_eq_true, false_implies, true_implies, Bool.not_true, Bool.not_false, decide_true, decide_false, Int.reduceToNat, Int.cast_ofNat_Int, Int.reduceLT, Int.reduceLE, Int.reduceEq, Int.reduceNeg, eq_self, Option.isNone_some, Option.isNone_none, Bool.bne_false, Bool.bne_true, t0, t3, t5, t7, t8, t9]
  refine append_ sl40 (own4.mod m5 fun _ _ h => h) own5.sl (by intro u hu; rw [List.mem_singleton.1 hu]; rfl) (by omega) (by unfold maxLen; omega) ?_
  intro v6 w6 own6 m6 hv6 _
  have e6 : L.rows.map str ++ [str a.Row] = (L.rows ++ [a.Row]).map str := by simp
  have e7 : L.rows.length + 1 = (L.rows ++ [a.Row]).length := by simp
  rw [e6, e7] at own6
  have h6 := h5.held ap4 m6
  have ap6 := Apart.next h5 ap4 hv6
  have hfa := formsB_app L.rows [a.Row]
  have hfl := congrArg List.length hfa
  rw [List.length_append] at hfl
  try simp only [go_sem, ↓reduceIte, Nat.reduceEqDiff, Nat.reduceAdd, Nat.reduceLT, List.length_cons, List.length_nil, List.getElem?_cons_zero, List.getElem?_cons_succ, Nat.mul_one, Bool.true_eq_false, Bool.false_eq_true, false_implies, true_implies, Bool.not_true, Bool.not_false, decide_true, decide_false, Int.reduceToNat, Int.cast_ofNat_Int, Int.reduceLT, Int.reduceLE, Int.reduceEq, Int.reduceNeg, eq_self, Option.isNone_some, Option.isNone_none, Bool.bne_false, Bool.bne_true, t0, t3, t5, t7, t8, t9]
  exact jlists67 (L := L.add [a.Row]) ⟨F4, S4, _, h6, e3, own6, ap6, by show L.end_ + (formsB [a.Row]).length = 16 + (formsB (L.rows ++ [a.Row])).length; omega, by show (formsB (L.rows ++ [a.Row])).length ≤ _; omega, by omega⟩ (by omega) t0 t3 t5 rfl rfl t8 t9 k

theorem jlists_ {v : Value} {al : List Deed} (hl : Sl w v 5 al.length (rows Deed.cells al)) (ha : ∀ a ∈ al, a.OK w) (k : ∀ w', Mod none' w w' → next (.bool true) w') : callK Try.prog 12 [v] w next QP := by
  refine q12 rfl ?_
  unfold h12
  try simp only [go_sem, ↓reduceIte, Nat.reduceEqDiff, Nat.reduceAdd, Nat.reduceLT, List.length_cons, List.length_nil, List.getElem?_cons_zero, List.getElem?_cons_succ, Nat.mul_one, Bool.true_eq_false, Bool.false_eq_true, false_implies, true_implies, Bool.not_true, Bool.not_false, decide_true, decide_false, Int.reduceToNat, Int.cast_ofNat_Int, Int.reduceLT, Int.reduceLE, Int.reduceEq, Int.reduceNeg, eq_self, Option.isNone_some, Option.isNone_none, Bool.bne_false, Bool.bne_true]
  refine jsmall_ ?_
  intro w1 m1
  try simp only [go_sem, ↓reduceIte, Nat.reduceEqDiff, Nat.reduceAdd, Nat.reduceLT, List.length_cons, List.length_nil, List.getElem?_cons_zero, List.getElem?_cons_succ, Nat.mul_one, Bool.true_eq_false, Bool.false_eq_true, false_implies, true_implies, Bool.not_true, Bool.not_false, decide_true, decide_false, Int.reduceToNat, Int.cast_ofNat_Int, Int.reduceLT, Int.reduceLE, Int.reduceEq, Int.reduceNeg, eq_self, Option.isNone_some, Option.isNone_none, Bool.bne_false, Bool.bne_true]
  refine fewJ_ (hl.mod m1 fun _ _ h => h) (fun a h => (ha a h).mod0 m1) ?_
  try simp only [go_sem, ↓reduceIte, Nat.reduceEqDiff, Nat.reduceAdd, Nat.reduceLT, List.length_cons, List.length_nil, List.getElem?_cons_zero, List.getElem?_cons_succ, Nat.mul_one, Bool.true_eq_false, Bool.false_eq_true, false_implies, true_implies, Bool.not_true, Bool.not_false, decide_true, decide_false, Int.reduceToNat, Int.cast_ofNat_Int, Int.reduceLT, Int.reduceLE, Int.reduceEq, Int.reduceNeg, eq_self, Option.isNone_some, Option.isNone_none, Bool.bne_false, Bool.bne_true]
  refine ⟨fun _ => k _ m1, fun hf => ?_⟩
  have hf : fewJ al = true := by simpa using hf
  simp only [fewJ, Bool.and_eq_true, decide_eq_true_eq, List.all_eq_true] at hf
  unfold h12_1
  try simp only [go_sem, ↓reduceIte, Nat.reduceEqDiff, Nat.reduceAdd, Nat.reduceLT, List.length_cons, List.length_nil, List.getElem?_cons_zero, List.getElem?_cons_succ, Nat.mul_one, Bool.true_eq_false, Bool.false_eq_true, false_implies, true_implies, Bool.not_true, Bool.not_false, decide_true, decide_false, Int.reduceToNat, Int.cast_ofNat_Int, Int.reduceLT, Int.reduceLE, Int.reduceEq, Int.reduceNeg, eq_self, Option.isNone_some, Option.isNone_none, Bool.bne_false, Bool.bne_true]
  refine jnew_ ?_
  intro p w3 F3 dr3 f3 m3
  have s1 := m1.size
  try simp only [go_sem, ↓reduceIte, Nat.reduceEqDiff, Nat.reduceAdd, Nat.reduceLT, List.length_cons, List.length_nil, List.getElem?_cons_zero, List.getElem?_cons_succ, Nat.mul_one, Bool.true_eq_false, Bool.false_eq_true, false_implies, true_implies, Bool.not_true, Bool.not_false, decide_true, decide_false, Int.reduceToNat, Int.cast_ofNat_Int, Int.reduceLT, Int.reduceLE, Int.reduceEq, Int.reduceNeg, eq_self, Option.isNone_some, Option.isNone_none, Bool.bne_false, Bool.bne_true]
  refine jopen_ (g := 0) dr3 (fun k hk => by have := f3 k hk; omega) (m1.trans' m3) rfl (by omega) rfl (openB_core (s := []) .nil (by decide)) ?_
  intro q4 w4 S4 h4 m4
  try simp only [go_sem, ↓reduceIte, Nat.reduceEqDiff, Nat.reduceAdd, Nat.reduceLT, List.length_cons, List.length_nil, List.getElem?_cons_zero, List.getElem?_cons_succ, Nat.mul_one, Bool.true_eq_false, Bool.false_eq_true, false_implies, true_implies, Bool.not_true, Bool.not_false, decide_true, decide_false, Int.reduceToNat, Int.cast_ofNat_Int, Int.reduceLT, Int.reduceLE, Int.reduceEq, Int.reduceNeg, eq_self, Option.isNone_some, Option.isNone_none, Bool.bne_false, Bool.bne_true]
  unfold h12_2
  try simp only [go_sem, ↓reduceIte, Nat.reduceEqDiff, Nat.reduceAdd, Nat.reduceLT, List.length_cons, List.length_nil, List.getElem?_cons_zero, List.getElem?_cons_succ, Nat.mul_one, Bool.true_eq_false, Bool.false_eq_true, false_implies, true_implies, Bool.not_true, Bool.not_false, decide_true, decide_false, Int.reduceToNat, Int.cast_ofNat_Int, Int.reduceLT, Int.reduceLE, Int.reduceEq, Int.reduceNeg, eq_self, Option.isNone_some, Option.isNone_none, Bool.bne_false, Bool.bne_true]
  obtain ⟨va, vc, rfl, -, hvc⟩ := hl.form
  refine loopN al.length (fun i τ w' => ∃ L v7, Tr w w' p q4 0 L v7 (i * 1296) (i * 1400) ∧ τ 0 = .slice va al.length vc ∧ τ 3 = .bool true ∧ τ 5 = ptr q4 ∧ τ 7 = v7 ∧ τ 8 = .int .i64 L.sure ∧ τ 9 = .int .i64 i)
    ⟨0, by omega, ⟨[], 0, 16⟩, .slice none 0 0, ⟨F3, S4, Dk.new, h4, at_new, Own.nil _ _ _, (by intro k hk; exact nomatch (hk : none = some k)), rfl, Nat.le_refl _, Nat.le_refl _⟩, rfl, rfl, rfl, rfl, rfl, rfl⟩ ?_
  rintro i τ w5 hi ⟨L, v7, hT, t0, t3, t5, t7, t8, t9⟩
  unfold h12_3
  try simp only [go_sem, ↓reduceIte, Nat.reduceEqDiff, Nat.reduceAdd, Nat.reduceLT, List.length_cons, List.length_nil, List.getElem?_cons_zero, List.getElem?_cons_succ, Nat.mul_one, Bool.true_eq_false, Bool.false_eq_true, false_implies, true_implies, Bool.not_true, Bool.not_false, decide_true, decide_false, Int.reduceToNat, Int.cast_ofNat_Int, Int.reduceLT, Int.reduceLE, Int.reduceEq, Int.reduceNeg, eq_self, Option.isNone_some, Option.isNone_none, Bool.bne_false, Bool.bne_true, t0, t9]
  refine ⟨fun hlt => ?_, fun hge => ?_⟩
  · have hil : i < al.length := by
      have : (i : Int) < al.length := by simpa using hlt
      omega
    obtain ⟨gb, o, rfl, -⟩ := hvc (by omega)
    refine jlists4 hil hl ha hf.1 hf.2 hT t0 t3 t5 t7 t8 t9 ?_
    intro σ' w' L' v' T' x0 x3 x5 x7 x8 x9
    exact ⟨i + 1, by omega, by omega, L', v', T', x0, x3, x5, x7, x8, x9⟩
  · unfold h12_8
    try simp only [go_sem, ↓reduceIte, Nat.reduceEqDiff, Nat.reduceAdd, Nat.reduceLT, List.length_cons, List.length_nil, List.getElem?_cons_zero, List.getElem?_cons_succ, Nat.mul_one, Bool.true_eq_false, Bool.false_eq_true, false_implies, true_implies, Bool.not_true, Bool.not_false, decide_true, decide_false, Int.reduceToNat, Int.cast_ofNat_Int, Int.reduceLT, Int.reduceLE, Int.reduceEq, Int.reduceNeg, eq_self, Option.isNone_some, Option.isNone_none, Bool.bne_false, Bool.bne_true, t3]
    obtain ⟨F, S, d, h, -⟩ := hT
    exact k _ h.m
end
end Go.Proofs.Y

/- JW: plain laws: a byte changed is found. -/
namespace Go.Proofs.Y
open Go Go.HL

def valU (s : Bytes) : Nat → Int
  | 0 => 0
  | k + 1 => valU s k * 256 + valAt s (7 - k)
theorem valAt_range (s : Bytes) (i : Nat) : 0 ≤ valAt s i ∧ valAt s i < 256 := by
  unfold valAt
  have := ((s[i]?).getD 0).toNat_lt
  omega
theorem wr_wr (x b : Int) : wr (wr x * 256 + b) = wr (x * 256 + b) := by
  simp only [wr, wrap_i64]; omega
theorem valU_from (s : Bytes) : ∀ k, valFrom s k = wr (valU s k)
  | 0 => by simp [valFrom, valU, wr, wrap_i64]
  | k + 1 => by
    show wr (valFrom s k * 256 + valAt s (7 - k)) = wr (valU s k * 256 + valAt s (7 - k))
    rw [valU_from s k, wr_wr]
theorem valU_range (s : Bytes) : ∀ k, 0 ≤ valU s k ∧ valU s k < 256 ^ k
  | 0 => by simp [valU]
  | k + 1 => by
    have ih := valU_range s k
    have hb := valAt_range s (7 - k)
    have hp : (256 : Int) ^ (k + 1) = 256 ^ k * 256 := Int.pow_succ ..
    simp only [valU]
    omega
theorem valU_inj (s t : Bytes) : ∀ k, k ≤ 8 → valU s k = valU t k → ∀ i, 8 - k ≤ i → i < 8 → valAt s i = valAt t i
  | 0, _, _, i, h1, h2 => by omega
  | k + 1, hk, h, i, h1, h2 => by
    have hb := valAt_range s (7 - k)
    have hc := valAt_range t (7 - k)
    simp only [valU] at h
    by_cases hi : i = 7 - k
    · subst hi; omega
    · exact valU_inj s t k (by omega) (by omega) i (by omega) h2
theorem val_inj {s t : Bytes} (h : val s = val t) : ∀ i, i < 8 → valAt s i = valAt t i := by
  have h1 := valU_range s 8
  have h2 := valU_range t 8
  unfold val at h
  rw [valU_from, valU_from, wr, wr, wrap_i64, wrap_i64] at h
  intro i hi
  exact valU_inj s t 8 (by omega) (by omega) i (by omega) hi
theorem valAt_set {s : Bytes} {i j : Nat} {b : UInt8} : valAt (s.set i b) j = if i = j ∧ j < s.length then (b.toNat : Int) else valAt s j := by
  unfold valAt
  rw [List.getElem?_set]
  by_cases h : i = j
  · subst h
    by_cases hl : i < s.length
    · simp [hl]
    · simp [hl]
  · simp [h]
theorem val_changed {s : Bytes} {i : Nat} {b : UInt8} (hi : i < 8) (hl : i < s.length) (hb : s[i] ≠ b) : val (s.set i b) ≠ val s := by
  intro h
  have := val_inj h i hi
  rw [valAt_set, if_pos ⟨rfl, hl⟩] at this
  unfold valAt at this
  rw [List.getElem?_eq_getElem hl] at this
  simp only [Option.getD_some] at this
  exact hb (UInt8.toNat_inj.1 (by omega))
theorem val_eq_of {s t : Bytes} (h : ∀ i, i < 8 → s[i]? = t[i]?) : val s = val t := by
  have key : ∀ k, k ≤ 8 → valU s k = valU t k := by
    intro k
    induction k with
    | zero => intro _; rfl
    | succ k ih =>
      intro hk
      simp only [valU, ih (by omega), valAt, h (7 - k) (by omega)]
  unfold val
  rw [valU_from, valU_from, key 8 (by omega)]
theorem val_set_far {s : Bytes} {i : Nat} {b : UInt8} (hi : 8 ≤ i) : val (s.set i b) = val s := val_eq_of fun j hj => by rw [List.getElem?_set_ne (by omega)]
theorem val_zero_iff {s : Bytes} (h8 : 8 ≤ s.length) : val s = 0 ↔ s.take 8 = List.replicate 8 0 := by
  have hz : val (List.replicate 16 (0 : UInt8) ++ []) = 0 := val_zero []
  constructor
  · intro h
    have := val_inj (h.trans hz.symm)
    apply List.ext_getElem?
    intro i
    by_cases hi : i < 8
    · have h1 := this i hi
      unfold valAt at h1
      rw [List.getElem?_take_of_lt hi, List.getElem?_replicate, if_pos hi]
      rw [List.append_nil, List.getElem?_replicate, if_pos (by omega), List.getElem?_eq_getElem (by omega)] at h1
      simp only [Option.getD_some] at h1
      rw [List.getElem?_eq_getElem (by omega)]
      congr 1
      exact UInt8.toNat_inj.1 (by omega)
    · rw [List.getElem?_eq_none (by simp; omega), List.getElem?_eq_none (by simp; omega)]
  · intro h
    rw [← hz]
    refine val_eq_of fun i hi => ?_
    have := congrArg (fun l => l[i]?) h
    simp only [List.getElem?_take_of_lt hi] at this
    rw [this, List.append_nil, List.getElem?_replicate, List.getElem?_replicate, if_pos hi, if_pos (by omega)]

/-- rows ahead are read as they are -/
theorem splitB_app : ∀ (l : List Bytes) (x : Bytes), (∀ r ∈ l, r.length ≤ 1000000000) → splitB (formsB l ++ x) = (splitB x).map (l ++ ·)
  | [], x, _ => by simp [formsB]
  | r :: l, x, h => by
    have e : formsB (r :: l) ++ x = formB r ++ (formsB l ++ x) := by simp [formsB]
    have hl := formB_len r
    have hr := h r (List.mem_cons_self ..)
    have ih := splitB_app l x fun r hr => h r (List.mem_cons_of_mem _ hr)
    have hne : formB r ++ (formsB l ++ x) ≠ [] := by intro h; have := congrArg List.length h; simp [hl] at this
    rw [e, splitB, dif_neg hne, dif_neg (by rw [List.length_append, hl]; omega), val_form r (by omega), drop_form, val_form8, Int.toNat_natCast]
    have h1 : ¬ (((r.length : Nat) : Int) < 0 ∨ ((r ++ (formsB l ++ x)).length : Int) < ((r.length : Nat) : Int)) := by rw [List.length_append]; omega
    rw [if_neg h1, List.take_left, List.drop_left, if_neg (by simp), ih]
    cases splitB x <;> simp

/-- a row's form with a changed byte behind its length -/
theorem splitB_bad {r : Bytes} {k : Nat} {b : UInt8} (hr : r.length ≤ 1000000000) (hk : 8 ≤ k) (hl : k < (formB r).length) (hb : (formB r)[k] ≠ b) (t : Bytes) : splitB ((formB r).set k b ++ t) = none := by
  have hfl := formB_len r
  have hset : (formB r).set k b ++ t = (formB r ++ t).set k b := by rw [List.set_append, if_pos hl]
  have hk' : k < (formB r ++ t).length := by rw [List.length_append]; omega
  have hne : (formB r).set k b ++ t ≠ [] := by intro h; have := congrArg List.length h; simp [hfl] at this
  have hv : val ((formB r).set k b ++ t) = r.length := by rw [hset, val_set_far hk]; exact val_form r (by omega) t
  have hd16 : ((formB r).set k b ++ t).drop 16 = if k < 16 then r ++ t else (r ++ t).set (k - 16) b := by
    rw [hset, List.drop_set, drop_form]
  have hd8 : val (((formB r).set k b ++ t).drop 8) = if k < 16 then val (((formB r ++ t).drop 8).set (k - 8) b) else (crc r : Nat) := by
    rw [hset, List.drop_set, if_neg (by omega)]
    split
    · rfl
    · rw [val_set_far (by omega), val_form8]
  rw [splitB, dif_neg hne, dif_neg (by rw [List.length_append, List.length_set, hfl]; omega), hv, hd8, hd16, Int.toNat_natCast]
  have hln : (if k < 16 then r ++ t else (r ++ t).set (k - 16) b).length = r.length + t.length := by split <;> simp
  rw [if_neg (by rw [hln]; omega)]
  by_cases h16 : k < 16
  · simp only [if_pos h16, List.take_left]
    rw [if_pos]
    have hc := val_form8 r t
    intro he
    have hlt : k - 8 < ((formB r ++ t).drop 8).length := by rw [List.length_drop, List.length_append]; omega
    refine val_changed (s := (formB r ++ t).drop 8) (i := k - 8) (b := b) (by omega) hlt ?_ (by rw [← he, hc])
    rw [List.getElem_drop]
    have : 8 + (k - 8) = k := by omega
    simp only [this]
    rw [List.getElem_append_left hl]
    exact hb
  · simp only [if_neg h16]
    rw [if_pos]
    intro he
    have hkr : k - 16 < r.length := by omega
    have e2 : ((r ++ t).set (k - 16) b).take r.length = r.set (k - 16) b := by rw [List.set_append, if_pos hkr, List.take_left' (by simp)]
    rw [e2] at he
    refine crc_changed hkr ?_ (by exact_mod_cast he)
    have h3 := drop_form r []
    simp only [List.append_nil] at h3
    intro h4
    apply hb
    rw [← h4]
    have h5 : ((formB r).drop 16)[k - 16]? = r[k - 16]? := by rw [h3]
    rw [List.getElem?_drop, show 16 + (k - 16) = k by omega, List.getElem?_eq_getElem hl, List.getElem?_eq_getElem hkr] at h5
    exact Option.some.inj h5

/-- what is cut off is missed -/
theorem splitB_short : ∀ (rows : List Bytes) (m : Nat) (l : List Bytes), (∀ r ∈ rows, r.length ≤ 1000000000) → m < (formsB rows).length → splitB ((formsB rows).take m) = some l → l.length < rows.length
  | [], m, l, _, hm, _ => by simp [formsB] at hm
  | r :: rows, m, l, h, hm, hs => by
    have e : formsB (r :: rows) = formB r ++ formsB rows := by simp [formsB]
    have hl := formB_len r
    have hr := h r (List.mem_cons_self ..)
    rw [e] at hm hs
    rw [List.length_append, hl] at hm
    rw [splitB] at hs
    split at hs
    · simp at hs; subst hs; simp
    · rename_i h0
      have hm0 : m ≠ 0 := fun h => h0 (by rw [h, List.take_zero])
      split at hs
      · cases hs
      · rename_i h16
        rw [List.length_take, List.length_append, hl] at h16
        have hm16 : 16 ≤ m := by omega
        have hv : val ((formB r ++ formsB rows).take m) = r.length := by
          rw [← val_form r (by omega) (formsB rows)]
          exact val_eq_of fun i hi => List.getElem?_take_of_lt (by omega)
        have hv8 : val (((formB r ++ formsB rows).take m).drop 8) = (crc r : Nat) := by
          rw [← val_form8 r (formsB rows)]
          exact val_eq_of fun i hi => by rw [List.getElem?_drop, List.getElem?_drop, List.getElem?_take_of_lt (by omega)]
        have hd : ((formB r ++ formsB rows).take m).drop 16 = (r ++ formsB rows).take (m - 16) := by rw [List.drop_take, drop_form]
        rw [hv, hv8, hd, Int.toNat_natCast] at hs
        split at hs
        · cases hs
        · rename_i hlen
          rw [List.length_take, List.length_append] at hlen
          have hmr : r.length ≤ m - 16 := by omega
          have ht : ((r ++ formsB rows).take (m - 16)).take r.length = r := by rw [List.take_take, Nat.min_eq_left hmr, List.take_left]
          have hdd : ((r ++ formsB rows).take (m - 16)).drop r.length = (formsB rows).take (m - 16 - r.length) := by rw [List.drop_take, List.drop_left]
          rw [ht, hdd, if_neg (by simp)] at hs
          obtain ⟨l', hl', rfl⟩ := Option.map_eq_some_iff.1 hs
          have := splitB_short rows (m - 16 - r.length) l' (fun r hr => h r (List.mem_cons_of_mem _ hr)) (by omega) hl'
          simp only [List.length_cons]; omega

/-- where the form of row i begins in the file -/
def beginOf (rows : List Bytes) (i : Nat) : Nat := 16 + (formsB (rows.take i)).length
theorem row_at : ∀ (rows : List Bytes) (k : Nat), k < (formsB rows).length → ∃ i, ∃ hi : i < rows.length, (formsB (rows.take i)).length ≤ k ∧ k < (formsB (rows.take i)).length + 16 + rows[i].length
  | [], k, h => by simp [formsB] at h
  | r :: rows, k, h => by
    have hl := formB_len r
    have e : ∀ l, formsB (r :: l) = formB r ++ formsB l := fun l => by simp [formsB]
    rw [e, List.length_append, hl] at h
    by_cases hk : k < 16 + r.length
    · exact ⟨0, by simp, by simp [formsB], by simp [formsB]; omega⟩
    · obtain ⟨i, hi, h1, h2⟩ := row_at rows (k - (16 + r.length)) (by omega)
      refine ⟨i + 1, by simpa using hi, ?_, ?_⟩
      · rw [List.take_succ_cons, e, List.length_append, hl]; omega
      · rw [List.take_succ_cons, e, List.length_append, hl, List.getElem_cons_succ]; omega

theorem image_len (rows : List Bytes) : (image rows).length = 16 + (formsB rows).length := by
  unfold image; rw [List.length_append, header_len]
theorem image_val (rows : List Bytes) (h : (formsB rows).length ≤ 1000000) : val (image rows) = (16 + (formsB rows).length : Nat) := by
  unfold image header
  rw [List.append_assoc]
  exact val_num (by omega) (by omega) _
theorem image_val8 (rows : List Bytes) (h : (formsB rows).length ≤ 1000000) : val ((image rows).drop 8) = rows.length := by
  have hfr := formsB_rows rows
  unfold image header
  rw [List.append_assoc, List.drop_append_of_le_length (by rw [num_len]; exact Nat.le_refl _), List.drop_of_length_le (by rw [num_len]; exact Nat.le_refl _), List.nil_append]
  exact val_num (by omega) (by omega) _
theorem image_drop (rows : List Bytes) : (image rows).drop 16 = formsB rows := by
  unfold image
  rw [List.drop_append_of_le_length (by rw [header_len]; exact Nat.le_refl _), List.drop_of_length_le (by rw [header_len]; exact Nat.le_refl _), List.nil_append]

/-- one byte changed, not in a row's length: found, or the file begins with zeros -/
theorem spoil {rows : List Bytes} {at_ : Nat} {b : UInt8} (hs : (formsB rows).length ≤ 1000000) (hr : ∀ r ∈ rows, r.length ≤ 200) (hl : at_ < (image rows).length) (hb : (image rows)[at_] ≠ b)
    (hn : ∀ i, i < rows.length → ¬ (beginOf rows i ≤ at_ ∧ at_ < beginOf rows i + 8)) : openB ((image rows).set at_ b) = if ((image rows).set at_ b).take 8 = List.replicate 8 0 then some ⟨[], 0, 16⟩ else none := by
  have hlen := image_len rows
  have hr' : ∀ r ∈ rows, r.length ≤ 1000000000 := fun r h => by have := hr r h; omega
  have hz := val_zero_iff (s := (image rows).set at_ b) (by rw [List.length_set]; omega)
  by_cases h0 : val ((image rows).set at_ b) = 0
  · rw [if_pos (hz.1 h0), openB, if_pos (.inr h0)]
  · rw [if_neg (fun h => h0 (hz.2 h)), openB, if_neg (by rw [List.length_set]; omega)]
    by_cases h1 : val ((image rows).set at_ b) < 16 ∨ (((image rows).set at_ b).length : Int) < val ((image rows).set at_ b)
    · rw [if_pos h1]
    · rw [if_neg h1]
      rw [List.length_set, hlen] at h1
      by_cases h8 : at_ < 8
      · have hne := val_changed h8 hl hb
        rw [image_val rows hs] at hne
        obtain ⟨e, he⟩ : ∃ e : Nat, val ((image rows).set at_ b) = e := ⟨(val ((image rows).set at_ b)).toNat, by omega⟩
        have hd : (((image rows).set at_ b).take e).drop 16 = (formsB rows).take (e - 16) := by
          rw [List.drop_take, List.drop_set, if_pos (by omega), image_drop]
        have hc : val (((image rows).set at_ b).drop 8) = rows.length := by rw [List.drop_set, if_pos h8, image_val8 rows hs]
        rw [he, Int.toNat_natCast, hd, hc]
        cases hx : splitB ((formsB rows).take (e - 16)) with
        | none => rfl
        | some l =>
          have := splitB_short rows (e - 16) l hr' (by omega) hx
          simp only
          rw [if_neg (by omega)]
      · rw [val_set_far (by omega), image_val rows hs, Int.toNat_natCast, List.take_of_length_le (by rw [List.length_set]; omega)]
        by_cases h16 : at_ < 16
        · have hne : val (((image rows).set at_ b).drop 8) ≠ rows.length := by
            rw [List.drop_set, if_neg (by omega), ← image_val8 rows hs]
            have hlt : at_ - 8 < ((image rows).drop 8).length := by rw [List.length_drop]; omega
            refine val_changed (by omega) hlt ?_
            rw [List.getElem_drop]
            have : 8 + (at_ - 8) = at_ := by omega
            simp only [this]; exact hb
          have hd : ((image rows).set at_ b).drop 16 = formsB rows := by rw [List.drop_set, if_pos h16, image_drop]
          rw [hd, splitB_forms rows (by omega)]
          simp only
          rw [if_neg (fun h => hne h.symm)]
        · obtain ⟨i, hi, k1, k2⟩ := row_at rows (at_ - 16) (by omega)
          have hni := hn i hi
          unfold beginOf at hni
          have hsplit : formsB rows = formsB (rows.take i) ++ (formB rows[i] ++ formsB (rows.drop (i + 1))) := by
            conv => lhs; rw [← List.take_append_drop i rows]
            rw [formsB_app]
            have h2 : formsB (rows.drop i) = formB rows[i] ++ formsB (rows.drop (i + 1)) := by rw [List.drop_eq_getElem_cons hi]; rfl
            rw [h2]
          have hfl := formB_len rows[i]
          have hd : ((image rows).set at_ b).drop 16 = formsB (rows.take i) ++ ((formB rows[i]).set (at_ - 16 - (formsB (rows.take i)).length) b ++ formsB (rows.drop (i + 1))) := by
            rw [List.drop_set, if_neg (by omega), image_drop, hsplit, List.set_append, if_neg (by omega), List.set_append, if_pos (by omega)]
          have hbb : (formB rows[i])[at_ - 16 - (formsB (rows.take i)).length]'(by omega) ≠ b := by
            intro h
            apply hb
            rw [← h]
            have h1 : ((image rows).drop 16)[at_ - 16]? = (formsB rows)[at_ - 16]? := by rw [image_drop]
            rw [List.getElem?_drop, show 16 + (at_ - 16) = at_ by omega, List.getElem?_eq_getElem hl] at h1
            rw [hsplit, List.getElem?_append_right (by omega), List.getElem?_append_left (by omega), List.getElem?_eq_getElem (by omega)] at h1
            exact Option.some.inj h1
          rw [hd, splitB_app _ _ (fun r h => hr' r (List.mem_of_mem_take h)), splitB_bad (hr' _ (List.getElem_mem hi)) (by omega) (by omega) hbb]
          rfl
end Go.Proofs.Y
