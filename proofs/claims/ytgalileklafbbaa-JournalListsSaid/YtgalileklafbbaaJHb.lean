/- JHb: the log's operations, over a world whose blocks are all left alone. -/
import Derived.Test.YtgalileklafbbaaJH
set_option linter.unusedSimpArgs false
set_option linter.unusedVariables false
set_option maxRecDepth 100000
namespace Go.Proofs.Y
open Go Go.HL Go.Proofs

structure JS (w0 w : World) (p q f : Nat) (d : Dk) (L : Lg) (F : FP) (S : Nat → Prop) : Prop where
  dr : DR w p d F
  lg : LG w q p f L S
  ap : ∀ k, F.R k → ¬ S k
  f0 : ∀ k, F.R k → w0.heap.size ≤ k
  s0 : ∀ k, S k → w0.heap.size ≤ k
  m : Mod none' w0 w
def Base.of (w : World) : Base := ⟨w, fun k => k < w.heap.size, fun _ h => h⟩

section
variable {w0 w w' : World} {p q f : Nat} {d d' : Dk} {L L' : Lg} {F : FP} {S : Nat → Prop}
theorem JS.gs (h : JS w0 w p q f d L F S) : GS (.of w0) w p q f d L F S := ⟨h.dr, h.lg, h.ap, fun k hk => Nat.not_lt.2 (h.f0 k hk), fun k hk => Nat.not_lt.2 (h.s0 k hk), h.m.mono fun _ _ h => h.elim⟩
theorem GS.js (h : GS (.of w0) w p q f d L F S) : JS w0 w p q f d L F S := ⟨h.dr, h.lg, h.ap, fun k hk => Nat.not_lt.1 (h.f0 k hk), fun k hk => Nat.not_lt.1 (h.s0 k hk), h.m.mono fun _ hk h => h hk⟩
theorem JS.disk (h : JS w0 w p q f d L F S) (st : St F w w' p d') : JS w0 w' p q f d' L st.foot S := (h.gs.disk st).js
theorem JS.log (h : JS w0 w p q f d L F S) {S' : Nat → Prop} (lg : LG w' q p f L' S') (hS : ∀ k, S' k → S k ∨ w.heap.size ≤ k) (m : Mod S w w') : JS w0 w' p q f d L' F S' := (h.gs.log lg hS m).js
theorem JS.mod0 (h : JS w0 w p q f d L F S) (m : Mod none' w w') : JS w0 w' p q f d L F S := (h.gs.mod0 m).js
end
def JT (w0 w' : World) (p q f : Nat) (d : Dk) (L : Lg) : Prop := ∃ F S, JS w0 w' p q f d L F S
theorem JS.jt {w0 w' : World} {p q f : Nat} {d : Dk} {L : Lg} {F : FP} {S : Nat → Prop} (h : JS w0 w' p q f d L F S) : JT w0 w' p q f d L := ⟨F, S, h⟩
theorem GT.js {w0 w' : World} {p q f : Nat} {d : Dk} {L : Lg} (h : GT (.of w0) w' p q f d L) : JT w0 w' p q f d L := by
  obtain ⟨F, S, h⟩ := h
  exact ⟨F, S, h.js⟩

section
variable {w w0 : World} {next : Value → World → Prop} {QP : List PanicEntry → World → Prop} {p q f : Nat} {d : Dk} {L : Lg} {F : FP} {S : Nat → Prop}
theorem append1_ (h : JS w0 w p q f d L F S) {row : Bytes} (hqn : d.queue.length + (formsB [row]).length ≤ 1000000000)
    (k : ∀ w', JT w0 w' p q f (addD' d L f [row]) (if addE d L f [row] = 0 then L.add [row] else L) → next (.int .i64 (addE d L f [row])) w') :
    callvK Try.prog (.func (.func 53) #[] #[]) [ptr q, str row] w next QP := gappend1_ h.gs hqn fun w' t => k w' t.js
theorem flushJ_ (h : JS w0 w p q f d L F S) (hqn : d.queue.length ≤ 1000000) (k : ∀ w', JT w0 w' p q f (flushJ d L f).1 (flushJ d L f).2.1 → next (.int .i64 (flushJ d L f).2.2) w') :
    callvK Try.prog (.func (.func 51) #[] #[]) [ptr q] w next QP := gflushJ_ h.gs hqn fun w' t => k w' t.js
theorem batch_ (h : JS w0 w p q f d L F S) {v : Value} {rows : List Bytes} {n : Nat} (hv : Sl w v 1 n (rows.map str)) (hvd : 0 < n → ∀ k, v.ownBlock = some k → ¬ F.R k) (hqn : d.queue.length + (formsB rows).length ≤ 1000000)
    (k : ∀ w', JT w0 w' p q f (batchJ d L f rows).1 (batchJ d L f rows).2.1 → next (.int .i64 (batchJ d L f rows).2.2) w') :
    callvK Try.prog (.func (.func 52) #[] #[]) [ptr q, v] w next QP := gbatch_ h.gs hv hvd hqn fun w' t => k w' t.js
theorem rewrite_ (h : JS w0 w p q f d L F S) (hf : f ≤ 6) {v : Value} {rows : List Bytes} {n : Nat} (hv : Sl w v 1 n (rows.map str)) (hvd : 0 < n → ∀ k, v.ownBlock = some k → ¬ F.R k ∧ k < w.heap.size) (hqn : d.queue.length + (formsB rows).length ≤ 100000)
    (k : ∀ w', JT w0 w' p q f (rewriteJ d L f rows).1 (rewriteJ d L f rows).2.1 → next (.int .i64 (rewriteJ d L f rows).2.2) w') :
    callvK Try.prog (.func (.func 49) #[] #[]) [ptr q, v] w next QP := grewrite_ h.gs hf hv hvd hqn fun w' t => k w' t.js
end
end Go.Proofs.Y
