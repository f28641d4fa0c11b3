/- TU: thread: numbers of bits, random numbers. -/
import Derived.Test.YthenjelndjlnfaaTCode
import Derived.Test.YthenjelndjlnfaaHLO
import Derived.RangeFuncCalls
import Derived.RangeFuncWrites
import Derived.RangeFuncLeaves
import Derived.ControlIn
import Derived.OrdersIn
import Derived.TacticsIn
import Derived.MapKept
import Derived.Maps.RangeRun
set_option linter.unusedSimpArgs false
set_option linter.unusedVariables false
set_option maxRecDepth 100000
namespace Go.Proofs.Y
open Go Go.HL Go.Proofs
abbrev ptr (p : Nat) : Value := .pointer (some ⟨p, 0, none⟩)
def tab8 : List UInt8 := [0, 1, 2, 2, 3, 3, 3, 3, 4, 4, 4, 4, 4, 4, 4, 4, 5, 5, 5, 5, 5, 5, 5, 5, 5, 5, 5, 5, 5, 5, 5, 5, 6, 6, 6, 6, 6, 6, 6, 6, 6, 6, 6, 6, 6, 6, 6, 6, 6, 6, 6, 6, 6, 6, 6, 6, 6, 6, 6, 6, 6, 6, 6, 6, 7, 7, 7, 7, 7, 7, 7, 7, 7, 7, 7, 7, 7, 7, 7, 7, 7, 7, 7, 7, 7, 7, 7, 7, 7, 7, 7, 7, 7, 7, 7, 7, 7, 7, 7, 7, 7, 7, 7, 7, 7, 7, 7, 7, 7, 7, 7, 7, 7, 7, 7, 7, 7, 7, 7, 7, 7, 7, 7, 7, 7, 7, 7, 7, 8, 8, 8, 8, 8, 8, 8, 8, 8, 8, 8, 8, 8, 8, 8, 8, 8, 8, 8, 8, 8, 8, 8, 8, 8, 8, 8, 8, 8, 8, 8, 8, 8, 8, 8, 8, 8, 8, 8, 8, 8, 8, 8, 8, 8, 8, 8, 8, 8, 8, 8, 8, 8, 8, 8, 8, 8, 8, 8, 8, 8, 8, 8, 8, 8, 8, 8, 8, 8, 8, 8, 8, 8, 8, 8, 8, 8, 8, 8, 8, 8, 8, 8, 8, 8, 8, 8, 8, 8, 8, 8, 8, 8, 8, 8, 8, 8, 8, 8, 8, 8, 8, 8, 8, 8, 8, 8, 8, 8, 8, 8, 8, 8, 8, 8, 8, 8, 8, 8, 8, 8, 8, 8, 8, 8, 8, 8, 8]
theorem tab8_ok : ∀ y : Nat, y < 256 → (tab8[y]?.getD 0).toNat ≤ 8 ∧ (0 < y → 2 ^ (tab8[y]?.getD 0).toNat ≤ 2 * y) ∧ y < 2 ^ (tab8[y]?.getD 0).toNat := by decide +kernel
section
variable {w : World} {next : Value → World → Prop} {QP : List PanicEntry → World → Prop}
theorem l66_3 {τ : Env} {x n : Nat} (t0 : τ 0 = .int .u64 x) (t2 : τ 2 = .int .i64 n) (hx : x < 256) (hn : n ≤ 56) (k : ∀ l : Nat, l ≤ 8 → (0 < x → 2 ^ l ≤ 2 * x) → x < 2 ^ l → next (.int .i64 (n + l : Nat)) w) : hw Try.prog noPanic h66_3 (endV [.tmp 2] next) τ w := by
  unfold h66_3
  try simp only [go_sem, t0, t2]
  rw [wrap_u8]
  have ex : ((x : Int) % 256).toNat = x := by omega
  obtain ⟨h1, h2, h3⟩ := tab8_ok x hx
  refine ⟨by omega, ?_⟩
  change next (.int .i64 (IntKind.i64.wrap ((n : Int) + IntKind.i64.wrap ((tab8[((x : Int) % 256).toNat]?.getD 0).toNat : Nat)))) w
  rw [ex]
  generalize (tab8[x]?.getD 0).toNat = l at h1 h2 h3
  rw [w64 (x := (l : Int)) (by omega) (by omega), w64 (by omega) (by omega)]
  exact k l h1 h2 h3
theorem l66_2 {τ : Env} {x n : Nat} (t0 : τ 0 = .int .u64 x) (t2 : τ 2 = .int .i64 n) (hx : x < 65536) (hn : n ≤ 48) (k : ∀ l : Nat, l ≤ 16 → (0 < x → 2 ^ l ≤ 2 * x) → x < 2 ^ l → next (.int .i64 (n + l : Nat)) w) : hw Try.prog noPanic h66_2 (endV [.tmp 2] next) τ w := by
  unfold h66_2
  try simp only [go_sem, t0, t2]
  refine ⟨fun h => ?_, fun h => ?_⟩
  · have h' := of_decide_eq_true h
    have e8 : ((x : Int).fdiv (2 ^ (min 8 64))) = ((x / 256 : Nat) : Int) := by
      rw [Int.fdiv_eq_ediv_of_nonneg _ (by decide)]; show (x : Int) / 256 = _; omega
    try simp only [go_sem, t0, t2]
    refine l66_3 (x := x / 256) (n := n + 8) (congrArg (Value.int .u64) e8) (congrArg (Value.int .i64) (w64 (by omega) (by omega))) (by omega) (by omega) (fun l h1 h2 h3 => ?_)
    rw [Nat.add_assoc]
    refine k (8 + l) (by omega) (fun h0 => ?_) ?_
    · have := h2 (by omega)
      rw [Nat.pow_add]; omega
    · rw [Nat.pow_add]; omega
  · have h' := of_decide_eq_false h
    try simp only [go_sem, t0, t2]
    refine l66_3 (x := x) (n := n) t0 t2 (by omega) (by omega) (fun l h1 h2 h3 => k l (by omega) h2 h3)
theorem l66_1 {τ : Env} {x n : Nat} (t0 : τ 0 = .int .u64 x) (t2 : τ 2 = .int .i64 n) (hx : x < 4294967296) (hn : n ≤ 32) (k : ∀ l : Nat, l ≤ 32 → (0 < x → 2 ^ l ≤ 2 * x) → x < 2 ^ l → next (.int .i64 (n + l : Nat)) w) : hw Try.prog noPanic h66_1 (endV [.tmp 2] next) τ w := by
  unfold h66_1
  try simp only [go_sem, t0, t2]
  refine ⟨fun h => ?_, fun h => ?_⟩
  · have h' := of_decide_eq_true h
    have e8 : ((x : Int).fdiv (2 ^ (min 16 64))) = ((x / 65536 : Nat) : Int) := by
      rw [Int.fdiv_eq_ediv_of_nonneg _ (by decide)]; show (x : Int) / 65536 = _; omega
    try simp only [go_sem, t0, t2]
    refine l66_2 (x := x / 65536) (n := n + 16) (congrArg (Value.int .u64) e8) (congrArg (Value.int .i64) (w64 (by omega) (by omega))) (by omega) (by omega) (fun l h1 h2 h3 => ?_)
    rw [Nat.add_assoc]
    refine k (16 + l) (by omega) (fun h0 => ?_) ?_
    · have := h2 (by omega)
      rw [Nat.pow_add]; omega
    · rw [Nat.pow_add]; omega
  · have h' := of_decide_eq_false h
    try simp only [go_sem, t0, t2]
    refine l66_2 (x := x) (n := n) t0 t2 (by omega) (by omega) (fun l h1 h2 h3 => k l (by omega) h2 h3)
theorem len64_ (x : Nat) (hx : x < 18446744073709551616) (k : ∀ l : Nat, l ≤ 64 → (0 < x → 2 ^ l ≤ 2 * x) → x < 2 ^ l → next (.int .i64 (l : Nat)) w) : callvK Try.prog (.func (.func 66) #[] #[]) [.int .u64 x] w next QP := by
  refine r66 rfl ?_
  unfold h66
  try simp only [go_sem]
  refine ⟨fun h => ?_, fun h => ?_⟩
  · have h' := of_decide_eq_true h
    have e8 : ((x : Int).fdiv (2 ^ (min 32 64))) = ((x / 4294967296 : Nat) : Int) := by
      rw [Int.fdiv_eq_ediv_of_nonneg _ (by decide)]; show (x : Int) / 4294967296 = _; omega
    try simp only [go_sem]
    refine l66_1 (x := x / 4294967296) (n := 32) (congrArg (Value.int .u64) e8) rfl (by omega) (by omega) (fun l h1 h2 h3 => ?_)
    refine k (32 + l) (by omega) (fun h0 => ?_) ?_
    · have := h2 (by omega)
      rw [Nat.pow_add]; omega
    · rw [Nat.pow_add]; omega
  · have h' := of_decide_eq_false h
    try simp only [go_sem]
    refine l66_1 (x := x) (n := 0) rfl rfl (by omega) (by omega) (fun l h1 h2 h3 => ?_)
    rw [Nat.zero_add]
    exact k l (by omega) h2 h3
theorem len_ (x : Nat) (hx : x < 18446744073709551616) (k : ∀ l : Nat, l ≤ 64 → (0 < x → 2 ^ l ≤ 2 * x) → x < 2 ^ l → next (.int .i64 (l : Nat)) w) : callvK Try.prog (.func (.func 42) #[] #[]) [.int .u64 x] w next QP := by
  refine r42 rfl ?_
  unfold h42
  try simp only [go_sem]
  unfold h42_1
  try simp only [go_sem]
  refine len64_ x hx fun l h1 h2 h3 => ?_
  try simp only [go_sem]
  exact k l h1 h2 h3
theorem npow_ (x : Nat) (h0 : 0 < x) (hx : x < 4611686018427387904) (k : ∀ m : Nat, 0 < m → m ≤ 2 * x → next (.int .u64 (m : Nat)) w) : callvK Try.prog (.func (.func 80) #[] #[]) [.int .i64 x] w next QP := by
  refine r80 rfl ?_
  unfold h80
  try simp only [go_sem]
  rw [wrap_u64]
  have e : (x : Int) % 18446744073709551616 = x := by omega
  rw [e]
  refine len_ x (by omega) fun l h1 h2 h3 => ?_
  have h2 := h2 h0
  have hl : l < 64 := by
    rcases Nat.lt_or_ge l 64 with h | h
    · exact h
    · have := Nat.pow_le_pow_right (n := 2) (by omega) h
      omega
  try simp only [go_sem]
  refine ⟨by omega, ?_⟩
  have e2 : IntKind.u64.wrap (1 * 2 ^ min (l : Int).toNat 64) = ((2 ^ l : Nat) : Int) := by
    rw [Int.toNat_natCast, Nat.min_eq_left (by omega), Int.one_mul, wrap_u64]
    have h3 : (2 : Nat) ^ l < 18446744073709551616 := by omega
    have h4 : ((2 : Int) ^ l) = ((2 ^ l : Nat) : Int) := by simp
    rw [h4]; omega
  have := k (2 ^ l) (Nat.two_pow_pos l) h2
  rw [← e2] at this
  exact this
theorem xor_any (a b : Int) : ∃ x : Nat, x < 18446744073709551616 ∧ intV .xor .u64 a b = .int .u64 x := by
  refine ⟨((BitVec.ofInt 64 a ^^^ BitVec.ofInt 64 b).toNat), (BitVec.isLt _), ?_⟩
  show Value.int .u64 (IntKind.u64.wrap ((BitVec.ofInt 64 a ^^^ BitVec.ofInt 64 b).toNat)) = _
  rw [wrap_u64]
  have := (BitVec.ofInt 64 a ^^^ BitVec.ofInt 64 b).isLt
  congr 1; omega
theorem szint : szOf Try.prog 3 = some 1 := by kernel_rfl
theorem zint : (Try.prog.info? 3).bind (·.zero) = some (.int .i64 0) := by kernel_rfl
theorem z108 : (Try.prog.info? 108).bind (·.zero) = some (.int .u64 0) := by kernel_rfl
theorem sz108 : szOf Try.prog 108 = some 1 := by kernel_rfl
/-- the next random number -/
theorem rnd_ {b : Nat} {x : Nat} (hb : Blk w b 108 [.int .u64 x]) (k : ∀ y w', y < 18446744073709551616 → Blk w' b 108 [.int .u64 (y : Nat)] → Mod (fun k => k = b) w w' → w'.heap.size = w.heap.size → next (.int .u64 (y : Nat)) w') : callvK Try.prog (.func (.func 81) #[] #[]) [ptr b] w next QP := by
  refine r81 rfl ?_
  unfold h81
  have c0 := hb.cell 0
  try simp only [go_sem, c0]
  obtain ⟨x1, h1, e1⟩ := xor_any (x : Int) (IntKind.u64.wrap ((x : Int) * 2 ^ min 13 64))
  rw [e1]
  refine store1 sz108 (Blk.drew hb) (by simp) rfl ?_
  intro w1 b1 m1 s1
  have c1 := b1.cell 0
  simp only [List.set_cons_zero, List.getElem?_cons_zero] at c1
  try simp only [go_sem, c1]
  obtain ⟨x2, h2, e2⟩ := xor_any (x1 : Int) ((x1 : Int).fdiv (2 ^ min 7 64))
  rw [e2]
  refine store1 sz108 (Blk.drew b1) (by simp) rfl ?_
  intro w2 b2 m2 s2
  have c2 := b2.cell 0
  simp only [List.set_cons_zero, List.getElem?_cons_zero] at c2
  try simp only [go_sem, c2]
  obtain ⟨x3, h3, e3⟩ := xor_any (x2 : Int) (IntKind.u64.wrap ((x2 : Int) * 2 ^ min 17 64))
  rw [e3]
  refine store1 sz108 (Blk.drew b2) (by simp) rfl ?_
  intro w3 b3 m3 s3
  have c3 := b3.cell 0
  simp only [List.set_cons_zero, List.getElem?_cons_zero] at c3
  try simp only [go_sem, c3]
  have M : ∀ {u v : World}, Mod (fun k => k = b) u.drew v → Mod (fun k => k = b) u v := fun {u v} m => (Mod.drew _ u).trans' m
  exact k x3 w3 h3 b3 (((M m1).trans' (M m2)).trans' (M m3)) (by rw [s3]; show w2.heap.size = _; rw [s2]; show w1.heap.size = _; rw [s1]; rfl)
end
end Go.Proofs.Y

/- the functions of the program as code over named slots, printed by hl.py -/
set_option maxRecDepth 100000
namespace Go.Proofs.Y
open Go Go.HL Go.Proofs
/- missive/missiveref21.Find -/
def h12_3 : HC :=
  (.reg [.need (.n2 (.bin .add) (.slot 5) (.lit (.int .i64 1))),
    .asg 5 (.n2 (.bin .add) (.slot 5) (.lit (.int .i64 1)))])
def h12_2 : HC :=
  (.seq
  (.block 1
    (.seq
    (.reg [.need (.n2 (.iaddr 5) (.slot 0) (.slot 5)),
      .need (.n1 (.faddr 0) (.n2 (.iaddr 5) (.slot 0) (.slot 5))),
      .need (.n1 .ld (.n1 (.faddr 0) (.n2 (.iaddr 5) (.slot 0) (.slot 5)))),
      .need (.n2 (.sbin .eql) (.n1 .ld (.n1 (.faddr 0) (.n2 (.iaddr 5) (.slot 0) (.slot 5)))) (.slot 1)),
      .asg 18 (.n2 (.sbin .eql) (.n1 .ld (.n1 (.faddr 0) (.n2 (.iaddr 5) (.slot 0) (.slot 5)))) (.slot 1))])
    (.cond (.slot 18)
      (.seq
      (.reg [.asg 4 (.slot 5)])
      .ret)
      .skip)))
  h12_3)
def h12_1 : HC :=
  (.seq
  (.seq
  (.reg [.need (.n1 .lensl (.slot 0)),
    .need (.n2 (.bin .lss) (.slot 5) (.n1 .lensl (.slot 0))),
    .asg 9 (.n2 (.bin .lss) (.slot 5) (.n1 .lensl (.slot 0)))])
  (.cond (.slot 9)
    .skip
    (.exit 0)))
  h12_2)
def h12_4 : HC :=
  (.seq
  (.reg [.asg 4 (.lit (.int .i64 (-1)))])
  .ret)
def h12 : HC :=
  (.seq
  (.reg [.asg 4 (.lit (.int .i64 0))])
  (.seq
  (.seq
  (.reg [.asg 5 (.lit (.int .i64 0))])
  (.block 0
    (.loop
      h12_1)))
  h12_4))
theorem k12 : fnOK Try.prog 262707 [] [.tmp 4] 2 Try.f12 = some h12 := by kernel_rfl
theorem c12 : callable Try.prog 12 = true := by kernel_rfl
theorem q12 {args : List Value} (ha : args.length = 2) {w : World} {next : Value → World → Prop} {QP : List PanicEntry → World → Prop} (H : hw Try.prog noPanic h12 (endV [.tmp 4] next) (σ0 args) w) : callK Try.prog 12 args w next QP := fn_rule Try.func12 mixed k12 ha H
theorem r12 {args : List Value} (ha : args.length = 2) {w : World} {next : Value → World → Prop} {QP : List PanicEntry → World → Prop} (H : hw Try.prog noPanic h12 (endV [.tmp 4] next) (σ0 args) w) : callvK Try.prog (.func (.func 12) #[] #[]) args w next QP := callf c12 (q12 ha H)

/- missive/missiveref21.Before -/
def h14 : HC :=
  (.seq
  (.reg [.asg 8 (.lit (.bool false))])
  (.seq
  (.reg [.need (.n2 (.bin .lss) (.slot 0) (.slot 2)),
    .need (.gif (.n2 (.bin .lss) (.slot 0) (.slot 2)) false (.n2 (.bin .eql) (.slot 0) (.slot 2))),
    .need (.gif (.gif (.n2 (.bin .lss) (.slot 0) (.slot 2)) false (.n2 (.bin .eql) (.slot 0) (.slot 2))) true (.n2 (.sbin .lss) (.slot 1) (.slot 3))),
    .need (.gif (.n2 (.bin .lss) (.slot 0) (.slot 2)) false (.n3 .pick (.n2 (.bin .eql) (.slot 0) (.slot 2)) (.n2 (.sbin .lss) (.slot 1) (.slot 3)) (.lit (.bool false)))),
    .need (.n3 .pick (.n2 (.bin .lss) (.slot 0) (.slot 2)) (.lit (.bool true)) (.n3 .pick (.n2 (.bin .eql) (.slot 0) (.slot 2)) (.n2 (.sbin .lss) (.slot 1) (.slot 3)) (.lit (.bool false)))),
    .asg 8 (.n3 .pick (.n2 (.bin .lss) (.slot 0) (.slot 2)) (.lit (.bool true)) (.n3 .pick (.n2 (.bin .eql) (.slot 0) (.slot 2)) (.n2 (.sbin .lss) (.slot 1) (.slot 3)) (.lit (.bool false))))])
  .ret))
theorem k14 : fnOK Try.prog 271 [] [.tmp 8] 4 Try.f14 = some h14 := by kernel_rfl
theorem c14 : callable Try.prog 14 = true := by kernel_rfl
theorem q14 {args : List Value} (ha : args.length = 4) {w : World} {next : Value → World → Prop} {QP : List PanicEntry → World → Prop} (H : hw Try.prog noPanic h14 (endV [.tmp 8] next) (σ0 args) w) : callK Try.prog 14 args w next QP := fn_rule Try.func14 mixed k14 ha H
theorem r14 {args : List Value} (ha : args.length = 4) {w : World} {next : Value → World → Prop} {QP : List PanicEntry → World → Prop} (H : hw Try.prog noPanic h14 (endV [.tmp 8] next) (σ0 args) w) : callvK Try.prog (.func (.func 14) #[] #[]) args w next QP := callf c14 (q14 ha H)

/- missive/missiveref21.References -/
def h16_3 : HC :=
  (.reg [.need (.n2 (.bin .add) (.slot 4) (.lit (.int .i64 1))),
    .asg 4 (.n2 (.bin .add) (.slot 4) (.lit (.int .i64 1)))])
def h16_2 : HC :=
  (.seq
  (.block 1
    (.seq
    (.draw [.need (.n1 (.faddr 2) (.slot 1)),
      .need (.n1 .ld (.n1 (.faddr 2) (.slot 1))),
      .need (.n2 (.iaddr 1) (.n1 .ld (.n1 (.faddr 2) (.slot 1))) (.slot 4)),
      .need (.n1 .ld (.n2 (.iaddr 1) (.n1 .ld (.n1 (.faddr 2) (.slot 1))) (.slot 4))),
      .need (.n1 (.faddr 0) (.slot 1)),
      .need (.n1 .ld (.n1 (.faddr 0) (.slot 1))),
      .need (.n2 (.sbin .neq) (.n1 .ld (.n2 (.iaddr 1) (.n1 .ld (.n1 (.faddr 2) (.slot 1))) (.slot 4))) (.n1 .ld (.n1 (.faddr 0) (.slot 1)))),
      .need (.gif (.n2 (.sbin .neq) (.n1 .ld (.n2 (.iaddr 1) (.n1 .ld (.n1 (.faddr 2) (.slot 1))) (.slot 4))) (.n1 .ld (.n1 (.faddr 0) (.slot 1)))) true (.n1 (.faddr 2) (.slot 1))),
      .need (.gif (.n2 (.sbin .neq) (.n1 .ld (.n2 (.iaddr 1) (.n1 .ld (.n1 (.faddr 2) (.slot 1))) (.slot 4))) (.n1 .ld (.n1 (.faddr 0) (.slot 1)))) true (.n1 .ld (.n1 (.faddr 2) (.slot 1)))),
      .need (.gif (.n2 (.sbin .neq) (.n1 .ld (.n2 (.iaddr 1) (.n1 .ld (.n1 (.faddr 2) (.slot 1))) (.slot 4))) (.n1 .ld (.n1 (.faddr 0) (.slot 1)))) true (.n2 (.iaddr 1) (.n1 .ld (.n1 (.faddr 2) (.slot 1))) (.slot 4))),
      .need (.gif (.n2 (.sbin .neq) (.n1 .ld (.n2 (.iaddr 1) (.n1 .ld (.n1 (.faddr 2) (.slot 1))) (.slot 4))) (.n1 .ld (.n1 (.faddr 0) (.slot 1)))) true (.n1 .ld (.n2 (.iaddr 1) (.n1 .ld (.n1 (.faddr 2) (.slot 1))) (.slot 4)))),
      .need (.gif (.n2 (.sbin .neq) (.n1 .ld (.n2 (.iaddr 1) (.n1 .ld (.n1 (.faddr 2) (.slot 1))) (.slot 4))) (.n1 .ld (.n1 (.faddr 0) (.slot 1)))) true (.n2 (.sbin .neq) (.n1 .ld (.n2 (.iaddr 1) (.n1 .ld (.n1 (.faddr 2) (.slot 1))) (.slot 4))) (.lit (str [])))),
      .need (.n3 .pick (.n2 (.sbin .neq) (.n1 .ld (.n2 (.iaddr 1) (.n1 .ld (.n1 (.faddr 2) (.slot 1))) (.slot 4))) (.n1 .ld (.n1 (.faddr 0) (.slot 1)))) (.n2 (.sbin .neq) (.n1 .ld (.n2 (.iaddr 1) (.n1 .ld (.n1 (.faddr 2) (.slot 1))) (.slot 4))) (.lit (str []))) (.lit (.bool false))),
      .asg 27 (.n3 .pick (.n2 (.sbin .neq) (.n1 .ld (.n2 (.iaddr 1) (.n1 .ld (.n1 (.faddr 2) (.slot 1))) (.slot 4))) (.n1 .ld (.n1 (.faddr 0) (.slot 1)))) (.n2 (.sbin .neq) (.n1 .ld (.n2 (.iaddr 1) (.n1 .ld (.n1 (.faddr 2) (.slot 1))) (.slot 4))) (.lit (str []))) (.lit (.bool false)))])
    (.cond (.slot 27)
      (.reg [.need (.n1 (.faddr 2) (.slot 1)),
        .need (.n1 .ld (.n1 (.faddr 2) (.slot 1))),
        .need (.n2 (.iaddr 1) (.n1 .ld (.n1 (.faddr 2) (.slot 1))) (.slot 4)),
        .need (.n1 .ld (.n2 (.iaddr 1) (.n1 .ld (.n1 (.faddr 2) (.slot 1))) (.slot 4))),
        .eff (some 34) (.buildSlice 32 1 #[(0, .tmp 33)]) 32 [(33, .n1 .ld (.n2 (.iaddr 1) (.n1 .ld (.n1 (.faddr 2) (.slot 1))) (.slot 4)))] none [],
        .eff (some 35) (.call { callee := .builtin .append, args := #[.tmp 28, .tmp 34], argTypes := #[32, 32] }) 32 [(28, .slot 3), (34, .slot 34)] none [],
        .asg 3 (.slot 35)])
      .skip)))
  h16_3)
def h16_1 : HC :=
  (.seq
  (.seq
  (.reg [.need (.n1 (.faddr 2) (.slot 1)),
    .need (.n1 .ld (.n1 (.faddr 2) (.slot 1))),
    .need (.n1 .lensl (.n1 .ld (.n1 (.faddr 2) (.slot 1)))),
    .need (.n2 (.bin .lss) (.slot 4) (.n1 .lensl (.n1 .ld (.n1 (.faddr 2) (.slot 1))))),
    .asg 9 (.n2 (.bin .lss) (.slot 4) (.n1 .lensl (.n1 .ld (.n1 (.faddr 2) (.slot 1)))))])
  (.cond (.slot 9)
    .skip
    (.exit 0)))
  h16_2)
def h16_4 : HC :=
  (.seq
  (.reg [.asg 2 (.slot 3)])
  .ret)
def h16 : HC :=
  (.seq
  (.reg [.eff (some 1) (.box 34 (.tmp 0)) 0 [(0, .slot 0)] none [],
    .asg 2 (.lit (.slice none 0 0))])
  (.seq
  (.reg [.asg 3 (.lit (.slice none 0 0))])
  (.seq
  (.seq
  (.reg [.asg 4 (.lit (.int .i64 0))])
  (.block 0
    (.loop
      h16_1)))
  h16_4)))
theorem k16 : fnOK Try.prog 51673825823 [⟨5, [0, 1, 0, 7, 15, 0, 32, 127, 255, 511, 1023, 511, 4095, 8191, 16383, 32767], [(0, []), (1, []), (2, []), (3, []), (4, []), (5, []), (6, []), (7, []), (8, []), (9, []), (10, []), (11, []), (12, []), (13, []), (14, []), (15, [])], none⟩] [.tmp 2] 1 Try.f16 = some h16 := by kernel_rfl
theorem c16 : callable Try.prog 16 = true := by kernel_rfl
theorem q16 {args : List Value} (ha : args.length = 1) {w : World} {next : Value → World → Prop} {QP : List PanicEntry → World → Prop} (H : hw Try.prog noPanic h16 (endV [.tmp 2] next) (σ0 args) w) : callK Try.prog 16 args w next QP := fn_rule Try.func16 mixed k16 ha H
theorem r16 {args : List Value} (ha : args.length = 1) {w : World} {next : Value → World → Prop} {QP : List PanicEntry → World → Prop} (H : hw Try.prog noPanic h16 (endV [.tmp 2] next) (σ0 args) w) : callvK Try.prog (.func (.func 16) #[] #[]) args w next QP := callf c16 (q16 ha H)

/- missive/missiveref21.Nearest -/
def h17_3 : HC :=
  (.reg [.need (.n2 (.bin .sub) (.slot 6) (.lit (.int .i64 1))),
    .asg 6 (.n2 (.bin .sub) (.slot 6) (.lit (.int .i64 1)))])
def h17_2 : HC :=
  (.seq
  (.block 1
    (.seq
    (.reg [.need (.n2 (.iaddr 1) (.slot 5) (.slot 6)),
      .need (.n1 .ld (.n2 (.iaddr 1) (.slot 5) (.slot 6))),
      .eff (some 25) (.call { callee := .value (.func 12), args := #[.tmp 20, .tmp 24], argTypes := #[22, 9] }) 3 [(20, .slot 0), (24, .n1 .ld (.n2 (.iaddr 1) (.slot 5) (.slot 6)))] none [],
      .asg 7 (.slot 25)])
    (.seq
    (.reg [.need (.n2 (.bin .geq) (.slot 7) (.lit (.int .i64 0))),
      .asg 27 (.n2 (.bin .geq) (.slot 7) (.lit (.int .i64 0)))])
    (.cond (.slot 27)
      (.seq
      (.reg [.asg 4 (.slot 7)])
      .ret)
      .skip))))
  h17_3)
def h17_1 : HC :=
  (.seq
  (.seq
  (.reg [.need (.n2 (.bin .geq) (.slot 6) (.lit (.int .i64 0))),
    .asg 17 (.n2 (.bin .geq) (.slot 6) (.lit (.int .i64 0)))])
  (.cond (.slot 17)
    .skip
    (.exit 0)))
  h17_2)
def h17_4 : HC :=
  (.seq
  (.reg [.asg 4 (.lit (.int .i64 (-1)))])
  .ret)
def h17 : HC :=
  (.seq
  (.reg [.asg 4 (.lit (.int .i64 0))])
  (.seq
  (.reg [.need (.n2 (.iaddr 5) (.slot 0) (.slot 1)),
    .need (.n1 (.ldn 5) (.n2 (.iaddr 5) (.slot 0) (.slot 1))),
    .eff (some 12) (.call { callee := .value (.func 16), args := #[.tmp 11], argTypes := #[34] }) 32 [(11, .n1 (.ldn 5) (.n2 (.iaddr 5) (.slot 0) (.slot 1)))] none [],
    .asg 5 (.slot 12)])
  (.seq
  (.seq
  (.reg [.need (.n1 .lensl (.slot 5)),
    .need (.n2 (.bin .sub) (.n1 .lensl (.slot 5)) (.lit (.int .i64 1))),
    .asg 6 (.n2 (.bin .sub) (.n1 .lensl (.slot 5)) (.lit (.int .i64 1)))])
  (.block 0
    (.loop
      h17_1)))
  h17_4)))
theorem k17 : fnOK Try.prog 167907571 [] [.tmp 4] 2 Try.f17 = some h17 := by kernel_rfl
theorem c17 : callable Try.prog 17 = true := by kernel_rfl
theorem q17 {args : List Value} (ha : args.length = 2) {w : World} {next : Value → World → Prop} {QP : List PanicEntry → World → Prop} (H : hw Try.prog noPanic h17 (endV [.tmp 4] next) (σ0 args) w) : callK Try.prog 17 args w next QP := fn_rule Try.func17 mixed k17 ha H
theorem r17 {args : List Value} (ha : args.length = 2) {w : World} {next : Value → World → Prop} {QP : List PanicEntry → World → Prop} (H : hw Try.prog noPanic h17 (endV [.tmp 4] next) (σ0 args) w) : callvK Try.prog (.func (.func 17) #[] #[]) args w next QP := callf c17 (q17 ha H)

/- missive/missiveref21.Same -/
def h21_4 : HC :=
  (.reg [.need (.n2 (.bin .add) (.slot 5) (.lit (.int .i64 1))),
    .asg 5 (.n2 (.bin .add) (.slot 5) (.lit (.int .i64 1)))])
def h21_3 : HC :=
  (.seq
  (.block 1
    (.seq
    (.draw [.need (.n2 (.iaddr 4) (.slot 0) (.slot 5)),
      .need (.n1 (.ldn 4) (.n2 (.iaddr 4) (.slot 0) (.slot 5))),
      .need (.n2 (.iaddr 4) (.slot 1) (.slot 5)),
      .need (.n1 (.ldn 4) (.n2 (.iaddr 4) (.slot 1) (.slot 5))),
      .eff (some 25) (.binOp .neq 29 (.tmp 20) (.tmp 24) 29) 4 [(20, .n1 (.ldn 4) (.n2 (.iaddr 4) (.slot 0) (.slot 5))), (24, .n1 (.ldn 4) (.n2 (.iaddr 4) (.slot 1) (.slot 5)))] none []])
    (.cond (.slot 25)
      (.seq
      (.reg [.asg 4 (.lit (.bool false))])
      .ret)
      .skip)))
  h21_4)
def h21_2 : HC :=
  (.seq
  (.seq
  (.reg [.need (.n1 .lensl (.slot 0)),
    .need (.n2 (.bin .lss) (.slot 5) (.n1 .lensl (.slot 0))),
    .asg 14 (.n2 (.bin .lss) (.slot 5) (.n1 .lensl (.slot 0)))])
  (.cond (.slot 14)
    .skip
    (.exit 0)))
  h21_3)
def h21_5 : HC :=
  (.seq
  (.reg [.asg 4 (.lit (.bool true))])
  .ret)
def h21_1 : HC :=
  (.seq
  (.seq
  (.reg [.asg 5 (.lit (.int .i64 0))])
  (.block 0
    (.loop
      h21_2)))
  h21_5)
def h21 : HC :=
  (.seq
  (.reg [.asg 4 (.lit (.bool false))])
  (.seq
  (.seq
  (.reg [.need (.n1 .lensl (.slot 0)),
    .need (.n1 .lensl (.slot 1)),
    .need (.n2 (.bin .neq) (.n1 .lensl (.slot 0)) (.n1 .lensl (.slot 1))),
    .asg 10 (.n2 (.bin .neq) (.n1 .lensl (.slot 0)) (.n1 .lensl (.slot 1)))])
  (.cond (.slot 10)
    (.seq
    (.reg [.asg 4 (.lit (.bool false))])
    .ret)
    .skip))
  h21_1))
theorem k21 : fnOK Try.prog 33571891 [⟨6, [0, 0, 3, 7, 0, 0, 48, 112, 255], [(0, []), (1, []), (2, []), (3, []), (4, []), (5, []), (6, []), (7, []), (8, [])], none⟩] [.tmp 4] 2 Try.f21 = some h21 := by kernel_rfl
theorem c21 : callable Try.prog 21 = true := by kernel_rfl
theorem q21 {args : List Value} (ha : args.length = 2) {w : World} {next : Value → World → Prop} {QP : List PanicEntry → World → Prop} (H : hw Try.prog noPanic h21 (endV [.tmp 4] next) (σ0 args) w) : callK Try.prog 21 args w next QP := fn_rule Try.func21 mixed k21 ha H
theorem r21 {args : List Value} (ha : args.length = 2) {w : World} {next : Value → World → Prop} {QP : List PanicEntry → World → Prop} (H : hw Try.prog noPanic h21 (endV [.tmp 4] next) (σ0 args) w) : callvK Try.prog (.func (.func 21) #[] #[]) args w next QP := callf c21 (q21 ha H)

/- missive/missiveref21.Parent -/
def h23_1 : HC :=
  (.seq
  (.reg [.eff (some 18) (.call { callee := .value (.func 34), args := #[.tmp 17], argTypes := #[22] }) 65 [(17, .slot 0)] none [],
    .need (.n1 (.ext 0) (.slot 18)),
    .need (.n1 (.ext 1) (.slot 18)),
    .asg 6 (.n1 (.ext 0) (.slot 18)),
    .asg 7 (.n1 (.ext 1) (.slot 18))])
  (.seq
  (.draw [.need (.n2 (.iaddr 1) (.slot 6) (.slot 1)),
    .need (.n1 .ld (.n2 (.iaddr 1) (.slot 6) (.slot 1))),
    .need (.n2 (.iaddr 1) (.slot 7) (.slot 1)),
    .need (.n1 .ld (.n2 (.iaddr 1) (.slot 7) (.slot 1))),
    .asg 4 (.n1 .ld (.n2 (.iaddr 1) (.slot 6) (.slot 1))),
    .asg 5 (.n1 .ld (.n2 (.iaddr 1) (.slot 7) (.slot 1)))])
  .ret))
def h23 : HC :=
  (.seq
  (.reg [.asg 4 (.lit (.int .i64 0)),
    .asg 5 (.lit (str []))])
  (.seq
  (.seq
  (.reg [.need (.n2 (.bin .lss) (.slot 1) (.lit (.int .i64 0))),
    .need (.gif (.n2 (.bin .lss) (.slot 1) (.lit (.int .i64 0))) false (.n1 .lensl (.slot 0))),
    .need (.gif (.n2 (.bin .lss) (.slot 1) (.lit (.int .i64 0))) false (.n2 (.bin .geq) (.slot 1) (.n1 .lensl (.slot 0)))),
    .need (.n3 .pick (.n2 (.bin .lss) (.slot 1) (.lit (.int .i64 0))) (.lit (.bool true)) (.n2 (.bin .geq) (.slot 1) (.n1 .lensl (.slot 0)))),
    .asg 15 (.n3 .pick (.n2 (.bin .lss) (.slot 1) (.lit (.int .i64 0))) (.lit (.bool true)) (.n2 (.bin .geq) (.slot 1) (.n1 .lensl (.slot 0))))])
  (.cond (.slot 15)
    (.seq
    (.reg [.asg 4 (.lit (.int .i64 (-1))),
      .asg 5 (.lit (str []))])
    .ret)
    .skip))
  h23_1))
theorem k23 : fnOK Try.prog 295155 [⟨4, [0, 0, 3, 7, 0, 0, 48, 112, 15, 511], [(0, []), (1, []), (2, []), (3, []), (4, []), (5, []), (6, []), (7, []), (8, []), (9, [])], none⟩] [.tmp 4, .tmp 5] 2 Try.f23 = some h23 := by kernel_rfl
theorem c23 : callable Try.prog 23 = true := by kernel_rfl
theorem q23 {args : List Value} (ha : args.length = 2) {w : World} {next : Value → World → Prop} {QP : List PanicEntry → World → Prop} (H : hw Try.prog noPanic h23 (endV [.tmp 4, .tmp 5] next) (σ0 args) w) : callK Try.prog 23 args w next QP := fn_rule Try.func23 mixed k23 ha H
theorem r23 {args : List Value} (ha : args.length = 2) {w : World} {next : Value → World → Prop} {QP : List PanicEntry → World → Prop} (H : hw Try.prog noPanic h23 (endV [.tmp 4, .tmp 5] next) (σ0 args) w) : callvK Try.prog (.func (.func 23) #[] #[]) args w next QP := callf c23 (q23 ha H)

/- missive/missiveref21.Root -/
def h24_3 : HC :=
  (.reg [.need (.n2 (.bin .add) (.slot 8) (.lit (.int .i64 1))),
    .asg 8 (.n2 (.bin .add) (.slot 8) (.lit (.int .i64 1)))])
def h24_2 : HC :=
  (.seq
  (.block 1
    (.seq
    (.reg [.need (.n2 (.iaddr 1) (.slot 6) (.slot 8)),
      .need (.n1 .ld (.n2 (.iaddr 1) (.slot 6) (.slot 8))),
      .need (.n2 (.sbin .neq) (.n1 .ld (.n2 (.iaddr 1) (.slot 6) (.slot 8))) (.lit (str []))),
      .need (.gif (.n2 (.sbin .neq) (.n1 .ld (.n2 (.iaddr 1) (.slot 6) (.slot 8))) (.lit (str []))) true (.n2 (.iaddr 1) (.slot 6) (.slot 8))),
      .need (.gif (.n2 (.sbin .neq) (.n1 .ld (.n2 (.iaddr 1) (.slot 6) (.slot 8))) (.lit (str []))) true (.n1 .ld (.n2 (.iaddr 1) (.slot 6) (.slot 8)))),
      .need (.gif (.n2 (.sbin .neq) (.n1 .ld (.n2 (.iaddr 1) (.slot 6) (.slot 8))) (.lit (str []))) true (.n2 (.sbin .eql) (.n1 .ld (.n2 (.iaddr 1) (.slot 6) (.slot 8))) (.slot 1))),
      .need (.n3 .pick (.n2 (.sbin .neq) (.n1 .ld (.n2 (.iaddr 1) (.slot 6) (.slot 8))) (.lit (str []))) (.n2 (.sbin .eql) (.n1 .ld (.n2 (.iaddr 1) (.slot 6) (.slot 8))) (.slot 1)) (.lit (.bool false))),
      .asg 39 (.n3 .pick (.n2 (.sbin .neq) (.n1 .ld (.n2 (.iaddr 1) (.slot 6) (.slot 8))) (.lit (str []))) (.n2 (.sbin .eql) (.n1 .ld (.n2 (.iaddr 1) (.slot 6) (.slot 8))) (.slot 1)) (.lit (.bool false)))])
    (.cond (.slot 39)
      (.seq
      (.reg [.asg 4 (.slot 1)])
      .ret)
      .skip)))
  h24_3)
def h24_1 : HC :=
  (.seq
  (.seq
  (.reg [.need (.n1 .lensl (.slot 0)),
    .need (.n2 (.bin .lss) (.slot 8) (.n1 .lensl (.slot 0))),
    .need (.gif (.n2 (.bin .lss) (.slot 8) (.n1 .lensl (.slot 0))) true (.n2 (.bin .lss) (.slot 7) (.lit (.int .i64 0)))),
    .need (.n3 .pick (.n2 (.bin .lss) (.slot 8) (.n1 .lensl (.slot 0))) (.n2 (.bin .lss) (.slot 7) (.lit (.int .i64 0))) (.lit (.bool false))),
    .asg 24 (.n3 .pick (.n2 (.bin .lss) (.slot 8) (.n1 .lensl (.slot 0))) (.n2 (.bin .lss) (.slot 7) (.lit (.int .i64 0))) (.lit (.bool false)))])
  (.cond (.slot 24)
    .skip
    (.exit 0)))
  h24_2)
def h24_7 : HC :=
  (.block 3
    (.reg [.need (.n2 (.iaddr 1) (.slot 5) (.slot 7)),
      .need (.n1 .ld (.n2 (.iaddr 1) (.slot 5) (.slot 7))),
      .asg 7 (.n1 .ld (.n2 (.iaddr 1) (.slot 5) (.slot 7)))]))
def h24_6 : HC :=
  (.seq
  (.seq
  (.reg [.need (.n2 (.iaddr 1) (.slot 5) (.slot 7)),
    .need (.n1 .ld (.n2 (.iaddr 1) (.slot 5) (.slot 7))),
    .need (.n2 (.bin .geq) (.n1 .ld (.n2 (.iaddr 1) (.slot 5) (.slot 7))) (.lit (.int .i64 0))),
    .asg 47 (.n2 (.bin .geq) (.n1 .ld (.n2 (.iaddr 1) (.slot 5) (.slot 7))) (.lit (.int .i64 0)))])
  (.cond (.slot 47)
    .skip
    (.exit 2)))
  h24_7)
def h24_9 : HC :=
  (.seq
  (.reg [.need (.n2 (.iaddr 5) (.slot 0) (.slot 7)),
    .need (.n1 (.faddr 0) (.n2 (.iaddr 5) (.slot 0) (.slot 7))),
    .need (.n1 .ld (.n1 (.faddr 0) (.n2 (.iaddr 5) (.slot 0) (.slot 7)))),
    .asg 4 (.n1 .ld (.n1 (.faddr 0) (.n2 (.iaddr 5) (.slot 0) (.slot 7))))])
  .ret)
def h24_8 : HC :=
  (.seq
  (.seq
  (.reg [.need (.n2 (.iaddr 1) (.slot 6) (.slot 7)),
    .need (.n1 .ld (.n2 (.iaddr 1) (.slot 6) (.slot 7))),
    .need (.n2 (.sbin .neq) (.n1 .ld (.n2 (.iaddr 1) (.slot 6) (.slot 7))) (.lit (str []))),
    .asg 56 (.n2 (.sbin .neq) (.n1 .ld (.n2 (.iaddr 1) (.slot 6) (.slot 7))) (.lit (str [])))])
  (.cond (.slot 56)
    (.seq
    (.reg [.need (.n2 (.iaddr 1) (.slot 6) (.slot 7)),
      .need (.n1 .ld (.n2 (.iaddr 1) (.slot 6) (.slot 7))),
      .asg 4 (.n1 .ld (.n2 (.iaddr 1) (.slot 6) (.slot 7)))])
    .ret)
    .skip))
  h24_9)
def h24_5 : HC :=
  (.seq
  (.block 2
    (.loop
      h24_6))
  h24_8)
def h24_4 : HC :=
  (.seq
  (.seq
  (.reg [.need (.n2 (.bin .lss) (.slot 7) (.lit (.int .i64 0))),
    .asg 42 (.n2 (.bin .lss) (.slot 7) (.lit (.int .i64 0)))])
  (.cond (.slot 42)
    (.seq
    (.reg [.asg 4 (.lit (str []))])
    .ret)
    .skip))
  h24_5)
def h24 : HC :=
  (.seq
  (.reg [.asg 4 (.lit (str []))])
  (.seq
  (.reg [.eff (some 11) (.call { callee := .value (.func 34), args := #[.tmp 10], argTypes := #[22] }) 65 [(10, .slot 0)] none [],
    .need (.n1 (.ext 0) (.slot 11)),
    .need (.n1 (.ext 1) (.slot 11)),
    .asg 5 (.n1 (.ext 0) (.slot 11)),
    .asg 6 (.n1 (.ext 1) (.slot 11))])
  (.seq
  (.reg [.eff (some 16) (.call { callee := .value (.func 12), args := #[.tmp 14, .tmp 15], argTypes := #[22, 9] }) 3 [(14, .slot 0), (15, .slot 1)] none [],
    .asg 7 (.slot 16)])
  (.seq
  (.seq
  (.reg [.asg 8 (.lit (.int .i64 0))])
  (.block 0
    (.loop
      h24_1)))
  h24_4))))
theorem k24 : fnOK Try.prog 72203279345453555 [] [.tmp 4] 2 Try.f24 = some h24 := by kernel_rfl
theorem c24 : callable Try.prog 24 = true := by kernel_rfl
theorem q24 {args : List Value} (ha : args.length = 2) {w : World} {next : Value → World → Prop} {QP : List PanicEntry → World → Prop} (H : hw Try.prog noPanic h24 (endV [.tmp 4] next) (σ0 args) w) : callK Try.prog 24 args w next QP := fn_rule Try.func24 mixed k24 ha H
theorem r24 {args : List Value} (ha : args.length = 2) {w : World} {next : Value → World → Prop} {QP : List PanicEntry → World → Prop} (H : hw Try.prog noPanic h24 (endV [.tmp 4] next) (σ0 args) w) : callvK Try.prog (.func (.func 24) #[] #[]) args w next QP := callf c24 (q24 ha H)

/- missive/missiveref21.Forest -/
def h25 : HC :=
  (.seq
  (.reg [.asg 2 (.lit (.slice none 0 0))])
  (.seq
  (.reg [.eff (some 5) (.call { callee := .value (.func 35), args := #[.tmp 4], argTypes := #[22] }) 67 [(4, .slot 0)] none [],
    .asg 3 (.slot 5)])
  (.seq
  (.reg [.eff (some 7) (.call { callee := .value (.func 36), args := #[.const (.slice none 0 0), .tmp 6, .const (str []), .const (.int .i64 (-1)), .const (.int .i64 0)], argTypes := #[25, 67, 9, 3, 3] }) 25 [(6, .slot 3)] none [],
    .asg 2 (.slot 7)])
  .ret)))
theorem k25 : fnOK Try.prog 173 [] [.tmp 2] 1 Try.f25 = some h25 := by kernel_rfl
theorem c25 : callable Try.prog 25 = true := by kernel_rfl
theorem q25 {args : List Value} (ha : args.length = 1) {w : World} {next : Value → World → Prop} {QP : List PanicEntry → World → Prop} (H : hw Try.prog noPanic h25 (endV [.tmp 2] next) (σ0 args) w) : callK Try.prog 25 args w next QP := fn_rule Try.func25 mixed k25 ha H
theorem r25 {args : List Value} (ha : args.length = 1) {w : World} {next : Value → World → Prop} {QP : List PanicEntry → World → Prop} (H : hw Try.prog noPanic h25 (endV [.tmp 2] next) (σ0 args) w) : callvK Try.prog (.func (.func 25) #[] #[]) args w next QP := callf c25 (q25 ha H)

/- missive/missiveref21.Distinct -/
def h26_6 : HC :=
  (.reg [.need (.n2 (.bin .add) (.slot 4) (.lit (.int .i64 1))),
    .asg 4 (.n2 (.bin .add) (.slot 4) (.lit (.int .i64 1)))])
def h26_5 : HC :=
  (.seq
  (.block 3
    (.seq
    (.draw [.need (.n2 (.iaddr 5) (.slot 0) (.slot 4)),
      .need (.n1 (.faddr 0) (.n2 (.iaddr 5) (.slot 0) (.slot 4))),
      .need (.n1 .ld (.n1 (.faddr 0) (.n2 (.iaddr 5) (.slot 0) (.slot 4)))),
      .need (.n2 (.iaddr 5) (.slot 0) (.slot 3)),
      .need (.n1 (.faddr 0) (.n2 (.iaddr 5) (.slot 0) (.slot 3))),
      .need (.n1 .ld (.n1 (.faddr 0) (.n2 (.iaddr 5) (.slot 0) (.slot 3)))),
      .need (.n2 (.sbin .eql) (.n1 .ld (.n1 (.faddr 0) (.n2 (.iaddr 5) (.slot 0) (.slot 4)))) (.n1 .ld (.n1 (.faddr 0) (.n2 (.iaddr 5) (.slot 0) (.slot 3))))),
      .asg 32 (.n2 (.sbin .eql) (.n1 .ld (.n1 (.faddr 0) (.n2 (.iaddr 5) (.slot 0) (.slot 4)))) (.n1 .ld (.n1 (.faddr 0) (.n2 (.iaddr 5) (.slot 0) (.slot 3)))))])
    (.cond (.slot 32)
      (.seq
      (.reg [.asg 2 (.lit (.bool false))])
      .ret)
      .skip)))
  h26_6)
def h26_4 : HC :=
  (.seq
  (.seq
  (.reg [.need (.n2 (.bin .lss) (.slot 4) (.slot 3)),
    .asg 19 (.n2 (.bin .lss) (.slot 4) (.slot 3))])
  (.cond (.slot 19)
    .skip
    (.exit 2)))
  h26_5)
def h26_3 : HC :=
  (.seq
  (.reg [.asg 4 (.lit (.int .i64 0))])
  (.block 2
    (.loop
      h26_4)))
def h26_7 : HC :=
  (.reg [.need (.n2 (.bin .add) (.slot 3) (.lit (.int .i64 1))),
    .asg 3 (.n2 (.bin .add) (.slot 3) (.lit (.int .i64 1)))])
def h26_2 : HC :=
  (.seq
  (.block 1
    (.seq
    (.seq
    (.reg [.need (.n2 (.iaddr 5) (.slot 0) (.slot 3)),
      .need (.n1 (.faddr 0) (.n2 (.iaddr 5) (.slot 0) (.slot 3))),
      .need (.n1 .ld (.n1 (.faddr 0) (.n2 (.iaddr 5) (.slot 0) (.slot 3)))),
      .need (.n2 (.sbin .eql) (.n1 .ld (.n1 (.faddr 0) (.n2 (.iaddr 5) (.slot 0) (.slot 3)))) (.lit (str []))),
      .asg 16 (.n2 (.sbin .eql) (.n1 .ld (.n1 (.faddr 0) (.n2 (.iaddr 5) (.slot 0) (.slot 3)))) (.lit (str [])))])
    (.cond (.slot 16)
      (.seq
      (.reg [.asg 2 (.lit (.bool false))])
      .ret)
      .skip))
    h26_3))
  h26_7)
def h26_1 : HC :=
  (.seq
  (.seq
  (.reg [.need (.n1 .lensl (.slot 0)),
    .need (.n2 (.bin .lss) (.slot 3) (.n1 .lensl (.slot 0))),
    .asg 8 (.n2 (.bin .lss) (.slot 3) (.n1 .lensl (.slot 0)))])
  (.cond (.slot 8)
    .skip
    (.exit 0)))
  h26_2)
def h26_8 : HC :=
  (.seq
  (.reg [.asg 2 (.lit (.bool true))])
  .ret)
def h26 : HC :=
  (.seq
  (.reg [.asg 2 (.lit (.bool false))])
  (.seq
  (.seq
  (.reg [.asg 3 (.lit (.int .i64 0))])
  (.block 0
    (.loop
      h26_1)))
  h26_8))
theorem k26 : fnOK Try.prog 4295557405 [⟨9, [0, 0, 3, 7, 15, 0, 0, 96, 224, 480, 1023], [(0, []), (1, []), (2, []), (3, []), (4, []), (5, []), (6, []), (7, []), (8, []), (9, []), (10, [])], none⟩] [.tmp 2] 1 Try.f26 = some h26 := by kernel_rfl
theorem c26 : callable Try.prog 26 = true := by kernel_rfl
theorem q26 {args : List Value} (ha : args.length = 1) {w : World} {next : Value → World → Prop} {QP : List PanicEntry → World → Prop} (H : hw Try.prog noPanic h26 (endV [.tmp 2] next) (σ0 args) w) : callK Try.prog 26 args w next QP := fn_rule Try.func26 mixed k26 ha H
theorem r26 {args : List Value} (ha : args.length = 1) {w : World} {next : Value → World → Prop} {QP : List PanicEntry → World → Prop} (H : hw Try.prog noPanic h26 (endV [.tmp 2] next) (σ0 args) w) : callvK Try.prog (.func (.func 26) #[] #[]) args w next QP := callf c26 (q26 ha H)

/- missive/missiveref21.Parents -/
def h34_3 : HC :=
  (.reg [.need (.n2 (.bin .add) (.slot 5) (.lit (.int .i64 1))),
    .asg 5 (.n2 (.bin .add) (.slot 5) (.lit (.int .i64 1)))])
def h34_2 : HC :=
  (.seq
  (.block 1
    (.reg [.eff (some 22) (.call { callee := .value (.func 17), args := #[.tmp 20, .tmp 21], argTypes := #[22, 3] }) 3 [(20, .slot 0), (21, .slot 5)] none [],
      .eff (some 23) (.buildSlice 60 1 #[(0, .tmp 22)]) 60 [(22, .slot 22)] none [],
      .eff (some 24) (.call { callee := .builtin .append, args := #[.tmp 19, .tmp 23], argTypes := #[60, 60] }) 60 [(19, .slot 4), (23, .slot 23)] none [],
      .asg 4 (.slot 24)]))
  h34_3)
def h34_1 : HC :=
  (.seq
  (.seq
  (.reg [.need (.n1 .lensl (.slot 0)),
    .need (.n2 (.bin .lss) (.slot 5) (.n1 .lensl (.slot 0))),
    .asg 16 (.n2 (.bin .lss) (.slot 5) (.n1 .lensl (.slot 0)))])
  (.cond (.slot 16)
    .skip
    (.exit 0)))
  h34_2)
def h34_7 : HC :=
  (.seq
  (.reg [.eff (some 72) (.buildSlice 60 1 #[(0, .tmp 71)]) 60 [(71, .slot 11)] none [],
    .eff (some 73) (.call { callee := .builtin .append, args := #[.tmp 70, .tmp 72], argTypes := #[60, 60] }) 60 [(70, .slot 6), (72, .slot 72)] none [],
    .asg 6 (.slot 73)])
  (.reg [.eff (some 76) (.buildSlice 32 1 #[(0, .tmp 75)]) 32 [(75, .slot 12)] none [],
    .eff (some 77) (.call { callee := .builtin .append, args := #[.tmp 74, .tmp 76], argTypes := #[32, 32] }) 32 [(74, .slot 7), (76, .slot 76)] none [],
    .asg 7 (.slot 77)]))
def h34_8 : HC :=
  (.reg [.need (.n2 (.bin .add) (.slot 8) (.lit (.int .i64 1))),
    .asg 8 (.n2 (.bin .add) (.slot 8) (.lit (.int .i64 1)))])
def h34_6 : HC :=
  (.seq
  (.block 3
    (.seq
    (.reg [.need (.n2 (.iaddr 5) (.slot 0) (.slot 8)),
      .need (.n1 (.ldn 5) (.n2 (.iaddr 5) (.slot 0) (.slot 8))),
      .asg 34 (.n1 (.ldn 5) (.n2 (.iaddr 5) (.slot 0) (.slot 8))),
      .eff (some 9) (.alloc 34) 0 [] none [],
      .eff none (.store 34 (.tmp 9) (.tmp 34)) 0 [(9, .slot 9), (34, .slot 34)] none []])
    (.seq
    (.reg [.need (.n1 (.ldn 5) (.slot 9)),
      .eff (some 36) (.call { callee := .value (.func 16), args := #[.tmp 35], argTypes := #[34] }) 32 [(35, .n1 (.ldn 5) (.slot 9))] none [],
      .asg 10 (.slot 36)])
    (.seq
    (.reg [.asg 11 (.lit (.int .i64 (-1)))])
    (.seq
    (.reg [.asg 12 (.lit (str []))])
    (.seq
    (.seq
    (.reg [.need (.n2 (.iaddr 1) (.slot 4) (.slot 8)),
      .need (.n1 .ld (.n2 (.iaddr 1) (.slot 4) (.slot 8))),
      .need (.n2 (.bin .geq) (.n1 .ld (.n2 (.iaddr 1) (.slot 4) (.slot 8))) (.lit (.int .i64 0))),
      .asg 41 (.n2 (.bin .geq) (.n1 .ld (.n2 (.iaddr 1) (.slot 4) (.slot 8))) (.lit (.int .i64 0)))])
    (.cond (.slot 41)
      (.seq
      (.reg [.eff (some 45) (.call { callee := .value (.func 47), args := #[.tmp 42, .tmp 43, .tmp 44], argTypes := #[22, 60, 3] }) 4 [(42, .slot 0), (43, .slot 4), (44, .slot 8)] none [],
        .need (.n1 .bnot (.slot 45)),
        .asg 46 (.n1 .bnot (.slot 45))])
      (.cond (.slot 46)
        (.reg [.need (.n2 (.iaddr 1) (.slot 4) (.slot 8)),
          .need (.n1 .ld (.n2 (.iaddr 1) (.slot 4) (.slot 8))),
          .asg 11 (.n1 .ld (.n2 (.iaddr 1) (.slot 4) (.slot 8)))])
        .skip))
      (.seq
      (.reg [.need (.n1 .lensl (.slot 10)),
        .need (.n2 (.bin .gtr) (.n1 .lensl (.slot 10)) (.lit (.int .i64 0))),
        .asg 53 (.n2 (.bin .gtr) (.n1 .lensl (.slot 10)) (.lit (.int .i64 0)))])
      (.cond (.slot 53)
        (.reg [.need (.n1 .lensl (.slot 10)),
          .need (.n2 (.bin .sub) (.n1 .lensl (.slot 10)) (.lit (.int .i64 1))),
          .need (.n2 (.iaddr 1) (.slot 10) (.n2 (.bin .sub) (.n1 .lensl (.slot 10)) (.lit (.int .i64 1)))),
          .need (.n1 .ld (.n2 (.iaddr 1) (.slot 10) (.n2 (.bin .sub) (.n1 .lensl (.slot 10)) (.lit (.int .i64 1))))),
          .asg 12 (.n1 .ld (.n2 (.iaddr 1) (.slot 10) (.n2 (.bin .sub) (.n1 .lensl (.slot 10)) (.lit (.int .i64 1)))))])
        (.seq
        (.reg [.need (.n1 (.faddr 4) (.slot 9)),
          .need (.n1 .ld (.n1 (.faddr 4) (.slot 9))),
          .need (.gif (.n1 .ld (.n1 (.faddr 4) (.slot 9))) true (.n1 (.faddr 3) (.slot 9))),
          .need (.gif (.n1 .ld (.n1 (.faddr 4) (.slot 9))) true (.n1 .ld (.n1 (.faddr 3) (.slot 9)))),
          .need (.gif (.n1 .ld (.n1 (.faddr 4) (.slot 9))) true (.n2 (.sbin .neq) (.n1 .ld (.n1 (.faddr 3) (.slot 9))) (.lit (str [])))),
          .need (.n3 .pick (.n1 .ld (.n1 (.faddr 4) (.slot 9))) (.n2 (.sbin .neq) (.n1 .ld (.n1 (.faddr 3) (.slot 9))) (.lit (str []))) (.lit (.bool false))),
          .asg 66 (.n3 .pick (.n1 .ld (.n1 (.faddr 4) (.slot 9))) (.n2 (.sbin .neq) (.n1 .ld (.n1 (.faddr 3) (.slot 9))) (.lit (str []))) (.lit (.bool false)))])
        (.cond (.slot 66)
          (.reg [.need (.n1 (.ldn 5) (.slot 9)),
            .eff (some 69) (.call { callee := .value (.func 48), args := #[.tmp 67, .tmp 68], argTypes := #[22, 34] }) 3 [(67, .slot 0), (68, .n1 (.ldn 5) (.slot 9))] none [],
            .asg 11 (.slot 69)])
          .skip))))))
    h34_7))))))
  h34_8)
def h34_5 : HC :=
  (.seq
  (.seq
  (.reg [.need (.n1 .lensl (.slot 0)),
    .need (.n2 (.bin .lss) (.slot 8) (.n1 .lensl (.slot 0))),
    .asg 28 (.n2 (.bin .lss) (.slot 8) (.n1 .lensl (.slot 0)))])
  (.cond (.slot 28)
    .skip
    (.exit 2)))
  h34_6)
def h34_9 : HC :=
  (.seq
  (.reg [.asg 2 (.slot 6),
    .asg 3 (.slot 7)])
  .ret)
def h34_4 : HC :=
  (.seq
  (.reg [.asg 6 (.lit (.slice none 0 0))])
  (.seq
  (.reg [.asg 7 (.lit (.slice none 0 0))])
  (.seq
  (.seq
  (.reg [.asg 8 (.lit (.int .i64 0))])
  (.block 2
    (.loop
      h34_5)))
  h34_9)))
def h34 : HC :=
  (.seq
  (.reg [.asg 2 (.lit (.slice none 0 0)),
    .asg 3 (.lit (.slice none 0 0))])
  (.seq
  (.reg [.asg 4 (.lit (.slice none 0 0))])
  (.seq
  (.seq
  (.reg [.asg 5 (.lit (.int .i64 0))])
  (.block 0
    (.loop
      h34_1)))
  h34_4)))
theorem k34 : fnOK Try.prog 241504782528043041234941 [] [.tmp 2, .tmp 3] 1 Try.f34 = some h34 := by kernel_rfl
theorem c34 : callable Try.prog 34 = true := by kernel_rfl
theorem q34 {args : List Value} (ha : args.length = 1) {w : World} {next : Value → World → Prop} {QP : List PanicEntry → World → Prop} (H : hw Try.prog noPanic h34 (endV [.tmp 2, .tmp 3] next) (σ0 args) w) : callK Try.prog 34 args w next QP := fn_rule Try.func34 mixed k34 ha H
theorem r34 {args : List Value} (ha : args.length = 1) {w : World} {next : Value → World → Prop} {QP : List PanicEntry → World → Prop} (H : hw Try.prog noPanic h34 (endV [.tmp 2, .tmp 3] next) (σ0 args) w) : callvK Try.prog (.func (.func 34) #[] #[]) args w next QP := callf c34 (q34 ha H)

/- missive/missiveref21.trees -/
def h35_3 : HC :=
  (.reg [.need (.n1 (.ldn 4) (.slot 7)),
    .eff (some 54) (.call { callee := .value (.func 49), args := #[.tmp 52, .tmp 53], argTypes := #[67, 81] }) 67 [(52, .slot 5), (53, .n1 (.ldn 4) (.slot 7))] none [],
    .asg 5 (.slot 54)])
def h35_4 : HC :=
  (.reg [.need (.n2 (.bin .add) (.slot 6) (.lit (.int .i64 1))),
    .asg 6 (.n2 (.bin .add) (.slot 6) (.lit (.int .i64 1)))])
def h35_2 : HC :=
  (.seq
  (.block 1
    (.seq
    (.draw [.need (.n2 (.iaddr 5) (.slot 0) (.slot 6)),
      .need (.n1 (.faddr 0) (.n2 (.iaddr 5) (.slot 0) (.slot 6))),
      .need (.n1 .ld (.n1 (.faddr 0) (.n2 (.iaddr 5) (.slot 0) (.slot 6)))),
      .need (.n2 (.iaddr 5) (.slot 0) (.slot 6)),
      .need (.n1 (.faddr 1) (.n2 (.iaddr 5) (.slot 0) (.slot 6))),
      .need (.n1 .ld (.n1 (.faddr 1) (.n2 (.iaddr 5) (.slot 0) (.slot 6)))),
      .need (.n2 (.iaddr 1) (.slot 4) (.slot 6)),
      .need (.n1 .ld (.n2 (.iaddr 1) (.slot 4) (.slot 6))),
      .need (.n2 (.put 0 1) (.lit (.agg #[(str []), (.bool false), (.int .i64 0), (str [])])) (.n1 .ld (.n1 (.faddr 0) (.n2 (.iaddr 5) (.slot 0) (.slot 6))))),
      .need (.n2 (.put 2 1) (.n2 (.put 0 1) (.lit (.agg #[(str []), (.bool false), (.int .i64 0), (str [])])) (.n1 .ld (.n1 (.faddr 0) (.n2 (.iaddr 5) (.slot 0) (.slot 6))))) (.n1 .ld (.n1 (.faddr 1) (.n2 (.iaddr 5) (.slot 0) (.slot 6))))),
      .need (.n2 (.put 3 1) (.n2 (.put 2 1) (.n2 (.put 0 1) (.lit (.agg #[(str []), (.bool false), (.int .i64 0), (str [])])) (.n1 .ld (.n1 (.faddr 0) (.n2 (.iaddr 5) (.slot 0) (.slot 6))))) (.n1 .ld (.n1 (.faddr 1) (.n2 (.iaddr 5) (.slot 0) (.slot 6))))) (.n1 .ld (.n2 (.iaddr 1) (.slot 4) (.slot 6)))),
      .asg 37 (.n2 (.put 3 1) (.n2 (.put 2 1) (.n2 (.put 0 1) (.lit (.agg #[(str []), (.bool false), (.int .i64 0), (str [])])) (.n1 .ld (.n1 (.faddr 0) (.n2 (.iaddr 5) (.slot 0) (.slot 6))))) (.n1 .ld (.n1 (.faddr 1) (.n2 (.iaddr 5) (.slot 0) (.slot 6))))) (.n1 .ld (.n2 (.iaddr 1) (.slot 4) (.slot 6)))),
      .eff (some 7) (.alloc 81) 0 [] none [⟨none, .ld, .n1 (.faddr 0) (.n2 (.iaddr 5) (.slot 0) (.slot 6))⟩, ⟨none, .ld, .n1 (.faddr 1) (.n2 (.iaddr 5) (.slot 0) (.slot 6))⟩, ⟨none, .ld, .n2 (.iaddr 1) (.slot 4) (.slot 6)⟩],
      .eff none (.store 81 (.tmp 7) (.tmp 37)) 0 [(7, .slot 7), (37, .slot 37)] none []])
    (.seq
    (.seq
    (.reg [.need (.n2 (.iaddr 1) (.slot 3) (.slot 6)),
      .need (.n1 .ld (.n2 (.iaddr 1) (.slot 3) (.slot 6))),
      .need (.n2 (.bin .geq) (.n1 .ld (.n2 (.iaddr 1) (.slot 3) (.slot 6))) (.lit (.int .i64 0))),
      .asg 42 (.n2 (.bin .geq) (.n1 .ld (.n2 (.iaddr 1) (.slot 3) (.slot 6))) (.lit (.int .i64 0)))])
    (.cond (.slot 42)
      (.reg [.need (.n2 (.iaddr 1) (.slot 3) (.slot 6)),
        .need (.n1 .ld (.n2 (.iaddr 1) (.slot 3) (.slot 6))),
        .need (.n2 (.iaddr 5) (.slot 0) (.n1 .ld (.n2 (.iaddr 1) (.slot 3) (.slot 6)))),
        .need (.n1 (.faddr 0) (.n2 (.iaddr 5) (.slot 0) (.n1 .ld (.n2 (.iaddr 1) (.slot 3) (.slot 6))))),
        .need (.n1 .ld (.n1 (.faddr 0) (.n2 (.iaddr 5) (.slot 0) (.n1 .ld (.n2 (.iaddr 1) (.slot 3) (.slot 6)))))),
        .need (.n1 (.faddr 3) (.slot 7)),
        .eff none (.store 9 (.tmp 51) (.tmp 50)) 0 [(51, .n1 (.faddr 3) (.slot 7)), (50, .n1 .ld (.n1 (.faddr 0) (.n2 (.iaddr 5) (.slot 0) (.n1 .ld (.n2 (.iaddr 1) (.slot 3) (.slot 6))))))] none []])
      .skip))
    h35_3)))
  h35_4)
def h35_1 : HC :=
  (.seq
  (.seq
  (.reg [.need (.n1 .lensl (.slot 0)),
    .need (.n2 (.bin .lss) (.slot 6) (.n1 .lensl (.slot 0))),
    .asg 20 (.n2 (.bin .lss) (.slot 6) (.n1 .lensl (.slot 0)))])
  (.cond (.slot 20)
    .skip
    (.exit 0)))
  h35_2)
def h35_10 : HC :=
  (.reg [.need (.n2 (.bin .add) (.slot 11) (.lit (.int .i64 1))),
    .asg 11 (.n2 (.bin .add) (.slot 11) (.lit (.int .i64 1)))])
def h35_9 : HC :=
  (.seq
  (.block 5
    (.seq
    (.draw [.need (.n2 (.iaddr 1) (.slot 4) (.slot 11)),
      .need (.n1 .ld (.n2 (.iaddr 1) (.slot 4) (.slot 11))),
      .need (.n2 (.iaddr 1) (.slot 4) (.slot 8)),
      .need (.n1 .ld (.n2 (.iaddr 1) (.slot 4) (.slot 8))),
      .need (.n2 (.sbin .eql) (.n1 .ld (.n2 (.iaddr 1) (.slot 4) (.slot 11))) (.n1 .ld (.n2 (.iaddr 1) (.slot 4) (.slot 8)))),
      .asg 85 (.n2 (.sbin .eql) (.n1 .ld (.n2 (.iaddr 1) (.slot 4) (.slot 11))) (.n1 .ld (.n2 (.iaddr 1) (.slot 4) (.slot 8))))])
    (.cond (.slot 85)
      (.seq
      (.reg [.need (.gif (.slot 9) true (.n2 (.bin .geq) (.slot 11) (.slot 8))),
        .need (.n3 .pick (.slot 9) (.n2 (.bin .geq) (.slot 11) (.slot 8)) (.lit (.bool false))),
        .asg 9 (.n3 .pick (.slot 9) (.n2 (.bin .geq) (.slot 11) (.slot 8)) (.lit (.bool false)))])
      (.reg [.need (.n2 (.iaddr 5) (.slot 0) (.slot 11)),
        .need (.n1 (.faddr 1) (.n2 (.iaddr 5) (.slot 0) (.slot 11))),
        .need (.n1 .ld (.n1 (.faddr 1) (.n2 (.iaddr 5) (.slot 0) (.slot 11)))),
        .need (.n2 .mn (.slot 10) (.n1 .ld (.n1 (.faddr 1) (.n2 (.iaddr 5) (.slot 0) (.slot 11))))),
        .asg 10 (.n2 .mn (.slot 10) (.n1 .ld (.n1 (.faddr 1) (.n2 (.iaddr 5) (.slot 0) (.slot 11)))))]))
      .skip)))
  h35_10)
def h35_8 : HC :=
  (.seq
  (.seq
  (.reg [.need (.n1 .lensl (.slot 0)),
    .need (.n2 (.bin .lss) (.slot 11) (.n1 .lensl (.slot 0))),
    .asg 74 (.n2 (.bin .lss) (.slot 11) (.n1 .lensl (.slot 0)))])
  (.cond (.slot 74)
    .skip
    (.exit 4)))
  h35_9)
def h35_11 : HC :=
  (.seq
  (.reg [.asg 99 (.slot 9)])
  (.cond (.slot 99)
    (.reg [.need (.n2 (.iaddr 1) (.slot 4) (.slot 8)),
      .need (.n1 .ld (.n2 (.iaddr 1) (.slot 4) (.slot 8))),
      .need (.n2 (.put 0 1) (.lit (.agg #[(str []), (.bool false), (.int .i64 0), (str [])])) (.n1 .ld (.n2 (.iaddr 1) (.slot 4) (.slot 8)))),
      .need (.n2 (.put 1 1) (.n2 (.put 0 1) (.lit (.agg #[(str []), (.bool false), (.int .i64 0), (str [])])) (.n1 .ld (.n2 (.iaddr 1) (.slot 4) (.slot 8)))) (.lit (.bool true))),
      .need (.n2 (.put 2 1) (.n2 (.put 1 1) (.n2 (.put 0 1) (.lit (.agg #[(str []), (.bool false), (.int .i64 0), (str [])])) (.n1 .ld (.n2 (.iaddr 1) (.slot 4) (.slot 8)))) (.lit (.bool true))) (.slot 10)),
      .eff (some 107) (.call { callee := .value (.func 49), args := #[.tmp 100, .tmp 106], argTypes := #[67, 81] }) 67 [(100, .slot 5), (106, .n2 (.put 2 1) (.n2 (.put 1 1) (.n2 (.put 0 1) (.lit (.agg #[(str []), (.bool false), (.int .i64 0), (str [])])) (.n1 .ld (.n2 (.iaddr 1) (.slot 4) (.slot 8)))) (.lit (.bool true))) (.slot 10))] none [],
      .asg 5 (.slot 107)])
    .skip))
def h35_12 : HC :=
  (.reg [.need (.n2 (.bin .add) (.slot 8) (.lit (.int .i64 1))),
    .asg 8 (.n2 (.bin .add) (.slot 8) (.lit (.int .i64 1)))])
def h35_7 : HC :=
  (.seq
  (.block 3
    (.seq
    (.reg [.need (.n2 (.iaddr 1) (.slot 4) (.slot 8)),
      .need (.n1 .ld (.n2 (.iaddr 1) (.slot 4) (.slot 8))),
      .need (.n2 (.sbin .neq) (.n1 .ld (.n2 (.iaddr 1) (.slot 4) (.slot 8))) (.lit (str []))),
      .asg 9 (.n2 (.sbin .neq) (.n1 .ld (.n2 (.iaddr 1) (.slot 4) (.slot 8))) (.lit (str [])))])
    (.seq
    (.reg [.need (.n2 (.iaddr 5) (.slot 0) (.slot 8)),
      .need (.n1 (.faddr 1) (.n2 (.iaddr 5) (.slot 0) (.slot 8))),
      .need (.n1 .ld (.n1 (.faddr 1) (.n2 (.iaddr 5) (.slot 0) (.slot 8)))),
      .asg 10 (.n1 .ld (.n1 (.faddr 1) (.n2 (.iaddr 5) (.slot 0) (.slot 8))))])
    (.seq
    (.seq
    (.reg [.asg 11 (.lit (.int .i64 0))])
    (.block 4
      (.loop
        h35_8)))
    h35_11))))
  h35_12)
def h35_6 : HC :=
  (.seq
  (.seq
  (.reg [.need (.n1 .lensl (.slot 0)),
    .need (.n2 (.bin .lss) (.slot 8) (.n1 .lensl (.slot 0))),
    .asg 58 (.n2 (.bin .lss) (.slot 8) (.n1 .lensl (.slot 0)))])
  (.cond (.slot 58)
    .skip
    (.exit 2)))
  h35_7)
def h35_13 : HC :=
  (.seq
  (.reg [.asg 2 (.slot 5)])
  .ret)
def h35_5 : HC :=
  (.seq
  (.seq
  (.reg [.asg 8 (.lit (.int .i64 0))])
  (.block 2
    (.loop
      h35_6)))
  h35_13)
def h35 : HC :=
  (.seq
  (.reg [.asg 2 (.lit (.slice none 0 0))])
  (.seq
  (.reg [.eff (some 14) (.call { callee := .value (.func 34), args := #[.tmp 13], argTypes := #[22] }) 65 [(13, .slot 0)] none [],
    .need (.n1 (.ext 0) (.slot 14)),
    .need (.n1 (.ext 1) (.slot 14)),
    .asg 3 (.n1 (.ext 0) (.slot 14)),
    .asg 4 (.n1 (.ext 1) (.slot 14))])
  (.seq
  (.reg [.asg 5 (.lit (.slice none 0 0))])
  (.seq
  (.seq
  (.reg [.asg 6 (.lit (.int .i64 0))])
  (.block 0
    (.loop
      h35_1)))
  h35_5))))
theorem k35 : fnOK Try.prog 162893140833843477941248681070589 [⟨6, [0, 0, 3, 7, 15, 0, 0, 96, 224, 480, 0, 0, 3072, 7168, 16383, 0, 65535], [(0, []), (1, []), (2, []), (3, []), (4, []), (5, []), (6, []), (7, []), (8, []), (9, []), (10, []), (11, []), (12, []), (13, []), (14, []), (15, [4, 9, 13]), (16, [])], none⟩, ⟨18, [0, 0, 3, 7, 0, 0, 48, 112, 255], [(0, []), (1, []), (2, []), (3, []), (4, []), (5, []), (6, []), (7, []), (8, [])], none⟩] [.tmp 2] 1 Try.f35 = some h35 := by kernel_rfl
theorem c35 : callable Try.prog 35 = true := by kernel_rfl
theorem q35 {args : List Value} (ha : args.length = 1) {w : World} {next : Value → World → Prop} {QP : List PanicEntry → World → Prop} (H : hw Try.prog noPanic h35 (endV [.tmp 2] next) (σ0 args) w) : callK Try.prog 35 args w next QP := fn_rule Try.func35 mixed k35 ha H
theorem r35 {args : List Value} (ha : args.length = 1) {w : World} {next : Value → World → Prop} {QP : List PanicEntry → World → Prop} (H : hw Try.prog noPanic h35 (endV [.tmp 2] next) (σ0 args) w) : callvK Try.prog (.func (.func 35) #[] #[]) args w next QP := callf c35 (q35 ha H)

/- missive/missiveref21.walk -/
def h36_3 : HC :=
  (.reg [.need (.n2 (.bin .add) (.slot 11) (.lit (.int .i64 1))),
    .asg 11 (.n2 (.bin .add) (.slot 11) (.lit (.int .i64 1)))])
def h36_2 : HC :=
  (.seq
  (.block 1
    (.seq
    (.reg [.need (.n2 (.iaddr 4) (.slot 1) (.slot 11)),
      .need (.n1 (.faddr 3) (.n2 (.iaddr 4) (.slot 1) (.slot 11))),
      .need (.n1 .ld (.n1 (.faddr 3) (.n2 (.iaddr 4) (.slot 1) (.slot 11)))),
      .need (.n2 (.sbin .eql) (.n1 .ld (.n1 (.faddr 3) (.n2 (.iaddr 4) (.slot 1) (.slot 11)))) (.slot 2)),
      .asg 24 (.n2 (.sbin .eql) (.n1 .ld (.n1 (.faddr 3) (.n2 (.iaddr 4) (.slot 1) (.slot 11)))) (.slot 2))])
    (.cond (.slot 24)
      (.seq
      (.draw [.need (.n2 (.iaddr 4) (.slot 1) (.slot 11)),
        .need (.n1 (.faddr 0) (.n2 (.iaddr 4) (.slot 1) (.slot 11))),
        .need (.n1 .ld (.n1 (.faddr 0) (.n2 (.iaddr 4) (.slot 1) (.slot 11)))),
        .need (.n2 (.iaddr 4) (.slot 1) (.slot 11)),
        .need (.n1 (.faddr 1) (.n2 (.iaddr 4) (.slot 1) (.slot 11))),
        .need (.n1 .ld (.n1 (.faddr 1) (.n2 (.iaddr 4) (.slot 1) (.slot 11)))),
        .need (.n2 (.put 0 1) (.lit (.agg #[(str []), (.bool false), (.int .i64 0), (.int .i64 0)])) (.n1 .ld (.n1 (.faddr 0) (.n2 (.iaddr 4) (.slot 1) (.slot 11))))),
        .need (.n2 (.put 1 1) (.n2 (.put 0 1) (.lit (.agg #[(str []), (.bool false), (.int .i64 0), (.int .i64 0)])) (.n1 .ld (.n1 (.faddr 0) (.n2 (.iaddr 4) (.slot 1) (.slot 11))))) (.n1 .ld (.n1 (.faddr 1) (.n2 (.iaddr 4) (.slot 1) (.slot 11))))),
        .need (.n2 (.put 2 1) (.n2 (.put 1 1) (.n2 (.put 0 1) (.lit (.agg #[(str []), (.bool false), (.int .i64 0), (.int .i64 0)])) (.n1 .ld (.n1 (.faddr 0) (.n2 (.iaddr 4) (.slot 1) (.slot 11))))) (.n1 .ld (.n1 (.faddr 1) (.n2 (.iaddr 4) (.slot 1) (.slot 11))))) (.slot 3)),
        .need (.n2 (.put 3 1) (.n2 (.put 2 1) (.n2 (.put 1 1) (.n2 (.put 0 1) (.lit (.agg #[(str []), (.bool false), (.int .i64 0), (.int .i64 0)])) (.n1 .ld (.n1 (.faddr 0) (.n2 (.iaddr 4) (.slot 1) (.slot 11))))) (.n1 .ld (.n1 (.faddr 1) (.n2 (.iaddr 4) (.slot 1) (.slot 11))))) (.slot 3)) (.slot 4)),
        .eff (some 39) (.buildSlice 25 1 #[(0, .tmp 38)]) 25 [(38, .n2 (.put 3 1) (.n2 (.put 2 1) (.n2 (.put 1 1) (.n2 (.put 0 1) (.lit (.agg #[(str []), (.bool false), (.int .i64 0), (.int .i64 0)])) (.n1 .ld (.n1 (.faddr 0) (.n2 (.iaddr 4) (.slot 1) (.slot 11))))) (.n1 .ld (.n1 (.faddr 1) (.n2 (.iaddr 4) (.slot 1) (.slot 11))))) (.slot 3)) (.slot 4))] none [],
        .eff (some 40) (.call { callee := .builtin .append, args := #[.tmp 25, .tmp 39], argTypes := #[25, 25] }) 25 [(25, .slot 0), (39, .slot 39)] none [],
        .asg 0 (.slot 40)])
      (.reg [.need (.n2 (.iaddr 4) (.slot 1) (.slot 11)),
        .need (.n1 (.faddr 0) (.n2 (.iaddr 4) (.slot 1) (.slot 11))),
        .need (.n1 .ld (.n1 (.faddr 0) (.n2 (.iaddr 4) (.slot 1) (.slot 11)))),
        .need (.n1 .lensl (.slot 0)),
        .need (.n2 (.bin .sub) (.n1 .lensl (.slot 0)) (.lit (.int .i64 1))),
        .need (.n2 (.bin .add) (.slot 4) (.lit (.int .i64 1))),
        .eff (some 53) (.call { callee := .value (.func 36), args := #[.tmp 41, .tmp 42, .tmp 47, .tmp 50, .tmp 52], argTypes := #[25, 67, 9, 3, 3] }) 25 [(41, .slot 0), (42, .slot 1), (47, .n1 .ld (.n1 (.faddr 0) (.n2 (.iaddr 4) (.slot 1) (.slot 11)))), (50, .n2 (.bin .sub) (.n1 .lensl (.slot 0)) (.lit (.int .i64 1))), (52, .n2 (.bin .add) (.slot 4) (.lit (.int .i64 1)))] none [],
        .asg 0 (.slot 53)]))
      .skip)))
  h36_3)
def h36_1 : HC :=
  (.seq
  (.seq
  (.reg [.need (.n1 .lensl (.slot 1)),
    .need (.n2 (.bin .lss) (.slot 11) (.n1 .lensl (.slot 1))),
    .asg 15 (.n2 (.bin .lss) (.slot 11) (.n1 .lensl (.slot 1)))])
  (.cond (.slot 15)
    .skip
    (.exit 0)))
  h36_2)
def h36_4 : HC :=
  (.seq
  (.reg [.asg 10 (.slot 0)])
  .ret)
def h36 : HC :=
  (.seq
  (.reg [.asg 10 (.lit (.slice none 0 0))])
  (.seq
  (.seq
  (.reg [.asg 11 (.lit (.int .i64 0))])
  (.block 0
    (.loop
      h36_1)))
  h36_4))
theorem k36 : fnOK Try.prog 9008848538995743 [⟨5, [0, 0, 0, 6, 14, 30, 0, 0, 192, 448, 960, 0, 0, 8190, 16382, 32767, 65535], [(0, []), (1, []), (2, []), (3, []), (4, []), (5, []), (6, []), (7, []), (8, []), (9, []), (10, []), (11, []), (12, []), (13, []), (14, []), (15, []), (16, [])], none⟩] [.tmp 10] 5 Try.f36 = some h36 := by kernel_rfl
theorem c36 : callable Try.prog 36 = true := by kernel_rfl
theorem q36 {args : List Value} (ha : args.length = 5) {w : World} {next : Value → World → Prop} {QP : List PanicEntry → World → Prop} (H : hw Try.prog noPanic h36 (endV [.tmp 10] next) (σ0 args) w) : callK Try.prog 36 args w next QP := fn_rule Try.func36 mixed k36 ha H
theorem r36 {args : List Value} (ha : args.length = 5) {w : World} {next : Value → World → Prop} {QP : List PanicEntry → World → Prop} (H : hw Try.prog noPanic h36 (endV [.tmp 10] next) (σ0 args) w) : callvK Try.prog (.func (.func 36) #[] #[]) args w next QP := callf c36 (q36 ha H)

/- missive/missiveref21.breaker -/
def h47_3 : HC :=
  (.reg [.need (.n2 (.iaddr 1) (.slot 1) (.slot 7)),
    .need (.n1 .ld (.n2 (.iaddr 1) (.slot 1) (.slot 7))),
    .asg 7 (.n1 .ld (.n2 (.iaddr 1) (.slot 1) (.slot 7)))])
def h47_4 : HC :=
  (.reg [.need (.n2 (.bin .add) (.slot 8) (.lit (.int .i64 1))),
    .asg 8 (.n2 (.bin .add) (.slot 8) (.lit (.int .i64 1)))])
def h47_2 : HC :=
  (.seq
  (.block 1
    (.seq
    (.seq
    (.draw [.need (.n2 (.iaddr 5) (.slot 0) (.slot 7)),
      .need (.n1 (.faddr 0) (.n2 (.iaddr 5) (.slot 0) (.slot 7))),
      .need (.n1 .ld (.n1 (.faddr 0) (.n2 (.iaddr 5) (.slot 0) (.slot 7)))),
      .need (.n2 (.iaddr 5) (.slot 0) (.slot 2)),
      .need (.n1 (.faddr 0) (.n2 (.iaddr 5) (.slot 0) (.slot 2))),
      .need (.n1 .ld (.n1 (.faddr 0) (.n2 (.iaddr 5) (.slot 0) (.slot 2)))),
      .need (.n2 (.sbin .lss) (.n1 .ld (.n1 (.faddr 0) (.n2 (.iaddr 5) (.slot 0) (.slot 7)))) (.n1 .ld (.n1 (.faddr 0) (.n2 (.iaddr 5) (.slot 0) (.slot 2))))),
      .asg 38 (.n2 (.sbin .lss) (.n1 .ld (.n1 (.faddr 0) (.n2 (.iaddr 5) (.slot 0) (.slot 7)))) (.n1 .ld (.n1 (.faddr 0) (.n2 (.iaddr 5) (.slot 0) (.slot 2)))))])
    (.cond (.slot 38)
      (.seq
      (.reg [.asg 6 (.lit (.bool false))])
      .ret)
      .skip))
    h47_3))
  h47_4)
def h47_1 : HC :=
  (.seq
  (.seq
  (.reg [.need (.n1 .lensl (.slot 0)),
    .need (.n2 (.bin .lss) (.slot 8) (.n1 .lensl (.slot 0))),
    .need (.gif (.n2 (.bin .lss) (.slot 8) (.n1 .lensl (.slot 0))) true (.n2 (.bin .geq) (.slot 7) (.lit (.int .i64 0)))),
    .need (.n3 .pick (.n2 (.bin .lss) (.slot 8) (.n1 .lensl (.slot 0))) (.n2 (.bin .geq) (.slot 7) (.lit (.int .i64 0))) (.lit (.bool false))),
    .need (.gif (.n3 .pick (.n2 (.bin .lss) (.slot 8) (.n1 .lensl (.slot 0))) (.n2 (.bin .geq) (.slot 7) (.lit (.int .i64 0))) (.lit (.bool false))) true (.n2 (.bin .neq) (.slot 7) (.slot 2))),
    .need (.n3 .pick (.n3 .pick (.n2 (.bin .lss) (.slot 8) (.n1 .lensl (.slot 0))) (.n2 (.bin .geq) (.slot 7) (.lit (.int .i64 0))) (.lit (.bool false))) (.n2 (.bin .neq) (.slot 7) (.slot 2)) (.lit (.bool false))),
    .asg 25 (.n3 .pick (.n3 .pick (.n2 (.bin .lss) (.slot 8) (.n1 .lensl (.slot 0))) (.n2 (.bin .geq) (.slot 7) (.lit (.int .i64 0))) (.lit (.bool false))) (.n2 (.bin .neq) (.slot 7) (.slot 2)) (.lit (.bool false)))])
  (.cond (.slot 25)
    .skip
    (.exit 0)))
  h47_2)
def h47_5 : HC :=
  (.seq
  (.reg [.need (.n2 (.bin .eql) (.slot 7) (.slot 2)),
    .asg 6 (.n2 (.bin .eql) (.slot 7) (.slot 2))])
  .ret)
def h47 : HC :=
  (.seq
  (.reg [.asg 6 (.lit (.bool false))])
  (.seq
  (.reg [.need (.n2 (.iaddr 1) (.slot 1) (.slot 2)),
    .need (.n1 .ld (.n2 (.iaddr 1) (.slot 1) (.slot 2))),
    .asg 7 (.n1 .ld (.n2 (.iaddr 1) (.slot 1) (.slot 2)))])
  (.seq
  (.seq
  (.reg [.asg 8 (.lit (.int .i64 0))])
  (.block 0
    (.loop
      h47_1)))
  h47_5)))
theorem k47 : fnOK Try.prog 274911461831 [⟨5, [0, 0, 3, 7, 15, 0, 0, 96, 224, 480, 1023], [(0, []), (1, []), (2, []), (3, []), (4, []), (5, []), (6, []), (7, []), (8, []), (9, []), (10, [])], none⟩] [.tmp 6] 3 Try.f47 = some h47 := by kernel_rfl
theorem c47 : callable Try.prog 47 = true := by kernel_rfl
theorem q47 {args : List Value} (ha : args.length = 3) {w : World} {next : Value → World → Prop} {QP : List PanicEntry → World → Prop} (H : hw Try.prog noPanic h47 (endV [.tmp 6] next) (σ0 args) w) : callK Try.prog 47 args w next QP := fn_rule Try.func47 mixed k47 ha H
theorem r47 {args : List Value} (ha : args.length = 3) {w : World} {next : Value → World → Prop} {QP : List PanicEntry → World → Prop} (H : hw Try.prog noPanic h47 (endV [.tmp 6] next) (σ0 args) w) : callvK Try.prog (.func (.func 47) #[] #[]) args w next QP := callf c47 (q47 ha H)

/- missive/missiveref21.subject -/
def l48_3 : List HS :=
  .need (.gif (.slot 33) false (.n1 .bnot (.slot 38))) ::
  .need (.n3 .pick (.slot 33) (.lit (.bool true)) (.n1 .bnot (.slot 38))) ::
  .asg 40 (.n3 .pick (.slot 33) (.lit (.bool true)) (.n1 .bnot (.slot 38))) ::
  []
def l48_4 : List HS :=
  .need (.gif (.slot 20) false (.n1 .lensl (.slot 22))) ::
  .need (.gif (.slot 20) false (.n2 (.bin .gtr) (.n1 .lensl (.slot 22)) (.lit (.int .i64 0)))) ::
  .need (.n3 .pick (.slot 20) (.lit (.bool true)) (.n2 (.bin .gtr) (.n1 .lensl (.slot 22)) (.lit (.int .i64 0)))) ::
  .need (.gif (.n3 .pick (.slot 20) (.lit (.bool true)) (.n2 (.bin .gtr) (.n1 .lensl (.slot 22)) (.lit (.int .i64 0)))) false (.n1 (.faddr 1) (.slot 7))) ::
  .need (.gif (.n3 .pick (.slot 20) (.lit (.bool true)) (.n2 (.bin .gtr) (.n1 .lensl (.slot 22)) (.lit (.int .i64 0)))) false (.n1 .ld (.n1 (.faddr 1) (.slot 7)))) ::
  .need (.gif (.n3 .pick (.slot 20) (.lit (.bool true)) (.n2 (.bin .gtr) (.n1 .lensl (.slot 22)) (.lit (.int .i64 0)))) false (.n1 (.faddr 1) (.slot 3))) ::
  .need (.gif (.n3 .pick (.slot 20) (.lit (.bool true)) (.n2 (.bin .gtr) (.n1 .lensl (.slot 22)) (.lit (.int .i64 0)))) false (.n1 .ld (.n1 (.faddr 1) (.slot 3)))) ::
  .need (.gif (.n3 .pick (.slot 20) (.lit (.bool true)) (.n2 (.bin .gtr) (.n1 .lensl (.slot 22)) (.lit (.int .i64 0)))) false (.n2 (.bin .gtr) (.n1 .ld (.n1 (.faddr 1) (.slot 7))) (.n1 .ld (.n1 (.faddr 1) (.slot 3))))) ::
  .need (.n3 .pick (.n3 .pick (.slot 20) (.lit (.bool true)) (.n2 (.bin .gtr) (.n1 .lensl (.slot 22)) (.lit (.int .i64 0)))) (.lit (.bool true)) (.n2 (.bin .gtr) (.n1 .ld (.n1 (.faddr 1) (.slot 7))) (.n1 .ld (.n1 (.faddr 1) (.slot 3))))) ::
  .asg 33 (.n3 .pick (.n3 .pick (.slot 20) (.lit (.bool true)) (.n2 (.bin .gtr) (.n1 .lensl (.slot 22)) (.lit (.int .i64 0)))) (.lit (.bool true)) (.n2 (.bin .gtr) (.n1 .ld (.n1 (.faddr 1) (.slot 7))) (.n1 .ld (.n1 (.faddr 1) (.slot 3))))) ::
  .need (.gif (.slot 33) false (.n1 (.faddr 3) (.slot 7))) ::
  .need (.gif (.slot 33) false (.n1 .ld (.n1 (.faddr 3) (.slot 7)))) ::
  .need (.gif (.slot 33) false (.n1 (.faddr 3) (.slot 3))) ::
  .need (.gif (.slot 33) false (.n1 .ld (.n1 (.faddr 3) (.slot 3)))) ::
  .eff (some 38) (.call { callee := .value (.func 69), args := #[.tmp 35, .tmp 37], argTypes := #[9, 9] }) 4 [(35, .n1 .ld (.n1 (.faddr 3) (.slot 7))), (37, .n1 .ld (.n1 (.faddr 3) (.slot 3)))] (some (.slot 33, false)) [] ::
  l48_3
def h48_5 : HC :=
  (.seq
  (.reg [.need (.n2 (.bin .lss) (.slot 5) (.lit (.int .i64 0))),
    .asg 42 (.n2 (.bin .lss) (.slot 5) (.lit (.int .i64 0)))])
  (.cond (.slot 42)
    (.reg [.asg 5 (.slot 6)])
    (.seq
    (.draw [.need (.n1 (.faddr 1) (.slot 7)),
      .need (.n1 .ld (.n1 (.faddr 1) (.slot 7))),
      .need (.n1 (.faddr 0) (.slot 7)),
      .need (.n1 .ld (.n1 (.faddr 0) (.slot 7))),
      .need (.n2 (.iaddr 5) (.slot 0) (.slot 5)),
      .need (.n1 (.faddr 1) (.n2 (.iaddr 5) (.slot 0) (.slot 5))),
      .need (.n1 .ld (.n1 (.faddr 1) (.n2 (.iaddr 5) (.slot 0) (.slot 5)))),
      .need (.n2 (.iaddr 5) (.slot 0) (.slot 5)),
      .need (.n1 (.faddr 0) (.n2 (.iaddr 5) (.slot 0) (.slot 5))),
      .need (.n1 .ld (.n1 (.faddr 0) (.n2 (.iaddr 5) (.slot 0) (.slot 5)))),
      .eff (some 58) (.call { callee := .value (.func 14), args := #[.tmp 45, .tmp 47, .tmp 52, .tmp 57], argTypes := #[3, 9, 3, 9] }) 4 [(45, .n1 .ld (.n1 (.faddr 1) (.slot 7))), (47, .n1 .ld (.n1 (.faddr 0) (.slot 7))), (52, .n1 .ld (.n1 (.faddr 1) (.n2 (.iaddr 5) (.slot 0) (.slot 5)))), (57, .n1 .ld (.n1 (.faddr 0) (.n2 (.iaddr 5) (.slot 0) (.slot 5))))] none []])
    (.cond (.slot 58)
      (.reg [.asg 5 (.slot 6)])
      .skip))))
def h48_6 : HC :=
  (.reg [.need (.n2 (.bin .add) (.slot 6) (.lit (.int .i64 1))),
    .asg 6 (.n2 (.bin .add) (.slot 6) (.lit (.int .i64 1)))])
def h48_2 : HC :=
  (.seq
  (.block 1
    (.seq
    (.reg [.need (.n2 (.iaddr 5) (.slot 0) (.slot 6)),
      .need (.n1 (.ldn 5) (.n2 (.iaddr 5) (.slot 0) (.slot 6))),
      .asg 17 (.n1 (.ldn 5) (.n2 (.iaddr 5) (.slot 0) (.slot 6))),
      .eff (some 7) (.alloc 34) 0 [] none [],
      .eff none (.store 34 (.tmp 7) (.tmp 17)) 0 [(7, .slot 7), (17, .slot 17)] none []])
    (.seq
    (.seq
    (.reg (.need (.n1 (.faddr 4) (.slot 7)) ::
      .need (.n1 .ld (.n1 (.faddr 4) (.slot 7))) ::
      .asg 20 (.n1 .ld (.n1 (.faddr 4) (.slot 7))) ::
      .need (.gif (.slot 20) false (.n1 (.ldn 5) (.slot 7))) ::
      .eff (some 22) (.call { callee := .value (.func 16), args := #[.tmp 21], argTypes := #[34] }) 32 [(21, .n1 (.ldn 5) (.slot 7))] (some (.slot 20, false)) [] ::
      l48_4))
    (.cond (.slot 40)
      (.exit 1)
      .skip))
    h48_5)))
  h48_6)
def h48_1 : HC :=
  (.seq
  (.seq
  (.reg [.need (.n1 .lensl (.slot 0)),
    .need (.n2 (.bin .lss) (.slot 6) (.n1 .lensl (.slot 0))),
    .asg 11 (.n2 (.bin .lss) (.slot 6) (.n1 .lensl (.slot 0)))])
  (.cond (.slot 11)
    .skip
    (.exit 0)))
  h48_2)
def h48_7 : HC :=
  (.seq
  (.reg [.asg 4 (.slot 5)])
  .ret)
def h48 : HC :=
  (.seq
  (.reg [.eff (some 3) (.box 34 (.tmp 1)) 0 [(1, .slot 1)] none [],
    .asg 4 (.lit (.int .i64 0))])
  (.seq
  (.reg [.asg 5 (.lit (.int .i64 (-1)))])
  (.seq
  (.seq
  (.reg [.asg 6 (.lit (.int .i64 0))])
  (.block 0
    (.loop
      h48_1)))
  h48_7)))
theorem k48 : fnOK Try.prog 288236157183068411 [⟨9, [0, 1, 0, 4, 0, 0, 48, 112, 240, 0, 0, 1536, 3584, 7680, 16383], [(0, []), (1, []), (2, []), (3, []), (4, []), (5, []), (6, []), (7, []), (8, []), (9, []), (10, []), (11, []), (12, []), (13, []), (14, [])], none⟩] [.tmp 4] 2 Try.f48 = some h48 := by kernel_rfl
theorem c48 : callable Try.prog 48 = true := by kernel_rfl
theorem q48 {args : List Value} (ha : args.length = 2) {w : World} {next : Value → World → Prop} {QP : List PanicEntry → World → Prop} (H : hw Try.prog noPanic h48 (endV [.tmp 4] next) (σ0 args) w) : callK Try.prog 48 args w next QP := fn_rule Try.func48 mixed k48 ha H
theorem r48 {args : List Value} (ha : args.length = 2) {w : World} {next : Value → World → Prop} {QP : List PanicEntry → World → Prop} (H : hw Try.prog noPanic h48 (endV [.tmp 4] next) (σ0 args) w) : callvK Try.prog (.func (.func 48) #[] #[]) args w next QP := callf c48 (q48 ha H)

/- missive/missiveref21.insert -/
def h49_2 : HC :=
  (.block 1
    (.reg [.need (.n2 (.bin .sub) (.slot 5) (.lit (.int .i64 1))),
      .asg 5 (.n2 (.bin .sub) (.slot 5) (.lit (.int .i64 1)))]))
def h49_1 : HC :=
  (.seq
  (.seq
  (.draw [.need (.n2 (.bin .gtr) (.slot 5) (.lit (.int .i64 0))),
    .need (.gif (.n2 (.bin .gtr) (.slot 5) (.lit (.int .i64 0))) true (.n1 (.faddr 2) (.slot 3))),
    .need (.gif (.n2 (.bin .gtr) (.slot 5) (.lit (.int .i64 0))) true (.n1 .ld (.n1 (.faddr 2) (.slot 3)))),
    .need (.gif (.n2 (.bin .gtr) (.slot 5) (.lit (.int .i64 0))) true (.n1 (.faddr 0) (.slot 3))),
    .need (.gif (.n2 (.bin .gtr) (.slot 5) (.lit (.int .i64 0))) true (.n1 .ld (.n1 (.faddr 0) (.slot 3)))),
    .need (.gif (.n2 (.bin .gtr) (.slot 5) (.lit (.int .i64 0))) true (.n2 (.bin .sub) (.slot 5) (.lit (.int .i64 1)))),
    .need (.gif (.n2 (.bin .gtr) (.slot 5) (.lit (.int .i64 0))) true (.n2 (.iaddr 4) (.slot 0) (.n2 (.bin .sub) (.slot 5) (.lit (.int .i64 1))))),
    .need (.gif (.n2 (.bin .gtr) (.slot 5) (.lit (.int .i64 0))) true (.n1 (.faddr 2) (.n2 (.iaddr 4) (.slot 0) (.n2 (.bin .sub) (.slot 5) (.lit (.int .i64 1)))))),
    .need (.gif (.n2 (.bin .gtr) (.slot 5) (.lit (.int .i64 0))) true (.n1 .ld (.n1 (.faddr 2) (.n2 (.iaddr 4) (.slot 0) (.n2 (.bin .sub) (.slot 5) (.lit (.int .i64 1))))))),
    .need (.gif (.n2 (.bin .gtr) (.slot 5) (.lit (.int .i64 0))) true (.n2 (.bin .sub) (.slot 5) (.lit (.int .i64 1)))),
    .need (.gif (.n2 (.bin .gtr) (.slot 5) (.lit (.int .i64 0))) true (.n2 (.iaddr 4) (.slot 0) (.n2 (.bin .sub) (.slot 5) (.lit (.int .i64 1))))),
    .need (.gif (.n2 (.bin .gtr) (.slot 5) (.lit (.int .i64 0))) true (.n1 (.faddr 0) (.n2 (.iaddr 4) (.slot 0) (.n2 (.bin .sub) (.slot 5) (.lit (.int .i64 1)))))),
    .need (.gif (.n2 (.bin .gtr) (.slot 5) (.lit (.int .i64 0))) true (.n1 .ld (.n1 (.faddr 0) (.n2 (.iaddr 4) (.slot 0) (.n2 (.bin .sub) (.slot 5) (.lit (.int .i64 1))))))),
    .eff (some 28) (.call { callee := .value (.func 14), args := #[.tmp 13, .tmp 15, .tmp 21, .tmp 27], argTypes := #[3, 9, 3, 9] }) 4 [(13, .n1 .ld (.n1 (.faddr 2) (.slot 3))), (15, .n1 .ld (.n1 (.faddr 0) (.slot 3))), (21, .n1 .ld (.n1 (.faddr 2) (.n2 (.iaddr 4) (.slot 0) (.n2 (.bin .sub) (.slot 5) (.lit (.int .i64 1)))))), (27, .n1 .ld (.n1 (.faddr 0) (.n2 (.iaddr 4) (.slot 0) (.n2 (.bin .sub) (.slot 5) (.lit (.int .i64 1))))))] (some (.n2 (.bin .gtr) (.slot 5) (.lit (.int .i64 0)), true)) [],
    .need (.n3 .pick (.n2 (.bin .gtr) (.slot 5) (.lit (.int .i64 0))) (.slot 28) (.lit (.bool false))),
    .asg 29 (.n3 .pick (.n2 (.bin .gtr) (.slot 5) (.lit (.int .i64 0))) (.slot 28) (.lit (.bool false)))])
  (.cond (.slot 29)
    .skip
    (.exit 0)))
  h49_2)
def h49_4 : HC :=
  (.seq
  (.reg [.need (.n3 (.slv 4 true false) (.slot 0) (.slot 5) (.lit (.tuple #[]))),
    .eff (some 45) (.call { callee := .builtin .append, args := #[.tmp 41, .tmp 44], argTypes := #[67, 67] }) 67 [(41, .slot 6), (44, .n3 (.slv 4 true false) (.slot 0) (.slot 5) (.lit (.tuple #[])))] none [],
    .asg 4 (.slot 45)])
  .ret)
def h49_3 : HC :=
  (.seq
  (.reg [.eff (some 32) (.buildSlice 67 0 #[]) 67 [] none [],
    .need (.n3 (.slv 4 false true) (.slot 0) (.lit (.tuple #[])) (.slot 5)),
    .eff (some 36) (.call { callee := .builtin .append, args := #[.tmp 32, .tmp 35], argTypes := #[67, 67] }) 67 [(32, .slot 32), (35, .n3 (.slv 4 false true) (.slot 0) (.lit (.tuple #[])) (.slot 5))] none [],
    .asg 6 (.slot 36)])
  (.seq
  (.reg [.need (.n1 (.ldn 4) (.slot 3)),
    .eff (some 39) (.buildSlice 67 1 #[(0, .tmp 38)]) 67 [(38, .n1 (.ldn 4) (.slot 3))] none [],
    .eff (some 40) (.call { callee := .builtin .append, args := #[.tmp 37, .tmp 39], argTypes := #[67, 67] }) 67 [(37, .slot 6), (39, .slot 39)] none [],
    .asg 6 (.slot 40)])
  h49_4))
def h49 : HC :=
  (.seq
  (.reg [.eff (some 3) (.box 81 (.tmp 1)) 0 [(1, .slot 1)] none [],
    .asg 4 (.lit (.slice none 0 0))])
  (.seq
  (.reg [.need (.n1 .lensl (.slot 0)),
    .asg 5 (.n1 .lensl (.slot 0))])
  (.seq
  (.block 0
    (.loop
      h49_1))
  h49_3)))
theorem k49 : fnOK Try.prog 36907459281019 [⟨2, [0, 1, 3, 7, 15, 7, 39, 7, 7, 263, 903, 1927, 3975, 7, 7, 16391, 57351, 122887, 253959, 524287, 1048575], [(0, []), (1, []), (2, []), (3, []), (4, []), (5, []), (6, []), (7, []), (8, []), (9, []), (10, []), (11, []), (12, []), (13, []), (14, []), (15, []), (16, []), (17, []), (18, []), (19, []), (20, [])], none⟩] [.tmp 4] 2 Try.f49 = some h49 := by kernel_rfl
theorem c49 : callable Try.prog 49 = true := by kernel_rfl
theorem q49 {args : List Value} (ha : args.length = 2) {w : World} {next : Value → World → Prop} {QP : List PanicEntry → World → Prop} (H : hw Try.prog noPanic h49 (endV [.tmp 4] next) (σ0 args) w) : callK Try.prog 49 args w next QP := fn_rule Try.func49 mixed k49 ha H
theorem r49 {args : List Value} (ha : args.length = 2) {w : World} {next : Value → World → Prop} {QP : List PanicEntry → World → Prop} (H : hw Try.prog noPanic h49 (endV [.tmp 4] next) (σ0 args) w) : callvK Try.prog (.func (.func 49) #[] #[]) args w next QP := callf c49 (q49 ha H)

end Go.Proofs.Y

/- TP: thread: the order of texts; graphs of one arrow, circles and their breakers; plain. -/
namespace Go.Proofs.Y
open Go Go.HL

abbrev Bytes := List UInt8
def bl (a b : Bytes) : Bool := Op.bytesLess a b
theorem bl_cc (x y : UInt8) (a b : Bytes) : bl (x :: a) (y :: b) = (decide (x < y) || (x == y && bl a b)) := rfl
theorem bl_n (a : Bytes) : bl a [] = false := by cases a <;> rfl
theorem u8lt (x y : UInt8) : x < y ↔ x.toNat < y.toNat := Iff.rfl
theorem u8eq (x y : UInt8) : x = y ↔ x.toNat = y.toNat := UInt8.toNat_inj.symm
theorem bl_irr : ∀ a, bl a a = false
  | [] => rfl
  | x :: a => by rw [bl_cc, bl_irr a]; simp
theorem bl_tr : ∀ {a b c : Bytes}, bl a b = true → bl b c = true → bl a c = true
  | a, b, [], h, k => by rw [bl_n] at k; cases k
  | a, [], z :: c, h, k => by rw [bl_n] at h; cases h
  | [], y :: b, z :: c, h, k => rfl
  | x :: a, y :: b, z :: c, h, k => by
    rw [bl_cc] at h k ⊢
    simp only [Bool.or_eq_true, decide_eq_true_eq, Bool.and_eq_true, beq_iff_eq, u8lt, u8eq] at h k ⊢
    rcases h with h | ⟨h1, h2⟩ <;> rcases k with k | ⟨k1, k2⟩
    · left; omega
    · left; omega
    · left; omega
    · right; exact ⟨by omega, bl_tr h2 k2⟩
theorem bl_tri : ∀ {a b : Bytes}, bl a b = false → bl b a = false → a = b
  | [], [], _, _ => rfl
  | [], y :: b, h, _ => by cases h
  | x :: a, [], _, k => by cases k
  | x :: a, y :: b, h, k => by
    rw [bl_cc] at h k
    simp only [Bool.or_eq_false_iff, decide_eq_false_iff_not, Bool.and_eq_false_iff, u8lt] at h k
    have e : x = y := by rw [u8eq]; omega
    subst e
    have h2 : bl a b = false := by rcases h.2 with h | h; simp at h; exact h
    have k2 : bl b a = false := by rcases k.2 with h | h; simp at h; exact h
    rw [bl_tri h2 k2]
theorem bl_asym {a b : Bytes} (h : bl a b = true) : bl b a = false := by
  cases k : bl b a
  · rfl
  · have := bl_tr h k; rw [bl_irr] at this; cases this

/-! ### the least number -/
theorem least {p : Nat → Prop} : ∀ m, p m → ∃ m, p m ∧ ∀ k, k < m → ¬ p k := by
  intro m
  induction m using Nat.strongRecOn with
  | ind m ih =>
    intro hm
    by_cases h : ∃ k, k < m ∧ p k
    · obtain ⟨k, hk, hp⟩ := h; exact ih k hk hp
    · exact ⟨m, hm, fun k hk hp => h ⟨k, hk, hp⟩⟩
theorem nodup_le : ∀ (n : Nat) (l : List Nat), l.Nodup → (∀ x ∈ l, x < n) → l.length ≤ n
  | 0, l, _, h => by
    cases l with
    | nil => simp
    | cons x l => exact absurd (h x (by simp)) (by omega)
  | n + 1, l, hn, h => by
    by_cases hm : n ∈ l
    · have h1 := nodup_le n (l.erase n) (hn.erase n) (fun x hx => by
        have h2 := h x (List.mem_of_mem_erase hx)
        have h3 : x ≠ n := fun e => by subst e; exact absurd hx (fun hx => ((hn.mem_erase_iff).1 hx).1 rfl)
        omega)
      rw [List.length_erase_of_mem hm] at h1
      omega
    · have h1 := nodup_le n l hn (fun x hx => by
        have h2 := h x hx
        have h3 : x ≠ n := fun e => by subst e; exact hm hx
        omega)
      omega
theorem nodup_range {n : Nat} {g : Nat → Nat} (h : ∀ a b, a < b → b < n → g a ≠ g b) : ((List.range n).map g).Nodup := by
  unfold List.Nodup
  rw [List.pairwise_map]
  have : (List.range n).Pairwise (fun a b => a < b ∧ b < n) := by
    refine List.Pairwise.and List.pairwise_lt_range ?_
    rw [List.pairwise_iff_getElem]
    intro i j hi hj _
    simpa using hj
  exact this.imp fun ⟨h1, h2⟩ => h _ _ h1 h2

/-! ### graphs of one arrow -/
section
variable {α : Type} (f : α → Option α)
def itr : Nat → α → Option α
  | 0, i => some i
  | m + 1, i => (itr m i).bind f
variable {f}
theorem itr_add (a : Nat) : ∀ (b : Nat) (i : α), itr f (a + b) i = (itr f a i).bind (itr f b)
  | 0, i => by cases h : itr f a i <;> simp [itr, h]
  | b + 1, i => by
    rw [← Nat.add_assoc]
    show (itr f (a + b) i).bind f = _
    rw [itr_add a b i]
    cases h : itr f a i <;> simp [itr]
theorem itr_one (i : α) : itr f 1 i = f i := rfl
theorem itr_succ (m : Nat) (i : α) : itr f (m + 1) i = (f i).bind (itr f m) := by rw [Nat.add_comm, itr_add, itr_one]
theorem itr_none {a : Nat} {i : α} (h : itr f a i = none) : ∀ b, a ≤ b → itr f b i = none := fun b hb => by
  obtain ⟨c, rfl⟩ : ∃ c, b = a + c := ⟨b - a, by omega⟩
  rw [itr_add, h]; rfl
theorem itr_some {a b : Nat} {i j : α} (h : itr f b i = some j) (hab : a ≤ b) : ∃ k, itr f a i = some k := by
  cases hk : itr f a i with
  | none => rw [itr_none hk b hab] at h; cases h
  | some k => exact ⟨k, rfl⟩
end
section
variable (f : Nat → Option Nat)
def OnC (i : Nat) : Prop := ∃ m, itr f (m + 1) i = some i
def Brk (ids : Nat → Bytes) (i : Nat) : Prop := OnC f i ∧ ∀ m j, itr f m i = some j → bl (ids j) (ids i) = false
variable {f}
theorem itr_same {a b i y : Nat} (h1 : itr f a i = some y) (h2 : itr f b i = some y) (hab : a < b) : OnC f y := by
  obtain ⟨c, rfl⟩ : ∃ c, b = a + (c + 1) := ⟨b - a - 1, by omega⟩
  rw [itr_add, h1] at h2
  exact ⟨c, h2⟩
theorem OnC.itr {i j m : Nat} (h : OnC f i) (hj : itr f m i = some j) : OnC f j := by
  obtain ⟨p, hp⟩ := h
  -- go on to a multiple of the length
  have h1 : ∀ q, Y.itr f (q * (p + 1)) i = some i := by
    intro q
    induction q with
    | zero => simp [Y.itr]
    | succ q ih => rw [Nat.add_mul, itr_add, ih]; simpa using hp
  have hm : m < (m + 1) * (p + 1) := by
    calc m < m + 1 := by omega
      _ ≤ (m + 1) * (p + 1) := Nat.le_mul_of_pos_right _ (by omega)
  obtain ⟨c, hc⟩ : ∃ c, (m + 1) * (p + 1) = m + (c + 1) := ⟨(m + 1) * (p + 1) - m - 1, by omega⟩
  have h2 := h1 (m + 1)
  rw [hc, itr_add, hj] at h2
  have h2' : Y.itr f (c + 1) j = some i := h2
  refine ⟨c + m, ?_⟩
  rw [show c + m + 1 = (c + 1) + m by omega, itr_add, h2']
  exact hj
/-- where no circle is, every way ends -/
theorem ends {n : Nat} (hf : ∀ i j, f i = some j → j < n) (hc : ∀ i, i < n → ¬ OnC f i) {i : Nat} (hi : i < n) : itr f n i = none := by
  cases hx : itr f n i with
  | none => rfl
  | some z =>
  exfalso
  have hall : ∀ m, m < n + 1 → ∃ y, itr f m i = some y ∧ y < n := by
    intro m hm
    obtain ⟨y, hy⟩ := itr_some hx (show m ≤ n by omega)
    refine ⟨y, hy, ?_⟩
    cases m with
    | zero => simp [itr] at hy; omega
    | succ m =>
      obtain ⟨x, hx1, hx2⟩ := Option.bind_eq_some_iff.1 hy
      exact hf _ _ hx2
  have hg : ∀ m, m < n + 1 → ∃ y, itr f m i = some y ∧ y < n := hall
  let g : Nat → Nat := fun m => (itr f m i).getD 0
  have hgs : ∀ m, m < n + 1 → itr f m i = some (g m) ∧ g m < n := by
    intro m hm
    obtain ⟨y, hy, hlt⟩ := hg m hm
    have : g m = y := by show (itr f m i).getD 0 = y; rw [hy]; rfl
    rw [this]; exact ⟨hy, hlt⟩
  have hnd : ((List.range (n + 1)).map g).Nodup := nodup_range fun a b hab hb e => by
    have h1 := hgs a (by omega)
    have h2 := hgs b hb
    rw [← e] at h2
    exact hc _ h1.2 (itr_same h1.1 h2.1 hab)
  have := nodup_le n _ hnd (fun x hx => by
    obtain ⟨m, hm, rfl⟩ := List.mem_map.1 hx
    exact (hgs m (by simpa using hm)).2)
  simp at this
  omega
/-- the way back to an item is short -/
theorem back_short {n i : Nat} (hf : ∀ i j, f i = some j → j < n) (hi : i < n) (h : OnC f i) : ∃ m, m + 1 ≤ n ∧ itr f (m + 1) i = some i := by
  obtain ⟨m0, hm0⟩ := h
  obtain ⟨m, hm, hmin⟩ := least (p := fun m => itr f (m + 1) i = some i) m0 hm0
  refine ⟨m, ?_, hm⟩
  let g : Nat → Nat := fun m => (itr f m i).getD 0
  have hgs : ∀ k, k < m + 1 → itr f k i = some (g k) ∧ g k < n := by
    intro k hk
    obtain ⟨y, hy⟩ := itr_some hm (show k ≤ m + 1 by omega)
    have e : g k = y := by show (itr f k i).getD 0 = y; rw [hy]; rfl
    rw [e]
    refine ⟨hy, ?_⟩
    cases k with
    | zero => simp [itr] at hy; omega
    | succ k =>
      obtain ⟨x, hx1, hx2⟩ := Option.bind_eq_some_iff.1 hy
      exact hf _ _ hx2
  have hnd : ((List.range (m + 1)).map g).Nodup := nodup_range fun a b hab hb e => by
    have h1 := (hgs a (by omega)).1
    have h2 := (hgs b hb).1
    rw [← e] at h2
    obtain ⟨c, hc⟩ : ∃ c, m + 1 = b + c := ⟨m + 1 - b, by omega⟩
    have h3 := hm
    rw [hc, itr_add, h2] at h3
    have h4 : itr f (a + c) i = some i := by rw [itr_add, h1]; exact h3
    obtain ⟨q, hq⟩ : ∃ q, a + c = q + 1 := ⟨a + c - 1, by omega⟩
    rw [hq] at h4
    exact hmin q (by omega) h4
  have := nodup_le n _ hnd (fun x hx => by
    obtain ⟨k, hk, rfl⟩ := List.mem_map.1 hx
    exact (hgs k (by simpa using hk)).2)
  simpa using this

/-- the reference's way of asking for a breaker -/
def brkL (ids : Nat → Bytes) (f : Nat → Option Nat) (i : Nat) : Nat → Option Nat → Bool
  | 0, k => decide (k = some i)
  | _ + 1, none => false
  | t + 1, some k => if k = i then true else if bl (ids k) (ids i) then false else brkL ids f i t (f k)
theorem brkL_iff (ids : Nat → Bytes) (i : Nat) : ∀ (t s : Nat), brkL ids f i t (itr f s i) = true ↔ ∃ m, s ≤ m ∧ m ≤ s + t ∧ itr f m i = some i ∧ ∀ u j, s ≤ u → u < m → itr f u i = some j → bl (ids j) (ids i) = false
  | 0, s => by
    simp only [brkL, decide_eq_true_eq]
    constructor
    · intro h; exact ⟨s, by omega, by omega, h, fun u j h1 h2 => by omega⟩
    · rintro ⟨m, h1, h2, h3, -⟩; obtain rfl : m = s := by omega
      exact h3
  | t + 1, s => by
    cases hs : itr f s i with
    | none =>
      simp only [brkL, Bool.false_eq_true, false_iff, not_exists, not_and]
      intro m h1 h2 h3
      rw [itr_none hs m h1] at h3; cases h3
    | some k =>
      by_cases hk : k = i
      · subst hk
        simp only [brkL, if_true, true_iff]
        exact ⟨s, by omega, by omega, hs, fun u j h1 h2 => by omega⟩
      · by_cases hl : bl (ids k) (ids i) = true
        · simp only [brkL, hk, hl, if_true, if_false, Bool.false_eq_true, false_iff, not_exists, not_and]
          intro m h1 h2 h3 h4
          have hne : m ≠ s := fun e => by subst e; rw [hs] at h3; exact hk (by simpa using h3)
          have := h4 s k (by omega) (by omega) hs
          rw [hl] at this; cases this
        · have hl' : bl (ids k) (ids i) = false := by simpa using hl
          have e : f k = itr f (s + 1) i := by show f k = (itr f s i).bind f; rw [hs]; rfl
          simp only [brkL, hk, hl', if_false, Bool.false_eq_true]
          rw [e, brkL_iff ids i t (s + 1)]
          constructor
          · rintro ⟨m, h1, h2, h3, h4⟩
            refine ⟨m, by omega, by omega, h3, fun u j hu1 hu2 hu3 => ?_⟩
            by_cases hus : u = s
            · subst hus; rw [hs] at hu3; obtain rfl : k = j := by simpa using hu3
              exact hl'
            · exact h4 u j (by omega) hu2 hu3
          · rintro ⟨m, h1, h2, h3, h4⟩
            have hne : m ≠ s := fun e => by subst e; rw [hs] at h3; exact hk (by simpa using h3)
            exact ⟨m, by omega, by omega, h3, fun u j hu1 hu2 hu3 => h4 u j (by omega) hu2 hu3⟩
theorem brkL_Brk {n i : Nat} (ids : Nat → Bytes) (hf : ∀ i j, f i = some j → j < n) (hi : i < n) : brkL ids f i n (f i) = true ↔ Brk f ids i := by
  rw [← itr_one (f := f) i, brkL_iff]
  constructor
  · rintro ⟨m, h1, h2, h3, h4⟩
    obtain ⟨q, rfl⟩ : ∃ q, m = q + 1 := ⟨m - 1, by omega⟩
    refine ⟨⟨q, h3⟩, ?_⟩
    intro u
    induction u using Nat.strongRecOn with
    | ind u ih =>
      intro j hj
      by_cases hu0 : u = 0
      · subst hu0; simp [itr] at hj; subst hj; exact bl_irr _
      · by_cases hum : u < q + 1
        · exact h4 u j (by omega) hum hj
        · obtain ⟨c, rfl⟩ : ∃ c, u = q + 1 + c := ⟨u - (q + 1), by omega⟩
          rw [itr_add, h3] at hj
          exact ih c (by omega) j hj
  · rintro ⟨hc, hl⟩
    obtain ⟨m, h1, h2⟩ := back_short hf hi hc
    exact ⟨m + 1, by omega, by omega, h2, fun u j _ _ hu => hl u j hu⟩

/-- a circle has a breaker -/
theorem min_of {α : Type} (lt : α → α → Bool) (irr : ∀ a, lt a a = false) (tr : ∀ a b c, lt a b = true → lt b c = true → lt a c = true) : ∀ (l : List α), l ≠ [] → ∃ x ∈ l, ∀ y ∈ l, lt y x = false
  | [], h => absurd rfl h
  | [x], _ => ⟨x, by simp, fun y hy => by rw [List.mem_singleton.1 hy]; exact irr x⟩
  | x :: y :: l, _ => by
    obtain ⟨z, hz, hmin⟩ := min_of lt irr tr (y :: l) (by simp)
    cases hxz : lt x z
    · refine ⟨z, by simp only [List.mem_cons] at hz ⊢; exact .inr hz, fun q hq => ?_⟩
      rcases List.mem_cons.1 hq with rfl | hq
      · exact hxz
      · exact hmin q hq
    · refine ⟨x, by simp, fun q hq => ?_⟩
      rcases List.mem_cons.1 hq with rfl | hq
      · exact irr _
      · cases hqx : lt q x
        · rfl
        · have := tr _ _ _ hqx hxz
          rw [hmin q hq] at this; cases this
theorem circle_brk {n i : Nat} (ids : Nat → Bytes) (hf : ∀ i j, f i = some j → j < n) (hi : i < n) (h : OnC f i) : ∃ m j, itr f m i = some j ∧ Brk f ids j := by
  obtain ⟨p, hp1, hp⟩ := back_short hf hi h
  -- the items of the circle
  have hall : ∀ m, ∃ y, itr f m i = some y := by
    intro m
    have h1 : ∀ q, itr f (q * (p + 1)) i = some i := by
      intro q
      induction q with
      | zero => simp [itr]
      | succ q ih => rw [Nat.add_mul, itr_add, ih]; simpa using hp
    exact itr_some (h1 m) (Nat.le_mul_of_pos_right _ (by omega))
  let g : Nat → Nat := fun m => (itr f m i).getD 0
  have hg : ∀ m, itr f m i = some (g m) := by
    intro m; obtain ⟨y, hy⟩ := hall m
    show itr f m i = some ((itr f m i).getD 0); rw [hy]; rfl
  have hred : ∀ m, ∃ k, k < p + 1 ∧ g m = g k := by
    intro m
    induction m using Nat.strongRecOn with
    | ind m ih =>
      by_cases hm : m < p + 1
      · exact ⟨m, hm, rfl⟩
      · obtain ⟨c, rfl⟩ : ∃ c, m = p + 1 + c := ⟨m - (p + 1), by omega⟩
        obtain ⟨k, hk, e⟩ := ih c (by omega)
        refine ⟨k, hk, ?_⟩
        rw [← e]
        have h1 := hg (p + 1 + c)
        rw [itr_add, hp] at h1
        have h2 : itr f c i = some (g (p + 1 + c)) := h1
        rw [hg c] at h2
        exact (Option.some.inj h2).symm
  obtain ⟨x, hx, hmin⟩ := min_of (fun a b => bl (ids a) (ids b)) (fun a => bl_irr _) (fun a b c => bl_tr) ((List.range (p + 1)).map g) (by simp)
  obtain ⟨k, hk, rfl⟩ := List.mem_map.1 hx
  refine ⟨k, g k, hg k, OnC.itr h (hg k), fun m j hj => ?_⟩
  have h1 : itr f (k + m) i = some j := by rw [itr_add, hg k]; exact hj
  rw [hg] at h1
  obtain ⟨q, hq, e⟩ := hred (k + m)
  obtain rfl : g (k + m) = j := Option.some.inj h1
  rw [e]
  exact hmin _ (List.mem_map.2 ⟨q, by simpa using hq, rfl⟩)

/-! ### the program's way: paths -/
/-- a path: each leads to the next one, the last to k -/
def Chain (f : Nat → Option Nat) (p : List Nat) (k : Option Nat) : Prop := ∀ t x, p[t]? = some x → f x = (p[t + 1]?).or k
theorem Chain.snoc {p : List Nat} {k : Nat} (h : Chain f p (some k)) : Chain f (p ++ [k]) (f k) := by
  intro t x hx
  rcases Nat.lt_or_ge t p.length with ht | ht
  · rw [List.getElem?_append_left ht] at hx
    rw [h t x hx]
    rcases Nat.lt_or_ge (t + 1) p.length with h2 | h2
    · rw [List.getElem?_append_left h2, List.getElem?_eq_getElem h2]; rfl
    · have e : p.length = t + 1 := by omega
      rw [List.getElem?_eq_none h2, List.getElem?_append_right h2, e]
      simp
  · have h2 : t = p.length := by
      rw [List.getElem?_append_right ht] at hx
      have := (List.getElem?_eq_some_iff.1 hx).1
      simp at this; omega
    subst h2
    rw [List.getElem?_append_right (Nat.le_refl _)] at hx
    simp at hx
    subst hx
    rw [List.getElem?_append_right (by omega)]
    simp
theorem Chain.inside {p : List Nat} {k : Option Nat} (h : Chain f p k) {t x : Nat} (hx : p[t]? = some x) : ∀ m, t + m < p.length → itr f m x = p[t + m]?
  | 0, _ => by simp [itr, hx]
  | m + 1, hm => by
    show (itr f m x).bind f = _
    rw [h.inside hx m (by omega), List.getElem?_eq_getElem (by omega)]
    show f p[t + m] = _
    rw [h (t + m) _ (List.getElem?_eq_getElem (by omega))]
    rw [show t + (m + 1) = t + m + 1 by omega, List.getElem?_eq_getElem (by omega)]; rfl
theorem Chain.past {p : List Nat} {k : Option Nat} (h : Chain f p k) {t x : Nat} (hx : p[t]? = some x) : itr f (p.length - t) x = k := by
  have ht := (List.getElem?_eq_some_iff.1 hx).1
  obtain ⟨m, hm⟩ : ∃ m, p.length - t = m + 1 := ⟨p.length - t - 1, by omega⟩
  rw [hm]
  show (itr f m x).bind f = _
  rw [h.inside hx m (by omega), List.getElem?_eq_getElem (by omega)]
  show f p[t + m] = _
  rw [h (t + m) _ (List.getElem?_eq_getElem (by omega)), List.getElem?_eq_none (by omega)]; rfl

theorem nodup_at {α : Type} {p : List α} (hn : p.Nodup) {a b : Nat} {x : α} (ha : p[a]? = some x) (hb : p[b]? = some x) : a = b := by
  obtain ⟨h1, e1⟩ := List.getElem?_eq_some_iff.1 ha
  obtain ⟨h2, e2⟩ := List.getElem?_eq_some_iff.1 hb
  rcases Nat.lt_trichotomy a b with h | h | h
  · exact absurd (e1.trans e2.symm) (List.pairwise_iff_getElem.1 hn a b h1 h2 h)
  · exact h
  · exact absurd (e2.trans e1.symm) (List.pairwise_iff_getElem.1 hn b a h2 h1 h)

/-- a path that ends, or leads to what is done: none of it lies on a circle -/
theorem path_free {p : List Nat} {k : Option Nat} {D : Nat → Prop} (hc : Chain f p k) (hn : p.Nodup) (hD : ∀ x j, D x → f x = some j → D j) (hk : ∀ j, k = some j → D j) (hp : ∀ x ∈ p, ¬ D x) : ∀ x ∈ p, ¬ OnC f x := by
  intro x hx ⟨m, hm⟩
  obtain ⟨t, ht, e⟩ := List.getElem_of_mem hx
  have hxt : p[t]? = some x := by rw [List.getElem?_eq_getElem ht, e]
  have key : ∀ m y, itr f m x = some y → (t + m < p.length ∧ p[t + m]? = some y) ∨ D y := by
    intro m
    induction m with
    | zero => intro y hy; simp [itr] at hy; subst hy; exact .inl ⟨ht, hxt⟩
    | succ m ih =>
      intro y hy
      obtain ⟨z, hz, hfz⟩ := Option.bind_eq_some_iff.1 hy
      rcases ih z hz with ⟨h1, h2⟩ | h1
      · rw [hc _ _ h2] at hfz
        rcases Nat.lt_or_ge (t + m + 1) p.length with h3 | h3
        · rw [List.getElem?_eq_getElem h3] at hfz
          simp at hfz
          exact .inl ⟨by omega, by rw [show t + (m + 1) = t + m + 1 by omega, List.getElem?_eq_getElem h3, hfz]⟩
        · rw [List.getElem?_eq_none h3] at hfz
          exact .inr (hk y hfz)
      · exact .inr (hD _ _ h1 hfz)
  rcases key (m + 1) x hm with ⟨h1, h2⟩ | h1
  · have := nodup_at hn hxt h2; omega
  · exact hp x hx h1

/-- a path that leads back into itself -/
theorem path_back {p : List Nat} {k s : Nat} (hc : Chain f p (some k)) (hn : p.Nodup) (hs : p[s]? = some k) : ∀ t x, p[t]? = some x →
    (OnC f x ↔ s ≤ t) ∧ (s ≤ t → ∀ y, (∃ m, itr f m x = some y) ↔ ∃ u, s ≤ u ∧ p[u]? = some y) := by
  intro t x hx
  have hsl := (List.getElem?_eq_some_iff.1 hs).1
  have htl := (List.getElem?_eq_some_iff.1 hx).1
  have key : ∀ t x, p[t]? = some x → ∀ m y, itr f m x = some y → ∃ u, p[u]? = some y ∧ (t + m < p.length → u = t + m) ∧ (p.length ≤ t + m → s ≤ u) := by
    intro t x hx m
    have htl := (List.getElem?_eq_some_iff.1 hx).1
    induction m with
    | zero => intro y hy; simp [itr] at hy; subst hy; exact ⟨t, hx, fun _ => rfl, fun h => by omega⟩
    | succ m ih =>
      intro y hy
      obtain ⟨z, hz, hfz⟩ := Option.bind_eq_some_iff.1 hy
      obtain ⟨u, h1, h2, h3⟩ := ih z hz
      rw [hc _ _ h1] at hfz
      rcases Nat.lt_or_ge (u + 1) p.length with h4 | h4
      · rw [List.getElem?_eq_getElem h4] at hfz
        simp at hfz
        refine ⟨u + 1, by rw [List.getElem?_eq_getElem h4, hfz], fun h => ?_, fun h => ?_⟩
        · rw [h2 (by omega)]; omega
        · rcases Nat.lt_or_ge (t + m) p.length with h5 | h5
          · have := h2 h5; omega
          · have := h3 h5; omega
      · rw [List.getElem?_eq_none h4] at hfz
        simp at hfz
        subst hfz
        have hul := (List.getElem?_eq_some_iff.1 h1).1
        refine ⟨s, hs, fun h => ?_, fun _ => Nat.le_refl _⟩
        have := h2 (by omega); omega
  have hwrap : ∀ t x, p[t]? = some x → s ≤ t → ∀ u y, s ≤ u → p[u]? = some y → ∃ m, itr f (m + 1) x = some y := by
    intro t x hx _ u y hu hy
    have htl := (List.getElem?_eq_some_iff.1 hx).1
    have hul := (List.getElem?_eq_some_iff.1 hy).1
    have h1 := hc.past hx
    have h2 := hc.inside hs (u - s) (by omega)
    rw [show s + (u - s) = u by omega, hy] at h2
    refine ⟨(p.length - t - 1) + (u - s), ?_⟩
    rw [show (p.length - t - 1) + (u - s) + 1 = (p.length - t) + (u - s) by omega, itr_add, h1]
    exact h2
  constructor
  · constructor
    · rintro ⟨m, hm⟩
      obtain ⟨u, h1, h2, h3⟩ := key t x hx (m + 1) x hm
      have e := nodup_at hn hx h1
      subst e
      rcases Nat.lt_or_ge (t + (m + 1)) p.length with h | h
      · have := h2 h; omega
      · exact h3 h
    · intro h
      obtain ⟨m, hm⟩ := hwrap t x hx h t x h hx
      exact ⟨m, hm⟩
  · intro h y
    constructor
    · rintro ⟨m, hm⟩
      obtain ⟨u, h1, h2, h3⟩ := key t x hx m y hm
      refine ⟨u, ?_, h1⟩
      rcases Nat.lt_or_ge (t + m) p.length with h' | h'
      · have := h2 h'; omega
      · exact h3 h'
    · rintro ⟨u, hu, hy⟩
      obtain ⟨m, hm⟩ := hwrap t x hx h u y hu hy
      exact ⟨m + 1, hm⟩
/-- the breaker of the circle at the end of a path -/
theorem path_brk {p : List Nat} {k s b : Nat} {ids : Nat → Bytes} (hc : Chain f p (some k)) (hn : p.Nodup) (hs : p[s]? = some k) (hids : ∀ x ∈ p, ∀ y ∈ p, ids x = ids y → x = y) (hb : b ∈ p.drop s) (hmin : ∀ y ∈ p.drop s, bl (ids y) (ids b) = false) :
    ∀ x ∈ p, Brk f ids x ↔ x = b := by
  intro x hx
  have hmem : ∀ y, y ∈ p.drop s ↔ ∃ u, s ≤ u ∧ p[u]? = some y := by
    intro y
    rw [List.mem_iff_getElem?]
    constructor
    · rintro ⟨i, hi⟩; rw [List.getElem?_drop] at hi; exact ⟨s + i, by omega, hi⟩
    · rintro ⟨u, hu, hy⟩; exact ⟨u - s, by rw [List.getElem?_drop, show s + (u - s) = u by omega]; exact hy⟩
  obtain ⟨t, ht, e⟩ := List.getElem_of_mem hx
  have hxt : p[t]? = some x := by rw [List.getElem?_eq_getElem ht, e]
  obtain ⟨h1, h2⟩ := path_back hc hn hs t x hxt
  constructor
  · rintro ⟨hoc, hl⟩
    have hst := h1.1 hoc
    obtain ⟨m, hm⟩ := (h2 hst b).2 ((hmem b).1 hb)
    have l1 := hl m b hm
    have l2 := hmin x ((hmem x).2 ⟨t, hst, hxt⟩)
    exact hids x hx b (List.mem_of_mem_drop hb) (bl_tri l2 l1)
  · rintro rfl
    obtain ⟨u, hu, hxu⟩ := (hmem x).1 hb
    obtain rfl := nodup_at hn hxt hxu
    exact ⟨h1.2 hu, fun m j hj => hmin j ((hmem j).2 ((h2 hu j).1 ⟨m, hj⟩))⟩
end
end Go.Proofs.Y

/- TA: thread: names of types; letters in lower case. -/
namespace Go.Proofs.Y
open Go Go.HL Go.Proofs

theorem u101 : Try.prog.underlying 101 = some (.slice 5) := by kernel_rfl
theorem u9 : Try.prog.underlying 9 = some .string := by kernel_rfl
theorem u5 : Try.prog.underlying 5 = some (.int .u8) := by kernel_rfl
theorem sz5 : szOf Try.prog 5 = some 1 := by kernel_rfl
theorem sz9 : szOf Try.prog 9 = some 1 := by kernel_rfl
theorem sl101 : SlTy Try.prog 101 5 1 1 (.int .u8 0) := ⟨by kernel_rfl, by kernel_rfl, rfl, by decide⟩
theorem sl32 : SlTy Try.prog 32 9 1 16 (str []) := ⟨by kernel_rfl, by kernel_rfl, rfl, by decide⟩

def lowB (c : UInt8) : UInt8 := if 65 ≤ c ∧ c ≤ 90 then c + 32 else c
def lowerB (s : Bytes) : Bytes := s.map lowB
theorem lowerB_len (s : Bytes) : (lowerB s).length = s.length := by simp [lowerB]
theorem lowB_nat (c : UInt8) : ((lowB c).toNat : Int) = if 65 ≤ (c.toNat : Int) ∧ (c.toNat : Int) ≤ 90 then (c.toNat : Int) + 32 else c.toNat := by
  have h := c.toNat_lt
  have e1 : (65 ≤ c) ↔ 65 ≤ c.toNat := Iff.rfl
  have e2 : (c ≤ 90) ↔ c.toNat ≤ 90 := Iff.rfl
  unfold lowB
  by_cases hc : 65 ≤ c ∧ c ≤ 90
  · have hc' := hc
    rw [e1, e2] at hc'
    rw [if_pos hc, if_pos (by omega), UInt8.toNat_add]
    show (((c.toNat + 32) % 256 : Nat) : Int) = _
    omega
  · have hc' := hc
    rw [e1, e2] at hc'
    rw [if_neg hc, if_neg (by omega)]
theorem str_inj {a b : Bytes} : (a = b) ↔ (str a = str b) := by
  constructor
  · rintro rfl; rfl
  · intro h
    simp only [str, Value.string.injEq, ByteArray.mk.injEq] at h
    simpa using h

section
variable {w : World} {next : Value → World → Prop} {QP : List PanicEntry → World → Prop}

theorem lay_low (s : Bytes) (i : Nat) (hi : i < s.length) : (bys (lowerB (s.take i) ++ s.drop i)).set i (.int .u8 (lowB s[i]).toNat) = bys (lowerB (s.take (i + 1)) ++ s.drop (i + 1)) := by
  have h1 : (lowerB (s.take i)).length = i := by rw [lowerB_len, List.length_take]; omega
  rw [List.drop_eq_getElem_cons hi, List.take_succ_eq_append_getElem hi]
  simp only [bys, lowerB, List.map_append, List.map_cons, List.map_nil] at h1 ⊢
  rw [List.set_append_right _ _ (by simp; omega)]
  simp [List.length_map] at h1 ⊢
  rw [show i - min i s.length = 0 by omega, List.set_cons_zero]

theorem set_same {α : Type} {l : List α} {i : Nat} {v : α} (h : l[i]? = some v) : l.set i v = l := by
  obtain ⟨hi, rfl⟩ := List.getElem?_eq_some_iff.1 h
  exact List.set_getElem_self hi

theorem low_ (s : Bytes) (hs : s.length ≤ 1000000000) (k : ∀ w', Mod none' w w' → next (str (lowerB s)) w') : callvK Try.prog (.func (.func 33) #[] #[]) [str s] w next QP := by
  refine r33 rfl ?_
  unfold h33
  try simp only [go_sem]
  refine r46 rfl ?_
  unfold h46
  try simp only [go_sem]
  refine s2b u9 u101 u5 (by unfold maxLen; omega) ?_
  intro b c w1 hb own1 m1 hs1
  try simp only [go_sem]
  refine loopN s.length (fun i τ w' => τ 1 = .int .u8 65 ∧ τ 2 = .int .u8 90 ∧ τ 3 = .int .i64 32 ∧ τ 9 = .slice (some ⟨b, 0, none⟩) s.length c ∧ τ 14 = .slice (some ⟨b, 0, none⟩) s.length c ∧ τ 15 = .int .i64 s.length ∧ τ 16 = .int .i64 i ∧ Mod none' w w' ∧ HL.Own w' (.slice (some ⟨b, 0, none⟩) s.length c) 5 1 s.length (bys (lowerB (s.take i) ++ s.drop i))) ⟨0, by omega, rfl, rfl, rfl, rfl, rfl, rfl, rfl, m1, by simpa [lowerB] using own1⟩ ?_
  rintro i τ w2 hi ⟨t1, t2, t3, t9, t14, t15, t16, m2, own2⟩
  unfold h46_1
  try simp only [go_sem, t15, t16]
  refine ⟨fun hlt => ?_, fun hge => ?_⟩
  · have hil : i < s.length := by
      have : (i : Int) < s.length := by simpa using hlt
      omega
    have hce := own_at own2 hil
    have hl1 : (lowerB (s.take i)).length = i := by rw [lowerB_len, List.length_take]; omega
    have he : (bys (lowerB (s.take i) ++ s.drop i))[i]? = some (.int .u8 s[i].toNat) := by
      rw [bys, List.getElem?_map, List.getElem?_append_right (by omega), hl1, Nat.sub_self, List.drop_eq_getElem_cons hil]; rfl
    rw [he] at hce
    have hlow := lay_low s i hil
    have hn := lowB_nat s[i]
    have h256 := s[i].toNat_lt
    unfold h46_2
    try simp only [go_sem, t1, t2, t3, t9, t14, t15, t16, hce]
    repeat refine ⟨⟨by omega, by omega⟩, ?_⟩
    refine ⟨fun hc => ?_, fun hc => ?_⟩
    · have hc : 65 ≤ (s[i].toNat : Int) ∧ (s[i].toNat : Int) ≤ 90 := by
        split at hc
        · rename_i h1; exact ⟨by simpa using h1, by simpa using hc⟩
        · cases hc
      rw [if_pos hc] at hn
      rw [w64 (x := (s[i].toNat : Int)) (by omega) (by omega), w64 (by omega) (by omega), wrap_u8, show ((s[i].toNat : Int) + 32) % 256 = (lowB s[i]).toNat by omega]
      refine ⟨⟨by omega, by omega⟩, ?_⟩
      refine own_store sz5 own2 hil rfl ?_
      intro w3 own3 m3 hs3
      rw [hlow] at own3
      unfold h46_3
      try simp only [go_sem, t1, t2, t3, t9, t14, t15, t16]
      rw [w64 (by omega) (by omega)]
      exact ⟨i + 1, by omega, by omega, rfl, m2.trans m3 fun k hk (e : k = b) => by omega, own3⟩
    · have hc : ¬ (65 ≤ (s[i].toNat : Int) ∧ (s[i].toNat : Int) ≤ 90) := by
        split at hc
        · simp at hc; omega
        · rename_i h1; simp at h1; omega
      rw [if_neg hc] at hn
      have hn' : (lowB s[i]).toNat = s[i].toNat := by omega
      rw [hn', set_same he] at hlow
      rw [hlow] at own2
      unfold h46_3
      try simp only [go_sem, t1, t2, t3, t9, t14, t15, t16]
      rw [w64 (by omega) (by omega)]
      exact ⟨i + 1, by omega, by omega, rfl, m2, own2⟩
  · have hio : i = s.length := by
      have : ¬ (i : Int) < s.length := by simpa using hge
      omega
    subst hio
    unfold h46_4
    try simp only [go_sem, t9]
    rw [List.take_length, List.drop_length, List.append_nil] at own2
    refine b2s u101 u9 u5 (n := s.length) (l := lowerB s) own2.sl ?_
    try simp only [go_sem]
    exact k _ m2

theorem rlow1_ (c : UInt8) (k : next (.int .u8 (lowB c).toNat) w) : callvK Try.prog (.func (.func 89) #[] #[]) [.int .u8 c.toNat] w next QP := by
  refine r89 rfl ?_
  have hn := lowB_nat c
  have h256 := c.toNat_lt
  unfold h89
  try simp only [go_sem]
  refine ⟨fun hc => ?_, fun hc => ?_⟩
  · have hc : 65 ≤ (c.toNat : Int) ∧ (c.toNat : Int) ≤ 90 := by
      split at hc
      · rename_i h1; exact ⟨by simpa using h1, by simpa using hc⟩
      · cases hc
    rw [if_pos hc] at hn
    rw [wrap_u8, show ((c.toNat : Int) + 32) % 256 = (lowB c).toNat by omega]
    exact k
  · have hc : ¬ (65 ≤ (c.toNat : Int) ∧ (c.toNat : Int) ≤ 90) := by
      split at hc
      · simp at hc; omega
      · rename_i h1; simp at h1; omega
    rw [if_neg hc] at hn
    unfold h89_1
    try simp only [go_sem]
    rw [← hn]; exact k

theorem rlow_ (s : Bytes) (hs : s.length ≤ 1000000000) (k : ∀ w', Mod none' w w' → next (str (lowerB s)) w') : callvK Try.prog (.func (.func 84) #[] #[]) [str s] w next QP := by
  refine r84 rfl ?_
  unfold h84
  try simp only [go_sem]
  refine s2b u9 u101 u5 (by unfold maxLen; omega) ?_
  intro b c w1 hb own1 m1 hs1
  try simp only [go_sem]
  refine loopN s.length (fun i τ w' => τ 3 = .slice (some ⟨b, 0, none⟩) s.length c ∧ τ 4 = .int .i64 i ∧ Mod none' w w' ∧ HL.Own w' (.slice (some ⟨b, 0, none⟩) s.length c) 5 1 s.length (bys (lowerB (s.take i) ++ s.drop i))) ⟨0, by omega, rfl, rfl, m1, by simpa [lowerB] using own1⟩ ?_
  rintro i τ w2 hi ⟨t3, t4, m2, own2⟩
  unfold h84_1
  try simp only [go_sem, t3, t4]
  refine ⟨fun hlt => ?_, fun hge => ?_⟩
  · have hil : i < s.length := by
      have : (i : Int) < s.length := by simpa using hlt
      omega
    have hce := own_at own2 hil
    have hl1 : (lowerB (s.take i)).length = i := by rw [lowerB_len, List.length_take]; omega
    have he : (bys (lowerB (s.take i) ++ s.drop i))[i]? = some (.int .u8 s[i].toNat) := by
      rw [bys, List.getElem?_map, List.getElem?_append_right (by omega), hl1, Nat.sub_self, List.drop_eq_getElem_cons hil]; rfl
    rw [he] at hce
    have hlow := lay_low s i hil
    unfold h84_2
    try simp only [go_sem, t3, t4, hce]
    repeat refine ⟨⟨by omega, by omega⟩, ?_⟩
    refine rlow1_ s[i] ?_
    try simp only [go_sem, t3, t4]
    refine ⟨⟨by omega, by omega⟩, ?_⟩
    refine own_store sz5 own2 hil rfl ?_
    intro w3 own3 m3 hs3
    rw [hlow] at own3
    unfold h84_3
    try simp only [go_sem, t3, t4]
    rw [w64 (by omega) (by omega)]
    exact ⟨i + 1, by omega, by omega, rfl, m2.trans m3 fun k hk (e : k = b) => by omega, own3⟩
  · have hio : i = s.length := by
      have : ¬ (i : Int) < s.length := by simpa using hge
      omega
    subst hio
    unfold h84_4
    try simp only [go_sem, t3]
    rw [List.take_length, List.drop_length, List.append_nil] at own2
    refine b2s u101 u9 u5 (n := s.length) (l := lowerB s) own2.sl ?_
    try simp only [go_sem]
    exact k _ m2

def sameB (a b : Bytes) : Bool := decide (lowerB a = lowerB b)
theorem sameB_len {a b : Bytes} (h : a.length ≠ b.length) : sameB a b = false := by
  unfold sameB
  rw [decide_eq_false]
  intro e
  have := congrArg List.length e
  rw [lowerB_len, lowerB_len] at this
  exact h this
theorem tsame_ (a b : Bytes) (ha : a.length ≤ 1000000000) (hb : b.length ≤ 1000000000) (k : ∀ w', Mod none' w w' → next (.bool (sameB a b)) w') : callvK Try.prog (.func (.func 19) #[] #[]) [str a, str b] w next QP := by
  refine r19 rfl ?_
  unfold h19
  try simp only [go_sem]
  refine ⟨fun he => ?_, fun he => ?_⟩
  · refine low_ a ha ?_
    intro w1 m1
    unfold l19_2
    try simp only [go_sem, he]
    refine low_ b hb ?_
    intro w2 m2
    unfold l19_1
    try simp only [go_sem, he]
    have := k w2 (m1.trans' m2)
    simpa [sameB] using this
  · have he' : a.length ≠ b.length := by
      intro e; rw [e] at he; simp at he
    unfold l19_2
    try simp only [go_sem, he]
    unfold l19_1
    try simp only [go_sem, he]
    have := k w (Mod.refl _ _)
    rw [sameB_len he'] at this
    exact this
theorem rsame_ (a b : Bytes) (ha : a.length ≤ 1000000000) (hb : b.length ≤ 1000000000) (k : ∀ w', Mod none' w w' → next (.bool (sameB a b)) w') : callvK Try.prog (.func (.func 69) #[] #[]) [str a, str b] w next QP := by
  refine r69 rfl ?_
  unfold h69
  try simp only [go_sem]
  refine rlow_ a ha ?_
  intro w1 m1
  try simp only [go_sem]
  refine rlow_ b hb ?_
  intro w2 m2
  try simp only [go_sem]
  have := k w2 (m1.trans' m2)
  simpa [sameB] using this

theorem strs_at {v : Value} {l : List Bytes} {n : Nat} (h : Sl w v 1 n (l.map str)) {i : Nat} (hi : i < n) : ∃ hl : i < l.length, ∃ g o c, v = .slice (some ⟨g, o, none⟩) n c ∧ ∀ w', Mod none' w w' → w'.cell? ⟨g, o + i, none⟩ = some (str l[i]) := by
  have hln : l.length = n := by have := h.len; simpa using this
  obtain ⟨a, c, rfl, -, hc⟩ := h.form
  obtain ⟨g, o, rfl, hcell⟩ := hc (by omega)
  refine ⟨by omega, g, o, c, rfl, fun w' m => ?_⟩
  have h1 := hcell i (by omega)
  rw [List.getElem?_map, List.getElem?_eq_getElem (by omega)] at h1
  exact m.cell h1 fun h => h

end
end Go.Proofs.Y

/- HLR: the decompiler's soundness within a round of a range over a function. -/
namespace Go.HL
open Go

section
variable {P : Program} {N n m l : Nat} {D : List Deferred} {QP : List PanicEntry → World → Prop}

abbrev inR (l : Nat) : Fence := Fence.wide.inRound l

/-- no deferred call, no loop, no label among them -/
def plainC : Code → Bool
  | .region _ ops draw => !draw && ops.all fun o => match o.op with | .defer _ => false | _ => true
  | .seq a b => plainC a && plainC b
  | .cond _ a b => plainC a && plainC b
  | .block _ c => plainC c
  | .skip | .exit _ | .ret | .label _ => true
  | _ => false

theorem wp_In {o : Oper} (hnd : ∀ c, o.op ≠ .defer c) {a : Act} {w : World} {K : Act → World → Prop} {Q : Exit → Act → World → Prop} (h : o.wp P a w K Q) : o.wpIn (inR l) m P a w K Q := by
  refine ⟨fun _ _ => trivial, ?_⟩
  rw [Oper.semAt_eq _ _ _ hnd]
  unfold Oper.wp at h
  generalize (execOp a.eval o).run P w = r at *
  cases r with
  | ok x w' =>
    cases x <;> simp only [Oper.upon] at h <;> simp only [Oper.uponIn]
    case value v => exact h
    case skip => exact h
    case defer d => exact h
    case enter f args => exact ⟨fun hh => by simp [Fence.wide] at hh, CallsIn.inRound l (callsIn_wide.2 h)⟩
    case row row args =>
      exact ⟨fun hh => by simp [Fence.wide] at hh, fun c cs _ => let ⟨v, w', r, s⟩ := h c cs; ⟨v, w', r, stepsIn_wide.2 s⟩⟩
  | halt x w' => cases x <;> simp only [Oper.upon] at h <;> simp only [Oper.uponIn] <;> exact h

theorem stepC_opIn {ops : Array Oper} (hnd : ∀ (i : Nat) (o : Oper), ops[i]? = some o → ∀ c, o.op ≠ .defer c) {Q : Exit → Act → World → Prop} {i : Nat} {K K' : Act → World → Prop} {a : Act} {w : World} (h : ∀ a w, K a w → K' a w) (hh : stepC P ops Q i [] K a w) : wpOpIn (inR l) m P ops Q i K' a w := by
  unfold stepC at hh
  unfold wpOpIn
  cases ho : ops[i]? with
  | none => simp [ho] at hh
  | some o =>
    simp only [ho] at hh ⊢
    split at hh
    · rename_i hw; rw [if_pos hw]
      refine wp_In (hnd i o ho) ?_
      cases hq : resolve P o.op with
      | some q =>
        simp only [hq] at hh
        have hr := resolve_sound (P := P) (ρ := a.eval) (w := w) hq hh.1
        simp only [Oper.wp, hr, Oper.upon]; exact h _ _ hh.2
      | none =>
        simp only [hq] at hh
        exact Oper.wp_mono (fun a w hx => h _ _ hx.2) hh
    · rename_i hw; rw [if_neg hw]; exact ⟨fun _ _ => trivial, h _ _ hh⟩

theorem wpC_opsIn {ops : Array Oper} (hnd : ∀ (i : Nat) (o : Oper), ops[i]? = some o → ∀ c, o.op ≠ .defer c) {Q : Exit → Act → World → Prop} {K : Act → World → Prop} (hK : ∀ a w, K a w → Q .normal a w) : ∀ (r : List Nat) (a : Act) (w : World),
    wpC P ops Q K (r.map fun i => (i, [])) a w → wpOpsIn (inR l) m P ops Q r a w
  | [], a, w, h => hK _ _ h
  | i :: r, a, w, h => by
    rw [wpOpsIn_cons]
    exact stepC_opIn hnd (fun a w hx => wpC_opsIn hnd hK r a w hx) h

theorem dcode_soundIn : ∀ (c : Code) (h : HC), dcode P N n [] c = some h → plainC c = true → ∀ (Q : HX → Env → World → Prop) (σ : Env) (a : Act) (w : World),
    RelN N n D a σ → hw P QP h Q σ w → c.wpIn (inR l) m P (lift N n D QP Q) a w := by
  intro c
  induction c with
  | skip => intro h hd _ Q σ a w R H; simp only [dcode, Option.some.injEq] at hd; subst hd; exact wpIn_skip ⟨σ, R, H⟩
  | region id ops draw =>
    intro h hd hpl Q σ a w R H
    have R0 : ∀ w, Rel P ops N n D ⟨[], []⟩ a σ w := fun w => ⟨R.size, R.defers, R.slot, by simp, by simp⟩
    have nd : nodupR ([] : List Rd) := by intro r hr; cases hr
    simp only [plainC, Bool.and_eq_true] at hpl
    obtain ⟨hdraw, hops⟩ := hpl
    have hdraw : draw = false := by simpa using hdraw
    subst hdraw
    have hnd : ∀ (i : Nat) (o : Oper), ops[i]? = some o → ∀ c, o.op ≠ .defer c := by
      intro i o ho c he
      have := (Array.all_eq_true.1 hops) i (Array.getElem?_eq_some_iff.1 ho).1
      rw [(Array.getElem?_eq_some_iff.1 ho).2, he] at this
      cases this
    simp only [dcode, Bool.false_eq_true, if_false, Option.map_eq_some_iff] at hd
    obtain ⟨l', hl, rfl⟩ := hd
    refine wpIn_region (wpC_opsIn hnd (K := lift N n D QP Q .normal) (fun a w hx => hx) _ a w ?_)
    exact dlist_sound (QP := QP) (K := Q .normal) (fun c a w h1 h2 => ⟨h1, h2⟩) (fun a' σ' w' h1 h2 h3 h4 => ⟨σ', ⟨h1, h2, h3⟩, h4⟩) _ ⟨[], []⟩ a σ _ l' (R0 _) nd hl H
  | seq x y ihx ihy =>
    intro h hd hpl Q σ a w R H
    simp only [plainC, Bool.and_eq_true] at hpl
    simp only [dcode] at hd
    cases hx : dcode P N n [] x <;> cases hy : dcode P N n [] y <;> simp only [hx, hy, Option.some.injEq, reduceCtorEq] at hd
    rename_i a' b'
    subst hd
    refine wpIn_seq (wpIn_mono (ihx _ hx hpl.1 (seqX (hw P QP b' Q) Q) σ a w R H) (fun e a w hq => ?_))
    cases e with
    | normal => obtain ⟨σ', r, q⟩ := hq; exact ihy _ hy hpl.2 Q σ' a w r q
    | exit id => exact hq
    | ret => exact hq
    | panic c => exact hq
    | goto l => exact hq
    | outgrown => exact hq
  | cond c x y ihx ihy =>
    intro h hd hpl Q σ a w R H
    simp only [plainC, Bool.and_eq_true] at hpl
    simp only [dcode] at hd
    cases hc : exO N [] [] c <;> cases hx : dcode P N n [] x <;> cases hy : dcode P N n [] y <;> simp only [hc, hx, hy, Option.some.injEq, reduceCtorEq] at hd
    rename_i c' a' b'
    subst hd
    obtain ⟨t, ht, h1, h2⟩ := H
    have R0 : Rel P #[] N n D ⟨[], []⟩ a σ w := ⟨R.size, R.defers, R.slot, by simp, by simp⟩
    have hv : a.eval c = .bool t := by rw [exO_sound R0 (gs := []) (by simp) hc, ht]
    cases t with
    | true => exact wpIn_cond_true hv (ihx _ hx hpl.1 Q σ a w R (h1 rfl))
    | false => exact wpIn_cond_false hv (ihy _ hy hpl.2 Q σ a w R (h2 rfl))
  | block id c ih =>
    intro h hd hpl Q σ a w R H
    simp only [plainC] at hpl
    simp only [dcode, Option.map_eq_some_iff] at hd
    obtain ⟨c', hc, rfl⟩ := hd
    refine wpIn_block (wpIn_mono (ih _ hc hpl (blockX id Q) σ a w R H) (fun e a w hq => ?_))
    cases e with
    | normal => exact hq
    | exit i =>
      simp only [Exit.inBlock]
      obtain ⟨σ', r, q⟩ := hq
      simp only [blockX] at q
      split
      · rename_i he; rw [if_pos he] at q; exact ⟨σ', r, q⟩
      · rename_i he; rw [if_neg he] at q; exact ⟨σ', r, q⟩
    | ret => exact hq
    | panic c => exact hq
    | goto l => exact hq
    | outgrown => exact hq
  | exit id => intro h hd _ Q σ a w R H; simp only [dcode, Option.some.injEq] at hd; subst hd; exact wpIn_exit ⟨σ, R, H⟩
  | label l => intro h hd _ Q σ a w R H; simp only [dcode, Option.some.injEq] at hd; subst hd; exact wpIn_label ⟨σ, R, H⟩
  | ret => intro h hd _ Q σ a w R H; simp only [dcode, Option.some.injEq] at hd; subst hd; exact wpIn_ret ⟨σ, R, H⟩
  | _ => intro h hd hpl; simp [plainC] at hpl
end
end Go.HL

/- HLN: maps keyed by strings. -/
namespace Go.HL
open Go Go.MapKept

section
variable {P : Program} {w : World} {next : Value → World → Prop} {QP : List PanicEntry → World → Prop}
def mkmapK (P : Program) (t : TypeId) (r : Option Value) (w : World) (next : Value → World → Prop) (QP : List PanicEntry → World → Prop) : Prop := effUpon P next QP ((runV (Instr.makeMap t r)).run P w)
def lookupK (P : Program) (t : TypeId) (x k : Value) (ok : Bool) (w : World) (next : Value → World → Prop) (QP : List PanicEntry → World → Prop) : Prop := effUpon P next QP ((runV (Instr.lookup t x k ok)).run P w)
def mapupdK (P : Program) (t : TypeId) (m k v : Value) (w : World) (next : Value → World → Prop) (QP : List PanicEntry → World → Prop) : Prop := effUpon P next QP ((runU (Instr.mapUpdate t m k v)).run P w)
theorem f_mkmap {t ty : TypeId} {ρ : Operand → Value} : heff P (.makeMap t none) ty ρ w next QP = mkmapK P t none w next QP := rfl
theorem f_lookup {t ty : TypeId} {x k : Operand} {ok : Bool} {ρ : Operand → Value} : heff P (.lookup t x k ok) ty ρ w next QP = lookupK P t (ρ x) (ρ k) ok w next QP := rfl
theorem f_mapupd {t ty : TypeId} {m k v : Operand} {ρ : Operand → Value} : heff P (.mapUpdate t m k v) ty ρ w next QP = mapupdK P t (ρ m) (ρ k) (ρ v) w next QP := rfl
attribute [go_sem] f_mkmap f_lookup f_mapupd

/-- what is held under a key; and with a key more -/
def getM (k : List UInt8) : List (List UInt8 × Value) → Option Value
  | [] => none
  | p :: l => if p.1 = k then some p.2 else getM k l
def putM (k : List UInt8) (v : Value) : List (List UInt8 × Value) → List (List UInt8 × Value)
  | [] => [(k, v)]
  | p :: l => if p.1 = k then (k, v) :: l else p :: putM k v l
def kv (p : List UInt8 × Value) : Value × Value := (str p.1, p.2)
/-- a map that is held: its keys with what is held under them -/
def Mp (w : World) (b : Nat) (ks : List (List UInt8 × Value)) : Prop := ∃ es clock, w.heap[b]? = some (.map es clock) ∧ es.toList.map (fun e => (e.key, e.val)) = ks.map kv ∧ (∀ e ∈ es.toList, e.born < clock) ∧ (es.toList.map (·.born)).Nodup
theorem Mp.lt {b : Nat} {ks : List (List UInt8 × Value)} (h : Mp w b ks) : b < w.heap.size := by
  obtain ⟨es, c, h, -⟩ := h
  exact (Array.getElem?_eq_some_iff.1 h).1
theorem Mp.mod {w' : World} {S : Nat → Prop} {b : Nat} {ks : List (List UInt8 × Value)} (h : Mp w b ks) (m : Mod S w w') (hd : ¬ S b) : Mp w' b ks := by
  obtain ⟨es, c, hh, hk⟩ := h
  exact ⟨es, c, by rw [m.block b (Array.getElem?_eq_some_iff.1 hh).1 hd]; exact hh, hk⟩
theorem mkmap_ {t : TypeId} (k : ∀ b w', w.heap.size = b → Mp w' b [] → Mod none' w w' → w'.heap.size = b + 1 → next (.map (some b)) w') : mkmapK P t none w next QP := by
  refine eff_value (v := .map (some w.heap.size)) (w' := w.alloc (.map #[] 0)) ?_ (k _ _ rfl ⟨#[], 0, by unfold World.alloc; simp, rfl, by simp, by simp⟩ (alloc_mod w _) (by simp))
  simp [Instr.makeMap]

theorem findNow_str (k : List UInt8) : ∀ (es : List MapEntry) (ks : List (List UInt8 × Value)) (i : Nat), es.map (fun e => (e.key, e.val)) = ks.map kv →
    (getM k ks = none ∧ Instr.findNow .string (str k) es i = some none ∧ ∀ x, putM k x ks = ks ++ [(k, x)]) ∨
    ∃ v j, getM k ks = some v ∧ Instr.findNow .string (str k) es i = some (some (i + j, v)) ∧ ks[j]? = some (k, v) ∧ ∀ x, putM k x ks = ks.set j (k, x)
  | [], ks, i, h => by
    obtain rfl : ks = [] := by cases ks with | nil => rfl | cons x l => simp at h
    exact .inl ⟨rfl, rfl, fun _ => rfl⟩
  | e :: es, ks, i, h => by
    cases ks with
    | nil => simp at h
    | cons x ks =>
      simp only [List.map_cons, List.cons.injEq, kv, Prod.mk.injEq] at h
      obtain ⟨⟨hx, hy⟩, ht⟩ := h
      obtain ⟨x, y⟩ := x
      simp only at hx hy
      unfold Instr.findNow
      rw [hx, hy]
      by_cases he : x = k
      · subst he
        have : Instr.sameNow .string (str x) (str x) = some true := by
          show some ((ByteArray.mk x.toArray) == (ByteArray.mk x.toArray)) = some true
          rw [(bytes_beq _ _).2 rfl]
        rw [this]
        exact .inr ⟨y, 0, by simp [getM], rfl, rfl, fun z => by simp [putM]⟩
      · have : Instr.sameNow .string (str k) (str x) = some false := by
          show some ((ByteArray.mk k.toArray) == (ByteArray.mk x.toArray)) = some false
          cases hb : ((ByteArray.mk k.toArray) == (ByteArray.mk x.toArray)) with
          | false => rfl
          | true => exact absurd ((bytes_beq _ _).1 hb) (fun h => he (by simpa using h.symm))
        rw [this]
        rcases findNow_str k es ks (i + 1) ht with ⟨h1, h2, h3⟩ | ⟨v, j, h1, h2, h3, h4⟩
        · exact .inl ⟨by simp [getM, he, h1], h2, fun z => by simp [putM, he, h3]⟩
        · refine .inr ⟨v, j + 1, by simp [getM, he, h1], ?_, by simpa using h3, fun z => by simp [putM, he, h4]⟩
          rw [show i + (j + 1) = i + 1 + j by omega]; exact h2

theorem run_findKey_str {kt : TypeId} (hk : P.underlying kt = some .string) (k : List UInt8) {es : List MapEntry} {ks : List (List UInt8 × Value)} (h : es.map (fun e => (e.key, e.val)) = ks.map kv) :
    (getM k ks = none ∧ (Instr.findKey kt (str k) es).run P w = .ok none w ∧ ∀ x, putM k x ks = ks ++ [(k, x)]) ∨
    ∃ v j, getM k ks = some v ∧ (Instr.findKey kt (str k) es).run P w = .ok (some (j, v)) w ∧ ks[j]? = some (k, v) ∧ ∀ x, putM k x ks = ks.set j (k, x) := by
  rcases findNow_str k es ks 0 h with ⟨h1, h2, h3⟩ | ⟨v, j, h1, h2, h3, h4⟩
  · exact .inl ⟨h1, by simp [Instr.findKey, run_underlying hk, h2], h3⟩
  · rw [Nat.zero_add] at h2
    exact .inr ⟨v, j, h1, by simp [Instr.findKey, run_underlying hk, h2], h3, h4⟩
theorem run_checkKey_str {kt : TypeId} (hk : P.underlying kt = some .string) (b : Bool) (k : List UInt8) : (Instr.checkKey b 10000 kt (str k)).run P w = .ok () w := by
  unfold Instr.checkKey
  simp [run_underlying hk, str]
/-- v, ok := m[k] -/
theorem lookup_ {t kt et : TypeId} (ht : P.underlying t = some (.map kt et)) (hk : P.underlying kt = some .string) {z : Value} (hz : ∀ w, (zeroValue et).run P w = .ok z w) {b : Nat} {ks : List (List UInt8 × Value)} (h : Mp w b ks) {k : List UInt8}
    (kk : next (.tuple #[(getM k ks).getD z, .bool (getM k ks).isSome]) w) : lookupK P t (.map (some b)) (str k) true w next QP := by
  obtain ⟨es, c, hh, hks, hbn, hnd⟩ := h
  have hg : (getObj b).run P w = .ok (.map es c) w := by simp [getObj, Sem.run, hh]
  rcases run_findKey_str (P := P) (w := w) hk k hks with ⟨h1, h2, h3⟩ | ⟨v, j, h1, h2, h3, h4⟩
  · rw [h1] at kk
    refine eff_value (v := .tuple #[z, .bool false]) (w' := w) ?_ kk
    simp [Instr.lookup, run_underlying ht, hg, run_checkKey_str hk, h2, hz]
  · rw [h1] at kk
    refine eff_value (v := .tuple #[v, .bool true]) (w' := w) ?_ kk
    simp [Instr.lookup, run_underlying ht, hg, run_checkKey_str hk, h2]
/-- v := m[k] -/
theorem lookup1_ {t kt et : TypeId} (ht : P.underlying t = some (.map kt et)) (hk : P.underlying kt = some .string) {z : Value} (hz : ∀ w, (zeroValue et).run P w = .ok z w) {b : Nat} {ks : List (List UInt8 × Value)} (h : Mp w b ks) {k : List UInt8}
    (kk : next ((getM k ks).getD z) w) : lookupK P t (.map (some b)) (str k) false w next QP := by
  obtain ⟨es, c, hh, hks, hbn, hnd⟩ := h
  have hg : (getObj b).run P w = .ok (.map es c) w := by simp [getObj, Sem.run, hh]
  rcases run_findKey_str (P := P) (w := w) hk k hks with ⟨h1, h2, h3⟩ | ⟨v, j, h1, h2, h3, h4⟩
  · rw [h1] at kk
    refine eff_value (v := z) (w' := w) ?_ kk
    simp [Instr.lookup, run_underlying ht, hg, run_checkKey_str hk, h2, hz]
  · rw [h1] at kk
    refine eff_value (v := v) (w' := w) ?_ kk
    simp [Instr.lookup, run_underlying ht, hg, run_checkKey_str hk, h2]
theorem mapupd_ {t kt et : TypeId} (ht : P.underlying t = some (.map kt et)) (hk : P.underlying kt = some .string) {b : Nat} {ks : List (List UInt8 × Value)} (h : Mp w b ks) {k : List UInt8} {v : Value}
    (kk : ∀ w', Mp w' b (putM k v ks) → Mod (fun i => i = b) w w' → w'.heap.size = w.heap.size → next undef w') : mapupdK P t (.map (some b)) (str k) v w next QP := by
  obtain ⟨es, c, hh, hks, hbn, hnd⟩ := h
  have hg : (getObj b).run P w = .ok (.map es c) w := by simp [getObj, Sem.run, hh]
  have hs : ∀ o, (setObj b o).run P w = .ok () { w with heap := w.heap.setIfInBounds b o } := fun o => by simp [setObj, Sem.run, hh]
  have hb := (Array.getElem?_eq_some_iff.1 hh).1
  have hmod : ∀ o, Mod (fun i => i = b) w { w with heap := w.heap.setIfInBounds b o } := fun o =>
    ⟨rfl, rfl, rfl, by simp, fun i hi hne => by
      have hne : ¬ i = b := hne
      simp [Array.getElem?_setIfInBounds, Ne.symm hne]⟩
  rcases run_findKey_str (P := P) (w := w) hk k hks with ⟨h1, h2, h3⟩ | ⟨u, i, h1, h2, h3, h4⟩
  · refine eff_unit (w' := { w with heap := w.heap.setIfInBounds b (.map (es.push { key := str k, val := v, born := c }) (c + 1)) }) ?_ (kk _ ⟨es.push { key := str k, val := v, born := c }, c + 1, by simp [hb], by rw [h3]; simp [hks, kv], fun e he => ?_, ?_⟩ (hmod _) (by simp))
    · simp [Instr.mapUpdate, run_underlying ht, hg, run_checkKey_str hk, h2, hs]
    · rw [Array.toList_push, List.mem_append, List.mem_singleton] at he
      rcases he with he | rfl
      · have := hbn e he; omega
      · simp
    · rw [Array.toList_push, List.map_append]
      refine List.nodup_append.2 ⟨hnd, by simp, fun a ha b hb => ?_⟩
      obtain ⟨e, he, rfl⟩ := List.mem_map.1 ha
      have := hbn e he
      simp at hb
      omega
  · have hes' : (es.toList.map (fun e => (e.key, e.val)))[i]? = some (str k, u) := by rw [hks, List.getElem?_map, h3]; rfl
    rw [List.getElem?_map] at hes'
    obtain ⟨e, he, hek⟩ := Option.map_eq_some_iff.1 hes'
    simp only [Prod.mk.injEq] at hek
    have hes : es[i]? = some e := by simpa using he
    have hst : (Instr.keyThatStays (((es[i]?).map (·.key)).getD (str k)) (str k)).run P w = .ok (str k) w := by
      have hsb : Instr.sameBits 10000 (str k) (str k) = true := by
        show ((ByteArray.mk k.toArray) == (ByteArray.mk k.toArray)) = true
        rw [(bytes_beq _ _).2 rfl]
      rw [hes]
      simp [Instr.keyThatStays, hek.1, hsb]
    refine eff_unit (w' := { w with heap := w.heap.setIfInBounds b (.map (es.modify i fun e => { e with key := str k, val := v }) c) }) ?_ (kk _ ⟨es.modify i fun e => { e with key := str k, val := v }, c, by simp [hb], ?_, ?_, ?_⟩ (hmod _) (by simp))
    · simp [Instr.mapUpdate, run_underlying ht, hg, run_checkKey_str hk, h2, hst, hs]
    · rw [h4, List.map_set, ← hks]
      apply List.ext_getElem?
      intro j
      simp only [List.getElem?_map, Array.getElem?_toList, Array.getElem?_modify, List.getElem?_set, List.length_map, Array.length_toList]
      by_cases hj : i = j
      · subst hj
        rw [if_pos rfl, if_pos rfl, if_pos (Array.getElem?_eq_some_iff.1 hes).1, hes]
        rfl
      · rw [if_neg hj, if_neg hj]
    · intro e he
      obtain ⟨j, hj⟩ := List.mem_iff_getElem?.1 he
      rw [Array.getElem?_toList, Array.getElem?_modify] at hj
      by_cases hij : i = j
      · subst hij
        rw [if_pos rfl, hes] at hj
        simp only [Option.map_some, Option.some.injEq] at hj
        subst hj
        exact hbn e (by rw [List.mem_iff_getElem?]; exact ⟨i, by simpa using hes⟩)
      · rw [if_neg hij] at hj
        exact hbn _ (by rw [List.mem_iff_getElem?]; exact ⟨j, by simpa using hj⟩)
    · have : (es.modify i fun e => { e with key := str k, val := v }).toList.map (·.born) = es.toList.map (·.born) := by
        apply List.ext_getElem?
        intro j
        simp only [List.getElem?_map, Array.getElem?_toList, Array.getElem?_modify]
        by_cases hij : i = j
        · subst hij
          rw [if_pos rfl]
          cases es[i]? <;> rfl
        · rw [if_neg hij]
      rw [this]; exact hnd
end
end Go.HL

/- HLP: ranging over a map keyed by strings that stands still. -/
namespace Go.HL
open Go

section
variable {P : Program} {w : World} {next : Value → World → Prop} {QP : List PanicEntry → World → Prop}
def entryK (P : Program) (x : Value) (w : World) (next : Value → World → Prop) (QP : List PanicEntry → World → Prop) : Prop := effUpon P next QP ((runV (Instr.entry x)).run P w)
theorem f_entry {ty : TypeId} {x : Operand} {ρ : Operand → Value} : heff P (.entry x) ty ρ w next QP = entryK P (ρ x) w next QP := rfl
attribute [go_sem] f_entry

def pr (e : MapEntry) : Value × Value := (e.key, e.val)
/-- r ranges over the map m, which holds ks; rem is left; cur is the entry that came out last -/
def MI (w : World) (r m : Nat) (ks rem : List (List UInt8 × Value)) (cur : Option (List UInt8 × Value)) : Prop :=
  ∃ es clock seen, w.heap[m]? = some (.map es clock) ∧ es.toList.map pr = ks.map kv ∧ (∀ e ∈ es.toList, e.born < clock) ∧ (es.toList.map (·.born)).Nodup ∧
    w.heap[r]? = some (.mapIter (some m) clock seen clock) ∧ (leftOf es seen).toList.map pr = rem.map kv ∧ r ≠ m ∧
    ∀ c, cur = some c → ∃ e ∈ es.toList, ∃ s0 : Array Nat, seen = s0.push e.born ∧ pr e = kv c
theorem MI.lt {r m : Nat} {ks rem : List (List UInt8 × Value)} {cur : Option (List UInt8 × Value)} (h : MI w r m ks rem cur) : r < w.heap.size ∧ m < w.heap.size := by
  obtain ⟨es, clock, seen, h1, h2, h3, h4, h5, -⟩ := h
  exact ⟨(Array.getElem?_eq_some_iff.1 h5).1, (Array.getElem?_eq_some_iff.1 h1).1⟩
theorem MI.mod {w' : World} {S : Nat → Prop} {r m : Nat} {ks rem : List (List UInt8 × Value)} {cur : Option (List UInt8 × Value)} (h : MI w r m ks rem cur) (M : Mod S w w') (hr : ¬ S r) (hm : ¬ S m) : MI w' r m ks rem cur := by
  have hl := h.lt
  obtain ⟨es, clock, seen, h1, h2, h3, h4, h5, h6⟩ := h
  exact ⟨es, clock, seen, by rw [M.block m hl.2 hm]; exact h1, h2, h3, h4, by rw [M.block r hl.1 hr]; exact h5, h6⟩
theorem MI.map {r m : Nat} {ks rem : List (List UInt8 × Value)} {cur : Option (List UInt8 × Value)} (h : MI w r m ks rem cur) : Mp w m ks := by
  obtain ⟨es, clock, seen, h1, h2, h3, h4, h5, -⟩ := h
  exact ⟨es, clock, h1, h2, h3, h4⟩
theorem rangem_ {t kt et : TypeId} (ht : P.underlying t = some (.map kt et)) {m : Nat} {ks : List (List UInt8 × Value)} (h : Mp w m ks)
    (k : ∀ r w', w.heap.size = r → MI w' r m ks ks none → Mod none' w w' → w'.heap.size = r + 1 → next (.pointer (some ⟨r, 0, none⟩)) w') : rangeK P t (.map (some m)) w next QP := by
  have hl := h.lt
  obtain ⟨es, c, h1, h2, h3, h4⟩ := h
  refine eff_value (v := .pointer (some ⟨w.heap.size, 0, none⟩)) (w' := w.alloc (.mapIter (some m) c #[] c)) ?_ (k _ _ rfl ⟨es, c, #[], ?_, h2, h3, h4, by unfold World.alloc; simp, ?_, by omega, by simp⟩ (alloc_mod w _) (by simp))
  · simp [Instr.range, run_underlying ht, getObj, h1, Sem.run]
  · rw [(alloc_mod w _).block m hl (fun h => h)]; exact h1
  · have : leftOf es #[] = es := by unfold leftOf; simp
    rw [this]; exact h2

theorem left_push (es : Array MapEntry) (seen : Array Nat) (x : Nat) : (leftOf es (seen.push x)).toList = (leftOf es seen).toList.filter fun e => !(e.born == x) := by
  unfold leftOf
  simp only [Array.toList_filter, List.filter_filter]
  congr 1
  funext e
  cases h1 : seen.contains e.born <;> cases h2 : (e.born == x) <;> simp_all [Array.contains_push]
theorem perm_filter {e : MapEntry} : ∀ {l : List MapEntry}, (l.map (·.born)).Nodup → e ∈ l → l.Perm (e :: l.filter fun y => !(y.born == e.born))
  | [], _, h => by cases h
  | y :: l, hn, h => by
    simp only [List.map_cons, List.nodup_cons] at hn
    by_cases hy : y.born = e.born
    · have hye : y = e := by
        rcases List.mem_cons.1 h with h | h
        · exact h.symm
        · exact absurd (List.mem_map.2 ⟨e, h, hy.symm⟩) hn.1
      subst hye
      have : (y :: l).filter (fun z => !(z.born == y.born)) = l := by
        rw [List.filter_cons, if_neg (by simp), List.filter_eq_self]
        intro z hz
        have : z.born ≠ y.born := fun e => hn.1 (List.mem_map.2 ⟨z, hz, e⟩)
        simp [this]
      rw [this]
    · have he : e ∈ l := by
        rcases List.mem_cons.1 h with h | h
        · exact absurd (by rw [h]) hy
        · exact h
      rw [List.filter_cons, if_pos (by simp [hy])]
      exact ((perm_filter hn.2 he).cons y).trans (List.Perm.swap _ _ _)
theorem kv_inj {a b : List UInt8 × Value} (h : kv a = kv b) : a = b := by
  simp only [kv, str, Prod.mk.injEq, Value.string.injEq, ByteArray.mk.injEq] at h
  obtain ⟨h1, h2⟩ := h
  exact Prod.ext (by simpa using h1) h2

theorem nextm_ {ty : TypeId} {r m : Nat} {ks rem : List (List UInt8 × Value)} {cur : Option (List UInt8 × Value)} (h : MI w r m ks rem cur)
    (k0 : rem = [] → next (.tuple #[.bool false]) w)
    (k1 : ∀ x rem' w', rem.Perm (x :: rem') → MI w' r m ks rem' (some x) → Mod (fun i => i = r) w w' → w'.heap.size = w.heap.size → next (.tuple #[.bool true, str x.1, x.2]) w') : nextK P false ty (.pointer (some ⟨r, 0, none⟩)) w next QP := by
  have hl := h.lt
  obtain ⟨es, clock, seen, h1, h2, h3, h4, h5, h6, h7, h8⟩ := h
  rcases run_next_at (P := P) w ty r m clock clock seen es clock h5 h1 h3 (Nat.le_refl _) with ⟨hz, hr⟩ | ⟨e, he, w1, hw1, hr⟩
  · refine eff_value hr (k0 ?_)
    have := congrArg List.length h6
    simp only [List.length_map, Array.length_toList, hz] at this
    exact List.eq_nil_of_length_eq_zero this.symm
  · have hmem : pr e ∈ rem.map kv := by rw [← h6]; exact List.mem_map.2 ⟨e, he, rfl⟩
    obtain ⟨x, hx, hxe⟩ := List.mem_map.1 hmem
    have hes : e ∈ es.toList := by
      unfold leftOf at he
      simp at he ⊢
      exact he.1
    have hL : ((leftOf es seen).toList.map (·.born)).Nodup := by
      unfold leftOf
      rw [Array.toList_filter]
      exact (h4.sublist ((List.filter_sublist).map _))
    have hp := perm_filter hL he
    rw [← left_push] at hp
    have hpp := hp.map pr
    rw [h6, List.map_cons, ← hxe] at hpp
    -- what is left, as pairs
    have hex : ∃ rem' : List (List UInt8 × Value), (leftOf es (seen.push e.born)).toList.map pr = rem'.map kv := by
      have hsub : ∀ y ∈ (leftOf es (seen.push e.born)).toList, ∃ z, pr y = kv z := by
        intro y hy
        rw [left_push] at hy
        have : pr y ∈ rem.map kv := by rw [← h6]; exact List.mem_map.2 ⟨y, (List.mem_filter.1 hy).1, rfl⟩
        obtain ⟨z, -, hz⟩ := List.mem_map.1 this
        exact ⟨z, hz.symm⟩
      generalize (leftOf es (seen.push e.born)).toList = L at hsub
      induction L with
      | nil => exact ⟨[], rfl⟩
      | cons y L ih =>
        obtain ⟨z, hz⟩ := hsub y (by simp)
        obtain ⟨r2, hr2⟩ := ih fun y hy => hsub y (by simp [hy])
        exact ⟨z :: r2, by simp [hz, hr2]⟩
    obtain ⟨rem', hrem'⟩ := hex
    rw [hrem', ← List.map_cons] at hpp
    have hperm : rem.Perm (x :: rem') := by
      have hinj : ∀ (l l' : List (List UInt8 × Value)), (l.map kv).Perm (l'.map kv) → l.Perm l' := by
        intro l
        induction l with
        | nil => intro l' h; have := h.length_eq; simp at this; rw [List.eq_nil_of_length_eq_zero this.symm]
        | cons a l ih =>
          intro l' h
          have ha : kv a ∈ l'.map kv := h.mem_iff.1 (by simp)
          obtain ⟨b, hb, hab⟩ := List.mem_map.1 ha
          obtain rfl := kv_inj hab
          obtain ⟨s, t, rfl⟩ := List.append_of_mem hb
          have h' : (l.map kv).Perm ((s ++ t).map kv) := by
            have h2 : ((b :: l).map kv).Perm (kv b :: (s ++ t).map kv) := h.trans (by
              rw [List.map_append, List.map_cons, List.map_append]
              exact List.perm_middle)
            exact List.Perm.cons_inv h2
          exact ((ih _ h').cons b).trans List.perm_middle.symm
      exact hinj _ _ hpp
    have hw1h : w1.heap = w.heap := by rcases hw1 with rfl | rfl <;> rfl
    have hmod : Mod (fun i => i = r) w (ChangeMaps.setBlock w1 r (.mapIter (some m) clock (seen.push e.born) clock)) := by
      refine ⟨?_, ?_, ?_, ?_, fun i hi hne => ?_⟩
      · rcases hw1 with rfl | rfl <;> rfl
      · rcases hw1 with rfl | rfl <;> rfl
      · rcases hw1 with rfl | rfl <;> rfl
      · simp [ChangeMaps.setBlock, hw1h]
      · have hne : ¬ i = r := hne
        simp [ChangeMaps.setBlock, hw1h, Array.getElem?_setIfInBounds, Ne.symm hne]
    have e1 : e.key = str x.1 := by have := congrArg Prod.fst hxe; exact this.symm
    have e2 : e.val = x.2 := by have := congrArg Prod.snd hxe; exact this.symm
    rw [e1, e2] at hr
    refine eff_value hr (k1 x rem' _ hperm ⟨es, clock, seen.push e.born, ?_, h2, h3, h4, ?_, hrem', h7, ?_⟩ hmod (by simp [ChangeMaps.setBlock, hw1h]))
    · rw [hmod.block m hl.2 (fun e => h7 e.symm)]; exact h1
    · simp [ChangeMaps.setBlock, hw1h, hl.1]
    · intro c hc
      obtain rfl : x = c := Option.some.inj hc
      exact ⟨e, hes, seen, rfl, hxe.symm⟩
theorem entry_ {r m : Nat} {ks rem : List (List UInt8 × Value)} {x : List UInt8 × Value} (h : MI w r m ks rem (some x)) (k : next (.tuple #[str x.1, x.2]) w) : entryK P (.pointer (some ⟨r, 0, none⟩)) w next QP := by
  obtain ⟨es, clock, seen, h1, h2, h3, h4, h5, h6, h7, h8⟩ := h
  obtain ⟨e, he, s0, rfl, hx⟩ := h8 x rfl
  have hr := run_entry_at (P := P) w r m clock s0 es clock e h5 h1 he h4
  have e1 : e.key = str x.1 := congrArg Prod.fst hx
  have e2 : e.val = x.2 := congrArg Prod.snd hx
  rw [e1, e2] at hr
  exact eff_value hr k
end
end Go.HL
