/- the functions of the program as code over named slots, printed by hl.py -/
import Derived.Test.YtbohloaggnkepaaHLJ
import Derived.Test.YtbohloaggnkepaaProg
import Derived.KernelRfl
set_option linter.unusedSimpArgs false
set_option linter.unusedVariables false
set_option maxRecDepth 100000
namespace Go.Proofs.Y
open Go Go.HL Go.Proofs
theorem mixed : Try.prog.follows .mixedOrders = true := by kernel_rfl
/- missive/missivelaw05.DiskTurns -/
def h3_7 : HC :=
  (.seq
  (.reg [.need (.gif (.slot 9) true (.n2 (.bin .eql) (.slot 13) (.lit (.int .i64 0)))),
    .need (.n3 .pick (.slot 9) (.n2 (.bin .eql) (.slot 13) (.lit (.int .i64 0))) (.lit (.bool false))),
    .need (.gif (.n3 .pick (.slot 9) (.n2 (.bin .eql) (.slot 13) (.lit (.int .i64 0))) (.lit (.bool false))) true (.n2 (.sbin .eql) (.slot 12) (.slot 0))),
    .need (.n3 .pick (.n3 .pick (.slot 9) (.n2 (.bin .eql) (.slot 13) (.lit (.int .i64 0))) (.lit (.bool false))) (.n2 (.sbin .eql) (.slot 12) (.slot 0)) (.lit (.bool false))),
    .eff (some 133) (.call { callee := .value (.func 18), args := #[.tmp 132, .const (.int .i64 4)], argTypes := #[24, 3] }) 3 [(132, .slot 10)] (some (.n3 .pick (.n3 .pick (.slot 9) (.n2 (.bin .eql) (.slot 13) (.lit (.int .i64 0))) (.lit (.bool false))) (.n2 (.sbin .eql) (.slot 12) (.slot 0)) (.lit (.bool false)), true)) [],
    .need (.gif (.n3 .pick (.n3 .pick (.slot 9) (.n2 (.bin .eql) (.slot 13) (.lit (.int .i64 0))) (.lit (.bool false))) (.n2 (.sbin .eql) (.slot 12) (.slot 0)) (.lit (.bool false))) true (.n1 .lens (.slot 1))),
    .need (.gif (.n3 .pick (.n3 .pick (.slot 9) (.n2 (.bin .eql) (.slot 13) (.lit (.int .i64 0))) (.lit (.bool false))) (.n2 (.sbin .eql) (.slot 12) (.slot 0)) (.lit (.bool false))) true (.n2 (.bin .leq) (.slot 133) (.n1 .lens (.slot 1)))),
    .need (.n3 .pick (.n3 .pick (.n3 .pick (.slot 9) (.n2 (.bin .eql) (.slot 13) (.lit (.int .i64 0))) (.lit (.bool false))) (.n2 (.sbin .eql) (.slot 12) (.slot 0)) (.lit (.bool false))) (.n2 (.bin .leq) (.slot 133) (.n1 .lens (.slot 1))) (.lit (.bool false))),
    .asg 8 (.n3 .pick (.n3 .pick (.n3 .pick (.slot 9) (.n2 (.bin .eql) (.slot 13) (.lit (.int .i64 0))) (.lit (.bool false))) (.n2 (.sbin .eql) (.slot 12) (.slot 0)) (.lit (.bool false))) (.n2 (.bin .leq) (.slot 133) (.n1 .lens (.slot 1))) (.lit (.bool false)))])
  .ret)
def h3_6 : HC :=
  (.seq
  (.seq
  (.reg [.need (.n2 (.bin .eql) (.slot 11) (.lit (.int .i64 0))),
    .asg 105 (.n2 (.bin .eql) (.slot 11) (.lit (.int .i64 0)))])
  (.cond (.slot 105)
    (.seq
    (.reg [.need (.gif (.slot 9) true (.n2 (.bin .eql) (.slot 13) (.lit (.int .i64 0)))),
      .need (.n3 .pick (.slot 9) (.n2 (.bin .eql) (.slot 13) (.lit (.int .i64 0))) (.lit (.bool false))),
      .need (.gif (.n3 .pick (.slot 9) (.n2 (.bin .eql) (.slot 13) (.lit (.int .i64 0))) (.lit (.bool false))) true (.n2 (.sbin .eql) (.slot 12) (.slot 1))),
      .need (.n3 .pick (.n3 .pick (.slot 9) (.n2 (.bin .eql) (.slot 13) (.lit (.int .i64 0))) (.lit (.bool false))) (.n2 (.sbin .eql) (.slot 12) (.slot 1)) (.lit (.bool false))),
      .eff (some 118) (.call { callee := .value (.func 18), args := #[.tmp 117, .const (.int .i64 4)], argTypes := #[24, 3] }) 3 [(117, .slot 10)] (some (.n3 .pick (.n3 .pick (.slot 9) (.n2 (.bin .eql) (.slot 13) (.lit (.int .i64 0))) (.lit (.bool false))) (.n2 (.sbin .eql) (.slot 12) (.slot 1)) (.lit (.bool false)), true)) [],
      .need (.gif (.n3 .pick (.n3 .pick (.slot 9) (.n2 (.bin .eql) (.slot 13) (.lit (.int .i64 0))) (.lit (.bool false))) (.n2 (.sbin .eql) (.slot 12) (.slot 1)) (.lit (.bool false))) true (.n2 (.bin .eql) (.slot 118) (.lit (.int .i64 0)))),
      .need (.n3 .pick (.n3 .pick (.n3 .pick (.slot 9) (.n2 (.bin .eql) (.slot 13) (.lit (.int .i64 0))) (.lit (.bool false))) (.n2 (.sbin .eql) (.slot 12) (.slot 1)) (.lit (.bool false))) (.n2 (.bin .eql) (.slot 118) (.lit (.int .i64 0))) (.lit (.bool false))),
      .asg 8 (.n3 .pick (.n3 .pick (.n3 .pick (.slot 9) (.n2 (.bin .eql) (.slot 13) (.lit (.int .i64 0))) (.lit (.bool false))) (.n2 (.sbin .eql) (.slot 12) (.slot 1)) (.lit (.bool false))) (.n2 (.bin .eql) (.slot 118) (.lit (.int .i64 0))) (.lit (.bool false)))])
    .ret)
    .skip))
  h3_7)
def h3_5 : HC :=
  (.seq
  (.reg [.eff (some 81) (.call { callee := .value (.func 15), args := #[.tmp 79, .tmp 80], argTypes := #[24, 22] }) 0 [(79, .slot 10), (80, .slot 3)] none []])
  (.seq
  (.reg [.eff (some 83) (.call { callee := .value (.func 16), args := #[.tmp 82], argTypes := #[24] }) 0 [(82, .slot 10)] none []])
  (.seq
  (.reg [.eff (some 86) (.call { callee := .value (.func 17), args := #[.tmp 85, .const (.int .i64 3)], argTypes := #[24, 3] }) 31 [(85, .slot 10)] none [],
    .need (.n1 (.ext 0) (.slot 86)),
    .need (.n1 (.ext 1) (.slot 86)),
    .asg 12 (.n1 (.ext 0) (.slot 86)),
    .asg 13 (.n1 (.ext 1) (.slot 86))])
  (.seq
  (.seq
  (.reg [.need (.n2 (.bin .eql) (.slot 2) (.lit (.int .i64 0))),
    .asg 90 (.n2 (.bin .eql) (.slot 2) (.lit (.int .i64 0)))])
  (.cond (.slot 90)
    (.seq
    (.reg [.need (.gif (.slot 9) true (.n2 (.bin .eql) (.slot 13) (.lit (.int .i64 0)))),
      .need (.n3 .pick (.slot 9) (.n2 (.bin .eql) (.slot 13) (.lit (.int .i64 0))) (.lit (.bool false))),
      .need (.gif (.n3 .pick (.slot 9) (.n2 (.bin .eql) (.slot 13) (.lit (.int .i64 0))) (.lit (.bool false))) true (.n2 (.bin .eql) (.slot 11) (.lit (.int .i64 0)))),
      .need (.n3 .pick (.n3 .pick (.slot 9) (.n2 (.bin .eql) (.slot 13) (.lit (.int .i64 0))) (.lit (.bool false))) (.n2 (.bin .eql) (.slot 11) (.lit (.int .i64 0))) (.lit (.bool false))),
      .need (.gif (.n3 .pick (.n3 .pick (.slot 9) (.n2 (.bin .eql) (.slot 13) (.lit (.int .i64 0))) (.lit (.bool false))) (.n2 (.bin .eql) (.slot 11) (.lit (.int .i64 0))) (.lit (.bool false))) true (.n2 (.sbin .eql) (.slot 12) (.lit (str [])))),
      .need (.n3 .pick (.n3 .pick (.n3 .pick (.slot 9) (.n2 (.bin .eql) (.slot 13) (.lit (.int .i64 0))) (.lit (.bool false))) (.n2 (.bin .eql) (.slot 11) (.lit (.int .i64 0))) (.lit (.bool false))) (.n2 (.sbin .eql) (.slot 12) (.lit (str []))) (.lit (.bool false))),
      .asg 8 (.n3 .pick (.n3 .pick (.n3 .pick (.slot 9) (.n2 (.bin .eql) (.slot 13) (.lit (.int .i64 0))) (.lit (.bool false))) (.n2 (.bin .eql) (.slot 11) (.lit (.int .i64 0))) (.lit (.bool false))) (.n2 (.sbin .eql) (.slot 12) (.lit (str []))) (.lit (.bool false)))])
    .ret)
    .skip))
  h3_6))))
def h3_4 : HC :=
  (.seq
  (.reg [.eff (some 56) (.call { callee := .value (.func 14), args := #[.tmp 55, .const (.int .i64 3), .const (.int .i64 4)], argTypes := #[24, 3, 3] }) 26 [(55, .slot 10)] none [],
    .asg 11 (.slot 56)])
  (.seq
  (.seq
  (.reg [.need (.n2 (.bin .eql) (.slot 2) (.lit (.int .i64 1))),
    .need (.gif (.n2 (.bin .eql) (.slot 2) (.lit (.int .i64 1))) true (.n2 (.sbin .neq) (.slot 1) (.lit (str [])))),
    .need (.n3 .pick (.n2 (.bin .eql) (.slot 2) (.lit (.int .i64 1))) (.n2 (.sbin .neq) (.slot 1) (.lit (str []))) (.lit (.bool false))),
    .need (.gif (.n3 .pick (.n2 (.bin .eql) (.slot 2) (.lit (.int .i64 1))) (.n2 (.sbin .neq) (.slot 1) (.lit (str []))) (.lit (.bool false))) true (.n2 (.bin .neq) (.slot 11) (.lit (.int .i64 7)))),
    .need (.n3 .pick (.n3 .pick (.n2 (.bin .eql) (.slot 2) (.lit (.int .i64 1))) (.n2 (.sbin .neq) (.slot 1) (.lit (str []))) (.lit (.bool false))) (.n2 (.bin .neq) (.slot 11) (.lit (.int .i64 7))) (.lit (.bool false))),
    .need (.gif (.n3 .pick (.n3 .pick (.n2 (.bin .eql) (.slot 2) (.lit (.int .i64 1))) (.n2 (.sbin .neq) (.slot 1) (.lit (str []))) (.lit (.bool false))) (.n2 (.bin .neq) (.slot 11) (.lit (.int .i64 7))) (.lit (.bool false))) false (.n2 (.bin .neq) (.slot 2) (.lit (.int .i64 0)))),
    .need (.gif (.gif (.n3 .pick (.n3 .pick (.n2 (.bin .eql) (.slot 2) (.lit (.int .i64 1))) (.n2 (.sbin .neq) (.slot 1) (.lit (str []))) (.lit (.bool false))) (.n2 (.bin .neq) (.slot 11) (.lit (.int .i64 7))) (.lit (.bool false))) false (.n2 (.bin .neq) (.slot 2) (.lit (.int .i64 0)))) true (.n2 (.bin .neq) (.slot 2) (.lit (.int .i64 1)))),
    .need (.gif (.n3 .pick (.n3 .pick (.n2 (.bin .eql) (.slot 2) (.lit (.int .i64 1))) (.n2 (.sbin .neq) (.slot 1) (.lit (str []))) (.lit (.bool false))) (.n2 (.bin .neq) (.slot 11) (.lit (.int .i64 7))) (.lit (.bool false))) false (.n3 .pick (.n2 (.bin .neq) (.slot 2) (.lit (.int .i64 0))) (.n2 (.bin .neq) (.slot 2) (.lit (.int .i64 1))) (.lit (.bool false)))),
    .need (.gif (.gif (.n3 .pick (.n3 .pick (.n2 (.bin .eql) (.slot 2) (.lit (.int .i64 1))) (.n2 (.sbin .neq) (.slot 1) (.lit (str []))) (.lit (.bool false))) (.n2 (.bin .neq) (.slot 11) (.lit (.int .i64 7))) (.lit (.bool false))) false (.n3 .pick (.n2 (.bin .neq) (.slot 2) (.lit (.int .i64 0))) (.n2 (.bin .neq) (.slot 2) (.lit (.int .i64 1))) (.lit (.bool false)))) true (.n2 (.bin .neq) (.slot 11) (.lit (.int .i64 0)))),
    .need (.gif (.n3 .pick (.n3 .pick (.n2 (.bin .eql) (.slot 2) (.lit (.int .i64 1))) (.n2 (.sbin .neq) (.slot 1) (.lit (str []))) (.lit (.bool false))) (.n2 (.bin .neq) (.slot 11) (.lit (.int .i64 7))) (.lit (.bool false))) false (.n3 .pick (.n3 .pick (.n2 (.bin .neq) (.slot 2) (.lit (.int .i64 0))) (.n2 (.bin .neq) (.slot 2) (.lit (.int .i64 1))) (.lit (.bool false))) (.n2 (.bin .neq) (.slot 11) (.lit (.int .i64 0))) (.lit (.bool false)))),
    .need (.n3 .pick (.n3 .pick (.n3 .pick (.n2 (.bin .eql) (.slot 2) (.lit (.int .i64 1))) (.n2 (.sbin .neq) (.slot 1) (.lit (str []))) (.lit (.bool false))) (.n2 (.bin .neq) (.slot 11) (.lit (.int .i64 7))) (.lit (.bool false))) (.lit (.bool true)) (.n3 .pick (.n3 .pick (.n2 (.bin .neq) (.slot 2) (.lit (.int .i64 0))) (.n2 (.bin .neq) (.slot 2) (.lit (.int .i64 1))) (.lit (.bool false))) (.n2 (.bin .neq) (.slot 11) (.lit (.int .i64 0))) (.lit (.bool false)))),
    .asg 78 (.n3 .pick (.n3 .pick (.n3 .pick (.n2 (.bin .eql) (.slot 2) (.lit (.int .i64 1))) (.n2 (.sbin .neq) (.slot 1) (.lit (str []))) (.lit (.bool false))) (.n2 (.bin .neq) (.slot 11) (.lit (.int .i64 7))) (.lit (.bool false))) (.lit (.bool true)) (.n3 .pick (.n3 .pick (.n2 (.bin .neq) (.slot 2) (.lit (.int .i64 0))) (.n2 (.bin .neq) (.slot 2) (.lit (.int .i64 1))) (.lit (.bool false))) (.n2 (.bin .neq) (.slot 11) (.lit (.int .i64 0))) (.lit (.bool false))))])
  (.cond (.slot 78)
    (.seq
    (.reg [.asg 8 (.lit (.bool false))])
    .ret)
    .skip))
  h3_5))
def h3_3 : HC :=
  (.seq
  (.seq
  (.reg [.need (.n2 (.bin .neq) (.slot 2) (.lit (.int .i64 0))),
    .need (.gif (.n2 (.bin .neq) (.slot 2) (.lit (.int .i64 0))) true (.n2 (.bin .neq) (.slot 2) (.lit (.int .i64 1)))),
    .need (.n3 .pick (.n2 (.bin .neq) (.slot 2) (.lit (.int .i64 0))) (.n2 (.bin .neq) (.slot 2) (.lit (.int .i64 1))) (.lit (.bool false))),
    .asg 52 (.n3 .pick (.n2 (.bin .neq) (.slot 2) (.lit (.int .i64 0))) (.n2 (.bin .neq) (.slot 2) (.lit (.int .i64 1))) (.lit (.bool false)))])
  (.cond (.slot 52)
    (.reg [.eff (some 54) (.call { callee := .value (.func 13), args := #[.tmp 53, .const (.int .i64 4)], argTypes := #[24, 3] }) 26 [(53, .slot 10)] none []])
    .skip))
  h3_4)
def h3_2 : HC :=
  (.seq
  (.seq
  (.reg [.need (.n2 (.bin .neq) (.slot 2) (.lit (.int .i64 0))),
    .asg 43 (.n2 (.bin .neq) (.slot 2) (.lit (.int .i64 0)))])
  (.cond (.slot 43)
    (.reg [.eff (some 46) (.call { callee := .value (.func 12), args := #[.tmp 44, .const (.int .i64 4), .const (.int .i64 0), .tmp 45], argTypes := #[24, 3, 3, 9] }) 26 [(44, .slot 10), (45, .slot 1)] none []])
    .skip))
  h3_3)
def h3_1 : HC :=
  (.seq
  (.seq
  (.reg [.eff (some 35) (.call { callee := .value (.func 12), args := #[.tmp 33, .const (.int .i64 3), .const (.int .i64 0), .tmp 34], argTypes := #[24, 3, 3, 9] }) 26 [(33, .slot 10), (34, .slot 0)] none [],
    .need (.n2 (.bin .neq) (.slot 35) (.lit (.int .i64 0))),
    .eff (some 39) (.call { callee := .value (.func 13), args := #[.tmp 38, .const (.int .i64 3)], argTypes := #[24, 3] }) 26 [(38, .slot 10)] (some (.n2 (.bin .neq) (.slot 35) (.lit (.int .i64 0)), false)) [],
    .need (.gif (.n2 (.bin .neq) (.slot 35) (.lit (.int .i64 0))) false (.n2 (.bin .neq) (.slot 39) (.lit (.int .i64 0)))),
    .need (.n3 .pick (.n2 (.bin .neq) (.slot 35) (.lit (.int .i64 0))) (.lit (.bool true)) (.n2 (.bin .neq) (.slot 39) (.lit (.int .i64 0)))),
    .asg 41 (.n3 .pick (.n2 (.bin .neq) (.slot 35) (.lit (.int .i64 0))) (.lit (.bool true)) (.n2 (.bin .neq) (.slot 39) (.lit (.int .i64 0))))])
  (.cond (.slot 41)
    (.seq
    (.reg [.asg 8 (.lit (.bool false))])
    .ret)
    .skip))
  h3_2)
def h3 : HC :=
  (.seq
  (.reg [.asg 8 (.lit (.bool false))])
  (.seq
  (.reg [.eff (some 14) (.call { callee := .value (.func 10), args := #[], argTypes := #[] }) 4 [] none [],
    .asg 9 (.slot 14)])
  (.seq
  (.reg [.eff (some 15) (.call { callee := .value (.func 11), args := #[], argTypes := #[] }) 24 [] none [],
    .asg 10 (.slot 15)])
  (.seq
  (.seq
  (.reg [.need (.n2 (.pnil false) (.slot 10) (.lit (.pointer none))),
    .need (.gif (.n2 (.pnil false) (.slot 10) (.lit (.pointer none))) false (.n1 .lens (.slot 0))),
    .need (.gif (.n2 (.pnil false) (.slot 10) (.lit (.pointer none))) false (.n2 (.bin .gtr) (.n1 .lens (.slot 0)) (.lit (.int .i64 50000)))),
    .need (.n3 .pick (.n2 (.pnil false) (.slot 10) (.lit (.pointer none))) (.lit (.bool true)) (.n2 (.bin .gtr) (.n1 .lens (.slot 0)) (.lit (.int .i64 50000)))),
    .need (.gif (.n3 .pick (.n2 (.pnil false) (.slot 10) (.lit (.pointer none))) (.lit (.bool true)) (.n2 (.bin .gtr) (.n1 .lens (.slot 0)) (.lit (.int .i64 50000)))) false (.n1 .lens (.slot 1))),
    .need (.gif (.n3 .pick (.n2 (.pnil false) (.slot 10) (.lit (.pointer none))) (.lit (.bool true)) (.n2 (.bin .gtr) (.n1 .lens (.slot 0)) (.lit (.int .i64 50000)))) false (.n2 (.bin .gtr) (.n1 .lens (.slot 1)) (.lit (.int .i64 50000)))),
    .need (.n3 .pick (.n3 .pick (.n2 (.pnil false) (.slot 10) (.lit (.pointer none))) (.lit (.bool true)) (.n2 (.bin .gtr) (.n1 .lens (.slot 0)) (.lit (.int .i64 50000)))) (.lit (.bool true)) (.n2 (.bin .gtr) (.n1 .lens (.slot 1)) (.lit (.int .i64 50000)))),
    .asg 27 (.n3 .pick (.n3 .pick (.n2 (.pnil false) (.slot 10) (.lit (.pointer none))) (.lit (.bool true)) (.n2 (.bin .gtr) (.n1 .lens (.slot 0)) (.lit (.int .i64 50000)))) (.lit (.bool true)) (.n2 (.bin .gtr) (.n1 .lens (.slot 1)) (.lit (.int .i64 50000))))])
  (.cond (.slot 27)
    (.seq
    (.reg [.need (.gif (.slot 9) true (.n2 (.pnil true) (.slot 10) (.lit (.pointer none)))),
      .need (.n3 .pick (.slot 9) (.n2 (.pnil true) (.slot 10) (.lit (.pointer none))) (.lit (.bool false))),
      .asg 8 (.n3 .pick (.slot 9) (.n2 (.pnil true) (.slot 10) (.lit (.pointer none))) (.lit (.bool false)))])
    .ret)
    .skip))
  h3_1))))
theorem k3 : fnOK Try.prog 10889368089035123969881040661507561553679 [] [.tmp 8] 4 Try.f3 = some h3 := by kernel_rfl
theorem c3 : callable Try.prog 3 = true := by kernel_rfl
theorem q3 {args : List Value} (ha : args.length = 4) {w : World} {next : Value → World → Prop} {QP : List PanicEntry → World → Prop} (H : hw Try.prog noPanic h3 (endV [.tmp 8] next) (σ0 args) w) : callK Try.prog 3 args w next QP := fn_rule Try.func3 mixed k3 ha H
theorem r3 {args : List Value} (ha : args.length = 4) {w : World} {next : Value → World → Prop} {QP : List PanicEntry → World → Prop} (H : hw Try.prog noPanic h3 (endV [.tmp 8] next) (σ0 args) w) : callvK Try.prog (.func (.func 3) #[] #[]) args w next QP := callf c3 (q3 ha H)

/- missive/missivelaw05.DiskReorders -/
def l4_5 : List HS :=
  .need (.gif (.gif (.n3 .pick (.n2 (.sbin .eql) (.slot 16) (.lit (str []))) (.n2 (.sbin .neq) (.slot 13) (.lit (str []))) (.lit (.bool false))) false (.n2 (.sbin .neq) (.slot 16) (.lit (str [])))) true (.n2 (.sbin .add) (.slot 118) (.slot 16))) ::
  .need (.gif (.gif (.n3 .pick (.n2 (.sbin .eql) (.slot 16) (.lit (str []))) (.n2 (.sbin .neq) (.slot 13) (.lit (str []))) (.lit (.bool false))) false (.n2 (.sbin .neq) (.slot 16) (.lit (str [])))) true (.n2 (.sbin .neq) (.slot 13) (.n2 (.sbin .add) (.slot 118) (.slot 16)))) ::
  .need (.gif (.n3 .pick (.n2 (.sbin .eql) (.slot 16) (.lit (str []))) (.n2 (.sbin .neq) (.slot 13) (.lit (str []))) (.lit (.bool false))) false (.n3 .pick (.n2 (.sbin .neq) (.slot 16) (.lit (str []))) (.n2 (.sbin .neq) (.slot 13) (.n2 (.sbin .add) (.slot 118) (.slot 16))) (.lit (.bool false)))) ::
  .need (.n3 .pick (.n3 .pick (.n2 (.sbin .eql) (.slot 16) (.lit (str []))) (.n2 (.sbin .neq) (.slot 13) (.lit (str []))) (.lit (.bool false))) (.lit (.bool true)) (.n3 .pick (.n2 (.sbin .neq) (.slot 16) (.lit (str []))) (.n2 (.sbin .neq) (.slot 13) (.n2 (.sbin .add) (.slot 118) (.slot 16))) (.lit (.bool false)))) ::
  .asg 123 (.n3 .pick (.n3 .pick (.n2 (.sbin .eql) (.slot 16) (.lit (str []))) (.n2 (.sbin .neq) (.slot 13) (.lit (str []))) (.lit (.bool false))) (.lit (.bool true)) (.n3 .pick (.n2 (.sbin .neq) (.slot 16) (.lit (str []))) (.n2 (.sbin .neq) (.slot 13) (.n2 (.sbin .add) (.slot 118) (.slot 16))) (.lit (.bool false)))) ::
  []
def l4_6 : List HS :=
  .eff (some 118) (.convert 36 9 (.tmp 117)) 9 [(117, .slot 117)] (some (.gif (.n3 .pick (.n2 (.sbin .eql) (.slot 16) (.lit (str []))) (.n2 (.sbin .neq) (.slot 13) (.lit (str []))) (.lit (.bool false))) false (.n2 (.sbin .neq) (.slot 16) (.lit (str []))), true)) [] ::
  l4_5
def l4_9 : List HS :=
  .need (.gif (.slot 9) true (.n2 (.sbin .add) (.slot 15) (.slot 140))) ::
  .need (.gif (.slot 9) true (.n2 (.sbin .add) (.n2 (.sbin .add) (.slot 15) (.slot 140)) (.slot 17))) ::
  .need (.gif (.slot 9) true (.n2 (.sbin .eql) (.slot 11) (.n2 (.sbin .add) (.n2 (.sbin .add) (.slot 15) (.slot 140)) (.slot 17)))) ::
  .need (.n3 .pick (.slot 9) (.n2 (.sbin .eql) (.slot 11) (.n2 (.sbin .add) (.n2 (.sbin .add) (.slot 15) (.slot 140)) (.slot 17))) (.lit (.bool false))) ::
  .asg 8 (.n3 .pick (.slot 9) (.n2 (.sbin .eql) (.slot 11) (.n2 (.sbin .add) (.n2 (.sbin .add) (.slot 15) (.slot 140)) (.slot 17))) (.lit (.bool false))) ::
  []
def l4_10 : List HS :=
  .eff (some 140) (.convert 36 9 (.tmp 139)) 9 [(139, .slot 139)] (some (.slot 9, true)) [] ::
  l4_9
def h4_8 : HC :=
  (.seq
  (.reg (.need (.gif (.slot 9) true (.n1 .lens (.slot 15))) ::
    .need (.gif (.slot 9) true (.n2 (.bin .sub) (.lit (.int .i64 64)) (.n1 .lens (.slot 15)))) ::
    .eff (some 139) (.makeSlice 36 (.tmp 138) (.tmp 138)) 36 [(138, .n2 (.bin .sub) (.lit (.int .i64 64)) (.n1 .lens (.slot 15))), (138, .n2 (.bin .sub) (.lit (.int .i64 64)) (.n1 .lens (.slot 15)))] (some (.slot 9, true)) [] ::
    l4_10))
  .ret)
def h4_7 : HC :=
  (.seq
  (.seq
  (.reg [.need (.n2 (.sbin .eql) (.slot 17) (.lit (str []))),
    .asg 125 (.n2 (.sbin .eql) (.slot 17) (.lit (str [])))])
  (.cond (.slot 125)
    (.seq
    (.reg [.need (.gif (.slot 9) true (.n2 (.sbin .eql) (.slot 11) (.slot 15))),
      .need (.n3 .pick (.slot 9) (.n2 (.sbin .eql) (.slot 11) (.slot 15)) (.lit (.bool false))),
      .asg 8 (.n3 .pick (.slot 9) (.n2 (.sbin .eql) (.slot 11) (.slot 15)) (.lit (.bool false)))])
    .ret)
    .skip))
  h4_8)
def h4_4 : HC :=
  (.seq
  (.reg [.need (.n2 (.iaddr 1) (.slot 3) (.lit (.int .i64 1))),
    .need (.n1 .ld (.n2 (.iaddr 1) (.slot 3) (.lit (.int .i64 1)))),
    .eff (some 100) (.call { callee := .value (.func 19), args := #[.tmp 96, .tmp 99], argTypes := #[9, 3] }) 9 [(96, .slot 2), (99, .n1 .ld (.n2 (.iaddr 1) (.slot 3) (.lit (.int .i64 1))))] none [],
    .asg 16 (.slot 100)])
  (.seq
  (.reg [.need (.n2 (.iaddr 1) (.slot 3) (.lit (.int .i64 2))),
    .need (.n1 .ld (.n2 (.iaddr 1) (.slot 3) (.lit (.int .i64 2)))),
    .eff (some 105) (.call { callee := .value (.func 19), args := #[.tmp 101, .tmp 104], argTypes := #[9, 3] }) 9 [(101, .slot 1), (104, .n1 .ld (.n2 (.iaddr 1) (.slot 3) (.lit (.int .i64 2))))] none [],
    .asg 17 (.slot 105)])
  (.seq
  (.seq
  (.reg (.need (.n2 (.sbin .eql) (.slot 16) (.lit (str []))) ::
    .need (.gif (.n2 (.sbin .eql) (.slot 16) (.lit (str []))) true (.n2 (.sbin .neq) (.slot 13) (.lit (str [])))) ::
    .need (.n3 .pick (.n2 (.sbin .eql) (.slot 16) (.lit (str []))) (.n2 (.sbin .neq) (.slot 13) (.lit (str []))) (.lit (.bool false))) ::
    .need (.gif (.n3 .pick (.n2 (.sbin .eql) (.slot 16) (.lit (str []))) (.n2 (.sbin .neq) (.slot 13) (.lit (str []))) (.lit (.bool false))) false (.n2 (.sbin .neq) (.slot 16) (.lit (str [])))) ::
    .eff (some 117) (.makeSlice 36 (.const (.int .i64 128)) (.const (.int .i64 128))) 36 [] (some (.gif (.n3 .pick (.n2 (.sbin .eql) (.slot 16) (.lit (str []))) (.n2 (.sbin .neq) (.slot 13) (.lit (str []))) (.lit (.bool false))) false (.n2 (.sbin .neq) (.slot 16) (.lit (str []))), true)) [] ::
    l4_6))
  (.cond (.slot 123)
    (.seq
    (.reg [.asg 8 (.lit (.bool false))])
    .ret)
    .skip))
  h4_7)))
def h4_3 : HC :=
  (.seq
  (.reg [.eff (some 80) (.call { callee := .value (.func 16), args := #[.tmp 79], argTypes := #[24] }) 0 [(79, .slot 10)] none []])
  (.seq
  (.reg [.eff (some 83) (.call { callee := .value (.func 17), args := #[.tmp 82, .const (.int .i64 5)], argTypes := #[24, 3] }) 31 [(82, .slot 10)] none [],
    .need (.n1 (.ext 0) (.slot 83)),
    .need (.n1 (.ext 1) (.slot 83)),
    .asg 11 (.n1 (.ext 0) (.slot 83))])
  (.seq
  (.reg [.eff (some 88) (.call { callee := .value (.func 17), args := #[.tmp 87, .const (.int .i64 6)], argTypes := #[24, 3] }) 31 [(87, .slot 10)] none [],
    .need (.n1 (.ext 0) (.slot 88)),
    .need (.n1 (.ext 1) (.slot 88)),
    .asg 13 (.n1 (.ext 0) (.slot 88))])
  (.seq
  (.reg [.need (.n2 (.iaddr 1) (.slot 3) (.lit (.int .i64 0))),
    .need (.n1 .ld (.n2 (.iaddr 1) (.slot 3) (.lit (.int .i64 0)))),
    .eff (some 95) (.call { callee := .value (.func 19), args := #[.tmp 91, .tmp 94], argTypes := #[9, 3] }) 9 [(91, .slot 0), (94, .n1 .ld (.n2 (.iaddr 1) (.slot 3) (.lit (.int .i64 0))))] none [],
    .asg 15 (.slot 95)])
  h4_4))))
def h4_2 : HC :=
  (.seq
  (.reg [.eff (some 72) (.buildSlice 22 3 #[(0, .const (.int .i64 1)), (1, .const (.int .i64 1)), (2, .const (.int .i64 1))]) 22 [] none [],
    .eff (some 73) (.call { callee := .value (.func 15), args := #[.tmp 71, .tmp 72], argTypes := #[24, 22] }) 0 [(71, .slot 10), (72, .slot 72)] none []])
  (.seq
  (.reg [.eff (some 75) (.call { callee := .value (.func 16), args := #[.tmp 74], argTypes := #[24] }) 0 [(74, .slot 10)] none []])
  (.seq
  (.reg [.eff (some 77) (.buildSlice 22 3 #[(0, .const (.int .i64 1)), (1, .const (.int .i64 1)), (2, .const (.int .i64 1))]) 22 [] none [],
    .eff (some 78) (.call { callee := .value (.func 15), args := #[.tmp 76, .tmp 77], argTypes := #[24, 22] }) 0 [(76, .slot 10), (77, .slot 77)] none []])
  h4_3)))
def h4_1 : HC :=
  (.seq
  (.reg [.eff (some 61) (.call { callee := .value (.func 12), args := #[.tmp 59, .const (.int .i64 5), .const (.int .i64 0), .tmp 60], argTypes := #[24, 3, 3, 9] }) 26 [(59, .slot 10), (60, .slot 0)] none []])
  (.seq
  (.reg [.eff (some 64) (.call { callee := .value (.func 12), args := #[.tmp 62, .const (.int .i64 6), .const (.int .i64 128), .tmp 63], argTypes := #[24, 3, 3, 9] }) 26 [(62, .slot 10), (63, .slot 2)] none []])
  (.seq
  (.reg [.eff (some 67) (.call { callee := .value (.func 12), args := #[.tmp 65, .const (.int .i64 5), .const (.int .i64 64), .tmp 66], argTypes := #[24, 3, 3, 9] }) 26 [(65, .slot 10), (66, .slot 1)] none []])
  (.seq
  (.reg [.eff (some 70) (.call { callee := .value (.func 15), args := #[.tmp 68, .tmp 69], argTypes := #[24, 22] }) 0 [(68, .slot 10), (69, .slot 3)] none []])
  h4_2))))
def h4 : HC :=
  (.seq
  (.reg [.asg 8 (.lit (.bool false))])
  (.seq
  (.reg [.eff (some 18) (.call { callee := .value (.func 10), args := #[], argTypes := #[] }) 4 [] none [],
    .asg 9 (.slot 18)])
  (.seq
  (.reg [.eff (some 19) (.call { callee := .value (.func 11), args := #[], argTypes := #[] }) 24 [] none [],
    .asg 10 (.slot 19)])
  (.seq
  (.seq
  (.reg [.need (.n2 (.pnil false) (.slot 10) (.lit (.pointer none))),
    .need (.gif (.n2 (.pnil false) (.slot 10) (.lit (.pointer none))) false (.n2 (.sbin .eql) (.slot 0) (.lit (str [])))),
    .need (.n3 .pick (.n2 (.pnil false) (.slot 10) (.lit (.pointer none))) (.lit (.bool true)) (.n2 (.sbin .eql) (.slot 0) (.lit (str [])))),
    .need (.gif (.n3 .pick (.n2 (.pnil false) (.slot 10) (.lit (.pointer none))) (.lit (.bool true)) (.n2 (.sbin .eql) (.slot 0) (.lit (str [])))) false (.n2 (.sbin .eql) (.slot 1) (.lit (str [])))),
    .need (.n3 .pick (.n3 .pick (.n2 (.pnil false) (.slot 10) (.lit (.pointer none))) (.lit (.bool true)) (.n2 (.sbin .eql) (.slot 0) (.lit (str [])))) (.lit (.bool true)) (.n2 (.sbin .eql) (.slot 1) (.lit (str [])))),
    .need (.gif (.n3 .pick (.n3 .pick (.n2 (.pnil false) (.slot 10) (.lit (.pointer none))) (.lit (.bool true)) (.n2 (.sbin .eql) (.slot 0) (.lit (str [])))) (.lit (.bool true)) (.n2 (.sbin .eql) (.slot 1) (.lit (str [])))) false (.n2 (.sbin .eql) (.slot 2) (.lit (str [])))),
    .need (.n3 .pick (.n3 .pick (.n3 .pick (.n2 (.pnil false) (.slot 10) (.lit (.pointer none))) (.lit (.bool true)) (.n2 (.sbin .eql) (.slot 0) (.lit (str [])))) (.lit (.bool true)) (.n2 (.sbin .eql) (.slot 1) (.lit (str [])))) (.lit (.bool true)) (.n2 (.sbin .eql) (.slot 2) (.lit (str [])))),
    .need (.gif (.n3 .pick (.n3 .pick (.n3 .pick (.n2 (.pnil false) (.slot 10) (.lit (.pointer none))) (.lit (.bool true)) (.n2 (.sbin .eql) (.slot 0) (.lit (str [])))) (.lit (.bool true)) (.n2 (.sbin .eql) (.slot 1) (.lit (str [])))) (.lit (.bool true)) (.n2 (.sbin .eql) (.slot 2) (.lit (str [])))) false (.n1 .lens (.slot 0))),
    .need (.gif (.n3 .pick (.n3 .pick (.n3 .pick (.n2 (.pnil false) (.slot 10) (.lit (.pointer none))) (.lit (.bool true)) (.n2 (.sbin .eql) (.slot 0) (.lit (str [])))) (.lit (.bool true)) (.n2 (.sbin .eql) (.slot 1) (.lit (str [])))) (.lit (.bool true)) (.n2 (.sbin .eql) (.slot 2) (.lit (str [])))) false (.n2 (.bin .gtr) (.n1 .lens (.slot 0)) (.lit (.int .i64 64)))),
    .need (.n3 .pick (.n3 .pick (.n3 .pick (.n3 .pick (.n2 (.pnil false) (.slot 10) (.lit (.pointer none))) (.lit (.bool true)) (.n2 (.sbin .eql) (.slot 0) (.lit (str [])))) (.lit (.bool true)) (.n2 (.sbin .eql) (.slot 1) (.lit (str [])))) (.lit (.bool true)) (.n2 (.sbin .eql) (.slot 2) (.lit (str [])))) (.lit (.bool true)) (.n2 (.bin .gtr) (.n1 .lens (.slot 0)) (.lit (.int .i64 64)))),
    .need (.gif (.n3 .pick (.n3 .pick (.n3 .pick (.n3 .pick (.n2 (.pnil false) (.slot 10) (.lit (.pointer none))) (.lit (.bool true)) (.n2 (.sbin .eql) (.slot 0) (.lit (str [])))) (.lit (.bool true)) (.n2 (.sbin .eql) (.slot 1) (.lit (str [])))) (.lit (.bool true)) (.n2 (.sbin .eql) (.slot 2) (.lit (str [])))) (.lit (.bool true)) (.n2 (.bin .gtr) (.n1 .lens (.slot 0)) (.lit (.int .i64 64)))) false (.n1 .lens (.slot 1))),
    .need (.gif (.n3 .pick (.n3 .pick (.n3 .pick (.n3 .pick (.n2 (.pnil false) (.slot 10) (.lit (.pointer none))) (.lit (.bool true)) (.n2 (.sbin .eql) (.slot 0) (.lit (str [])))) (.lit (.bool true)) (.n2 (.sbin .eql) (.slot 1) (.lit (str [])))) (.lit (.bool true)) (.n2 (.sbin .eql) (.slot 2) (.lit (str [])))) (.lit (.bool true)) (.n2 (.bin .gtr) (.n1 .lens (.slot 0)) (.lit (.int .i64 64)))) false (.n2 (.bin .gtr) (.n1 .lens (.slot 1)) (.lit (.int .i64 64)))),
    .need (.n3 .pick (.n3 .pick (.n3 .pick (.n3 .pick (.n3 .pick (.n2 (.pnil false) (.slot 10) (.lit (.pointer none))) (.lit (.bool true)) (.n2 (.sbin .eql) (.slot 0) (.lit (str [])))) (.lit (.bool true)) (.n2 (.sbin .eql) (.slot 1) (.lit (str [])))) (.lit (.bool true)) (.n2 (.sbin .eql) (.slot 2) (.lit (str [])))) (.lit (.bool true)) (.n2 (.bin .gtr) (.n1 .lens (.slot 0)) (.lit (.int .i64 64)))) (.lit (.bool true)) (.n2 (.bin .gtr) (.n1 .lens (.slot 1)) (.lit (.int .i64 64)))),
    .need (.gif (.n3 .pick (.n3 .pick (.n3 .pick (.n3 .pick (.n3 .pick (.n2 (.pnil false) (.slot 10) (.lit (.pointer none))) (.lit (.bool true)) (.n2 (.sbin .eql) (.slot 0) (.lit (str [])))) (.lit (.bool true)) (.n2 (.sbin .eql) (.slot 1) (.lit (str [])))) (.lit (.bool true)) (.n2 (.sbin .eql) (.slot 2) (.lit (str [])))) (.lit (.bool true)) (.n2 (.bin .gtr) (.n1 .lens (.slot 0)) (.lit (.int .i64 64)))) (.lit (.bool true)) (.n2 (.bin .gtr) (.n1 .lens (.slot 1)) (.lit (.int .i64 64)))) false (.n1 .lens (.slot 2))),
    .need (.gif (.n3 .pick (.n3 .pick (.n3 .pick (.n3 .pick (.n3 .pick (.n2 (.pnil false) (.slot 10) (.lit (.pointer none))) (.lit (.bool true)) (.n2 (.sbin .eql) (.slot 0) (.lit (str [])))) (.lit (.bool true)) (.n2 (.sbin .eql) (.slot 1) (.lit (str [])))) (.lit (.bool true)) (.n2 (.sbin .eql) (.slot 2) (.lit (str [])))) (.lit (.bool true)) (.n2 (.bin .gtr) (.n1 .lens (.slot 0)) (.lit (.int .i64 64)))) (.lit (.bool true)) (.n2 (.bin .gtr) (.n1 .lens (.slot 1)) (.lit (.int .i64 64)))) false (.n2 (.bin .gtr) (.n1 .lens (.slot 2)) (.lit (.int .i64 64)))),
    .need (.n3 .pick (.n3 .pick (.n3 .pick (.n3 .pick (.n3 .pick (.n3 .pick (.n2 (.pnil false) (.slot 10) (.lit (.pointer none))) (.lit (.bool true)) (.n2 (.sbin .eql) (.slot 0) (.lit (str [])))) (.lit (.bool true)) (.n2 (.sbin .eql) (.slot 1) (.lit (str [])))) (.lit (.bool true)) (.n2 (.sbin .eql) (.slot 2) (.lit (str [])))) (.lit (.bool true)) (.n2 (.bin .gtr) (.n1 .lens (.slot 0)) (.lit (.int .i64 64)))) (.lit (.bool true)) (.n2 (.bin .gtr) (.n1 .lens (.slot 1)) (.lit (.int .i64 64)))) (.lit (.bool true)) (.n2 (.bin .gtr) (.n1 .lens (.slot 2)) (.lit (.int .i64 64)))),
    .need (.gif (.n3 .pick (.n3 .pick (.n3 .pick (.n3 .pick (.n3 .pick (.n3 .pick (.n2 (.pnil false) (.slot 10) (.lit (.pointer none))) (.lit (.bool true)) (.n2 (.sbin .eql) (.slot 0) (.lit (str [])))) (.lit (.bool true)) (.n2 (.sbin .eql) (.slot 1) (.lit (str [])))) (.lit (.bool true)) (.n2 (.sbin .eql) (.slot 2) (.lit (str [])))) (.lit (.bool true)) (.n2 (.bin .gtr) (.n1 .lens (.slot 0)) (.lit (.int .i64 64)))) (.lit (.bool true)) (.n2 (.bin .gtr) (.n1 .lens (.slot 1)) (.lit (.int .i64 64)))) (.lit (.bool true)) (.n2 (.bin .gtr) (.n1 .lens (.slot 2)) (.lit (.int .i64 64)))) false (.n1 .lensl (.slot 3))),
    .need (.gif (.n3 .pick (.n3 .pick (.n3 .pick (.n3 .pick (.n3 .pick (.n3 .pick (.n2 (.pnil false) (.slot 10) (.lit (.pointer none))) (.lit (.bool true)) (.n2 (.sbin .eql) (.slot 0) (.lit (str [])))) (.lit (.bool true)) (.n2 (.sbin .eql) (.slot 1) (.lit (str [])))) (.lit (.bool true)) (.n2 (.sbin .eql) (.slot 2) (.lit (str [])))) (.lit (.bool true)) (.n2 (.bin .gtr) (.n1 .lens (.slot 0)) (.lit (.int .i64 64)))) (.lit (.bool true)) (.n2 (.bin .gtr) (.n1 .lens (.slot 1)) (.lit (.int .i64 64)))) (.lit (.bool true)) (.n2 (.bin .gtr) (.n1 .lens (.slot 2)) (.lit (.int .i64 64)))) false (.n2 (.bin .neq) (.n1 .lensl (.slot 3)) (.lit (.int .i64 3)))),
    .need (.n3 .pick (.n3 .pick (.n3 .pick (.n3 .pick (.n3 .pick (.n3 .pick (.n3 .pick (.n2 (.pnil false) (.slot 10) (.lit (.pointer none))) (.lit (.bool true)) (.n2 (.sbin .eql) (.slot 0) (.lit (str [])))) (.lit (.bool true)) (.n2 (.sbin .eql) (.slot 1) (.lit (str [])))) (.lit (.bool true)) (.n2 (.sbin .eql) (.slot 2) (.lit (str [])))) (.lit (.bool true)) (.n2 (.bin .gtr) (.n1 .lens (.slot 0)) (.lit (.int .i64 64)))) (.lit (.bool true)) (.n2 (.bin .gtr) (.n1 .lens (.slot 1)) (.lit (.int .i64 64)))) (.lit (.bool true)) (.n2 (.bin .gtr) (.n1 .lens (.slot 2)) (.lit (.int .i64 64)))) (.lit (.bool true)) (.n2 (.bin .neq) (.n1 .lensl (.slot 3)) (.lit (.int .i64 3)))),
    .asg 53 (.n3 .pick (.n3 .pick (.n3 .pick (.n3 .pick (.n3 .pick (.n3 .pick (.n3 .pick (.n2 (.pnil false) (.slot 10) (.lit (.pointer none))) (.lit (.bool true)) (.n2 (.sbin .eql) (.slot 0) (.lit (str [])))) (.lit (.bool true)) (.n2 (.sbin .eql) (.slot 1) (.lit (str [])))) (.lit (.bool true)) (.n2 (.sbin .eql) (.slot 2) (.lit (str [])))) (.lit (.bool true)) (.n2 (.bin .gtr) (.n1 .lens (.slot 0)) (.lit (.int .i64 64)))) (.lit (.bool true)) (.n2 (.bin .gtr) (.n1 .lens (.slot 1)) (.lit (.int .i64 64)))) (.lit (.bool true)) (.n2 (.bin .gtr) (.n1 .lens (.slot 2)) (.lit (.int .i64 64)))) (.lit (.bool true)) (.n2 (.bin .neq) (.n1 .lensl (.slot 3)) (.lit (.int .i64 3))))])
  (.cond (.slot 53)
    (.seq
    (.reg [.need (.gif (.slot 9) true (.n2 (.pnil true) (.slot 10) (.lit (.pointer none)))),
      .need (.n3 .pick (.slot 9) (.n2 (.pnil true) (.slot 10) (.lit (.pointer none))) (.lit (.bool false))),
      .asg 8 (.n3 .pick (.slot 9) (.n2 (.pnil true) (.slot 10) (.lit (.pointer none))) (.lit (.bool false)))])
    .ret)
    .skip))
  h4_1))))
theorem k4 : fnOK Try.prog 2090748529984448140258115120400403289583375 [] [.tmp 8] 4 Try.f4 = some h4 := by kernel_rfl
theorem c4 : callable Try.prog 4 = true := by kernel_rfl
theorem q4 {args : List Value} (ha : args.length = 4) {w : World} {next : Value → World → Prop} {QP : List PanicEntry → World → Prop} (H : hw Try.prog noPanic h4 (endV [.tmp 8] next) (σ0 args) w) : callK Try.prog 4 args w next QP := fn_rule Try.func4 mixed k4 ha H
theorem r4 {args : List Value} (ha : args.length = 4) {w : World} {next : Value → World → Prop} {QP : List PanicEntry → World → Prop} (H : hw Try.prog noPanic h4 (endV [.tmp 8] next) (σ0 args) w) : callvK Try.prog (.func (.func 4) #[] #[]) args w next QP := callf c4 (q4 ha H)

/- missive/missivelaw05.DiskLasts -/
def h5_10 : HC :=
  (.reg [.need (.n2 (.iaddr 1) (.slot 7) (.slot 15)),
    .eff none (.store 9 (.tmp 159) (.tmp 158)) 0 [(159, .n2 (.iaddr 1) (.slot 7) (.slot 15)), (158, .slot 16)] none []])
def h5_11 : HC :=
  (.reg [.need (.n2 (.bin .add) (.slot 15) (.lit (.int .i64 1))),
    .asg 15 (.n2 (.bin .add) (.slot 15) (.lit (.int .i64 1)))])
def h5_9 : HC :=
  (.seq
  (.block 3
    (.seq
    (.reg [.eff (some 144) (.call { callee := .value (.func 17), args := #[.tmp 142, .tmp 143], argTypes := #[24, 3] }) 31 [(142, .slot 6), (143, .slot 15)] none [],
      .need (.n1 (.ext 0) (.slot 144)),
      .need (.n1 (.ext 1) (.slot 144)),
      .asg 16 (.n1 (.ext 0) (.slot 144))])
    (.seq
    (.seq
    (.reg [.need (.n2 (.iaddr 1) (.slot 7) (.slot 15)),
      .need (.n1 .ld (.n2 (.iaddr 1) (.slot 7) (.slot 15))),
      .eff (some 154) (.call { callee := .value (.func 25), args := #[.tmp 147, .tmp 151, .tmp 152, .tmp 153], argTypes := #[9, 9, 38, 3] }) 4 [(147, .slot 16), (151, .n1 .ld (.n2 (.iaddr 1) (.slot 7) (.slot 15))), (152, .slot 8), (153, .slot 15)] none [],
      .need (.n1 .bnot (.slot 154)),
      .asg 155 (.n1 .bnot (.slot 154))])
    (.cond (.slot 155)
      (.seq
      (.reg [.asg 4 (.lit (.bool false))])
      .ret)
      .skip))
    h5_10)))
  h5_11)
def h5_8 : HC :=
  (.seq
  (.seq
  (.reg [.need (.n2 (.bin .lss) (.slot 15) (.lit (.int .i64 12))),
    .asg 138 (.n2 (.bin .lss) (.slot 15) (.lit (.int .i64 12)))])
  (.cond (.slot 138)
    .skip
    (.exit 2)))
  h5_9)
def h5_12 : HC :=
  (.seq
  (.reg [.asg 8 (.lit (.slice none 0 0))])
  (.reg [.eff (some 161) (.call { callee := .value (.func 15), args := #[.tmp 160, .const (.slice none 0 0)], argTypes := #[24, 22] }) 0 [(160, .slot 6)] none []]))
def h5_7 : HC :=
  (.seq
  (.reg [.eff (some 133) (.call { callee := .value (.func 21), args := #[.tmp 132], argTypes := #[24] }) 4 [(132, .slot 6)] (some (.slot 11, true)) [],
    .need (.n3 .pick (.slot 11) (.slot 133) (.lit (.bool false))),
    .asg 134 (.n3 .pick (.slot 11) (.slot 133) (.lit (.bool false)))])
  (.cond (.slot 134)
    (.seq
    (.reg [.eff (some 136) (.call { callee := .value (.func 16), args := #[.tmp 135], argTypes := #[24] }) 0 [(135, .slot 6)] none []])
    (.seq
    (.seq
    (.reg [.asg 15 (.lit (.int .i64 0))])
    (.block 2
      (.loop
        h5_8)))
    h5_12))
    .skip))
def h5_6 : HC :=
  (.seq
  (.seq
  (.reg [.need (.n2 (.bin .eql) (.slot 12) (.lit (.int .i64 4))),
    .need (.gif (.n2 (.bin .eql) (.slot 12) (.lit (.int .i64 4))) true (.n2 (.bin .eql) (.slot 14) (.lit (.int .i64 0)))),
    .need (.n3 .pick (.n2 (.bin .eql) (.slot 12) (.lit (.int .i64 4))) (.n2 (.bin .eql) (.slot 14) (.lit (.int .i64 0))) (.lit (.bool false))),
    .asg 109 (.n3 .pick (.n2 (.bin .eql) (.slot 12) (.lit (.int .i64 4))) (.n2 (.bin .eql) (.slot 14) (.lit (.int .i64 0))) (.lit (.bool false)))])
  (.cond (.slot 109)
    (.seq
    (.draw [.need (.n1 (.faddr 1) (.slot 10)),
      .need (.n1 .ld (.n1 (.faddr 1) (.slot 10))),
      .need (.n1 (.faddr 2) (.slot 10)),
      .need (.n1 .ld (.n1 (.faddr 2) (.slot 10))),
      .need (.n2 (.iaddr 1) (.slot 7) (.n1 .ld (.n1 (.faddr 2) (.slot 10)))),
      .need (.n1 .ld (.n2 (.iaddr 1) (.slot 7) (.n1 .ld (.n1 (.faddr 2) (.slot 10))))),
      .need (.n2 (.iaddr 1) (.slot 7) (.n1 .ld (.n1 (.faddr 1) (.slot 10)))),
      .eff none (.store 9 (.tmp 118) (.tmp 117)) 0 [(118, .n2 (.iaddr 1) (.slot 7) (.n1 .ld (.n1 (.faddr 1) (.slot 10)))), (117, .n1 .ld (.n2 (.iaddr 1) (.slot 7) (.n1 .ld (.n1 (.faddr 2) (.slot 10)))))] none []])
    (.seq
    (.reg [.need (.n1 (.faddr 2) (.slot 10)),
      .need (.n1 .ld (.n1 (.faddr 2) (.slot 10))),
      .need (.n2 (.iaddr 1) (.slot 7) (.n1 .ld (.n1 (.faddr 2) (.slot 10)))),
      .eff none (.store 9 (.tmp 122) (.const (str []))) 0 [(122, .n2 (.iaddr 1) (.slot 7) (.n1 .ld (.n1 (.faddr 2) (.slot 10))))] none []])
    (.draw [.need (.n1 (.faddr 1) (.slot 10)),
      .need (.n1 .ld (.n1 (.faddr 1) (.slot 10))),
      .need (.n1 (.faddr 2) (.slot 10)),
      .need (.n1 .ld (.n1 (.faddr 2) (.slot 10))),
      .asg 128 (.n1 .ld (.n1 (.faddr 2) (.slot 10))),
      .eff (some 126) (.call { callee := .value (.func 24), args := #[.tmp 123, .tmp 125], argTypes := #[38, 3] }) 38 [(123, .slot 8), (125, .n1 .ld (.n1 (.faddr 1) (.slot 10)))] none [⟨none, .ld, .n1 (.faddr 2) (.slot 10)⟩],
      .eff (some 129) (.call { callee := .value (.func 24), args := #[.tmp 126, .tmp 128], argTypes := #[38, 3] }) 38 [(126, .slot 126), (128, .slot 128)] none [],
      .asg 8 (.slot 129)])))
    .skip))
  h5_7)
def h5_5 : HC :=
  (.seq
  (.reg [.need (.n1 (.ldn 6) (.slot 10)),
    .eff (some 76) (.call { callee := .value (.func 23), args := #[.tmp 74, .tmp 75], argTypes := #[24, 42] }) 31 [(74, .slot 6), (75, .n1 (.ldn 6) (.slot 10))] none [],
    .need (.n1 (.ext 0) (.slot 76)),
    .need (.n1 (.ext 1) (.slot 76)),
    .asg 14 (.n1 (.ext 1) (.slot 76))])
  (.seq
  (.seq
  (.reg [.need (.n2 (.bin .eql) (.slot 12) (.lit (.int .i64 2))),
    .need (.gif (.n2 (.bin .eql) (.slot 12) (.lit (.int .i64 2))) false (.n2 (.bin .eql) (.slot 12) (.lit (.int .i64 3)))),
    .need (.n3 .pick (.n2 (.bin .eql) (.slot 12) (.lit (.int .i64 2))) (.lit (.bool true)) (.n2 (.bin .eql) (.slot 12) (.lit (.int .i64 3)))),
    .need (.gif (.n3 .pick (.n2 (.bin .eql) (.slot 12) (.lit (.int .i64 2))) (.lit (.bool true)) (.n2 (.bin .eql) (.slot 12) (.lit (.int .i64 3)))) true (.n2 (.bin .eql) (.slot 14) (.lit (.int .i64 0)))),
    .need (.n3 .pick (.n3 .pick (.n2 (.bin .eql) (.slot 12) (.lit (.int .i64 2))) (.lit (.bool true)) (.n2 (.bin .eql) (.slot 12) (.lit (.int .i64 3)))) (.n2 (.bin .eql) (.slot 14) (.lit (.int .i64 0))) (.lit (.bool false))),
    .asg 88 (.n3 .pick (.n3 .pick (.n2 (.bin .eql) (.slot 12) (.lit (.int .i64 2))) (.lit (.bool true)) (.n2 (.bin .eql) (.slot 12) (.lit (.int .i64 3)))) (.n2 (.bin .eql) (.slot 14) (.lit (.int .i64 0))) (.lit (.bool false)))])
  (.cond (.slot 88)
    (.seq
    (.draw [.need (.n1 (.faddr 1) (.slot 10)),
      .need (.n1 .ld (.n1 (.faddr 1) (.slot 10))),
      .asg 92 (.n1 .ld (.n1 (.faddr 1) (.slot 10))),
      .need (.n1 (.faddr 1) (.slot 10)),
      .need (.n1 .ld (.n1 (.faddr 1) (.slot 10))),
      .eff (some 96) (.call { callee := .value (.func 17), args := #[.tmp 93, .tmp 95], argTypes := #[24, 3] }) 31 [(93, .slot 6), (95, .n1 .ld (.n1 (.faddr 1) (.slot 10)))] none [⟨none, .ld, .n1 (.faddr 1) (.slot 10)⟩],
      .need (.n1 (.ext 0) (.slot 96)),
      .need (.n1 (.ext 1) (.slot 96)),
      .need (.n2 (.iaddr 1) (.slot 7) (.slot 92)),
      .eff none (.store 9 (.tmp 99) (.tmp 97)) 0 [(99, .n2 (.iaddr 1) (.slot 7) (.slot 92)), (97, .n1 (.ext 0) (.slot 96))] none []])
    (.reg [.need (.n1 (.faddr 1) (.slot 10)),
      .need (.n1 .ld (.n1 (.faddr 1) (.slot 10))),
      .eff (some 103) (.call { callee := .value (.func 24), args := #[.tmp 100, .tmp 102], argTypes := #[38, 3] }) 38 [(100, .slot 8), (102, .n1 .ld (.n1 (.faddr 1) (.slot 10)))] none [],
      .asg 8 (.slot 103)]))
    .skip))
  h5_6))
def h5_4 : HC :=
  (.seq
  (.seq
  (.reg [.need (.n2 (.bin .leq) (.slot 12) (.lit (.int .i64 1))),
    .need (.n3 .pick (.n2 (.bin .leq) (.slot 12) (.lit (.int .i64 1))) (.slot 11) (.lit (.bool false))),
    .need (.gif (.n3 .pick (.n2 (.bin .leq) (.slot 12) (.lit (.int .i64 1))) (.slot 11) (.lit (.bool false))) true (.n1 (.faddr 3) (.slot 10))),
    .need (.gif (.n3 .pick (.n2 (.bin .leq) (.slot 12) (.lit (.int .i64 1))) (.slot 11) (.lit (.bool false))) true (.n1 .ld (.n1 (.faddr 3) (.slot 10)))),
    .need (.gif (.n3 .pick (.n2 (.bin .leq) (.slot 12) (.lit (.int .i64 1))) (.slot 11) (.lit (.bool false))) true (.n2 (.bin .geq) (.n1 .ld (.n1 (.faddr 3) (.slot 10))) (.lit (.int .i64 0)))),
    .need (.n3 .pick (.n3 .pick (.n2 (.bin .leq) (.slot 12) (.lit (.int .i64 1))) (.slot 11) (.lit (.bool false))) (.n2 (.bin .geq) (.n1 .ld (.n1 (.faddr 3) (.slot 10))) (.lit (.int .i64 0))) (.lit (.bool false))),
    .need (.gif (.n3 .pick (.n3 .pick (.n2 (.bin .leq) (.slot 12) (.lit (.int .i64 1))) (.slot 11) (.lit (.bool false))) (.n2 (.bin .geq) (.n1 .ld (.n1 (.faddr 3) (.slot 10))) (.lit (.int .i64 0))) (.lit (.bool false))) true (.n1 (.faddr 3) (.slot 10))),
    .need (.gif (.n3 .pick (.n3 .pick (.n2 (.bin .leq) (.slot 12) (.lit (.int .i64 1))) (.slot 11) (.lit (.bool false))) (.n2 (.bin .geq) (.n1 .ld (.n1 (.faddr 3) (.slot 10))) (.lit (.int .i64 0))) (.lit (.bool false))) true (.n1 .ld (.n1 (.faddr 3) (.slot 10)))),
    .need (.gif (.n3 .pick (.n3 .pick (.n2 (.bin .leq) (.slot 12) (.lit (.int .i64 1))) (.slot 11) (.lit (.bool false))) (.n2 (.bin .geq) (.n1 .ld (.n1 (.faddr 3) (.slot 10))) (.lit (.int .i64 0))) (.lit (.bool false))) true (.n2 (.bin .lss) (.n1 .ld (.n1 (.faddr 3) (.slot 10))) (.lit (.int .i64 4000)))),
    .need (.n3 .pick (.n3 .pick (.n3 .pick (.n2 (.bin .leq) (.slot 12) (.lit (.int .i64 1))) (.slot 11) (.lit (.bool false))) (.n2 (.bin .geq) (.n1 .ld (.n1 (.faddr 3) (.slot 10))) (.lit (.int .i64 0))) (.lit (.bool false))) (.n2 (.bin .lss) (.n1 .ld (.n1 (.faddr 3) (.slot 10))) (.lit (.int .i64 4000))) (.lit (.bool false))),
    .asg 68 (.n3 .pick (.n3 .pick (.n3 .pick (.n2 (.bin .leq) (.slot 12) (.lit (.int .i64 1))) (.slot 11) (.lit (.bool false))) (.n2 (.bin .geq) (.n1 .ld (.n1 (.faddr 3) (.slot 10))) (.lit (.int .i64 0))) (.lit (.bool false))) (.n2 (.bin .lss) (.n1 .ld (.n1 (.faddr 3) (.slot 10))) (.lit (.int .i64 4000))) (.lit (.bool false)))])
  (.cond (.slot 68)
    (.reg [.need (.n1 (.ldn 6) (.slot 10)),
      .eff (some 71) (.buildSlice 38 1 #[(0, .tmp 70)]) 38 [(70, .n1 (.ldn 6) (.slot 10))] none [],
      .eff (some 72) (.call { callee := .builtin .append, args := #[.tmp 69, .tmp 71], argTypes := #[38, 38] }) 38 [(69, .slot 8), (71, .slot 71)] none [],
      .asg 8 (.slot 72)])
    .skip))
  h5_5)
def h5_13 : HC :=
  (.reg [.need (.n2 (.bin .add) (.slot 9) (.lit (.int .i64 1))),
    .asg 9 (.n2 (.bin .add) (.slot 9) (.lit (.int .i64 1)))])
def h5_3 : HC :=
  (.seq
  (.block 1
    (.seq
    (.reg [.need (.n2 (.iaddr 6) (.slot 0) (.slot 9)),
      .need (.n1 (.ldn 6) (.n2 (.iaddr 6) (.slot 0) (.slot 9))),
      .asg 47 (.n1 (.ldn 6) (.n2 (.iaddr 6) (.slot 0) (.slot 9))),
      .eff (some 10) (.alloc 42) 0 [] none [],
      .eff none (.store 42 (.tmp 10) (.tmp 47)) 0 [(10, .slot 10), (47, .slot 47)] none []])
    (.seq
    (.reg [.eff (some 49) (.call { callee := .value (.func 21), args := #[.tmp 48], argTypes := #[24] }) 4 [(48, .slot 6)] none [],
      .need (.n1 .bnot (.slot 49)),
      .asg 11 (.n1 .bnot (.slot 49))])
    (.seq
    (.reg [.need (.n1 (.faddr 0) (.slot 10)),
      .need (.n1 .ld (.n1 (.faddr 0) (.slot 10))),
      .eff (some 53) (.call { callee := .value (.func 22), args := #[.tmp 52], argTypes := #[3] }) 3 [(52, .n1 .ld (.n1 (.faddr 0) (.slot 10)))] none [],
      .asg 12 (.slot 53)])
    h5_4))))
  h5_13)
def h5_2 : HC :=
  (.seq
  (.seq
  (.reg [.need (.n1 .lensl (.slot 0)),
    .need (.n2 (.bin .lss) (.slot 9) (.n1 .lensl (.slot 0))),
    .asg 41 (.n2 (.bin .lss) (.slot 9) (.n1 .lensl (.slot 0)))])
  (.cond (.slot 41)
    .skip
    (.exit 0)))
  h5_3)
def h5_17 : HC :=
  (.reg [.need (.n2 (.bin .add) (.slot 19) (.lit (.int .i64 1))),
    .asg 19 (.n2 (.bin .add) (.slot 19) (.lit (.int .i64 1)))])
def h5_16 : HC :=
  (.seq
  (.block 5
    (.reg [.eff (some 173) (.call { callee := .value (.func 18), args := #[.tmp 171, .tmp 172], argTypes := #[24, 3] }) 3 [(171, .slot 6), (172, .slot 19)] none [],
      .eff (some 174) (.buildSlice 22 1 #[(0, .tmp 173)]) 22 [(173, .slot 173)] none [],
      .eff (some 175) (.call { callee := .builtin .append, args := #[.tmp 170, .tmp 174], argTypes := #[22, 22] }) 22 [(170, .slot 18), (174, .slot 174)] none [],
      .asg 18 (.slot 175)]))
  h5_17)
def h5_15 : HC :=
  (.seq
  (.seq
  (.reg [.need (.n2 (.bin .lss) (.slot 19) (.lit (.int .i64 12))),
    .asg 167 (.n2 (.bin .lss) (.slot 19) (.lit (.int .i64 12)))])
  (.cond (.slot 167)
    .skip
    (.exit 4)))
  h5_16)
def h5_21 : HC :=
  (.reg [.need (.n2 (.bin .add) (.slot 20) (.lit (.int .i64 1))),
    .asg 20 (.n2 (.bin .add) (.slot 20) (.lit (.int .i64 1)))])
def h5_20 : HC :=
  (.seq
  (.block 7
    (.seq
    (.reg [.eff (some 188) (.call { callee := .value (.func 17), args := #[.tmp 186, .tmp 187], argTypes := #[24, 3] }) 31 [(186, .slot 6), (187, .slot 20)] none [],
      .need (.n1 (.ext 0) (.slot 188)),
      .need (.n1 (.ext 1) (.slot 188)),
      .asg 21 (.n1 (.ext 0) (.slot 188)),
      .asg 22 (.n1 (.ext 1) (.slot 188))])
    (.seq
    (.reg [.need (.n2 (.bin .neq) (.slot 22) (.lit (.int .i64 0))),
      .need (.gif (.n2 (.bin .neq) (.slot 22) (.lit (.int .i64 0))) false (.n2 (.iaddr 1) (.slot 7) (.slot 20))),
      .need (.gif (.n2 (.bin .neq) (.slot 22) (.lit (.int .i64 0))) false (.n1 .ld (.n2 (.iaddr 1) (.slot 7) (.slot 20)))),
      .eff (some 201) (.call { callee := .value (.func 25), args := #[.tmp 194, .tmp 198, .tmp 199, .tmp 200], argTypes := #[9, 9, 38, 3] }) 4 [(194, .slot 21), (198, .n1 .ld (.n2 (.iaddr 1) (.slot 7) (.slot 20))), (199, .slot 8), (200, .slot 20)] (some (.n2 (.bin .neq) (.slot 22) (.lit (.int .i64 0)), false)) [],
      .need (.gif (.n2 (.bin .neq) (.slot 22) (.lit (.int .i64 0))) false (.n1 .bnot (.slot 201))),
      .need (.n3 .pick (.n2 (.bin .neq) (.slot 22) (.lit (.int .i64 0))) (.lit (.bool true)) (.n1 .bnot (.slot 201))),
      .need (.gif (.n3 .pick (.n2 (.bin .neq) (.slot 22) (.lit (.int .i64 0))) (.lit (.bool true)) (.n1 .bnot (.slot 201))) false (.n1 .lens (.slot 21))),
      .need (.gif (.n3 .pick (.n2 (.bin .neq) (.slot 22) (.lit (.int .i64 0))) (.lit (.bool true)) (.n1 .bnot (.slot 201))) false (.n2 (.iaddr 1) (.slot 18) (.slot 20))),
      .need (.gif (.n3 .pick (.n2 (.bin .neq) (.slot 22) (.lit (.int .i64 0))) (.lit (.bool true)) (.n1 .bnot (.slot 201))) false (.n1 .ld (.n2 (.iaddr 1) (.slot 18) (.slot 20)))),
      .need (.gif (.n3 .pick (.n2 (.bin .neq) (.slot 22) (.lit (.int .i64 0))) (.lit (.bool true)) (.n1 .bnot (.slot 201))) false (.n2 (.bin .gtr) (.n1 .lens (.slot 21)) (.n1 .ld (.n2 (.iaddr 1) (.slot 18) (.slot 20))))),
      .need (.n3 .pick (.n3 .pick (.n2 (.bin .neq) (.slot 22) (.lit (.int .i64 0))) (.lit (.bool true)) (.n1 .bnot (.slot 201))) (.lit (.bool true)) (.n2 (.bin .gtr) (.n1 .lens (.slot 21)) (.n1 .ld (.n2 (.iaddr 1) (.slot 18) (.slot 20))))),
      .asg 212 (.n3 .pick (.n3 .pick (.n2 (.bin .neq) (.slot 22) (.lit (.int .i64 0))) (.lit (.bool true)) (.n1 .bnot (.slot 201))) (.lit (.bool true)) (.n2 (.bin .gtr) (.n1 .lens (.slot 21)) (.n1 .ld (.n2 (.iaddr 1) (.slot 18) (.slot 20)))))])
    (.cond (.slot 212)
      (.seq
      (.reg [.asg 4 (.lit (.bool false))])
      .ret)
      .skip))))
  h5_21)
def h5_19 : HC :=
  (.seq
  (.seq
  (.reg [.need (.n2 (.bin .lss) (.slot 20) (.lit (.int .i64 12))),
    .asg 182 (.n2 (.bin .lss) (.slot 20) (.lit (.int .i64 12)))])
  (.cond (.slot 182)
    .skip
    (.exit 6)))
  h5_20)
def h5_22 : HC :=
  (.seq
  (.reg [.asg 4 (.slot 5)])
  .ret)
def h5_18 : HC :=
  (.seq
  (.reg [.eff (some 178) (.call { callee := .value (.func 15), args := #[.tmp 176, .tmp 177], argTypes := #[24, 22] }) 0 [(176, .slot 6), (177, .slot 1)] none []])
  (.seq
  (.reg [.eff (some 180) (.call { callee := .value (.func 16), args := #[.tmp 179], argTypes := #[24] }) 0 [(179, .slot 6)] none []])
  (.seq
  (.seq
  (.reg [.asg 20 (.lit (.int .i64 0))])
  (.block 6
    (.loop
      h5_19)))
  h5_22)))
def h5_14 : HC :=
  (.seq
  (.reg [.eff (some 163) (.call { callee := .value (.func 26), args := #[.tmp 162, .const (.int .i64 0), .const (.slice none 0 0)], argTypes := #[24, 3, 22] }) 0 [(162, .slot 6)] none []])
  (.seq
  (.reg [.eff (some 165) (.call { callee := .value (.func 16), args := #[.tmp 164], argTypes := #[24] }) 0 [(164, .slot 6)] none []])
  (.seq
  (.reg [.asg 18 (.lit (.slice none 0 0))])
  (.seq
  (.seq
  (.reg [.asg 19 (.lit (.int .i64 0))])
  (.block 4
    (.loop
      h5_15)))
  h5_18))))
def h5_1 : HC :=
  (.seq
  (.reg [.eff (some 37) (.makeSlice 40 (.const (.int .i64 12)) (.const (.int .i64 12))) 40 [] none [],
    .asg 7 (.slot 37)])
  (.seq
  (.reg [.asg 8 (.lit (.slice none 0 0))])
  (.seq
  (.seq
  (.reg [.asg 9 (.lit (.int .i64 0))])
  (.block 0
    (.loop
      h5_2)))
  h5_14)))
def h5 : HC :=
  (.seq
  (.reg [.asg 4 (.lit (.bool false))])
  (.seq
  (.reg [.eff (some 23) (.call { callee := .value (.func 10), args := #[], argTypes := #[] }) 4 [] none [],
    .asg 5 (.slot 23)])
  (.seq
  (.reg [.eff (some 24) (.call { callee := .value (.func 11), args := #[], argTypes := #[] }) 24 [] none [],
    .asg 6 (.slot 24)])
  (.seq
  (.seq
  (.reg [.eff (some 26) (.call { callee := .value (.func 20), args := #[.tmp 25], argTypes := #[38] }) 4 [(25, .slot 0)] none [],
    .need (.n1 .bnot (.slot 26)),
    .need (.gif (.n1 .bnot (.slot 26)) false (.n2 (.pnil false) (.slot 6) (.lit (.pointer none)))),
    .need (.n3 .pick (.n1 .bnot (.slot 26)) (.lit (.bool true)) (.n2 (.pnil false) (.slot 6) (.lit (.pointer none)))),
    .asg 31 (.n3 .pick (.n1 .bnot (.slot 26)) (.lit (.bool true)) (.n2 (.pnil false) (.slot 6) (.lit (.pointer none))))])
  (.cond (.slot 31)
    (.seq
    (.reg [.need (.gif (.slot 5) true (.n2 (.pnil true) (.slot 6) (.lit (.pointer none)))),
      .need (.n3 .pick (.slot 5) (.n2 (.pnil true) (.slot 6) (.lit (.pointer none))) (.lit (.bool false))),
      .asg 4 (.n3 .pick (.slot 5) (.n2 (.pnil true) (.slot 6) (.lit (.pointer none))) (.lit (.bool false)))])
    .ret)
    .skip))
  h5_1))))
theorem k5 : fnOK Try.prog 6585232505821859074084533780509651798739709798872737859074121715 [⟨17, [0, 0, 2, 0, 0, 16, 56, 120, 248, 248, 511, 1535], [(0, []), (1, []), (2, []), (3, []), (4, []), (5, []), (6, [2]), (7, []), (8, []), (9, []), (10, []), (11, [])]⟩, ⟨20, [0, 0, 2, 0, 0, 16, 56, 120, 255, 511], [(0, []), (1, []), (2, []), (3, []), (4, []), (5, []), (6, []), (7, []), (8, []), (9, [])]⟩, ⟨22, [0, 0, 2, 7, 0, 16, 63, 127], [(0, []), (1, []), (2, []), (4, []), (5, []), (3, [5]), (6, []), (7, [])]⟩] [.tmp 4] 2 Try.f5 = some h5 := by kernel_rfl
theorem c5 : callable Try.prog 5 = true := by kernel_rfl
theorem q5 {args : List Value} (ha : args.length = 2) {w : World} {next : Value → World → Prop} {QP : List PanicEntry → World → Prop} (H : hw Try.prog noPanic h5 (endV [.tmp 4] next) (σ0 args) w) : callK Try.prog 5 args w next QP := fn_rule Try.func5 mixed k5 ha H
theorem r5 {args : List Value} (ha : args.length = 2) {w : World} {next : Value → World → Prop} {QP : List PanicEntry → World → Prop} (H : hw Try.prog noPanic h5 (endV [.tmp 4] next) (σ0 args) w) : callvK Try.prog (.func (.func 5) #[] #[]) args w next QP := callf c5 (q5 ha H)

/- missive/missivelaw05.DiskArms -/
def h6_3 : HC :=
  (.reg [.need (.n2 (.bin .add) (.slot 10) (.lit (.int .i64 1))),
    .asg 10 (.n2 (.bin .add) (.slot 10) (.lit (.int .i64 1)))])
def h6_2 : HC :=
  (.seq
  (.block 1
    (.reg [.need (.n2 (.iaddr 1) (.slot 0) (.slot 10)),
      .need (.n1 .ld (.n2 (.iaddr 1) (.slot 0) (.slot 10))),
      .need (.n1 .lens (.n1 .ld (.n2 (.iaddr 1) (.slot 0) (.slot 10)))),
      .need (.n2 (.bin .add) (.slot 9) (.n1 .lens (.n1 .ld (.n2 (.iaddr 1) (.slot 0) (.slot 10))))),
      .asg 9 (.n2 (.bin .add) (.slot 9) (.n1 .lens (.n1 .ld (.n2 (.iaddr 1) (.slot 0) (.slot 10)))))]))
  h6_3)
def h6_1 : HC :=
  (.seq
  (.seq
  (.reg [.need (.n1 .lensl (.slot 0)),
    .need (.n2 (.bin .lss) (.slot 10) (.n1 .lensl (.slot 0))),
    .asg 26 (.n2 (.bin .lss) (.slot 10) (.n1 .lensl (.slot 0)))])
  (.cond (.slot 26)
    .skip
    (.exit 0)))
  h6_2)
def h6_9 : HC :=
  (.seq
  (.reg [.need (.n2 (.bin .eql) (.slot 16) (.lit (.int .i64 0))),
    .asg 140 (.n2 (.bin .eql) (.slot 16) (.lit (.int .i64 0)))])
  (.cond (.slot 140)
    (.seq
    (.reg [.need (.n2 (.sbin .add) (.slot 11) (.slot 12)),
      .asg 11 (.n2 (.sbin .add) (.slot 11) (.slot 12))])
    (.reg [.asg 12 (.lit (str []))]))
    .skip))
def h6_8 : HC :=
  (.seq
  (.reg [.need (.n2 (.iaddr 1) (.slot 0) (.slot 14)),
    .need (.n1 .ld (.n2 (.iaddr 1) (.slot 0) (.slot 14))),
    .need (.n2 (.sbin .add) (.slot 12) (.n1 .ld (.n2 (.iaddr 1) (.slot 0) (.slot 14)))),
    .asg 12 (.n2 (.sbin .add) (.slot 12) (.n1 .ld (.n2 (.iaddr 1) (.slot 0) (.slot 14))))])
  (.seq
  (.reg [.need (.n2 (.bin .rem) (.slot 14) (.lit (.int .i64 2))),
    .need (.n2 (.bin .eql) (.n2 (.bin .rem) (.slot 14) (.lit (.int .i64 2))) (.lit (.int .i64 1))),
    .eff (some 118) (.call { callee := .value (.func 21), args := #[.tmp 117], argTypes := #[24] }) 4 [(117, .slot 8)] (some (.n2 (.bin .eql) (.n2 (.bin .rem) (.slot 14) (.lit (.int .i64 2))) (.lit (.int .i64 1)), true)) [],
    .need (.gif (.n2 (.bin .eql) (.n2 (.bin .rem) (.slot 14) (.lit (.int .i64 2))) (.lit (.int .i64 1))) true (.n1 .bnot (.slot 118))),
    .need (.n3 .pick (.n2 (.bin .eql) (.n2 (.bin .rem) (.slot 14) (.lit (.int .i64 2))) (.lit (.int .i64 1))) (.n1 .bnot (.slot 118)) (.lit (.bool false))),
    .asg 120 (.n3 .pick (.n2 (.bin .eql) (.n2 (.bin .rem) (.slot 14) (.lit (.int .i64 2))) (.lit (.int .i64 1))) (.n1 .bnot (.slot 118)) (.lit (.bool false)))])
  (.cond (.slot 120)
    (.seq
    (.reg [.need (.n2 (.bin .add) (.slot 13) (.lit (.int .i64 1))),
      .asg 13 (.n2 (.bin .add) (.slot 13) (.lit (.int .i64 1)))])
    (.seq
    (.reg [.eff (some 124) (.call { callee := .value (.func 13), args := #[.tmp 123, .const (.int .i64 0)], argTypes := #[24, 3] }) 26 [(123, .slot 8)] none [],
      .asg 16 (.slot 124)])
    (.seq
    (.seq
    (.reg [.need (.n2 (.bin .eql) (.slot 16) (.lit (.int .i64 8))),
      .need (.n2 (.bin .eql) (.slot 13) (.slot 1)),
      .need (.n2 (.beq true) (.n2 (.bin .eql) (.slot 16) (.lit (.int .i64 8))) (.n2 (.bin .eql) (.slot 13) (.slot 1))),
      .need (.gif (.n2 (.beq true) (.n2 (.bin .eql) (.slot 16) (.lit (.int .i64 8))) (.n2 (.bin .eql) (.slot 13) (.slot 1))) false (.n2 (.bin .eql) (.slot 16) (.lit (.int .i64 0)))),
      .need (.gif (.n2 (.beq true) (.n2 (.bin .eql) (.slot 16) (.lit (.int .i64 8))) (.n2 (.bin .eql) (.slot 13) (.slot 1))) false (.n2 (.bin .lss) (.slot 13) (.slot 1))),
      .need (.gif (.n2 (.beq true) (.n2 (.bin .eql) (.slot 16) (.lit (.int .i64 8))) (.n2 (.bin .eql) (.slot 13) (.slot 1))) false (.n2 (.beq true) (.n2 (.bin .eql) (.slot 16) (.lit (.int .i64 0))) (.n2 (.bin .lss) (.slot 13) (.slot 1)))),
      .need (.n3 .pick (.n2 (.beq true) (.n2 (.bin .eql) (.slot 16) (.lit (.int .i64 8))) (.n2 (.bin .eql) (.slot 13) (.slot 1))) (.lit (.bool true)) (.n2 (.beq true) (.n2 (.bin .eql) (.slot 16) (.lit (.int .i64 0))) (.n2 (.bin .lss) (.slot 13) (.slot 1)))),
      .asg 138 (.n3 .pick (.n2 (.beq true) (.n2 (.bin .eql) (.slot 16) (.lit (.int .i64 8))) (.n2 (.bin .eql) (.slot 13) (.slot 1))) (.lit (.bool true)) (.n2 (.beq true) (.n2 (.bin .eql) (.slot 16) (.lit (.int .i64 0))) (.n2 (.bin .lss) (.slot 13) (.slot 1))))])
    (.cond (.slot 138)
      (.seq
      (.reg [.asg 6 (.lit (.bool false))])
      .ret)
      .skip))
    h6_9)))
    .skip)))
def h6_10 : HC :=
  (.reg [.need (.n2 (.bin .add) (.slot 14) (.lit (.int .i64 1))),
    .asg 14 (.n2 (.bin .add) (.slot 14) (.lit (.int .i64 1)))])
def h6_7 : HC :=
  (.seq
  (.block 3
    (.seq
    (.reg [.need (.n2 (.bin .add) (.slot 13) (.lit (.int .i64 1))),
      .asg 13 (.n2 (.bin .add) (.slot 13) (.lit (.int .i64 1)))])
    (.seq
    (.reg [.need (.n1 .lens (.slot 11)),
      .need (.n1 .lens (.slot 12)),
      .need (.n2 (.bin .add) (.n1 .lens (.slot 11)) (.n1 .lens (.slot 12))),
      .need (.n2 (.iaddr 1) (.slot 0) (.slot 14)),
      .need (.n1 .ld (.n2 (.iaddr 1) (.slot 0) (.slot 14))),
      .eff (some 92) (.call { callee := .value (.func 12), args := #[.tmp 82, .const (.int .i64 0), .tmp 87, .tmp 91], argTypes := #[24, 3, 3, 9] }) 26 [(82, .slot 8), (87, .n2 (.bin .add) (.n1 .lens (.slot 11)) (.n1 .lens (.slot 12))), (91, .n1 .ld (.n2 (.iaddr 1) (.slot 0) (.slot 14)))] none [],
      .asg 15 (.slot 92)])
    (.seq
    (.seq
    (.reg [.need (.n2 (.bin .eql) (.slot 15) (.lit (.int .i64 8))),
      .need (.n2 (.bin .eql) (.slot 13) (.slot 1)),
      .need (.n2 (.beq true) (.n2 (.bin .eql) (.slot 15) (.lit (.int .i64 8))) (.n2 (.bin .eql) (.slot 13) (.slot 1))),
      .need (.gif (.n2 (.beq true) (.n2 (.bin .eql) (.slot 15) (.lit (.int .i64 8))) (.n2 (.bin .eql) (.slot 13) (.slot 1))) false (.n2 (.bin .eql) (.slot 15) (.lit (.int .i64 0)))),
      .need (.gif (.n2 (.beq true) (.n2 (.bin .eql) (.slot 15) (.lit (.int .i64 8))) (.n2 (.bin .eql) (.slot 13) (.slot 1))) false (.n2 (.bin .lss) (.slot 13) (.slot 1))),
      .need (.gif (.n2 (.beq true) (.n2 (.bin .eql) (.slot 15) (.lit (.int .i64 8))) (.n2 (.bin .eql) (.slot 13) (.slot 1))) false (.n2 (.beq true) (.n2 (.bin .eql) (.slot 15) (.lit (.int .i64 0))) (.n2 (.bin .lss) (.slot 13) (.slot 1)))),
      .need (.n3 .pick (.n2 (.beq true) (.n2 (.bin .eql) (.slot 15) (.lit (.int .i64 8))) (.n2 (.bin .eql) (.slot 13) (.slot 1))) (.lit (.bool true)) (.n2 (.beq true) (.n2 (.bin .eql) (.slot 15) (.lit (.int .i64 0))) (.n2 (.bin .lss) (.slot 13) (.slot 1)))),
      .asg 106 (.n3 .pick (.n2 (.beq true) (.n2 (.bin .eql) (.slot 15) (.lit (.int .i64 8))) (.n2 (.bin .eql) (.slot 13) (.slot 1))) (.lit (.bool true)) (.n2 (.beq true) (.n2 (.bin .eql) (.slot 15) (.lit (.int .i64 0))) (.n2 (.bin .lss) (.slot 13) (.slot 1))))])
    (.cond (.slot 106)
      (.seq
      (.reg [.asg 6 (.lit (.bool false))])
      .ret)
      .skip))
    h6_8))))
  h6_10)
def h6_6 : HC :=
  (.seq
  (.seq
  (.reg [.need (.n1 .lensl (.slot 0)),
    .need (.n2 (.bin .lss) (.slot 14) (.n1 .lensl (.slot 0))),
    .eff (some 75) (.call { callee := .value (.func 21), args := #[.tmp 74], argTypes := #[24] }) 4 [(74, .slot 8)] (some (.n2 (.bin .lss) (.slot 14) (.n1 .lensl (.slot 0)), true)) [],
    .need (.gif (.n2 (.bin .lss) (.slot 14) (.n1 .lensl (.slot 0))) true (.n1 .bnot (.slot 75))),
    .need (.n3 .pick (.n2 (.bin .lss) (.slot 14) (.n1 .lensl (.slot 0))) (.n1 .bnot (.slot 75)) (.lit (.bool false))),
    .asg 77 (.n3 .pick (.n2 (.bin .lss) (.slot 14) (.n1 .lensl (.slot 0))) (.n1 .bnot (.slot 75)) (.lit (.bool false)))])
  (.cond (.slot 77)
    .skip
    (.exit 2)))
  h6_7)
def h6_12 : HC :=
  (.seq
  (.reg [.eff (some 170) (.call { callee := .value (.func 16), args := #[.tmp 169], argTypes := #[24] }) 0 [(169, .slot 8)] none []])
  (.seq
  (.reg [.eff (some 173) (.call { callee := .value (.func 17), args := #[.tmp 172, .const (.int .i64 0)], argTypes := #[24, 3] }) 31 [(172, .slot 8)] none [],
    .need (.n1 (.ext 0) (.slot 173)),
    .need (.n1 (.ext 1) (.slot 173)),
    .asg 19 (.n1 (.ext 0) (.slot 173)),
    .asg 20 (.n1 (.ext 1) (.slot 173))])
  (.seq
  (.reg [.need (.gif (.slot 7) true (.n2 (.bin .eql) (.slot 20) (.lit (.int .i64 0)))),
    .need (.n3 .pick (.slot 7) (.n2 (.bin .eql) (.slot 20) (.lit (.int .i64 0))) (.lit (.bool false))),
    .need (.gif (.n3 .pick (.slot 7) (.n2 (.bin .eql) (.slot 20) (.lit (.int .i64 0))) (.lit (.bool false))) true (.n1 .lens (.slot 19))),
    .need (.gif (.n3 .pick (.slot 7) (.n2 (.bin .eql) (.slot 20) (.lit (.int .i64 0))) (.lit (.bool false))) true (.n1 .lens (.slot 11))),
    .need (.gif (.n3 .pick (.slot 7) (.n2 (.bin .eql) (.slot 20) (.lit (.int .i64 0))) (.lit (.bool false))) true (.n2 (.bin .geq) (.n1 .lens (.slot 19)) (.n1 .lens (.slot 11)))),
    .need (.n3 .pick (.n3 .pick (.slot 7) (.n2 (.bin .eql) (.slot 20) (.lit (.int .i64 0))) (.lit (.bool false))) (.n2 (.bin .geq) (.n1 .lens (.slot 19)) (.n1 .lens (.slot 11))) (.lit (.bool false))),
    .need (.gif (.n3 .pick (.n3 .pick (.slot 7) (.n2 (.bin .eql) (.slot 20) (.lit (.int .i64 0))) (.lit (.bool false))) (.n2 (.bin .geq) (.n1 .lens (.slot 19)) (.n1 .lens (.slot 11))) (.lit (.bool false))) true (.n1 .lens (.slot 19))),
    .need (.gif (.n3 .pick (.n3 .pick (.slot 7) (.n2 (.bin .eql) (.slot 20) (.lit (.int .i64 0))) (.lit (.bool false))) (.n2 (.bin .geq) (.n1 .lens (.slot 19)) (.n1 .lens (.slot 11))) (.lit (.bool false))) true (.n1 .lens (.slot 11))),
    .need (.gif (.n3 .pick (.n3 .pick (.slot 7) (.n2 (.bin .eql) (.slot 20) (.lit (.int .i64 0))) (.lit (.bool false))) (.n2 (.bin .geq) (.n1 .lens (.slot 19)) (.n1 .lens (.slot 11))) (.lit (.bool false))) true (.n1 .lens (.slot 12))),
    .need (.gif (.n3 .pick (.n3 .pick (.slot 7) (.n2 (.bin .eql) (.slot 20) (.lit (.int .i64 0))) (.lit (.bool false))) (.n2 (.bin .geq) (.n1 .lens (.slot 19)) (.n1 .lens (.slot 11))) (.lit (.bool false))) true (.n2 (.bin .add) (.n1 .lens (.slot 11)) (.n1 .lens (.slot 12)))),
    .need (.gif (.n3 .pick (.n3 .pick (.slot 7) (.n2 (.bin .eql) (.slot 20) (.lit (.int .i64 0))) (.lit (.bool false))) (.n2 (.bin .geq) (.n1 .lens (.slot 19)) (.n1 .lens (.slot 11))) (.lit (.bool false))) true (.n2 (.bin .leq) (.n1 .lens (.slot 19)) (.n2 (.bin .add) (.n1 .lens (.slot 11)) (.n1 .lens (.slot 12))))),
    .need (.n3 .pick (.n3 .pick (.n3 .pick (.slot 7) (.n2 (.bin .eql) (.slot 20) (.lit (.int .i64 0))) (.lit (.bool false))) (.n2 (.bin .geq) (.n1 .lens (.slot 19)) (.n1 .lens (.slot 11))) (.lit (.bool false))) (.n2 (.bin .leq) (.n1 .lens (.slot 19)) (.n2 (.bin .add) (.n1 .lens (.slot 11)) (.n1 .lens (.slot 12)))) (.lit (.bool false))),
    .need (.gif (.n3 .pick (.n3 .pick (.n3 .pick (.slot 7) (.n2 (.bin .eql) (.slot 20) (.lit (.int .i64 0))) (.lit (.bool false))) (.n2 (.bin .geq) (.n1 .lens (.slot 19)) (.n1 .lens (.slot 11))) (.lit (.bool false))) (.n2 (.bin .leq) (.n1 .lens (.slot 19)) (.n2 (.bin .add) (.n1 .lens (.slot 11)) (.n1 .lens (.slot 12)))) (.lit (.bool false))) true (.n1 .lens (.slot 11))),
    .need (.gif (.n3 .pick (.n3 .pick (.n3 .pick (.slot 7) (.n2 (.bin .eql) (.slot 20) (.lit (.int .i64 0))) (.lit (.bool false))) (.n2 (.bin .geq) (.n1 .lens (.slot 19)) (.n1 .lens (.slot 11))) (.lit (.bool false))) (.n2 (.bin .leq) (.n1 .lens (.slot 19)) (.n2 (.bin .add) (.n1 .lens (.slot 11)) (.n1 .lens (.slot 12)))) (.lit (.bool false))) true (.n3 (.sls false true) (.slot 19) (.lit (.tuple #[])) (.n1 .lens (.slot 11)))),
    .need (.gif (.n3 .pick (.n3 .pick (.n3 .pick (.slot 7) (.n2 (.bin .eql) (.slot 20) (.lit (.int .i64 0))) (.lit (.bool false))) (.n2 (.bin .geq) (.n1 .lens (.slot 19)) (.n1 .lens (.slot 11))) (.lit (.bool false))) (.n2 (.bin .leq) (.n1 .lens (.slot 19)) (.n2 (.bin .add) (.n1 .lens (.slot 11)) (.n1 .lens (.slot 12)))) (.lit (.bool false))) true (.n2 (.sbin .eql) (.n3 (.sls false true) (.slot 19) (.lit (.tuple #[])) (.n1 .lens (.slot 11))) (.slot 11))),
    .need (.n3 .pick (.n3 .pick (.n3 .pick (.n3 .pick (.slot 7) (.n2 (.bin .eql) (.slot 20) (.lit (.int .i64 0))) (.lit (.bool false))) (.n2 (.bin .geq) (.n1 .lens (.slot 19)) (.n1 .lens (.slot 11))) (.lit (.bool false))) (.n2 (.bin .leq) (.n1 .lens (.slot 19)) (.n2 (.bin .add) (.n1 .lens (.slot 11)) (.n1 .lens (.slot 12)))) (.lit (.bool false))) (.n2 (.sbin .eql) (.n3 (.sls false true) (.slot 19) (.lit (.tuple #[])) (.n1 .lens (.slot 11))) (.slot 11)) (.lit (.bool false))),
    .need (.gif (.n3 .pick (.n3 .pick (.n3 .pick (.n3 .pick (.slot 7) (.n2 (.bin .eql) (.slot 20) (.lit (.int .i64 0))) (.lit (.bool false))) (.n2 (.bin .geq) (.n1 .lens (.slot 19)) (.n1 .lens (.slot 11))) (.lit (.bool false))) (.n2 (.bin .leq) (.n1 .lens (.slot 19)) (.n2 (.bin .add) (.n1 .lens (.slot 11)) (.n1 .lens (.slot 12)))) (.lit (.bool false))) (.n2 (.sbin .eql) (.n3 (.sls false true) (.slot 19) (.lit (.tuple #[])) (.n1 .lens (.slot 11))) (.slot 11)) (.lit (.bool false))) true (.n1 .lensl (.slot 2))),
    .need (.gif (.n3 .pick (.n3 .pick (.n3 .pick (.n3 .pick (.slot 7) (.n2 (.bin .eql) (.slot 20) (.lit (.int .i64 0))) (.lit (.bool false))) (.n2 (.bin .geq) (.n1 .lens (.slot 19)) (.n1 .lens (.slot 11))) (.lit (.bool false))) (.n2 (.bin .leq) (.n1 .lens (.slot 19)) (.n2 (.bin .add) (.n1 .lens (.slot 11)) (.n1 .lens (.slot 12)))) (.lit (.bool false))) (.n2 (.sbin .eql) (.n3 (.sls false true) (.slot 19) (.lit (.tuple #[])) (.n1 .lens (.slot 11))) (.slot 11)) (.lit (.bool false))) true (.n2 (.bin .gtr) (.n1 .lensl (.slot 2)) (.lit (.int .i64 0)))),
    .need (.gif (.gif (.n3 .pick (.n3 .pick (.n3 .pick (.n3 .pick (.slot 7) (.n2 (.bin .eql) (.slot 20) (.lit (.int .i64 0))) (.lit (.bool false))) (.n2 (.bin .geq) (.n1 .lens (.slot 19)) (.n1 .lens (.slot 11))) (.lit (.bool false))) (.n2 (.bin .leq) (.n1 .lens (.slot 19)) (.n2 (.bin .add) (.n1 .lens (.slot 11)) (.n1 .lens (.slot 12)))) (.lit (.bool false))) (.n2 (.sbin .eql) (.n3 (.sls false true) (.slot 19) (.lit (.tuple #[])) (.n1 .lens (.slot 11))) (.slot 11)) (.lit (.bool false))) true (.n2 (.bin .gtr) (.n1 .lensl (.slot 2)) (.lit (.int .i64 0)))) false (.n2 (.sbin .eql) (.slot 19) (.slot 11))),
    .need (.gif (.n3 .pick (.n3 .pick (.n3 .pick (.n3 .pick (.slot 7) (.n2 (.bin .eql) (.slot 20) (.lit (.int .i64 0))) (.lit (.bool false))) (.n2 (.bin .geq) (.n1 .lens (.slot 19)) (.n1 .lens (.slot 11))) (.lit (.bool false))) (.n2 (.bin .leq) (.n1 .lens (.slot 19)) (.n2 (.bin .add) (.n1 .lens (.slot 11)) (.n1 .lens (.slot 12)))) (.lit (.bool false))) (.n2 (.sbin .eql) (.n3 (.sls false true) (.slot 19) (.lit (.tuple #[])) (.n1 .lens (.slot 11))) (.slot 11)) (.lit (.bool false))) true (.n3 .pick (.n2 (.bin .gtr) (.n1 .lensl (.slot 2)) (.lit (.int .i64 0))) (.lit (.bool true)) (.n2 (.sbin .eql) (.slot 19) (.slot 11)))),
    .need (.n3 .pick (.n3 .pick (.n3 .pick (.n3 .pick (.n3 .pick (.slot 7) (.n2 (.bin .eql) (.slot 20) (.lit (.int .i64 0))) (.lit (.bool false))) (.n2 (.bin .geq) (.n1 .lens (.slot 19)) (.n1 .lens (.slot 11))) (.lit (.bool false))) (.n2 (.bin .leq) (.n1 .lens (.slot 19)) (.n2 (.bin .add) (.n1 .lens (.slot 11)) (.n1 .lens (.slot 12)))) (.lit (.bool false))) (.n2 (.sbin .eql) (.n3 (.sls false true) (.slot 19) (.lit (.tuple #[])) (.n1 .lens (.slot 11))) (.slot 11)) (.lit (.bool false))) (.n3 .pick (.n2 (.bin .gtr) (.n1 .lensl (.slot 2)) (.lit (.int .i64 0))) (.lit (.bool true)) (.n2 (.sbin .eql) (.slot 19) (.slot 11))) (.lit (.bool false))),
    .asg 6 (.n3 .pick (.n3 .pick (.n3 .pick (.n3 .pick (.n3 .pick (.slot 7) (.n2 (.bin .eql) (.slot 20) (.lit (.int .i64 0))) (.lit (.bool false))) (.n2 (.bin .geq) (.n1 .lens (.slot 19)) (.n1 .lens (.slot 11))) (.lit (.bool false))) (.n2 (.bin .leq) (.n1 .lens (.slot 19)) (.n2 (.bin .add) (.n1 .lens (.slot 11)) (.n1 .lens (.slot 12)))) (.lit (.bool false))) (.n2 (.sbin .eql) (.n3 (.sls false true) (.slot 19) (.lit (.tuple #[])) (.n1 .lens (.slot 11))) (.slot 11)) (.lit (.bool false))) (.n3 .pick (.n2 (.bin .gtr) (.n1 .lensl (.slot 2)) (.lit (.int .i64 0))) (.lit (.bool true)) (.n2 (.sbin .eql) (.slot 19) (.slot 11))) (.lit (.bool false)))])
  .ret)))
def h6_11 : HC :=
  (.seq
  (.seq
  (.reg [.eff (some 145) (.call { callee := .value (.func 21), args := #[.tmp 144], argTypes := #[24] }) 4 [(144, .slot 8)] none [],
    .need (.n1 .bnot (.slot 145)),
    .asg 146 (.n1 .bnot (.slot 145))])
  (.cond (.slot 146)
    (.seq
    (.reg [.eff (some 149) (.call { callee := .value (.func 17), args := #[.tmp 148, .const (.int .i64 0)], argTypes := #[24, 3] }) 31 [(148, .slot 8)] none [],
      .need (.n1 (.ext 0) (.slot 149)),
      .need (.n1 (.ext 1) (.slot 149)),
      .asg 17 (.n1 (.ext 0) (.slot 149)),
      .asg 18 (.n1 (.ext 1) (.slot 149))])
    (.seq
    (.reg [.need (.gif (.slot 7) true (.n2 (.bin .eql) (.slot 18) (.lit (.int .i64 0)))),
      .need (.n3 .pick (.slot 7) (.n2 (.bin .eql) (.slot 18) (.lit (.int .i64 0))) (.lit (.bool false))),
      .need (.gif (.n3 .pick (.slot 7) (.n2 (.bin .eql) (.slot 18) (.lit (.int .i64 0))) (.lit (.bool false))) true (.n2 (.sbin .add) (.slot 11) (.slot 12))),
      .need (.gif (.n3 .pick (.slot 7) (.n2 (.bin .eql) (.slot 18) (.lit (.int .i64 0))) (.lit (.bool false))) true (.n2 (.sbin .eql) (.slot 17) (.n2 (.sbin .add) (.slot 11) (.slot 12)))),
      .need (.n3 .pick (.n3 .pick (.slot 7) (.n2 (.bin .eql) (.slot 18) (.lit (.int .i64 0))) (.lit (.bool false))) (.n2 (.sbin .eql) (.slot 17) (.n2 (.sbin .add) (.slot 11) (.slot 12))) (.lit (.bool false))),
      .need (.gif (.n3 .pick (.n3 .pick (.slot 7) (.n2 (.bin .eql) (.slot 18) (.lit (.int .i64 0))) (.lit (.bool false))) (.n2 (.sbin .eql) (.slot 17) (.n2 (.sbin .add) (.slot 11) (.slot 12))) (.lit (.bool false))) true (.n2 (.bin .lss) (.slot 13) (.slot 1))),
      .need (.n3 .pick (.n3 .pick (.n3 .pick (.slot 7) (.n2 (.bin .eql) (.slot 18) (.lit (.int .i64 0))) (.lit (.bool false))) (.n2 (.sbin .eql) (.slot 17) (.n2 (.sbin .add) (.slot 11) (.slot 12))) (.lit (.bool false))) (.n2 (.bin .lss) (.slot 13) (.slot 1)) (.lit (.bool false))),
      .asg 6 (.n3 .pick (.n3 .pick (.n3 .pick (.slot 7) (.n2 (.bin .eql) (.slot 18) (.lit (.int .i64 0))) (.lit (.bool false))) (.n2 (.sbin .eql) (.slot 17) (.n2 (.sbin .add) (.slot 11) (.slot 12))) (.lit (.bool false))) (.n2 (.bin .lss) (.slot 13) (.slot 1)) (.lit (.bool false)))])
    .ret))
    .skip))
  h6_12)
def h6_5 : HC :=
  (.seq
  (.reg [.eff (some 68) (.call { callee := .value (.func 26), args := #[.tmp 65, .tmp 66, .tmp 67], argTypes := #[24, 3, 22] }) 0 [(65, .slot 8), (66, .slot 1), (67, .slot 2)] none []])
  (.seq
  (.reg [.asg 11 (.lit (str []))])
  (.seq
  (.reg [.asg 12 (.lit (str []))])
  (.seq
  (.reg [.asg 13 (.lit (.int .i64 0))])
  (.seq
  (.seq
  (.reg [.asg 14 (.lit (.int .i64 0))])
  (.block 2
    (.loop
      h6_6)))
  h6_11)))))
def h6_4 : HC :=
  (.seq
  (.seq
  (.reg [.need (.n2 (.pnil false) (.slot 8) (.lit (.pointer none))),
    .need (.gif (.n2 (.pnil false) (.slot 8) (.lit (.pointer none))) false (.n1 .lensl (.slot 0))),
    .need (.gif (.n2 (.pnil false) (.slot 8) (.lit (.pointer none))) false (.n2 (.bin .gtr) (.n1 .lensl (.slot 0)) (.lit (.int .i64 50)))),
    .need (.n3 .pick (.n2 (.pnil false) (.slot 8) (.lit (.pointer none))) (.lit (.bool true)) (.n2 (.bin .gtr) (.n1 .lensl (.slot 0)) (.lit (.int .i64 50)))),
    .need (.gif (.n3 .pick (.n2 (.pnil false) (.slot 8) (.lit (.pointer none))) (.lit (.bool true)) (.n2 (.bin .gtr) (.n1 .lensl (.slot 0)) (.lit (.int .i64 50)))) false (.n2 (.bin .gtr) (.slot 9) (.lit (.int .i64 20000)))),
    .need (.n3 .pick (.n3 .pick (.n2 (.pnil false) (.slot 8) (.lit (.pointer none))) (.lit (.bool true)) (.n2 (.bin .gtr) (.n1 .lensl (.slot 0)) (.lit (.int .i64 50)))) (.lit (.bool true)) (.n2 (.bin .gtr) (.slot 9) (.lit (.int .i64 20000)))),
    .need (.gif (.n3 .pick (.n3 .pick (.n2 (.pnil false) (.slot 8) (.lit (.pointer none))) (.lit (.bool true)) (.n2 (.bin .gtr) (.n1 .lensl (.slot 0)) (.lit (.int .i64 50)))) (.lit (.bool true)) (.n2 (.bin .gtr) (.slot 9) (.lit (.int .i64 20000)))) false (.n2 (.bin .lss) (.slot 1) (.lit (.int .i64 1)))),
    .need (.n3 .pick (.n3 .pick (.n3 .pick (.n2 (.pnil false) (.slot 8) (.lit (.pointer none))) (.lit (.bool true)) (.n2 (.bin .gtr) (.n1 .lensl (.slot 0)) (.lit (.int .i64 50)))) (.lit (.bool true)) (.n2 (.bin .gtr) (.slot 9) (.lit (.int .i64 20000)))) (.lit (.bool true)) (.n2 (.bin .lss) (.slot 1) (.lit (.int .i64 1)))),
    .need (.gif (.n3 .pick (.n3 .pick (.n3 .pick (.n2 (.pnil false) (.slot 8) (.lit (.pointer none))) (.lit (.bool true)) (.n2 (.bin .gtr) (.n1 .lensl (.slot 0)) (.lit (.int .i64 50)))) (.lit (.bool true)) (.n2 (.bin .gtr) (.slot 9) (.lit (.int .i64 20000)))) (.lit (.bool true)) (.n2 (.bin .lss) (.slot 1) (.lit (.int .i64 1)))) false (.n2 (.bin .gtr) (.slot 1) (.lit (.int .i64 100)))),
    .need (.n3 .pick (.n3 .pick (.n3 .pick (.n3 .pick (.n2 (.pnil false) (.slot 8) (.lit (.pointer none))) (.lit (.bool true)) (.n2 (.bin .gtr) (.n1 .lensl (.slot 0)) (.lit (.int .i64 50)))) (.lit (.bool true)) (.n2 (.bin .gtr) (.slot 9) (.lit (.int .i64 20000)))) (.lit (.bool true)) (.n2 (.bin .lss) (.slot 1) (.lit (.int .i64 1)))) (.lit (.bool true)) (.n2 (.bin .gtr) (.slot 1) (.lit (.int .i64 100)))),
    .need (.gif (.n3 .pick (.n3 .pick (.n3 .pick (.n3 .pick (.n2 (.pnil false) (.slot 8) (.lit (.pointer none))) (.lit (.bool true)) (.n2 (.bin .gtr) (.n1 .lensl (.slot 0)) (.lit (.int .i64 50)))) (.lit (.bool true)) (.n2 (.bin .gtr) (.slot 9) (.lit (.int .i64 20000)))) (.lit (.bool true)) (.n2 (.bin .lss) (.slot 1) (.lit (.int .i64 1)))) (.lit (.bool true)) (.n2 (.bin .gtr) (.slot 1) (.lit (.int .i64 100)))) false (.n1 .lensl (.slot 2))),
    .need (.gif (.n3 .pick (.n3 .pick (.n3 .pick (.n3 .pick (.n2 (.pnil false) (.slot 8) (.lit (.pointer none))) (.lit (.bool true)) (.n2 (.bin .gtr) (.n1 .lensl (.slot 0)) (.lit (.int .i64 50)))) (.lit (.bool true)) (.n2 (.bin .gtr) (.slot 9) (.lit (.int .i64 20000)))) (.lit (.bool true)) (.n2 (.bin .lss) (.slot 1) (.lit (.int .i64 1)))) (.lit (.bool true)) (.n2 (.bin .gtr) (.slot 1) (.lit (.int .i64 100)))) false (.n2 (.bin .gtr) (.n1 .lensl (.slot 2)) (.lit (.int .i64 1000)))),
    .need (.n3 .pick (.n3 .pick (.n3 .pick (.n3 .pick (.n3 .pick (.n2 (.pnil false) (.slot 8) (.lit (.pointer none))) (.lit (.bool true)) (.n2 (.bin .gtr) (.n1 .lensl (.slot 0)) (.lit (.int .i64 50)))) (.lit (.bool true)) (.n2 (.bin .gtr) (.slot 9) (.lit (.int .i64 20000)))) (.lit (.bool true)) (.n2 (.bin .lss) (.slot 1) (.lit (.int .i64 1)))) (.lit (.bool true)) (.n2 (.bin .gtr) (.slot 1) (.lit (.int .i64 100)))) (.lit (.bool true)) (.n2 (.bin .gtr) (.n1 .lensl (.slot 2)) (.lit (.int .i64 1000)))),
    .asg 59 (.n3 .pick (.n3 .pick (.n3 .pick (.n3 .pick (.n3 .pick (.n2 (.pnil false) (.slot 8) (.lit (.pointer none))) (.lit (.bool true)) (.n2 (.bin .gtr) (.n1 .lensl (.slot 0)) (.lit (.int .i64 50)))) (.lit (.bool true)) (.n2 (.bin .gtr) (.slot 9) (.lit (.int .i64 20000)))) (.lit (.bool true)) (.n2 (.bin .lss) (.slot 1) (.lit (.int .i64 1)))) (.lit (.bool true)) (.n2 (.bin .gtr) (.slot 1) (.lit (.int .i64 100)))) (.lit (.bool true)) (.n2 (.bin .gtr) (.n1 .lensl (.slot 2)) (.lit (.int .i64 1000))))])
  (.cond (.slot 59)
    (.seq
    (.reg [.need (.gif (.slot 7) true (.n2 (.pnil true) (.slot 8) (.lit (.pointer none)))),
      .need (.n3 .pick (.slot 7) (.n2 (.pnil true) (.slot 8) (.lit (.pointer none))) (.lit (.bool false))),
      .asg 6 (.n3 .pick (.slot 7) (.n2 (.pnil true) (.slot 8) (.lit (.pointer none))) (.lit (.bool false)))])
    .ret)
    .skip))
  h6_5)
def h6 : HC :=
  (.seq
  (.reg [.asg 6 (.lit (.bool false))])
  (.seq
  (.reg [.eff (some 21) (.call { callee := .value (.func 10), args := #[], argTypes := #[] }) 4 [] none [],
    .asg 7 (.slot 21)])
  (.seq
  (.reg [.eff (some 22) (.call { callee := .value (.func 11), args := #[], argTypes := #[] }) 24 [] none [],
    .asg 8 (.slot 22)])
  (.seq
  (.reg [.asg 9 (.lit (.int .i64 0))])
  (.seq
  (.seq
  (.reg [.asg 10 (.lit (.int .i64 0))])
  (.block 0
    (.loop
      h6_1)))
  h6_4)))))
theorem k6 : fnOK Try.prog 13469199938812187486228105609765798457406860763856839 [] [.tmp 6] 3 Try.f6 = some h6 := by kernel_rfl
theorem c6 : callable Try.prog 6 = true := by kernel_rfl
theorem q6 {args : List Value} (ha : args.length = 3) {w : World} {next : Value → World → Prop} {QP : List PanicEntry → World → Prop} (H : hw Try.prog noPanic h6 (endV [.tmp 6] next) (σ0 args) w) : callK Try.prog 6 args w next QP := fn_rule Try.func6 mixed k6 ha H
theorem r6 {args : List Value} (ha : args.length = 3) {w : World} {next : Value → World → Prop} {QP : List PanicEntry → World → Prop} (H : hw Try.prog noPanic h6 (endV [.tmp 6] next) (σ0 args) w) : callvK Try.prog (.func (.func 6) #[] #[]) args w next QP := callf c6 (q6 ha H)

/- missive/missivelaw05.DiskLoses -/
def h7_6 : HC :=
  (.seq
  (.reg [.need (.n2 (.bin .neq) (.slot 10) (.lit (.int .i64 0))),
    .need (.gif (.n2 (.bin .neq) (.slot 10) (.lit (.int .i64 0))) false (.n2 (.sbin .neq) (.slot 9) (.lit (str [])))),
    .need (.n3 .pick (.n2 (.bin .neq) (.slot 10) (.lit (.int .i64 0))) (.lit (.bool true)) (.n2 (.sbin .neq) (.slot 9) (.lit (str [])))),
    .asg 69 (.n3 .pick (.n2 (.bin .neq) (.slot 10) (.lit (.int .i64 0))) (.lit (.bool true)) (.n2 (.sbin .neq) (.slot 9) (.lit (str []))))])
  (.cond (.slot 69)
    (.seq
    (.reg [.asg 4 (.lit (.bool false))])
    .ret)
    .skip))
def h7_5 : HC :=
  (.seq
  (.reg [.eff (some 54) (.call { callee := .value (.func 13), args := #[.tmp 53, .const (.int .i64 0)], argTypes := #[24, 3] }) 26 [(53, .slot 8)] none []])
  (.seq
  (.reg [.eff (some 56) (.call { callee := .value (.func 15), args := #[.tmp 55, .const (.slice none 0 0)], argTypes := #[24, 22] }) 0 [(55, .slot 8)] none []])
  (.seq
  (.reg [.eff (some 58) (.call { callee := .value (.func 16), args := #[.tmp 57], argTypes := #[24] }) 0 [(57, .slot 8)] none []])
  (.seq
  (.reg [.eff (some 61) (.call { callee := .value (.func 17), args := #[.tmp 60, .const (.int .i64 0)], argTypes := #[24, 3] }) 31 [(60, .slot 8)] none [],
    .need (.n1 (.ext 0) (.slot 61)),
    .need (.n1 (.ext 1) (.slot 61)),
    .asg 9 (.n1 (.ext 0) (.slot 61)),
    .asg 10 (.n1 (.ext 1) (.slot 61))])
  h7_6))))
def h7_7 : HC :=
  (.reg [.need (.n2 (.bin .add) (.slot 7) (.lit (.int .i64 1))),
    .asg 7 (.n2 (.bin .add) (.slot 7) (.lit (.int .i64 1)))])
def h7_4 : HC :=
  (.seq
  (.block 1
    (.seq
    (.reg [.eff (some 45) (.call { callee := .value (.func 28), args := #[.tmp 44], argTypes := #[24] }) 24 [(44, .slot 6)] none [],
      .asg 8 (.slot 45)])
    (.seq
    (.seq
    (.reg [.need (.n2 (.pnil false) (.slot 8) (.lit (.pointer none))),
      .eff (some 50) (.call { callee := .value (.func 13), args := #[.tmp 49, .const (.int .i64 0)], argTypes := #[24, 3] }) 26 [(49, .slot 6)] (some (.n2 (.pnil false) (.slot 8) (.lit (.pointer none)), false)) [],
      .need (.gif (.n2 (.pnil false) (.slot 8) (.lit (.pointer none))) false (.n2 (.bin .neq) (.slot 50) (.lit (.int .i64 9)))),
      .need (.n3 .pick (.n2 (.pnil false) (.slot 8) (.lit (.pointer none))) (.lit (.bool true)) (.n2 (.bin .neq) (.slot 50) (.lit (.int .i64 9)))),
      .asg 52 (.n3 .pick (.n2 (.pnil false) (.slot 8) (.lit (.pointer none))) (.lit (.bool true)) (.n2 (.bin .neq) (.slot 50) (.lit (.int .i64 9))))])
    (.cond (.slot 52)
      (.seq
      (.reg [.asg 4 (.lit (.bool false))])
      .ret)
      .skip))
    h7_5)))
  h7_7)
def h7_3 : HC :=
  (.seq
  (.seq
  (.reg [.need (.n2 (.bin .lss) (.slot 7) (.slot 1)),
    .asg 41 (.n2 (.bin .lss) (.slot 7) (.slot 1))])
  (.cond (.slot 41)
    .skip
    (.exit 0)))
  h7_4)
def h7_9 : HC :=
  (.seq
  (.reg [.need (.gif (.slot 5) true (.n2 (.bin .eql) (.slot 11) (.lit (.int .i64 0)))),
    .need (.n3 .pick (.slot 5) (.n2 (.bin .eql) (.slot 11) (.lit (.int .i64 0))) (.lit (.bool false))),
    .need (.gif (.n3 .pick (.slot 5) (.n2 (.bin .eql) (.slot 11) (.lit (.int .i64 0))) (.lit (.bool false))) true (.n2 (.bin .eql) (.slot 13) (.lit (.int .i64 0)))),
    .need (.n3 .pick (.n3 .pick (.slot 5) (.n2 (.bin .eql) (.slot 11) (.lit (.int .i64 0))) (.lit (.bool false))) (.n2 (.bin .eql) (.slot 13) (.lit (.int .i64 0))) (.lit (.bool false))),
    .need (.gif (.n3 .pick (.n3 .pick (.slot 5) (.n2 (.bin .eql) (.slot 11) (.lit (.int .i64 0))) (.lit (.bool false))) (.n2 (.bin .eql) (.slot 13) (.lit (.int .i64 0))) (.lit (.bool false))) true (.n2 (.sbin .eql) (.slot 12) (.slot 0))),
    .need (.n3 .pick (.n3 .pick (.n3 .pick (.slot 5) (.n2 (.bin .eql) (.slot 11) (.lit (.int .i64 0))) (.lit (.bool false))) (.n2 (.bin .eql) (.slot 13) (.lit (.int .i64 0))) (.lit (.bool false))) (.n2 (.sbin .eql) (.slot 12) (.slot 0)) (.lit (.bool false))),
    .asg 4 (.n3 .pick (.n3 .pick (.n3 .pick (.slot 5) (.n2 (.bin .eql) (.slot 11) (.lit (.int .i64 0))) (.lit (.bool false))) (.n2 (.bin .eql) (.slot 13) (.lit (.int .i64 0))) (.lit (.bool false))) (.n2 (.sbin .eql) (.slot 12) (.slot 0)) (.lit (.bool false)))])
  .ret)
def h7_8 : HC :=
  (.seq
  (.reg [.eff (some 71) (.call { callee := .value (.func 13), args := #[.tmp 70, .const (.int .i64 0)], argTypes := #[24, 3] }) 26 [(70, .slot 6)] none [],
    .asg 11 (.slot 71)])
  (.seq
  (.reg [.eff (some 73) (.call { callee := .value (.func 15), args := #[.tmp 72, .const (.slice none 0 0)], argTypes := #[24, 22] }) 0 [(72, .slot 6)] none []])
  (.seq
  (.reg [.eff (some 75) (.call { callee := .value (.func 16), args := #[.tmp 74], argTypes := #[24] }) 0 [(74, .slot 6)] none []])
  (.seq
  (.reg [.eff (some 78) (.call { callee := .value (.func 17), args := #[.tmp 77, .const (.int .i64 0)], argTypes := #[24, 3] }) 31 [(77, .slot 6)] none [],
    .need (.n1 (.ext 0) (.slot 78)),
    .need (.n1 (.ext 1) (.slot 78)),
    .asg 12 (.n1 (.ext 0) (.slot 78)),
    .asg 13 (.n1 (.ext 1) (.slot 78))])
  h7_9))))
def h7_2 : HC :=
  (.seq
  (.seq
  (.reg [.asg 7 (.lit (.int .i64 0))])
  (.block 0
    (.loop
      h7_3)))
  h7_8)
def h7_1 : HC :=
  (.seq
  (.reg [.eff (some 34) (.call { callee := .value (.func 27), args := #[.tmp 32, .tmp 33], argTypes := #[24, 3] }) 0 [(32, .slot 6), (33, .slot 1)] none []])
  (.seq
  (.seq
  (.reg [.eff (some 37) (.call { callee := .value (.func 12), args := #[.tmp 35, .const (.int .i64 0), .const (.int .i64 0), .tmp 36], argTypes := #[24, 3, 3, 9] }) 26 [(35, .slot 6), (36, .slot 0)] none [],
    .need (.n2 (.bin .neq) (.slot 37) (.lit (.int .i64 0))),
    .asg 38 (.n2 (.bin .neq) (.slot 37) (.lit (.int .i64 0)))])
  (.cond (.slot 38)
    (.seq
    (.reg [.asg 4 (.lit (.bool false))])
    .ret)
    .skip))
  h7_2))
def h7 : HC :=
  (.seq
  (.reg [.asg 4 (.lit (.bool false))])
  (.seq
  (.reg [.eff (some 14) (.call { callee := .value (.func 10), args := #[], argTypes := #[] }) 4 [] none [],
    .asg 5 (.slot 14)])
  (.seq
  (.reg [.eff (some 15) (.call { callee := .value (.func 11), args := #[], argTypes := #[] }) 24 [] none [],
    .asg 6 (.slot 15)])
  (.seq
  (.seq
  (.reg [.need (.n2 (.pnil false) (.slot 6) (.lit (.pointer none))),
    .need (.gif (.n2 (.pnil false) (.slot 6) (.lit (.pointer none))) false (.n1 .lens (.slot 0))),
    .need (.gif (.n2 (.pnil false) (.slot 6) (.lit (.pointer none))) false (.n2 (.bin .gtr) (.n1 .lens (.slot 0)) (.lit (.int .i64 50000)))),
    .need (.n3 .pick (.n2 (.pnil false) (.slot 6) (.lit (.pointer none))) (.lit (.bool true)) (.n2 (.bin .gtr) (.n1 .lens (.slot 0)) (.lit (.int .i64 50000)))),
    .need (.gif (.n3 .pick (.n2 (.pnil false) (.slot 6) (.lit (.pointer none))) (.lit (.bool true)) (.n2 (.bin .gtr) (.n1 .lens (.slot 0)) (.lit (.int .i64 50000)))) false (.n2 (.bin .gtr) (.slot 1) (.lit (.int .i64 20)))),
    .need (.n3 .pick (.n3 .pick (.n2 (.pnil false) (.slot 6) (.lit (.pointer none))) (.lit (.bool true)) (.n2 (.bin .gtr) (.n1 .lens (.slot 0)) (.lit (.int .i64 50000)))) (.lit (.bool true)) (.n2 (.bin .gtr) (.slot 1) (.lit (.int .i64 20)))),
    .asg 26 (.n3 .pick (.n3 .pick (.n2 (.pnil false) (.slot 6) (.lit (.pointer none))) (.lit (.bool true)) (.n2 (.bin .gtr) (.n1 .lens (.slot 0)) (.lit (.int .i64 50000)))) (.lit (.bool true)) (.n2 (.bin .gtr) (.slot 1) (.lit (.int .i64 20))))])
  (.cond (.slot 26)
    (.seq
    (.reg [.need (.gif (.slot 5) true (.n2 (.pnil true) (.slot 6) (.lit (.pointer none)))),
      .need (.n3 .pick (.slot 5) (.n2 (.pnil true) (.slot 6) (.lit (.pointer none))) (.lit (.bool false))),
      .asg 4 (.n3 .pick (.slot 5) (.n2 (.pnil true) (.slot 6) (.lit (.pointer none))) (.lit (.bool false)))])
    .ret)
    .skip))
  h7_1))))
theorem k7 : fnOK Try.prog 352409288596837680349171 [] [.tmp 4] 2 Try.f7 = some h7 := by kernel_rfl
theorem c7 : callable Try.prog 7 = true := by kernel_rfl
theorem q7 {args : List Value} (ha : args.length = 2) {w : World} {next : Value → World → Prop} {QP : List PanicEntry → World → Prop} (H : hw Try.prog noPanic h7 (endV [.tmp 4] next) (σ0 args) w) : callK Try.prog 7 args w next QP := fn_rule Try.func7 mixed k7 ha H
theorem r7 {args : List Value} (ha : args.length = 2) {w : World} {next : Value → World → Prop} {QP : List PanicEntry → World → Prop} (H : hw Try.prog noPanic h7 (endV [.tmp 4] next) (σ0 args) w) : callvK Try.prog (.func (.func 7) #[] #[]) args w next QP := callf c7 (q7 ha H)

/- missive/missivelaw05.DiskDown -/
def l9_1 : List HS :=
  .need (.gif (.n3 .pick (.n1 .bnot (.slot 19)) (.lit (.bool true)) (.n2 (.pnil false) (.slot 6) (.lit (.pointer none)))) false (.n1 .bnot (.slot 28))) ::
  .need (.n3 .pick (.n3 .pick (.n1 .bnot (.slot 19)) (.lit (.bool true)) (.n2 (.pnil false) (.slot 6) (.lit (.pointer none)))) (.lit (.bool true)) (.n1 .bnot (.slot 28))) ::
  .asg 30 (.n3 .pick (.n3 .pick (.n1 .bnot (.slot 19)) (.lit (.bool true)) (.n2 (.pnil false) (.slot 6) (.lit (.pointer none)))) (.lit (.bool true)) (.n1 .bnot (.slot 28))) ::
  []
def l9_2 : List HS :=
  .eff (some 28) (.call { callee := .value (.func 20), args := #[.tmp 27], argTypes := #[38] }) 4 [(27, .slot 27)] (some (.n3 .pick (.n1 .bnot (.slot 19)) (.lit (.bool true)) (.n2 (.pnil false) (.slot 6) (.lit (.pointer none))), false)) [] ::
  l9_1
def h9_6 : HC :=
  (.reg [.need (.n2 (.bin .add) (.slot 7) (.lit (.int .i64 1))),
    .asg 7 (.n2 (.bin .add) (.slot 7) (.lit (.int .i64 1)))])
def h9_5 : HC :=
  (.seq
  (.block 1
    (.reg [.need (.n2 (.iaddr 6) (.slot 0) (.slot 7)),
      .need (.n1 (.ldn 6) (.n2 (.iaddr 6) (.slot 0) (.slot 7))),
      .eff (some 47) (.call { callee := .value (.func 23), args := #[.tmp 42, .tmp 46], argTypes := #[24, 42] }) 31 [(42, .slot 6), (46, .n1 (.ldn 6) (.n2 (.iaddr 6) (.slot 0) (.slot 7)))] none []]))
  h9_6)
def h9_4 : HC :=
  (.seq
  (.seq
  (.reg [.need (.n1 .lensl (.slot 0)),
    .need (.n2 (.bin .lss) (.slot 7) (.n1 .lensl (.slot 0))),
    .asg 39 (.n2 (.bin .lss) (.slot 7) (.n1 .lensl (.slot 0)))])
  (.cond (.slot 39)
    .skip
    (.exit 0)))
  h9_5)
def l9_8 : List HS :=
  .need (.gif (.n3 .pick (.n3 .pick (.n3 .pick (.n3 .pick (.n2 (.bin .neq) (.slot 67) (.lit (.int .i64 1))) (.lit (.bool true)) (.n2 (.bin .neq) (.slot 73) (.lit (.int .i64 1)))) (.lit (.bool true)) (.n2 (.bin .neq) (.slot 80) (.lit (.int .i64 1)))) (.lit (.bool true)) (.n2 (.bin .neq) (.slot 87) (.lit (.int .i64 1)))) (.lit (.bool true)) (.n2 (.bin .neq) (.slot 94) (.lit (.int .i64 1)))) false (.n2 (.bin .neq) (.slot 101) (.lit (.int .i64 0)))) ::
  .need (.n3 .pick (.n3 .pick (.n3 .pick (.n3 .pick (.n3 .pick (.n2 (.bin .neq) (.slot 67) (.lit (.int .i64 1))) (.lit (.bool true)) (.n2 (.bin .neq) (.slot 73) (.lit (.int .i64 1)))) (.lit (.bool true)) (.n2 (.bin .neq) (.slot 80) (.lit (.int .i64 1)))) (.lit (.bool true)) (.n2 (.bin .neq) (.slot 87) (.lit (.int .i64 1)))) (.lit (.bool true)) (.n2 (.bin .neq) (.slot 94) (.lit (.int .i64 1)))) (.lit (.bool true)) (.n2 (.bin .neq) (.slot 101) (.lit (.int .i64 0)))) ::
  .asg 103 (.n3 .pick (.n3 .pick (.n3 .pick (.n3 .pick (.n3 .pick (.n2 (.bin .neq) (.slot 67) (.lit (.int .i64 1))) (.lit (.bool true)) (.n2 (.bin .neq) (.slot 73) (.lit (.int .i64 1)))) (.lit (.bool true)) (.n2 (.bin .neq) (.slot 80) (.lit (.int .i64 1)))) (.lit (.bool true)) (.n2 (.bin .neq) (.slot 87) (.lit (.int .i64 1)))) (.lit (.bool true)) (.n2 (.bin .neq) (.slot 94) (.lit (.int .i64 1)))) (.lit (.bool true)) (.n2 (.bin .neq) (.slot 101) (.lit (.int .i64 0)))) ::
  []
def l9_9 : List HS :=
  .need (.gif (.n3 .pick (.n3 .pick (.n3 .pick (.n2 (.bin .neq) (.slot 67) (.lit (.int .i64 1))) (.lit (.bool true)) (.n2 (.bin .neq) (.slot 73) (.lit (.int .i64 1)))) (.lit (.bool true)) (.n2 (.bin .neq) (.slot 80) (.lit (.int .i64 1)))) (.lit (.bool true)) (.n2 (.bin .neq) (.slot 87) (.lit (.int .i64 1)))) false (.n2 (.bin .neq) (.slot 94) (.lit (.int .i64 1)))) ::
  .need (.n3 .pick (.n3 .pick (.n3 .pick (.n3 .pick (.n2 (.bin .neq) (.slot 67) (.lit (.int .i64 1))) (.lit (.bool true)) (.n2 (.bin .neq) (.slot 73) (.lit (.int .i64 1)))) (.lit (.bool true)) (.n2 (.bin .neq) (.slot 80) (.lit (.int .i64 1)))) (.lit (.bool true)) (.n2 (.bin .neq) (.slot 87) (.lit (.int .i64 1)))) (.lit (.bool true)) (.n2 (.bin .neq) (.slot 94) (.lit (.int .i64 1)))) ::
  .need (.gif (.n3 .pick (.n3 .pick (.n3 .pick (.n3 .pick (.n2 (.bin .neq) (.slot 67) (.lit (.int .i64 1))) (.lit (.bool true)) (.n2 (.bin .neq) (.slot 73) (.lit (.int .i64 1)))) (.lit (.bool true)) (.n2 (.bin .neq) (.slot 80) (.lit (.int .i64 1)))) (.lit (.bool true)) (.n2 (.bin .neq) (.slot 87) (.lit (.int .i64 1)))) (.lit (.bool true)) (.n2 (.bin .neq) (.slot 94) (.lit (.int .i64 1)))) false (.n1 (.faddr 1) (.slot 3))) ::
  .need (.gif (.n3 .pick (.n3 .pick (.n3 .pick (.n3 .pick (.n2 (.bin .neq) (.slot 67) (.lit (.int .i64 1))) (.lit (.bool true)) (.n2 (.bin .neq) (.slot 73) (.lit (.int .i64 1)))) (.lit (.bool true)) (.n2 (.bin .neq) (.slot 80) (.lit (.int .i64 1)))) (.lit (.bool true)) (.n2 (.bin .neq) (.slot 87) (.lit (.int .i64 1)))) (.lit (.bool true)) (.n2 (.bin .neq) (.slot 94) (.lit (.int .i64 1)))) false (.n1 .ld (.n1 (.faddr 1) (.slot 3)))) ::
  .eff (some 101) (.call { callee := .value (.func 18), args := #[.tmp 98, .tmp 100], argTypes := #[24, 3] }) 3 [(98, .slot 6), (100, .n1 .ld (.n1 (.faddr 1) (.slot 3)))] (some (.n3 .pick (.n3 .pick (.n3 .pick (.n3 .pick (.n2 (.bin .neq) (.slot 67) (.lit (.int .i64 1))) (.lit (.bool true)) (.n2 (.bin .neq) (.slot 73) (.lit (.int .i64 1)))) (.lit (.bool true)) (.n2 (.bin .neq) (.slot 80) (.lit (.int .i64 1)))) (.lit (.bool true)) (.n2 (.bin .neq) (.slot 87) (.lit (.int .i64 1)))) (.lit (.bool true)) (.n2 (.bin .neq) (.slot 94) (.lit (.int .i64 1))), false)) [] ::
  l9_8
def l9_10 : List HS :=
  .need (.gif (.n3 .pick (.n3 .pick (.n2 (.bin .neq) (.slot 67) (.lit (.int .i64 1))) (.lit (.bool true)) (.n2 (.bin .neq) (.slot 73) (.lit (.int .i64 1)))) (.lit (.bool true)) (.n2 (.bin .neq) (.slot 80) (.lit (.int .i64 1)))) false (.n2 (.bin .neq) (.slot 87) (.lit (.int .i64 1)))) ::
  .need (.n3 .pick (.n3 .pick (.n3 .pick (.n2 (.bin .neq) (.slot 67) (.lit (.int .i64 1))) (.lit (.bool true)) (.n2 (.bin .neq) (.slot 73) (.lit (.int .i64 1)))) (.lit (.bool true)) (.n2 (.bin .neq) (.slot 80) (.lit (.int .i64 1)))) (.lit (.bool true)) (.n2 (.bin .neq) (.slot 87) (.lit (.int .i64 1)))) ::
  .need (.gif (.n3 .pick (.n3 .pick (.n3 .pick (.n2 (.bin .neq) (.slot 67) (.lit (.int .i64 1))) (.lit (.bool true)) (.n2 (.bin .neq) (.slot 73) (.lit (.int .i64 1)))) (.lit (.bool true)) (.n2 (.bin .neq) (.slot 80) (.lit (.int .i64 1)))) (.lit (.bool true)) (.n2 (.bin .neq) (.slot 87) (.lit (.int .i64 1)))) false (.n1 (.faddr 1) (.slot 3))) ::
  .need (.gif (.n3 .pick (.n3 .pick (.n3 .pick (.n2 (.bin .neq) (.slot 67) (.lit (.int .i64 1))) (.lit (.bool true)) (.n2 (.bin .neq) (.slot 73) (.lit (.int .i64 1)))) (.lit (.bool true)) (.n2 (.bin .neq) (.slot 80) (.lit (.int .i64 1)))) (.lit (.bool true)) (.n2 (.bin .neq) (.slot 87) (.lit (.int .i64 1)))) false (.n1 .ld (.n1 (.faddr 1) (.slot 3)))) ::
  .eff (some 94) (.call { callee := .value (.func 14), args := #[.tmp 91, .const (.int .i64 1), .tmp 93], argTypes := #[24, 3, 3] }) 26 [(91, .slot 6), (93, .n1 .ld (.n1 (.faddr 1) (.slot 3)))] (some (.n3 .pick (.n3 .pick (.n3 .pick (.n2 (.bin .neq) (.slot 67) (.lit (.int .i64 1))) (.lit (.bool true)) (.n2 (.bin .neq) (.slot 73) (.lit (.int .i64 1)))) (.lit (.bool true)) (.n2 (.bin .neq) (.slot 80) (.lit (.int .i64 1)))) (.lit (.bool true)) (.n2 (.bin .neq) (.slot 87) (.lit (.int .i64 1))), false)) [] ::
  l9_9
def l9_11 : List HS :=
  .need (.gif (.n3 .pick (.n2 (.bin .neq) (.slot 67) (.lit (.int .i64 1))) (.lit (.bool true)) (.n2 (.bin .neq) (.slot 73) (.lit (.int .i64 1)))) false (.n2 (.bin .neq) (.slot 80) (.lit (.int .i64 1)))) ::
  .need (.n3 .pick (.n3 .pick (.n2 (.bin .neq) (.slot 67) (.lit (.int .i64 1))) (.lit (.bool true)) (.n2 (.bin .neq) (.slot 73) (.lit (.int .i64 1)))) (.lit (.bool true)) (.n2 (.bin .neq) (.slot 80) (.lit (.int .i64 1)))) ::
  .need (.gif (.n3 .pick (.n3 .pick (.n2 (.bin .neq) (.slot 67) (.lit (.int .i64 1))) (.lit (.bool true)) (.n2 (.bin .neq) (.slot 73) (.lit (.int .i64 1)))) (.lit (.bool true)) (.n2 (.bin .neq) (.slot 80) (.lit (.int .i64 1)))) false (.n1 (.faddr 1) (.slot 3))) ::
  .need (.gif (.n3 .pick (.n3 .pick (.n2 (.bin .neq) (.slot 67) (.lit (.int .i64 1))) (.lit (.bool true)) (.n2 (.bin .neq) (.slot 73) (.lit (.int .i64 1)))) (.lit (.bool true)) (.n2 (.bin .neq) (.slot 80) (.lit (.int .i64 1)))) false (.n1 .ld (.n1 (.faddr 1) (.slot 3)))) ::
  .eff (some 87) (.call { callee := .value (.func 14), args := #[.tmp 84, .tmp 86, .const (.int .i64 1)], argTypes := #[24, 3, 3] }) 26 [(84, .slot 6), (86, .n1 .ld (.n1 (.faddr 1) (.slot 3)))] (some (.n3 .pick (.n3 .pick (.n2 (.bin .neq) (.slot 67) (.lit (.int .i64 1))) (.lit (.bool true)) (.n2 (.bin .neq) (.slot 73) (.lit (.int .i64 1)))) (.lit (.bool true)) (.n2 (.bin .neq) (.slot 80) (.lit (.int .i64 1))), false)) [] ::
  l9_10
def l9_12 : List HS :=
  .need (.gif (.n2 (.bin .neq) (.slot 67) (.lit (.int .i64 1))) false (.n2 (.bin .neq) (.slot 73) (.lit (.int .i64 1)))) ::
  .need (.n3 .pick (.n2 (.bin .neq) (.slot 67) (.lit (.int .i64 1))) (.lit (.bool true)) (.n2 (.bin .neq) (.slot 73) (.lit (.int .i64 1)))) ::
  .need (.gif (.n3 .pick (.n2 (.bin .neq) (.slot 67) (.lit (.int .i64 1))) (.lit (.bool true)) (.n2 (.bin .neq) (.slot 73) (.lit (.int .i64 1)))) false (.n1 (.faddr 1) (.slot 3))) ::
  .need (.gif (.n3 .pick (.n2 (.bin .neq) (.slot 67) (.lit (.int .i64 1))) (.lit (.bool true)) (.n2 (.bin .neq) (.slot 73) (.lit (.int .i64 1)))) false (.n1 .ld (.n1 (.faddr 1) (.slot 3)))) ::
  .eff (some 80) (.call { callee := .value (.func 36), args := #[.tmp 77, .tmp 79, .const (.int .i64 0)], argTypes := #[24, 3, 3] }) 26 [(77, .slot 6), (79, .n1 .ld (.n1 (.faddr 1) (.slot 3)))] (some (.n3 .pick (.n2 (.bin .neq) (.slot 67) (.lit (.int .i64 1))) (.lit (.bool true)) (.n2 (.bin .neq) (.slot 73) (.lit (.int .i64 1))), false)) [] ::
  l9_11
def h9_13 : HC :=
  (.cond (.slot 103)
    (.seq
    (.reg [.asg 4 (.lit (.bool false))])
    .ret)
    .skip)
def l9_17 : List HS :=
  .need (.gif (.n3 .pick (.n3 .pick (.n3 .pick (.n3 .pick (.n3 .pick (.n2 (.sbin .neq) (.slot 9) (.lit (str []))) (.lit (.bool true)) (.n2 (.bin .neq) (.slot 10) (.lit (.int .i64 8)))) (.lit (.bool true)) (.n2 (.bin .neq) (.slot 136) (.lit (.int .i64 8)))) (.lit (.bool true)) (.n2 (.bin .neq) (.slot 143) (.lit (.int .i64 8)))) (.lit (.bool true)) (.n2 (.bin .neq) (.slot 152) (.lit (.int .i64 8)))) (.lit (.bool true)) (.n2 (.bin .neq) (.slot 161) (.lit (.int .i64 8)))) false (.n1 .bnot (.slot 166))) ::
  .need (.n3 .pick (.n3 .pick (.n3 .pick (.n3 .pick (.n3 .pick (.n3 .pick (.n2 (.sbin .neq) (.slot 9) (.lit (str []))) (.lit (.bool true)) (.n2 (.bin .neq) (.slot 10) (.lit (.int .i64 8)))) (.lit (.bool true)) (.n2 (.bin .neq) (.slot 136) (.lit (.int .i64 8)))) (.lit (.bool true)) (.n2 (.bin .neq) (.slot 143) (.lit (.int .i64 8)))) (.lit (.bool true)) (.n2 (.bin .neq) (.slot 152) (.lit (.int .i64 8)))) (.lit (.bool true)) (.n2 (.bin .neq) (.slot 161) (.lit (.int .i64 8)))) (.lit (.bool true)) (.n1 .bnot (.slot 166))) ::
  .asg 168 (.n3 .pick (.n3 .pick (.n3 .pick (.n3 .pick (.n3 .pick (.n3 .pick (.n2 (.sbin .neq) (.slot 9) (.lit (str []))) (.lit (.bool true)) (.n2 (.bin .neq) (.slot 10) (.lit (.int .i64 8)))) (.lit (.bool true)) (.n2 (.bin .neq) (.slot 136) (.lit (.int .i64 8)))) (.lit (.bool true)) (.n2 (.bin .neq) (.slot 143) (.lit (.int .i64 8)))) (.lit (.bool true)) (.n2 (.bin .neq) (.slot 152) (.lit (.int .i64 8)))) (.lit (.bool true)) (.n2 (.bin .neq) (.slot 161) (.lit (.int .i64 8)))) (.lit (.bool true)) (.n1 .bnot (.slot 166))) ::
  []
def l9_18 : List HS :=
  .need (.gif (.n3 .pick (.n3 .pick (.n3 .pick (.n3 .pick (.n2 (.sbin .neq) (.slot 9) (.lit (str []))) (.lit (.bool true)) (.n2 (.bin .neq) (.slot 10) (.lit (.int .i64 8)))) (.lit (.bool true)) (.n2 (.bin .neq) (.slot 136) (.lit (.int .i64 8)))) (.lit (.bool true)) (.n2 (.bin .neq) (.slot 143) (.lit (.int .i64 8)))) (.lit (.bool true)) (.n2 (.bin .neq) (.slot 152) (.lit (.int .i64 8)))) false (.n2 (.bin .neq) (.slot 161) (.lit (.int .i64 8)))) ::
  .need (.n3 .pick (.n3 .pick (.n3 .pick (.n3 .pick (.n3 .pick (.n2 (.sbin .neq) (.slot 9) (.lit (str []))) (.lit (.bool true)) (.n2 (.bin .neq) (.slot 10) (.lit (.int .i64 8)))) (.lit (.bool true)) (.n2 (.bin .neq) (.slot 136) (.lit (.int .i64 8)))) (.lit (.bool true)) (.n2 (.bin .neq) (.slot 143) (.lit (.int .i64 8)))) (.lit (.bool true)) (.n2 (.bin .neq) (.slot 152) (.lit (.int .i64 8)))) (.lit (.bool true)) (.n2 (.bin .neq) (.slot 161) (.lit (.int .i64 8)))) ::
  .eff (some 166) (.call { callee := .value (.func 21), args := #[.tmp 165], argTypes := #[24] }) 4 [(165, .slot 6)] (some (.n3 .pick (.n3 .pick (.n3 .pick (.n3 .pick (.n3 .pick (.n2 (.sbin .neq) (.slot 9) (.lit (str []))) (.lit (.bool true)) (.n2 (.bin .neq) (.slot 10) (.lit (.int .i64 8)))) (.lit (.bool true)) (.n2 (.bin .neq) (.slot 136) (.lit (.int .i64 8)))) (.lit (.bool true)) (.n2 (.bin .neq) (.slot 143) (.lit (.int .i64 8)))) (.lit (.bool true)) (.n2 (.bin .neq) (.slot 152) (.lit (.int .i64 8)))) (.lit (.bool true)) (.n2 (.bin .neq) (.slot 161) (.lit (.int .i64 8))), false)) [] ::
  l9_17
def l9_19 : List HS :=
  .need (.gif (.n3 .pick (.n3 .pick (.n3 .pick (.n2 (.sbin .neq) (.slot 9) (.lit (str []))) (.lit (.bool true)) (.n2 (.bin .neq) (.slot 10) (.lit (.int .i64 8)))) (.lit (.bool true)) (.n2 (.bin .neq) (.slot 136) (.lit (.int .i64 8)))) (.lit (.bool true)) (.n2 (.bin .neq) (.slot 143) (.lit (.int .i64 8)))) false (.n2 (.bin .neq) (.slot 152) (.lit (.int .i64 8)))) ::
  .need (.n3 .pick (.n3 .pick (.n3 .pick (.n3 .pick (.n2 (.sbin .neq) (.slot 9) (.lit (str []))) (.lit (.bool true)) (.n2 (.bin .neq) (.slot 10) (.lit (.int .i64 8)))) (.lit (.bool true)) (.n2 (.bin .neq) (.slot 136) (.lit (.int .i64 8)))) (.lit (.bool true)) (.n2 (.bin .neq) (.slot 143) (.lit (.int .i64 8)))) (.lit (.bool true)) (.n2 (.bin .neq) (.slot 152) (.lit (.int .i64 8)))) ::
  .need (.gif (.n3 .pick (.n3 .pick (.n3 .pick (.n3 .pick (.n2 (.sbin .neq) (.slot 9) (.lit (str []))) (.lit (.bool true)) (.n2 (.bin .neq) (.slot 10) (.lit (.int .i64 8)))) (.lit (.bool true)) (.n2 (.bin .neq) (.slot 136) (.lit (.int .i64 8)))) (.lit (.bool true)) (.n2 (.bin .neq) (.slot 143) (.lit (.int .i64 8)))) (.lit (.bool true)) (.n2 (.bin .neq) (.slot 152) (.lit (.int .i64 8)))) false (.n1 (.faddr 1) (.slot 3))) ::
  .need (.gif (.n3 .pick (.n3 .pick (.n3 .pick (.n3 .pick (.n2 (.sbin .neq) (.slot 9) (.lit (str []))) (.lit (.bool true)) (.n2 (.bin .neq) (.slot 10) (.lit (.int .i64 8)))) (.lit (.bool true)) (.n2 (.bin .neq) (.slot 136) (.lit (.int .i64 8)))) (.lit (.bool true)) (.n2 (.bin .neq) (.slot 143) (.lit (.int .i64 8)))) (.lit (.bool true)) (.n2 (.bin .neq) (.slot 152) (.lit (.int .i64 8)))) false (.n1 .ld (.n1 (.faddr 1) (.slot 3)))) ::
  .need (.gif (.n3 .pick (.n3 .pick (.n3 .pick (.n3 .pick (.n2 (.sbin .neq) (.slot 9) (.lit (str []))) (.lit (.bool true)) (.n2 (.bin .neq) (.slot 10) (.lit (.int .i64 8)))) (.lit (.bool true)) (.n2 (.bin .neq) (.slot 136) (.lit (.int .i64 8)))) (.lit (.bool true)) (.n2 (.bin .neq) (.slot 143) (.lit (.int .i64 8)))) (.lit (.bool true)) (.n2 (.bin .neq) (.slot 152) (.lit (.int .i64 8)))) false (.n1 (.faddr 2) (.slot 3))) ::
  .need (.gif (.n3 .pick (.n3 .pick (.n3 .pick (.n3 .pick (.n2 (.sbin .neq) (.slot 9) (.lit (str []))) (.lit (.bool true)) (.n2 (.bin .neq) (.slot 10) (.lit (.int .i64 8)))) (.lit (.bool true)) (.n2 (.bin .neq) (.slot 136) (.lit (.int .i64 8)))) (.lit (.bool true)) (.n2 (.bin .neq) (.slot 143) (.lit (.int .i64 8)))) (.lit (.bool true)) (.n2 (.bin .neq) (.slot 152) (.lit (.int .i64 8)))) false (.n1 .ld (.n1 (.faddr 2) (.slot 3)))) ::
  .eff (some 161) (.call { callee := .value (.func 14), args := #[.tmp 156, .tmp 158, .tmp 160], argTypes := #[24, 3, 3] }) 26 [(156, .slot 6), (158, .n1 .ld (.n1 (.faddr 1) (.slot 3))), (160, .n1 .ld (.n1 (.faddr 2) (.slot 3)))] (some (.n3 .pick (.n3 .pick (.n3 .pick (.n3 .pick (.n2 (.sbin .neq) (.slot 9) (.lit (str []))) (.lit (.bool true)) (.n2 (.bin .neq) (.slot 10) (.lit (.int .i64 8)))) (.lit (.bool true)) (.n2 (.bin .neq) (.slot 136) (.lit (.int .i64 8)))) (.lit (.bool true)) (.n2 (.bin .neq) (.slot 143) (.lit (.int .i64 8)))) (.lit (.bool true)) (.n2 (.bin .neq) (.slot 152) (.lit (.int .i64 8))), false)) [] ::
  l9_18
def l9_20 : List HS :=
  .need (.gif (.n3 .pick (.n3 .pick (.n2 (.sbin .neq) (.slot 9) (.lit (str []))) (.lit (.bool true)) (.n2 (.bin .neq) (.slot 10) (.lit (.int .i64 8)))) (.lit (.bool true)) (.n2 (.bin .neq) (.slot 136) (.lit (.int .i64 8)))) false (.n2 (.bin .neq) (.slot 143) (.lit (.int .i64 8)))) ::
  .need (.n3 .pick (.n3 .pick (.n3 .pick (.n2 (.sbin .neq) (.slot 9) (.lit (str []))) (.lit (.bool true)) (.n2 (.bin .neq) (.slot 10) (.lit (.int .i64 8)))) (.lit (.bool true)) (.n2 (.bin .neq) (.slot 136) (.lit (.int .i64 8)))) (.lit (.bool true)) (.n2 (.bin .neq) (.slot 143) (.lit (.int .i64 8)))) ::
  .need (.gif (.n3 .pick (.n3 .pick (.n3 .pick (.n2 (.sbin .neq) (.slot 9) (.lit (str []))) (.lit (.bool true)) (.n2 (.bin .neq) (.slot 10) (.lit (.int .i64 8)))) (.lit (.bool true)) (.n2 (.bin .neq) (.slot 136) (.lit (.int .i64 8)))) (.lit (.bool true)) (.n2 (.bin .neq) (.slot 143) (.lit (.int .i64 8)))) false (.n1 (.faddr 1) (.slot 3))) ::
  .need (.gif (.n3 .pick (.n3 .pick (.n3 .pick (.n2 (.sbin .neq) (.slot 9) (.lit (str []))) (.lit (.bool true)) (.n2 (.bin .neq) (.slot 10) (.lit (.int .i64 8)))) (.lit (.bool true)) (.n2 (.bin .neq) (.slot 136) (.lit (.int .i64 8)))) (.lit (.bool true)) (.n2 (.bin .neq) (.slot 143) (.lit (.int .i64 8)))) false (.n1 .ld (.n1 (.faddr 1) (.slot 3)))) ::
  .need (.gif (.n3 .pick (.n3 .pick (.n3 .pick (.n2 (.sbin .neq) (.slot 9) (.lit (str []))) (.lit (.bool true)) (.n2 (.bin .neq) (.slot 10) (.lit (.int .i64 8)))) (.lit (.bool true)) (.n2 (.bin .neq) (.slot 136) (.lit (.int .i64 8)))) (.lit (.bool true)) (.n2 (.bin .neq) (.slot 143) (.lit (.int .i64 8)))) false (.n1 (.faddr 3) (.slot 3))) ::
  .need (.gif (.n3 .pick (.n3 .pick (.n3 .pick (.n2 (.sbin .neq) (.slot 9) (.lit (str []))) (.lit (.bool true)) (.n2 (.bin .neq) (.slot 10) (.lit (.int .i64 8)))) (.lit (.bool true)) (.n2 (.bin .neq) (.slot 136) (.lit (.int .i64 8)))) (.lit (.bool true)) (.n2 (.bin .neq) (.slot 143) (.lit (.int .i64 8)))) false (.n1 .ld (.n1 (.faddr 3) (.slot 3)))) ::
  .eff (some 152) (.call { callee := .value (.func 36), args := #[.tmp 147, .tmp 149, .tmp 151], argTypes := #[24, 3, 3] }) 26 [(147, .slot 6), (149, .n1 .ld (.n1 (.faddr 1) (.slot 3))), (151, .n1 .ld (.n1 (.faddr 3) (.slot 3)))] (some (.n3 .pick (.n3 .pick (.n3 .pick (.n2 (.sbin .neq) (.slot 9) (.lit (str []))) (.lit (.bool true)) (.n2 (.bin .neq) (.slot 10) (.lit (.int .i64 8)))) (.lit (.bool true)) (.n2 (.bin .neq) (.slot 136) (.lit (.int .i64 8)))) (.lit (.bool true)) (.n2 (.bin .neq) (.slot 143) (.lit (.int .i64 8))), false)) [] ::
  l9_19
def l9_21 : List HS :=
  .need (.gif (.n3 .pick (.n2 (.sbin .neq) (.slot 9) (.lit (str []))) (.lit (.bool true)) (.n2 (.bin .neq) (.slot 10) (.lit (.int .i64 8)))) false (.n2 (.bin .neq) (.slot 136) (.lit (.int .i64 8)))) ::
  .need (.n3 .pick (.n3 .pick (.n2 (.sbin .neq) (.slot 9) (.lit (str []))) (.lit (.bool true)) (.n2 (.bin .neq) (.slot 10) (.lit (.int .i64 8)))) (.lit (.bool true)) (.n2 (.bin .neq) (.slot 136) (.lit (.int .i64 8)))) ::
  .need (.gif (.n3 .pick (.n3 .pick (.n2 (.sbin .neq) (.slot 9) (.lit (str []))) (.lit (.bool true)) (.n2 (.bin .neq) (.slot 10) (.lit (.int .i64 8)))) (.lit (.bool true)) (.n2 (.bin .neq) (.slot 136) (.lit (.int .i64 8)))) false (.n1 (.faddr 1) (.slot 3))) ::
  .need (.gif (.n3 .pick (.n3 .pick (.n2 (.sbin .neq) (.slot 9) (.lit (str []))) (.lit (.bool true)) (.n2 (.bin .neq) (.slot 10) (.lit (.int .i64 8)))) (.lit (.bool true)) (.n2 (.bin .neq) (.slot 136) (.lit (.int .i64 8)))) false (.n1 .ld (.n1 (.faddr 1) (.slot 3)))) ::
  .eff (some 143) (.call { callee := .value (.func 13), args := #[.tmp 140, .tmp 142], argTypes := #[24, 3] }) 26 [(140, .slot 6), (142, .n1 .ld (.n1 (.faddr 1) (.slot 3)))] (some (.n3 .pick (.n3 .pick (.n2 (.sbin .neq) (.slot 9) (.lit (str []))) (.lit (.bool true)) (.n2 (.bin .neq) (.slot 10) (.lit (.int .i64 8)))) (.lit (.bool true)) (.n2 (.bin .neq) (.slot 136) (.lit (.int .i64 8))), false)) [] ::
  l9_20
def h9_22 : HC :=
  (.cond (.slot 168)
    (.seq
    (.reg [.asg 4 (.lit (.bool false))])
    .ret)
    .skip)
def h9_26 : HC :=
  (.reg [.need (.n2 (.bin .add) (.slot 11) (.lit (.int .i64 1))),
    .asg 11 (.n2 (.bin .add) (.slot 11) (.lit (.int .i64 1)))])
def h9_25 : HC :=
  (.seq
  (.block 3
    (.seq
    (.reg [.eff (some 178) (.call { callee := .value (.func 17), args := #[.tmp 176, .tmp 177], argTypes := #[24, 3] }) 31 [(176, .slot 6), (177, .slot 11)] none [],
      .need (.n1 (.ext 0) (.slot 178)),
      .need (.n1 (.ext 1) (.slot 178)),
      .asg 12 (.n1 (.ext 0) (.slot 178))])
    (.seq
    (.reg [.eff (some 184) (.call { callee := .value (.func 17), args := #[.tmp 182, .tmp 183], argTypes := #[24, 3] }) 31 [(182, .slot 8), (183, .slot 11)] none [],
      .need (.n1 (.ext 0) (.slot 184)),
      .need (.n1 (.ext 1) (.slot 184)),
      .asg 14 (.n1 (.ext 0) (.slot 184))])
    (.seq
    (.reg [.need (.n2 (.sbin .neq) (.slot 12) (.slot 14)),
      .asg 189 (.n2 (.sbin .neq) (.slot 12) (.slot 14))])
    (.cond (.slot 189)
      (.seq
      (.reg [.asg 4 (.lit (.bool false))])
      .ret)
      .skip)))))
  h9_26)
def h9_24 : HC :=
  (.seq
  (.seq
  (.reg [.need (.n2 (.bin .lss) (.slot 11) (.lit (.int .i64 12))),
    .asg 172 (.n2 (.bin .lss) (.slot 11) (.lit (.int .i64 12)))])
  (.cond (.slot 172)
    .skip
    (.exit 2)))
  h9_25)
def h9_27 : HC :=
  (.seq
  (.reg [.eff (some 193) (.call { callee := .value (.func 21), args := #[.tmp 192], argTypes := #[24] }) 4 [(192, .slot 6)] (some (.slot 5, true)) [],
    .need (.gif (.slot 5) true (.n1 .bnot (.slot 193))),
    .need (.n3 .pick (.slot 5) (.n1 .bnot (.slot 193)) (.lit (.bool false))),
    .asg 4 (.n3 .pick (.slot 5) (.n1 .bnot (.slot 193)) (.lit (.bool false)))])
  .ret)
def h9_23 : HC :=
  (.seq
  (.reg [.eff (some 170) (.call { callee := .value (.func 16), args := #[.tmp 169], argTypes := #[24] }) 0 [(169, .slot 6)] none []])
  (.seq
  (.seq
  (.reg [.asg 11 (.lit (.int .i64 0))])
  (.block 2
    (.loop
      h9_24)))
  h9_27))
def h9_16 : HC :=
  (.seq
  (.seq
  (.reg (.need (.n2 (.sbin .neq) (.slot 9) (.lit (str []))) ::
    .need (.gif (.n2 (.sbin .neq) (.slot 9) (.lit (str []))) false (.n2 (.bin .neq) (.slot 10) (.lit (.int .i64 8)))) ::
    .need (.n3 .pick (.n2 (.sbin .neq) (.slot 9) (.lit (str []))) (.lit (.bool true)) (.n2 (.bin .neq) (.slot 10) (.lit (.int .i64 8)))) ::
    .need (.gif (.n3 .pick (.n2 (.sbin .neq) (.slot 9) (.lit (str []))) (.lit (.bool true)) (.n2 (.bin .neq) (.slot 10) (.lit (.int .i64 8)))) false (.n1 (.faddr 1) (.slot 3))) ::
    .need (.gif (.n3 .pick (.n2 (.sbin .neq) (.slot 9) (.lit (str []))) (.lit (.bool true)) (.n2 (.bin .neq) (.slot 10) (.lit (.int .i64 8)))) false (.n1 .ld (.n1 (.faddr 1) (.slot 3)))) ::
    .need (.gif (.n3 .pick (.n2 (.sbin .neq) (.slot 9) (.lit (str []))) (.lit (.bool true)) (.n2 (.bin .neq) (.slot 10) (.lit (.int .i64 8)))) false (.n1 (.faddr 3) (.slot 3))) ::
    .need (.gif (.n3 .pick (.n2 (.sbin .neq) (.slot 9) (.lit (str []))) (.lit (.bool true)) (.n2 (.bin .neq) (.slot 10) (.lit (.int .i64 8)))) false (.n1 .ld (.n1 (.faddr 3) (.slot 3)))) ::
    .need (.gif (.n3 .pick (.n2 (.sbin .neq) (.slot 9) (.lit (str []))) (.lit (.bool true)) (.n2 (.bin .neq) (.slot 10) (.lit (.int .i64 8)))) false (.n1 (.faddr 4) (.slot 3))) ::
    .need (.gif (.n3 .pick (.n2 (.sbin .neq) (.slot 9) (.lit (str []))) (.lit (.bool true)) (.n2 (.bin .neq) (.slot 10) (.lit (.int .i64 8)))) false (.n1 .ld (.n1 (.faddr 4) (.slot 3)))) ::
    .eff (some 136) (.call { callee := .value (.func 12), args := #[.tmp 129, .tmp 131, .tmp 133, .tmp 135], argTypes := #[24, 3, 3, 9] }) 26 [(129, .slot 6), (131, .n1 .ld (.n1 (.faddr 1) (.slot 3))), (133, .n1 .ld (.n1 (.faddr 3) (.slot 3))), (135, .n1 .ld (.n1 (.faddr 4) (.slot 3)))] (some (.n3 .pick (.n2 (.sbin .neq) (.slot 9) (.lit (str []))) (.lit (.bool true)) (.n2 (.bin .neq) (.slot 10) (.lit (.int .i64 8))), false)) [] ::
    l9_21))
  h9_22)
  h9_23)
def h9_15 : HC :=
  (.seq
  (.reg [.eff (some 111) (.call { callee := .value (.func 16), args := #[.tmp 110], argTypes := #[24] }) 0 [(110, .slot 8)] none []])
  (.seq
  (.reg [.need (.n1 (.faddr 1) (.slot 3)),
    .need (.n1 .ld (.n1 (.faddr 1) (.slot 3))),
    .eff (some 116) (.call { callee := .value (.func 17), args := #[.tmp 113, .tmp 115], argTypes := #[24, 3] }) 31 [(113, .slot 6), (115, .n1 .ld (.n1 (.faddr 1) (.slot 3)))] none [],
    .need (.n1 (.ext 0) (.slot 116)),
    .need (.n1 (.ext 1) (.slot 116)),
    .asg 9 (.n1 (.ext 0) (.slot 116)),
    .asg 10 (.n1 (.ext 1) (.slot 116))])
  (.seq
  (.reg [.eff (some 120) (.buildSlice 22 2 #[(0, .const (.int .i64 1)), (1, .const (.int .i64 1))]) 22 [] none [],
    .eff (some 121) (.call { callee := .value (.func 15), args := #[.tmp 119, .tmp 120], argTypes := #[24, 22] }) 0 [(119, .slot 6), (120, .slot 120)] none []])
  h9_16)))
def h9_14 : HC :=
  (.seq
  (.reg [.eff (some 105) (.call { callee := .value (.func 15), args := #[.tmp 104, .const (.slice none 0 0)], argTypes := #[24, 22] }) 0 [(104, .slot 6)] none []])
  (.seq
  (.reg [.eff (some 107) (.call { callee := .value (.func 28), args := #[.tmp 106], argTypes := #[24] }) 24 [(106, .slot 6)] none [],
    .asg 8 (.slot 107)])
  (.seq
  (.seq
  (.reg [.need (.n2 (.pnil false) (.slot 8) (.lit (.pointer none))),
    .asg 109 (.n2 (.pnil false) (.slot 8) (.lit (.pointer none)))])
  (.cond (.slot 109)
    (.seq
    (.reg [.asg 4 (.lit (.bool false))])
    .ret)
    .skip))
  h9_15)))
def h9_7 : HC :=
  (.seq
  (.reg [.eff (some 49) (.call { callee := .value (.func 26), args := #[.tmp 48, .const (.int .i64 0), .const (.slice none 0 0)], argTypes := #[24, 3, 22] }) 0 [(48, .slot 6)] none []])
  (.seq
  (.reg [.eff (some 51) (.call { callee := .value (.func 16), args := #[.tmp 50], argTypes := #[24] }) 0 [(50, .slot 6)] none []])
  (.seq
  (.seq
  (.reg [.need (.n1 (.faddr 1) (.slot 3)),
    .need (.n1 .ld (.n1 (.faddr 1) (.slot 3))),
    .need (.n2 (.bin .lss) (.n1 .ld (.n1 (.faddr 1) (.slot 3))) (.lit (.int .i64 0))),
    .need (.gif (.n2 (.bin .lss) (.n1 .ld (.n1 (.faddr 1) (.slot 3))) (.lit (.int .i64 0))) false (.n1 (.faddr 1) (.slot 3))),
    .need (.gif (.n2 (.bin .lss) (.n1 .ld (.n1 (.faddr 1) (.slot 3))) (.lit (.int .i64 0))) false (.n1 .ld (.n1 (.faddr 1) (.slot 3)))),
    .need (.gif (.n2 (.bin .lss) (.n1 .ld (.n1 (.faddr 1) (.slot 3))) (.lit (.int .i64 0))) false (.n2 (.bin .gtr) (.n1 .ld (.n1 (.faddr 1) (.slot 3))) (.lit (.int .i64 11)))),
    .need (.n3 .pick (.n2 (.bin .lss) (.n1 .ld (.n1 (.faddr 1) (.slot 3))) (.lit (.int .i64 0))) (.lit (.bool true)) (.n2 (.bin .gtr) (.n1 .ld (.n1 (.faddr 1) (.slot 3))) (.lit (.int .i64 11)))),
    .asg 59 (.n3 .pick (.n2 (.bin .lss) (.n1 .ld (.n1 (.faddr 1) (.slot 3))) (.lit (.int .i64 0))) (.lit (.bool true)) (.n2 (.bin .gtr) (.n1 .ld (.n1 (.faddr 1) (.slot 3))) (.lit (.int .i64 11))))])
  (.cond (.slot 59)
    (.seq
    (.reg (.need (.n1 (.faddr 1) (.slot 3)) ::
      .need (.n1 .ld (.n1 (.faddr 1) (.slot 3))) ::
      .need (.n1 (.faddr 3) (.slot 3)) ::
      .need (.n1 .ld (.n1 (.faddr 3) (.slot 3))) ::
      .need (.n1 (.faddr 4) (.slot 3)) ::
      .need (.n1 .ld (.n1 (.faddr 4) (.slot 3))) ::
      .eff (some 67) (.call { callee := .value (.func 12), args := #[.tmp 60, .tmp 62, .tmp 64, .tmp 66], argTypes := #[24, 3, 3, 9] }) 26 [(60, .slot 6), (62, .n1 .ld (.n1 (.faddr 1) (.slot 3))), (64, .n1 .ld (.n1 (.faddr 3) (.slot 3))), (66, .n1 .ld (.n1 (.faddr 4) (.slot 3)))] none [] ::
      .need (.n2 (.bin .neq) (.slot 67) (.lit (.int .i64 1))) ::
      .need (.gif (.n2 (.bin .neq) (.slot 67) (.lit (.int .i64 1))) false (.n1 (.faddr 1) (.slot 3))) ::
      .need (.gif (.n2 (.bin .neq) (.slot 67) (.lit (.int .i64 1))) false (.n1 .ld (.n1 (.faddr 1) (.slot 3)))) ::
      .eff (some 73) (.call { callee := .value (.func 13), args := #[.tmp 70, .tmp 72], argTypes := #[24, 3] }) 26 [(70, .slot 6), (72, .n1 .ld (.n1 (.faddr 1) (.slot 3)))] (some (.n2 (.bin .neq) (.slot 67) (.lit (.int .i64 1)), false)) [] ::
      l9_12))
    h9_13)
    .skip))
  h9_14)))
def h9_3 : HC :=
  (.seq
  (.seq
  (.reg [.asg 7 (.lit (.int .i64 0))])
  (.block 0
    (.loop
      h9_4)))
  h9_7)
def h9 : HC :=
  (.seq
  (.reg [.eff (some 3) (.box 42 (.tmp 1)) 0 [(1, .slot 1)] none [],
    .asg 4 (.lit (.bool false))])
  (.seq
  (.reg [.eff (some 16) (.call { callee := .value (.func 10), args := #[], argTypes := #[] }) 4 [] none [],
    .asg 5 (.slot 16)])
  (.seq
  (.reg [.eff (some 17) (.call { callee := .value (.func 11), args := #[], argTypes := #[] }) 24 [] none [],
    .asg 6 (.slot 17)])
  (.seq
  (.seq
  (.reg (.eff (some 19) (.call { callee := .value (.func 20), args := #[.tmp 18], argTypes := #[38] }) 4 [(18, .slot 0)] none [] ::
    .need (.n1 .bnot (.slot 19)) ::
    .need (.gif (.n1 .bnot (.slot 19)) false (.n2 (.pnil false) (.slot 6) (.lit (.pointer none)))) ::
    .need (.n3 .pick (.n1 .bnot (.slot 19)) (.lit (.bool true)) (.n2 (.pnil false) (.slot 6) (.lit (.pointer none)))) ::
    .need (.gif (.n3 .pick (.n1 .bnot (.slot 19)) (.lit (.bool true)) (.n2 (.pnil false) (.slot 6) (.lit (.pointer none)))) false (.n1 (.ldn 6) (.slot 3))) ::
    .eff (some 27) (.buildSlice 38 1 #[(0, .tmp 26)]) 38 [(26, .n1 (.ldn 6) (.slot 3))] (some (.n3 .pick (.n1 .bnot (.slot 19)) (.lit (.bool true)) (.n2 (.pnil false) (.slot 6) (.lit (.pointer none))), false)) [] ::
    l9_2))
  (.cond (.slot 30)
    (.seq
    (.reg [.need (.gif (.slot 5) true (.n2 (.pnil true) (.slot 6) (.lit (.pointer none)))),
      .need (.n3 .pick (.slot 5) (.n2 (.pnil true) (.slot 6) (.lit (.pointer none))) (.lit (.bool false))),
      .asg 4 (.n3 .pick (.slot 5) (.n2 (.pnil true) (.slot 6) (.lit (.pointer none))) (.lit (.bool false)))])
    .ret)
    .skip))
  h9_3))))
theorem k9 : fnOK Try.prog 13363752193733397900132839785999586788403553306868942856187 [] [.tmp 4] 2 Try.f9 = some h9 := by kernel_rfl
theorem c9 : callable Try.prog 9 = true := by kernel_rfl
theorem q9 {args : List Value} (ha : args.length = 2) {w : World} {next : Value → World → Prop} {QP : List PanicEntry → World → Prop} (H : hw Try.prog noPanic h9 (endV [.tmp 4] next) (σ0 args) w) : callK Try.prog 9 args w next QP := fn_rule Try.func9 mixed k9 ha H
theorem r9 {args : List Value} (ha : args.length = 2) {w : World} {next : Value → World → Prop} {QP : List PanicEntry → World → Prop} (H : hw Try.prog noPanic h9 (endV [.tmp 4] next) (σ0 args) w) : callvK Try.prog (.func (.func 9) #[] #[]) args w next QP := callf c9 (q9 ha H)

/- missive/missivelaw05.small -/
def l10_8 : List HS :=
  .need (.gif (.n3 .pick (.n3 .pick (.n3 .pick (.n3 .pick (.n3 .pick (.n3 .pick (.n3 .pick (.n3 .pick (.n3 .pick (.n3 .pick (.n3 .pick (.n3 .pick (.n3 .pick (.n3 .pick (.n3 .pick (.n2 (.bin .eql) (.slot 2) (.lit (.int .i64 0))) (.n2 (.bin .eql) (.slot 3) (.lit (.int .i64 0))) (.lit (.bool false))) (.n2 (.bin .eql) (.slot 4) (.lit (.int .i64 0))) (.lit (.bool false))) (.n2 (.bin .eql) (.slot 6) (.lit (.int .i64 8))) (.lit (.bool false))) (.slot 7) (.lit (.bool false))) (.n2 (.bin .eql) (.slot 9) (.lit (.int .i64 0))) (.lit (.bool false))) (.n2 (.sbin .eql) (.slot 8) (.lit (str [104, 101, 108, 108, 111, 121]))) (.lit (.bool false))) (.n2 (.bin .eql) (.slot 10) (.lit (.int .i64 9))) (.lit (.bool false))) (.n2 (.bin .eql) (.slot 11) (.lit (.int .i64 0))) (.lit (.bool false))) (.n2 (.bin .eql) (.slot 12) (.lit (.int .i64 7))) (.lit (.bool false))) (.n2 (.bin .eql) (.slot 13) (.lit (.int .i64 0))) (.lit (.bool false))) (.n2 (.bin .eql) (.slot 14) (.lit (.int .i64 0))) (.lit (.bool false))) (.n2 (.sbin .eql) (.slot 15) (.lit (str [120]))) (.lit (.bool false))) (.n2 (.bin .eql) (.slot 145) (.lit (.int .i64 0))) (.lit (.bool false))) (.n2 (.bin .eql) (.slot 150) (.lit (.int .i64 1))) (.lit (.bool false))) (.n2 (.bin .eql) (.slot 155) (.lit (.int .i64 1))) (.lit (.bool false))) true (.n2 (.bin .eql) (.slot 160) (.lit (.int .i64 1)))) ::
  .need (.n3 .pick (.n3 .pick (.n3 .pick (.n3 .pick (.n3 .pick (.n3 .pick (.n3 .pick (.n3 .pick (.n3 .pick (.n3 .pick (.n3 .pick (.n3 .pick (.n3 .pick (.n3 .pick (.n3 .pick (.n3 .pick (.n2 (.bin .eql) (.slot 2) (.lit (.int .i64 0))) (.n2 (.bin .eql) (.slot 3) (.lit (.int .i64 0))) (.lit (.bool false))) (.n2 (.bin .eql) (.slot 4) (.lit (.int .i64 0))) (.lit (.bool false))) (.n2 (.bin .eql) (.slot 6) (.lit (.int .i64 8))) (.lit (.bool false))) (.slot 7) (.lit (.bool false))) (.n2 (.bin .eql) (.slot 9) (.lit (.int .i64 0))) (.lit (.bool false))) (.n2 (.sbin .eql) (.slot 8) (.lit (str [104, 101, 108, 108, 111, 121]))) (.lit (.bool false))) (.n2 (.bin .eql) (.slot 10) (.lit (.int .i64 9))) (.lit (.bool false))) (.n2 (.bin .eql) (.slot 11) (.lit (.int .i64 0))) (.lit (.bool false))) (.n2 (.bin .eql) (.slot 12) (.lit (.int .i64 7))) (.lit (.bool false))) (.n2 (.bin .eql) (.slot 13) (.lit (.int .i64 0))) (.lit (.bool false))) (.n2 (.bin .eql) (.slot 14) (.lit (.int .i64 0))) (.lit (.bool false))) (.n2 (.sbin .eql) (.slot 15) (.lit (str [120]))) (.lit (.bool false))) (.n2 (.bin .eql) (.slot 145) (.lit (.int .i64 0))) (.lit (.bool false))) (.n2 (.bin .eql) (.slot 150) (.lit (.int .i64 1))) (.lit (.bool false))) (.n2 (.bin .eql) (.slot 155) (.lit (.int .i64 1))) (.lit (.bool false))) (.n2 (.bin .eql) (.slot 160) (.lit (.int .i64 1))) (.lit (.bool false))) ::
  .asg 0 (.n3 .pick (.n3 .pick (.n3 .pick (.n3 .pick (.n3 .pick (.n3 .pick (.n3 .pick (.n3 .pick (.n3 .pick (.n3 .pick (.n3 .pick (.n3 .pick (.n3 .pick (.n3 .pick (.n3 .pick (.n3 .pick (.n2 (.bin .eql) (.slot 2) (.lit (.int .i64 0))) (.n2 (.bin .eql) (.slot 3) (.lit (.int .i64 0))) (.lit (.bool false))) (.n2 (.bin .eql) (.slot 4) (.lit (.int .i64 0))) (.lit (.bool false))) (.n2 (.bin .eql) (.slot 6) (.lit (.int .i64 8))) (.lit (.bool false))) (.slot 7) (.lit (.bool false))) (.n2 (.bin .eql) (.slot 9) (.lit (.int .i64 0))) (.lit (.bool false))) (.n2 (.sbin .eql) (.slot 8) (.lit (str [104, 101, 108, 108, 111, 121]))) (.lit (.bool false))) (.n2 (.bin .eql) (.slot 10) (.lit (.int .i64 9))) (.lit (.bool false))) (.n2 (.bin .eql) (.slot 11) (.lit (.int .i64 0))) (.lit (.bool false))) (.n2 (.bin .eql) (.slot 12) (.lit (.int .i64 7))) (.lit (.bool false))) (.n2 (.bin .eql) (.slot 13) (.lit (.int .i64 0))) (.lit (.bool false))) (.n2 (.bin .eql) (.slot 14) (.lit (.int .i64 0))) (.lit (.bool false))) (.n2 (.sbin .eql) (.slot 15) (.lit (str [120]))) (.lit (.bool false))) (.n2 (.bin .eql) (.slot 145) (.lit (.int .i64 0))) (.lit (.bool false))) (.n2 (.bin .eql) (.slot 150) (.lit (.int .i64 1))) (.lit (.bool false))) (.n2 (.bin .eql) (.slot 155) (.lit (.int .i64 1))) (.lit (.bool false))) (.n2 (.bin .eql) (.slot 160) (.lit (.int .i64 1))) (.lit (.bool false))) ::
  []
def l10_9 : List HS :=
  .need (.gif (.n3 .pick (.n3 .pick (.n3 .pick (.n3 .pick (.n3 .pick (.n3 .pick (.n3 .pick (.n3 .pick (.n3 .pick (.n3 .pick (.n3 .pick (.n3 .pick (.n3 .pick (.n3 .pick (.n2 (.bin .eql) (.slot 2) (.lit (.int .i64 0))) (.n2 (.bin .eql) (.slot 3) (.lit (.int .i64 0))) (.lit (.bool false))) (.n2 (.bin .eql) (.slot 4) (.lit (.int .i64 0))) (.lit (.bool false))) (.n2 (.bin .eql) (.slot 6) (.lit (.int .i64 8))) (.lit (.bool false))) (.slot 7) (.lit (.bool false))) (.n2 (.bin .eql) (.slot 9) (.lit (.int .i64 0))) (.lit (.bool false))) (.n2 (.sbin .eql) (.slot 8) (.lit (str [104, 101, 108, 108, 111, 121]))) (.lit (.bool false))) (.n2 (.bin .eql) (.slot 10) (.lit (.int .i64 9))) (.lit (.bool false))) (.n2 (.bin .eql) (.slot 11) (.lit (.int .i64 0))) (.lit (.bool false))) (.n2 (.bin .eql) (.slot 12) (.lit (.int .i64 7))) (.lit (.bool false))) (.n2 (.bin .eql) (.slot 13) (.lit (.int .i64 0))) (.lit (.bool false))) (.n2 (.bin .eql) (.slot 14) (.lit (.int .i64 0))) (.lit (.bool false))) (.n2 (.sbin .eql) (.slot 15) (.lit (str [120]))) (.lit (.bool false))) (.n2 (.bin .eql) (.slot 145) (.lit (.int .i64 0))) (.lit (.bool false))) (.n2 (.bin .eql) (.slot 150) (.lit (.int .i64 1))) (.lit (.bool false))) true (.n2 (.bin .eql) (.slot 155) (.lit (.int .i64 1)))) ::
  .need (.n3 .pick (.n3 .pick (.n3 .pick (.n3 .pick (.n3 .pick (.n3 .pick (.n3 .pick (.n3 .pick (.n3 .pick (.n3 .pick (.n3 .pick (.n3 .pick (.n3 .pick (.n3 .pick (.n3 .pick (.n2 (.bin .eql) (.slot 2) (.lit (.int .i64 0))) (.n2 (.bin .eql) (.slot 3) (.lit (.int .i64 0))) (.lit (.bool false))) (.n2 (.bin .eql) (.slot 4) (.lit (.int .i64 0))) (.lit (.bool false))) (.n2 (.bin .eql) (.slot 6) (.lit (.int .i64 8))) (.lit (.bool false))) (.slot 7) (.lit (.bool false))) (.n2 (.bin .eql) (.slot 9) (.lit (.int .i64 0))) (.lit (.bool false))) (.n2 (.sbin .eql) (.slot 8) (.lit (str [104, 101, 108, 108, 111, 121]))) (.lit (.bool false))) (.n2 (.bin .eql) (.slot 10) (.lit (.int .i64 9))) (.lit (.bool false))) (.n2 (.bin .eql) (.slot 11) (.lit (.int .i64 0))) (.lit (.bool false))) (.n2 (.bin .eql) (.slot 12) (.lit (.int .i64 7))) (.lit (.bool false))) (.n2 (.bin .eql) (.slot 13) (.lit (.int .i64 0))) (.lit (.bool false))) (.n2 (.bin .eql) (.slot 14) (.lit (.int .i64 0))) (.lit (.bool false))) (.n2 (.sbin .eql) (.slot 15) (.lit (str [120]))) (.lit (.bool false))) (.n2 (.bin .eql) (.slot 145) (.lit (.int .i64 0))) (.lit (.bool false))) (.n2 (.bin .eql) (.slot 150) (.lit (.int .i64 1))) (.lit (.bool false))) (.n2 (.bin .eql) (.slot 155) (.lit (.int .i64 1))) (.lit (.bool false))) ::
  .eff (some 160) (.call { callee := .value (.func 36), args := #[.tmp 159, .const (.int .i64 1), .const (.int .i64 2)], argTypes := #[24, 3, 3] }) 26 [(159, .slot 1)] (some (.n3 .pick (.n3 .pick (.n3 .pick (.n3 .pick (.n3 .pick (.n3 .pick (.n3 .pick (.n3 .pick (.n3 .pick (.n3 .pick (.n3 .pick (.n3 .pick (.n3 .pick (.n3 .pick (.n3 .pick (.n2 (.bin .eql) (.slot 2) (.lit (.int .i64 0))) (.n2 (.bin .eql) (.slot 3) (.lit (.int .i64 0))) (.lit (.bool false))) (.n2 (.bin .eql) (.slot 4) (.lit (.int .i64 0))) (.lit (.bool false))) (.n2 (.bin .eql) (.slot 6) (.lit (.int .i64 8))) (.lit (.bool false))) (.slot 7) (.lit (.bool false))) (.n2 (.bin .eql) (.slot 9) (.lit (.int .i64 0))) (.lit (.bool false))) (.n2 (.sbin .eql) (.slot 8) (.lit (str [104, 101, 108, 108, 111, 121]))) (.lit (.bool false))) (.n2 (.bin .eql) (.slot 10) (.lit (.int .i64 9))) (.lit (.bool false))) (.n2 (.bin .eql) (.slot 11) (.lit (.int .i64 0))) (.lit (.bool false))) (.n2 (.bin .eql) (.slot 12) (.lit (.int .i64 7))) (.lit (.bool false))) (.n2 (.bin .eql) (.slot 13) (.lit (.int .i64 0))) (.lit (.bool false))) (.n2 (.bin .eql) (.slot 14) (.lit (.int .i64 0))) (.lit (.bool false))) (.n2 (.sbin .eql) (.slot 15) (.lit (str [120]))) (.lit (.bool false))) (.n2 (.bin .eql) (.slot 145) (.lit (.int .i64 0))) (.lit (.bool false))) (.n2 (.bin .eql) (.slot 150) (.lit (.int .i64 1))) (.lit (.bool false))) (.n2 (.bin .eql) (.slot 155) (.lit (.int .i64 1))) (.lit (.bool false)), true)) [] ::
  l10_8
def l10_10 : List HS :=
  .need (.gif (.n3 .pick (.n3 .pick (.n3 .pick (.n3 .pick (.n3 .pick (.n3 .pick (.n3 .pick (.n3 .pick (.n3 .pick (.n3 .pick (.n3 .pick (.n3 .pick (.n3 .pick (.n2 (.bin .eql) (.slot 2) (.lit (.int .i64 0))) (.n2 (.bin .eql) (.slot 3) (.lit (.int .i64 0))) (.lit (.bool false))) (.n2 (.bin .eql) (.slot 4) (.lit (.int .i64 0))) (.lit (.bool false))) (.n2 (.bin .eql) (.slot 6) (.lit (.int .i64 8))) (.lit (.bool false))) (.slot 7) (.lit (.bool false))) (.n2 (.bin .eql) (.slot 9) (.lit (.int .i64 0))) (.lit (.bool false))) (.n2 (.sbin .eql) (.slot 8) (.lit (str [104, 101, 108, 108, 111, 121]))) (.lit (.bool false))) (.n2 (.bin .eql) (.slot 10) (.lit (.int .i64 9))) (.lit (.bool false))) (.n2 (.bin .eql) (.slot 11) (.lit (.int .i64 0))) (.lit (.bool false))) (.n2 (.bin .eql) (.slot 12) (.lit (.int .i64 7))) (.lit (.bool false))) (.n2 (.bin .eql) (.slot 13) (.lit (.int .i64 0))) (.lit (.bool false))) (.n2 (.bin .eql) (.slot 14) (.lit (.int .i64 0))) (.lit (.bool false))) (.n2 (.sbin .eql) (.slot 15) (.lit (str [120]))) (.lit (.bool false))) (.n2 (.bin .eql) (.slot 145) (.lit (.int .i64 0))) (.lit (.bool false))) true (.n2 (.bin .eql) (.slot 150) (.lit (.int .i64 1)))) ::
  .need (.n3 .pick (.n3 .pick (.n3 .pick (.n3 .pick (.n3 .pick (.n3 .pick (.n3 .pick (.n3 .pick (.n3 .pick (.n3 .pick (.n3 .pick (.n3 .pick (.n3 .pick (.n3 .pick (.n2 (.bin .eql) (.slot 2) (.lit (.int .i64 0))) (.n2 (.bin .eql) (.slot 3) (.lit (.int .i64 0))) (.lit (.bool false))) (.n2 (.bin .eql) (.slot 4) (.lit (.int .i64 0))) (.lit (.bool false))) (.n2 (.bin .eql) (.slot 6) (.lit (.int .i64 8))) (.lit (.bool false))) (.slot 7) (.lit (.bool false))) (.n2 (.bin .eql) (.slot 9) (.lit (.int .i64 0))) (.lit (.bool false))) (.n2 (.sbin .eql) (.slot 8) (.lit (str [104, 101, 108, 108, 111, 121]))) (.lit (.bool false))) (.n2 (.bin .eql) (.slot 10) (.lit (.int .i64 9))) (.lit (.bool false))) (.n2 (.bin .eql) (.slot 11) (.lit (.int .i64 0))) (.lit (.bool false))) (.n2 (.bin .eql) (.slot 12) (.lit (.int .i64 7))) (.lit (.bool false))) (.n2 (.bin .eql) (.slot 13) (.lit (.int .i64 0))) (.lit (.bool false))) (.n2 (.bin .eql) (.slot 14) (.lit (.int .i64 0))) (.lit (.bool false))) (.n2 (.sbin .eql) (.slot 15) (.lit (str [120]))) (.lit (.bool false))) (.n2 (.bin .eql) (.slot 145) (.lit (.int .i64 0))) (.lit (.bool false))) (.n2 (.bin .eql) (.slot 150) (.lit (.int .i64 1))) (.lit (.bool false))) ::
  .eff (some 155) (.call { callee := .value (.func 12), args := #[.tmp 154, .const (.int .i64 0), .const (.int .i64 (-1)), .const (str [])], argTypes := #[24, 3, 3, 9] }) 26 [(154, .slot 1)] (some (.n3 .pick (.n3 .pick (.n3 .pick (.n3 .pick (.n3 .pick (.n3 .pick (.n3 .pick (.n3 .pick (.n3 .pick (.n3 .pick (.n3 .pick (.n3 .pick (.n3 .pick (.n3 .pick (.n2 (.bin .eql) (.slot 2) (.lit (.int .i64 0))) (.n2 (.bin .eql) (.slot 3) (.lit (.int .i64 0))) (.lit (.bool false))) (.n2 (.bin .eql) (.slot 4) (.lit (.int .i64 0))) (.lit (.bool false))) (.n2 (.bin .eql) (.slot 6) (.lit (.int .i64 8))) (.lit (.bool false))) (.slot 7) (.lit (.bool false))) (.n2 (.bin .eql) (.slot 9) (.lit (.int .i64 0))) (.lit (.bool false))) (.n2 (.sbin .eql) (.slot 8) (.lit (str [104, 101, 108, 108, 111, 121]))) (.lit (.bool false))) (.n2 (.bin .eql) (.slot 10) (.lit (.int .i64 9))) (.lit (.bool false))) (.n2 (.bin .eql) (.slot 11) (.lit (.int .i64 0))) (.lit (.bool false))) (.n2 (.bin .eql) (.slot 12) (.lit (.int .i64 7))) (.lit (.bool false))) (.n2 (.bin .eql) (.slot 13) (.lit (.int .i64 0))) (.lit (.bool false))) (.n2 (.bin .eql) (.slot 14) (.lit (.int .i64 0))) (.lit (.bool false))) (.n2 (.sbin .eql) (.slot 15) (.lit (str [120]))) (.lit (.bool false))) (.n2 (.bin .eql) (.slot 145) (.lit (.int .i64 0))) (.lit (.bool false))) (.n2 (.bin .eql) (.slot 150) (.lit (.int .i64 1))) (.lit (.bool false)), true)) [] ::
  l10_9
def l10_11 : List HS :=
  .need (.gif (.n3 .pick (.n3 .pick (.n3 .pick (.n3 .pick (.n3 .pick (.n3 .pick (.n3 .pick (.n3 .pick (.n3 .pick (.n3 .pick (.n3 .pick (.n3 .pick (.n2 (.bin .eql) (.slot 2) (.lit (.int .i64 0))) (.n2 (.bin .eql) (.slot 3) (.lit (.int .i64 0))) (.lit (.bool false))) (.n2 (.bin .eql) (.slot 4) (.lit (.int .i64 0))) (.lit (.bool false))) (.n2 (.bin .eql) (.slot 6) (.lit (.int .i64 8))) (.lit (.bool false))) (.slot 7) (.lit (.bool false))) (.n2 (.bin .eql) (.slot 9) (.lit (.int .i64 0))) (.lit (.bool false))) (.n2 (.sbin .eql) (.slot 8) (.lit (str [104, 101, 108, 108, 111, 121]))) (.lit (.bool false))) (.n2 (.bin .eql) (.slot 10) (.lit (.int .i64 9))) (.lit (.bool false))) (.n2 (.bin .eql) (.slot 11) (.lit (.int .i64 0))) (.lit (.bool false))) (.n2 (.bin .eql) (.slot 12) (.lit (.int .i64 7))) (.lit (.bool false))) (.n2 (.bin .eql) (.slot 13) (.lit (.int .i64 0))) (.lit (.bool false))) (.n2 (.bin .eql) (.slot 14) (.lit (.int .i64 0))) (.lit (.bool false))) (.n2 (.sbin .eql) (.slot 15) (.lit (str [120]))) (.lit (.bool false))) true (.n2 (.bin .eql) (.slot 145) (.lit (.int .i64 0)))) ::
  .need (.n3 .pick (.n3 .pick (.n3 .pick (.n3 .pick (.n3 .pick (.n3 .pick (.n3 .pick (.n3 .pick (.n3 .pick (.n3 .pick (.n3 .pick (.n3 .pick (.n3 .pick (.n2 (.bin .eql) (.slot 2) (.lit (.int .i64 0))) (.n2 (.bin .eql) (.slot 3) (.lit (.int .i64 0))) (.lit (.bool false))) (.n2 (.bin .eql) (.slot 4) (.lit (.int .i64 0))) (.lit (.bool false))) (.n2 (.bin .eql) (.slot 6) (.lit (.int .i64 8))) (.lit (.bool false))) (.slot 7) (.lit (.bool false))) (.n2 (.bin .eql) (.slot 9) (.lit (.int .i64 0))) (.lit (.bool false))) (.n2 (.sbin .eql) (.slot 8) (.lit (str [104, 101, 108, 108, 111, 121]))) (.lit (.bool false))) (.n2 (.bin .eql) (.slot 10) (.lit (.int .i64 9))) (.lit (.bool false))) (.n2 (.bin .eql) (.slot 11) (.lit (.int .i64 0))) (.lit (.bool false))) (.n2 (.bin .eql) (.slot 12) (.lit (.int .i64 7))) (.lit (.bool false))) (.n2 (.bin .eql) (.slot 13) (.lit (.int .i64 0))) (.lit (.bool false))) (.n2 (.bin .eql) (.slot 14) (.lit (.int .i64 0))) (.lit (.bool false))) (.n2 (.sbin .eql) (.slot 15) (.lit (str [120]))) (.lit (.bool false))) (.n2 (.bin .eql) (.slot 145) (.lit (.int .i64 0))) (.lit (.bool false))) ::
  .eff (some 150) (.call { callee := .value (.func 12), args := #[.tmp 149, .const (.int .i64 12), .const (.int .i64 0), .const (str [])], argTypes := #[24, 3, 3, 9] }) 26 [(149, .slot 1)] (some (.n3 .pick (.n3 .pick (.n3 .pick (.n3 .pick (.n3 .pick (.n3 .pick (.n3 .pick (.n3 .pick (.n3 .pick (.n3 .pick (.n3 .pick (.n3 .pick (.n3 .pick (.n2 (.bin .eql) (.slot 2) (.lit (.int .i64 0))) (.n2 (.bin .eql) (.slot 3) (.lit (.int .i64 0))) (.lit (.bool false))) (.n2 (.bin .eql) (.slot 4) (.lit (.int .i64 0))) (.lit (.bool false))) (.n2 (.bin .eql) (.slot 6) (.lit (.int .i64 8))) (.lit (.bool false))) (.slot 7) (.lit (.bool false))) (.n2 (.bin .eql) (.slot 9) (.lit (.int .i64 0))) (.lit (.bool false))) (.n2 (.sbin .eql) (.slot 8) (.lit (str [104, 101, 108, 108, 111, 121]))) (.lit (.bool false))) (.n2 (.bin .eql) (.slot 10) (.lit (.int .i64 9))) (.lit (.bool false))) (.n2 (.bin .eql) (.slot 11) (.lit (.int .i64 0))) (.lit (.bool false))) (.n2 (.bin .eql) (.slot 12) (.lit (.int .i64 7))) (.lit (.bool false))) (.n2 (.bin .eql) (.slot 13) (.lit (.int .i64 0))) (.lit (.bool false))) (.n2 (.bin .eql) (.slot 14) (.lit (.int .i64 0))) (.lit (.bool false))) (.n2 (.sbin .eql) (.slot 15) (.lit (str [120]))) (.lit (.bool false))) (.n2 (.bin .eql) (.slot 145) (.lit (.int .i64 0))) (.lit (.bool false)), true)) [] ::
  l10_10
def h10_7 : HC :=
  (.seq
  (.reg (.need (.n2 (.bin .eql) (.slot 2) (.lit (.int .i64 0))) ::
    .need (.gif (.n2 (.bin .eql) (.slot 2) (.lit (.int .i64 0))) true (.n2 (.bin .eql) (.slot 3) (.lit (.int .i64 0)))) ::
    .need (.n3 .pick (.n2 (.bin .eql) (.slot 2) (.lit (.int .i64 0))) (.n2 (.bin .eql) (.slot 3) (.lit (.int .i64 0))) (.lit (.bool false))) ::
    .need (.gif (.n3 .pick (.n2 (.bin .eql) (.slot 2) (.lit (.int .i64 0))) (.n2 (.bin .eql) (.slot 3) (.lit (.int .i64 0))) (.lit (.bool false))) true (.n2 (.bin .eql) (.slot 4) (.lit (.int .i64 0)))) ::
    .need (.n3 .pick (.n3 .pick (.n2 (.bin .eql) (.slot 2) (.lit (.int .i64 0))) (.n2 (.bin .eql) (.slot 3) (.lit (.int .i64 0))) (.lit (.bool false))) (.n2 (.bin .eql) (.slot 4) (.lit (.int .i64 0))) (.lit (.bool false))) ::
    .need (.gif (.n3 .pick (.n3 .pick (.n2 (.bin .eql) (.slot 2) (.lit (.int .i64 0))) (.n2 (.bin .eql) (.slot 3) (.lit (.int .i64 0))) (.lit (.bool false))) (.n2 (.bin .eql) (.slot 4) (.lit (.int .i64 0))) (.lit (.bool false))) true (.n2 (.bin .eql) (.slot 6) (.lit (.int .i64 8)))) ::
    .need (.n3 .pick (.n3 .pick (.n3 .pick (.n2 (.bin .eql) (.slot 2) (.lit (.int .i64 0))) (.n2 (.bin .eql) (.slot 3) (.lit (.int .i64 0))) (.lit (.bool false))) (.n2 (.bin .eql) (.slot 4) (.lit (.int .i64 0))) (.lit (.bool false))) (.n2 (.bin .eql) (.slot 6) (.lit (.int .i64 8))) (.lit (.bool false))) ::
    .need (.n3 .pick (.n3 .pick (.n3 .pick (.n3 .pick (.n2 (.bin .eql) (.slot 2) (.lit (.int .i64 0))) (.n2 (.bin .eql) (.slot 3) (.lit (.int .i64 0))) (.lit (.bool false))) (.n2 (.bin .eql) (.slot 4) (.lit (.int .i64 0))) (.lit (.bool false))) (.n2 (.bin .eql) (.slot 6) (.lit (.int .i64 8))) (.lit (.bool false))) (.slot 7) (.lit (.bool false))) ::
    .need (.gif (.n3 .pick (.n3 .pick (.n3 .pick (.n3 .pick (.n2 (.bin .eql) (.slot 2) (.lit (.int .i64 0))) (.n2 (.bin .eql) (.slot 3) (.lit (.int .i64 0))) (.lit (.bool false))) (.n2 (.bin .eql) (.slot 4) (.lit (.int .i64 0))) (.lit (.bool false))) (.n2 (.bin .eql) (.slot 6) (.lit (.int .i64 8))) (.lit (.bool false))) (.slot 7) (.lit (.bool false))) true (.n2 (.bin .eql) (.slot 9) (.lit (.int .i64 0)))) ::
    .need (.n3 .pick (.n3 .pick (.n3 .pick (.n3 .pick (.n3 .pick (.n2 (.bin .eql) (.slot 2) (.lit (.int .i64 0))) (.n2 (.bin .eql) (.slot 3) (.lit (.int .i64 0))) (.lit (.bool false))) (.n2 (.bin .eql) (.slot 4) (.lit (.int .i64 0))) (.lit (.bool false))) (.n2 (.bin .eql) (.slot 6) (.lit (.int .i64 8))) (.lit (.bool false))) (.slot 7) (.lit (.bool false))) (.n2 (.bin .eql) (.slot 9) (.lit (.int .i64 0))) (.lit (.bool false))) ::
    .need (.gif (.n3 .pick (.n3 .pick (.n3 .pick (.n3 .pick (.n3 .pick (.n2 (.bin .eql) (.slot 2) (.lit (.int .i64 0))) (.n2 (.bin .eql) (.slot 3) (.lit (.int .i64 0))) (.lit (.bool false))) (.n2 (.bin .eql) (.slot 4) (.lit (.int .i64 0))) (.lit (.bool false))) (.n2 (.bin .eql) (.slot 6) (.lit (.int .i64 8))) (.lit (.bool false))) (.slot 7) (.lit (.bool false))) (.n2 (.bin .eql) (.slot 9) (.lit (.int .i64 0))) (.lit (.bool false))) true (.n2 (.sbin .eql) (.slot 8) (.lit (str [104, 101, 108, 108, 111, 121])))) ::
    .need (.n3 .pick (.n3 .pick (.n3 .pick (.n3 .pick (.n3 .pick (.n3 .pick (.n2 (.bin .eql) (.slot 2) (.lit (.int .i64 0))) (.n2 (.bin .eql) (.slot 3) (.lit (.int .i64 0))) (.lit (.bool false))) (.n2 (.bin .eql) (.slot 4) (.lit (.int .i64 0))) (.lit (.bool false))) (.n2 (.bin .eql) (.slot 6) (.lit (.int .i64 8))) (.lit (.bool false))) (.slot 7) (.lit (.bool false))) (.n2 (.bin .eql) (.slot 9) (.lit (.int .i64 0))) (.lit (.bool false))) (.n2 (.sbin .eql) (.slot 8) (.lit (str [104, 101, 108, 108, 111, 121]))) (.lit (.bool false))) ::
    .need (.gif (.n3 .pick (.n3 .pick (.n3 .pick (.n3 .pick (.n3 .pick (.n3 .pick (.n2 (.bin .eql) (.slot 2) (.lit (.int .i64 0))) (.n2 (.bin .eql) (.slot 3) (.lit (.int .i64 0))) (.lit (.bool false))) (.n2 (.bin .eql) (.slot 4) (.lit (.int .i64 0))) (.lit (.bool false))) (.n2 (.bin .eql) (.slot 6) (.lit (.int .i64 8))) (.lit (.bool false))) (.slot 7) (.lit (.bool false))) (.n2 (.bin .eql) (.slot 9) (.lit (.int .i64 0))) (.lit (.bool false))) (.n2 (.sbin .eql) (.slot 8) (.lit (str [104, 101, 108, 108, 111, 121]))) (.lit (.bool false))) true (.n2 (.bin .eql) (.slot 10) (.lit (.int .i64 9)))) ::
    .need (.n3 .pick (.n3 .pick (.n3 .pick (.n3 .pick (.n3 .pick (.n3 .pick (.n3 .pick (.n2 (.bin .eql) (.slot 2) (.lit (.int .i64 0))) (.n2 (.bin .eql) (.slot 3) (.lit (.int .i64 0))) (.lit (.bool false))) (.n2 (.bin .eql) (.slot 4) (.lit (.int .i64 0))) (.lit (.bool false))) (.n2 (.bin .eql) (.slot 6) (.lit (.int .i64 8))) (.lit (.bool false))) (.slot 7) (.lit (.bool false))) (.n2 (.bin .eql) (.slot 9) (.lit (.int .i64 0))) (.lit (.bool false))) (.n2 (.sbin .eql) (.slot 8) (.lit (str [104, 101, 108, 108, 111, 121]))) (.lit (.bool false))) (.n2 (.bin .eql) (.slot 10) (.lit (.int .i64 9))) (.lit (.bool false))) ::
    .need (.gif (.n3 .pick (.n3 .pick (.n3 .pick (.n3 .pick (.n3 .pick (.n3 .pick (.n3 .pick (.n2 (.bin .eql) (.slot 2) (.lit (.int .i64 0))) (.n2 (.bin .eql) (.slot 3) (.lit (.int .i64 0))) (.lit (.bool false))) (.n2 (.bin .eql) (.slot 4) (.lit (.int .i64 0))) (.lit (.bool false))) (.n2 (.bin .eql) (.slot 6) (.lit (.int .i64 8))) (.lit (.bool false))) (.slot 7) (.lit (.bool false))) (.n2 (.bin .eql) (.slot 9) (.lit (.int .i64 0))) (.lit (.bool false))) (.n2 (.sbin .eql) (.slot 8) (.lit (str [104, 101, 108, 108, 111, 121]))) (.lit (.bool false))) (.n2 (.bin .eql) (.slot 10) (.lit (.int .i64 9))) (.lit (.bool false))) true (.n2 (.bin .eql) (.slot 11) (.lit (.int .i64 0)))) ::
    .need (.n3 .pick (.n3 .pick (.n3 .pick (.n3 .pick (.n3 .pick (.n3 .pick (.n3 .pick (.n3 .pick (.n2 (.bin .eql) (.slot 2) (.lit (.int .i64 0))) (.n2 (.bin .eql) (.slot 3) (.lit (.int .i64 0))) (.lit (.bool false))) (.n2 (.bin .eql) (.slot 4) (.lit (.int .i64 0))) (.lit (.bool false))) (.n2 (.bin .eql) (.slot 6) (.lit (.int .i64 8))) (.lit (.bool false))) (.slot 7) (.lit (.bool false))) (.n2 (.bin .eql) (.slot 9) (.lit (.int .i64 0))) (.lit (.bool false))) (.n2 (.sbin .eql) (.slot 8) (.lit (str [104, 101, 108, 108, 111, 121]))) (.lit (.bool false))) (.n2 (.bin .eql) (.slot 10) (.lit (.int .i64 9))) (.lit (.bool false))) (.n2 (.bin .eql) (.slot 11) (.lit (.int .i64 0))) (.lit (.bool false))) ::
    .need (.gif (.n3 .pick (.n3 .pick (.n3 .pick (.n3 .pick (.n3 .pick (.n3 .pick (.n3 .pick (.n3 .pick (.n2 (.bin .eql) (.slot 2) (.lit (.int .i64 0))) (.n2 (.bin .eql) (.slot 3) (.lit (.int .i64 0))) (.lit (.bool false))) (.n2 (.bin .eql) (.slot 4) (.lit (.int .i64 0))) (.lit (.bool false))) (.n2 (.bin .eql) (.slot 6) (.lit (.int .i64 8))) (.lit (.bool false))) (.slot 7) (.lit (.bool false))) (.n2 (.bin .eql) (.slot 9) (.lit (.int .i64 0))) (.lit (.bool false))) (.n2 (.sbin .eql) (.slot 8) (.lit (str [104, 101, 108, 108, 111, 121]))) (.lit (.bool false))) (.n2 (.bin .eql) (.slot 10) (.lit (.int .i64 9))) (.lit (.bool false))) (.n2 (.bin .eql) (.slot 11) (.lit (.int .i64 0))) (.lit (.bool false))) true (.n2 (.bin .eql) (.slot 12) (.lit (.int .i64 7)))) ::
    .need (.n3 .pick (.n3 .pick (.n3 .pick (.n3 .pick (.n3 .pick (.n3 .pick (.n3 .pick (.n3 .pick (.n3 .pick (.n2 (.bin .eql) (.slot 2) (.lit (.int .i64 0))) (.n2 (.bin .eql) (.slot 3) (.lit (.int .i64 0))) (.lit (.bool false))) (.n2 (.bin .eql) (.slot 4) (.lit (.int .i64 0))) (.lit (.bool false))) (.n2 (.bin .eql) (.slot 6) (.lit (.int .i64 8))) (.lit (.bool false))) (.slot 7) (.lit (.bool false))) (.n2 (.bin .eql) (.slot 9) (.lit (.int .i64 0))) (.lit (.bool false))) (.n2 (.sbin .eql) (.slot 8) (.lit (str [104, 101, 108, 108, 111, 121]))) (.lit (.bool false))) (.n2 (.bin .eql) (.slot 10) (.lit (.int .i64 9))) (.lit (.bool false))) (.n2 (.bin .eql) (.slot 11) (.lit (.int .i64 0))) (.lit (.bool false))) (.n2 (.bin .eql) (.slot 12) (.lit (.int .i64 7))) (.lit (.bool false))) ::
    .need (.gif (.n3 .pick (.n3 .pick (.n3 .pick (.n3 .pick (.n3 .pick (.n3 .pick (.n3 .pick (.n3 .pick (.n3 .pick (.n2 (.bin .eql) (.slot 2) (.lit (.int .i64 0))) (.n2 (.bin .eql) (.slot 3) (.lit (.int .i64 0))) (.lit (.bool false))) (.n2 (.bin .eql) (.slot 4) (.lit (.int .i64 0))) (.lit (.bool false))) (.n2 (.bin .eql) (.slot 6) (.lit (.int .i64 8))) (.lit (.bool false))) (.slot 7) (.lit (.bool false))) (.n2 (.bin .eql) (.slot 9) (.lit (.int .i64 0))) (.lit (.bool false))) (.n2 (.sbin .eql) (.slot 8) (.lit (str [104, 101, 108, 108, 111, 121]))) (.lit (.bool false))) (.n2 (.bin .eql) (.slot 10) (.lit (.int .i64 9))) (.lit (.bool false))) (.n2 (.bin .eql) (.slot 11) (.lit (.int .i64 0))) (.lit (.bool false))) (.n2 (.bin .eql) (.slot 12) (.lit (.int .i64 7))) (.lit (.bool false))) true (.n2 (.bin .eql) (.slot 13) (.lit (.int .i64 0)))) ::
    .need (.n3 .pick (.n3 .pick (.n3 .pick (.n3 .pick (.n3 .pick (.n3 .pick (.n3 .pick (.n3 .pick (.n3 .pick (.n3 .pick (.n2 (.bin .eql) (.slot 2) (.lit (.int .i64 0))) (.n2 (.bin .eql) (.slot 3) (.lit (.int .i64 0))) (.lit (.bool false))) (.n2 (.bin .eql) (.slot 4) (.lit (.int .i64 0))) (.lit (.bool false))) (.n2 (.bin .eql) (.slot 6) (.lit (.int .i64 8))) (.lit (.bool false))) (.slot 7) (.lit (.bool false))) (.n2 (.bin .eql) (.slot 9) (.lit (.int .i64 0))) (.lit (.bool false))) (.n2 (.sbin .eql) (.slot 8) (.lit (str [104, 101, 108, 108, 111, 121]))) (.lit (.bool false))) (.n2 (.bin .eql) (.slot 10) (.lit (.int .i64 9))) (.lit (.bool false))) (.n2 (.bin .eql) (.slot 11) (.lit (.int .i64 0))) (.lit (.bool false))) (.n2 (.bin .eql) (.slot 12) (.lit (.int .i64 7))) (.lit (.bool false))) (.n2 (.bin .eql) (.slot 13) (.lit (.int .i64 0))) (.lit (.bool false))) ::
    .need (.gif (.n3 .pick (.n3 .pick (.n3 .pick (.n3 .pick (.n3 .pick (.n3 .pick (.n3 .pick (.n3 .pick (.n3 .pick (.n3 .pick (.n2 (.bin .eql) (.slot 2) (.lit (.int .i64 0))) (.n2 (.bin .eql) (.slot 3) (.lit (.int .i64 0))) (.lit (.bool false))) (.n2 (.bin .eql) (.slot 4) (.lit (.int .i64 0))) (.lit (.bool false))) (.n2 (.bin .eql) (.slot 6) (.lit (.int .i64 8))) (.lit (.bool false))) (.slot 7) (.lit (.bool false))) (.n2 (.bin .eql) (.slot 9) (.lit (.int .i64 0))) (.lit (.bool false))) (.n2 (.sbin .eql) (.slot 8) (.lit (str [104, 101, 108, 108, 111, 121]))) (.lit (.bool false))) (.n2 (.bin .eql) (.slot 10) (.lit (.int .i64 9))) (.lit (.bool false))) (.n2 (.bin .eql) (.slot 11) (.lit (.int .i64 0))) (.lit (.bool false))) (.n2 (.bin .eql) (.slot 12) (.lit (.int .i64 7))) (.lit (.bool false))) (.n2 (.bin .eql) (.slot 13) (.lit (.int .i64 0))) (.lit (.bool false))) true (.n2 (.bin .eql) (.slot 14) (.lit (.int .i64 0)))) ::
    .need (.n3 .pick (.n3 .pick (.n3 .pick (.n3 .pick (.n3 .pick (.n3 .pick (.n3 .pick (.n3 .pick (.n3 .pick (.n3 .pick (.n3 .pick (.n2 (.bin .eql) (.slot 2) (.lit (.int .i64 0))) (.n2 (.bin .eql) (.slot 3) (.lit (.int .i64 0))) (.lit (.bool false))) (.n2 (.bin .eql) (.slot 4) (.lit (.int .i64 0))) (.lit (.bool false))) (.n2 (.bin .eql) (.slot 6) (.lit (.int .i64 8))) (.lit (.bool false))) (.slot 7) (.lit (.bool false))) (.n2 (.bin .eql) (.slot 9) (.lit (.int .i64 0))) (.lit (.bool false))) (.n2 (.sbin .eql) (.slot 8) (.lit (str [104, 101, 108, 108, 111, 121]))) (.lit (.bool false))) (.n2 (.bin .eql) (.slot 10) (.lit (.int .i64 9))) (.lit (.bool false))) (.n2 (.bin .eql) (.slot 11) (.lit (.int .i64 0))) (.lit (.bool false))) (.n2 (.bin .eql) (.slot 12) (.lit (.int .i64 7))) (.lit (.bool false))) (.n2 (.bin .eql) (.slot 13) (.lit (.int .i64 0))) (.lit (.bool false))) (.n2 (.bin .eql) (.slot 14) (.lit (.int .i64 0))) (.lit (.bool false))) ::
    .need (.gif (.n3 .pick (.n3 .pick (.n3 .pick (.n3 .pick (.n3 .pick (.n3 .pick (.n3 .pick (.n3 .pick (.n3 .pick (.n3 .pick (.n3 .pick (.n2 (.bin .eql) (.slot 2) (.lit (.int .i64 0))) (.n2 (.bin .eql) (.slot 3) (.lit (.int .i64 0))) (.lit (.bool false))) (.n2 (.bin .eql) (.slot 4) (.lit (.int .i64 0))) (.lit (.bool false))) (.n2 (.bin .eql) (.slot 6) (.lit (.int .i64 8))) (.lit (.bool false))) (.slot 7) (.lit (.bool false))) (.n2 (.bin .eql) (.slot 9) (.lit (.int .i64 0))) (.lit (.bool false))) (.n2 (.sbin .eql) (.slot 8) (.lit (str [104, 101, 108, 108, 111, 121]))) (.lit (.bool false))) (.n2 (.bin .eql) (.slot 10) (.lit (.int .i64 9))) (.lit (.bool false))) (.n2 (.bin .eql) (.slot 11) (.lit (.int .i64 0))) (.lit (.bool false))) (.n2 (.bin .eql) (.slot 12) (.lit (.int .i64 7))) (.lit (.bool false))) (.n2 (.bin .eql) (.slot 13) (.lit (.int .i64 0))) (.lit (.bool false))) (.n2 (.bin .eql) (.slot 14) (.lit (.int .i64 0))) (.lit (.bool false))) true (.n2 (.sbin .eql) (.slot 15) (.lit (str [120])))) ::
    .need (.n3 .pick (.n3 .pick (.n3 .pick (.n3 .pick (.n3 .pick (.n3 .pick (.n3 .pick (.n3 .pick (.n3 .pick (.n3 .pick (.n3 .pick (.n3 .pick (.n2 (.bin .eql) (.slot 2) (.lit (.int .i64 0))) (.n2 (.bin .eql) (.slot 3) (.lit (.int .i64 0))) (.lit (.bool false))) (.n2 (.bin .eql) (.slot 4) (.lit (.int .i64 0))) (.lit (.bool false))) (.n2 (.bin .eql) (.slot 6) (.lit (.int .i64 8))) (.lit (.bool false))) (.slot 7) (.lit (.bool false))) (.n2 (.bin .eql) (.slot 9) (.lit (.int .i64 0))) (.lit (.bool false))) (.n2 (.sbin .eql) (.slot 8) (.lit (str [104, 101, 108, 108, 111, 121]))) (.lit (.bool false))) (.n2 (.bin .eql) (.slot 10) (.lit (.int .i64 9))) (.lit (.bool false))) (.n2 (.bin .eql) (.slot 11) (.lit (.int .i64 0))) (.lit (.bool false))) (.n2 (.bin .eql) (.slot 12) (.lit (.int .i64 7))) (.lit (.bool false))) (.n2 (.bin .eql) (.slot 13) (.lit (.int .i64 0))) (.lit (.bool false))) (.n2 (.bin .eql) (.slot 14) (.lit (.int .i64 0))) (.lit (.bool false))) (.n2 (.sbin .eql) (.slot 15) (.lit (str [120]))) (.lit (.bool false))) ::
    .eff (some 145) (.call { callee := .value (.func 18), args := #[.tmp 144, .const (.int .i64 2)], argTypes := #[24, 3] }) 3 [(144, .slot 1)] (some (.n3 .pick (.n3 .pick (.n3 .pick (.n3 .pick (.n3 .pick (.n3 .pick (.n3 .pick (.n3 .pick (.n3 .pick (.n3 .pick (.n3 .pick (.n3 .pick (.n2 (.bin .eql) (.slot 2) (.lit (.int .i64 0))) (.n2 (.bin .eql) (.slot 3) (.lit (.int .i64 0))) (.lit (.bool false))) (.n2 (.bin .eql) (.slot 4) (.lit (.int .i64 0))) (.lit (.bool false))) (.n2 (.bin .eql) (.slot 6) (.lit (.int .i64 8))) (.lit (.bool false))) (.slot 7) (.lit (.bool false))) (.n2 (.bin .eql) (.slot 9) (.lit (.int .i64 0))) (.lit (.bool false))) (.n2 (.sbin .eql) (.slot 8) (.lit (str [104, 101, 108, 108, 111, 121]))) (.lit (.bool false))) (.n2 (.bin .eql) (.slot 10) (.lit (.int .i64 9))) (.lit (.bool false))) (.n2 (.bin .eql) (.slot 11) (.lit (.int .i64 0))) (.lit (.bool false))) (.n2 (.bin .eql) (.slot 12) (.lit (.int .i64 7))) (.lit (.bool false))) (.n2 (.bin .eql) (.slot 13) (.lit (.int .i64 0))) (.lit (.bool false))) (.n2 (.bin .eql) (.slot 14) (.lit (.int .i64 0))) (.lit (.bool false))) (.n2 (.sbin .eql) (.slot 15) (.lit (str [120]))) (.lit (.bool false)), true)) [] ::
    l10_11))
  .ret)
def h10_6 : HC :=
  (.seq
  (.reg [.eff (some 70) (.call { callee := .value (.func 16), args := #[.tmp 69], argTypes := #[24] }) 0 [(69, .slot 1)] none []])
  (.seq
  (.reg [.eff (some 73) (.call { callee := .value (.func 17), args := #[.tmp 72, .const (.int .i64 3)], argTypes := #[24, 3] }) 31 [(72, .slot 1)] none [],
    .need (.n1 (.ext 0) (.slot 73)),
    .need (.n1 (.ext 1) (.slot 73)),
    .asg 17 (.n1 (.ext 0) (.slot 73))])
  (.seq
  (.seq
  (.reg [.need (.n1 .lens (.slot 17)),
    .need (.n2 (.bin .neq) (.n1 .lens (.slot 17)) (.lit (.int .i64 66))),
    .need (.gif (.n2 (.bin .neq) (.n1 .lens (.slot 17)) (.lit (.int .i64 66))) false (.n3 (.sls true false) (.slot 17) (.lit (.int .i64 64)) (.lit (.tuple #[])))),
    .need (.gif (.n2 (.bin .neq) (.n1 .lens (.slot 17)) (.lit (.int .i64 66))) false (.n2 (.sbin .neq) (.n3 (.sls true false) (.slot 17) (.lit (.int .i64 64)) (.lit (.tuple #[]))) (.lit (str [99, 100])))),
    .need (.n3 .pick (.n2 (.bin .neq) (.n1 .lens (.slot 17)) (.lit (.int .i64 66))) (.lit (.bool true)) (.n2 (.sbin .neq) (.n3 (.sls true false) (.slot 17) (.lit (.int .i64 64)) (.lit (.tuple #[]))) (.lit (str [99, 100])))),
    .need (.gif (.n3 .pick (.n2 (.bin .neq) (.n1 .lens (.slot 17)) (.lit (.int .i64 66))) (.lit (.bool true)) (.n2 (.sbin .neq) (.n3 (.sls true false) (.slot 17) (.lit (.int .i64 64)) (.lit (.tuple #[]))) (.lit (str [99, 100])))) false (.n2 .idxs (.slot 17) (.lit (.int .i64 0)))),
    .need (.gif (.n3 .pick (.n2 (.bin .neq) (.n1 .lens (.slot 17)) (.lit (.int .i64 66))) (.lit (.bool true)) (.n2 (.sbin .neq) (.n3 (.sls true false) (.slot 17) (.lit (.int .i64 64)) (.lit (.tuple #[]))) (.lit (str [99, 100])))) false (.n2 (.bin .neq) (.n2 .idxs (.slot 17) (.lit (.int .i64 0))) (.lit (.int .u8 0)))),
    .need (.n3 .pick (.n3 .pick (.n2 (.bin .neq) (.n1 .lens (.slot 17)) (.lit (.int .i64 66))) (.lit (.bool true)) (.n2 (.sbin .neq) (.n3 (.sls true false) (.slot 17) (.lit (.int .i64 64)) (.lit (.tuple #[]))) (.lit (str [99, 100])))) (.lit (.bool true)) (.n2 (.bin .neq) (.n2 .idxs (.slot 17) (.lit (.int .i64 0))) (.lit (.int .u8 0)))),
    .need (.gif (.n3 .pick (.n3 .pick (.n2 (.bin .neq) (.n1 .lens (.slot 17)) (.lit (.int .i64 66))) (.lit (.bool true)) (.n2 (.sbin .neq) (.n3 (.sls true false) (.slot 17) (.lit (.int .i64 64)) (.lit (.tuple #[]))) (.lit (str [99, 100])))) (.lit (.bool true)) (.n2 (.bin .neq) (.n2 .idxs (.slot 17) (.lit (.int .i64 0))) (.lit (.int .u8 0)))) false (.n2 .idxs (.slot 17) (.lit (.int .i64 63)))),
    .need (.gif (.n3 .pick (.n3 .pick (.n2 (.bin .neq) (.n1 .lens (.slot 17)) (.lit (.int .i64 66))) (.lit (.bool true)) (.n2 (.sbin .neq) (.n3 (.sls true false) (.slot 17) (.lit (.int .i64 64)) (.lit (.tuple #[]))) (.lit (str [99, 100])))) (.lit (.bool true)) (.n2 (.bin .neq) (.n2 .idxs (.slot 17) (.lit (.int .i64 0))) (.lit (.int .u8 0)))) false (.n2 (.bin .neq) (.n2 .idxs (.slot 17) (.lit (.int .i64 63))) (.lit (.int .u8 0)))),
    .need (.n3 .pick (.n3 .pick (.n3 .pick (.n2 (.bin .neq) (.n1 .lens (.slot 17)) (.lit (.int .i64 66))) (.lit (.bool true)) (.n2 (.sbin .neq) (.n3 (.sls true false) (.slot 17) (.lit (.int .i64 64)) (.lit (.tuple #[]))) (.lit (str [99, 100])))) (.lit (.bool true)) (.n2 (.bin .neq) (.n2 .idxs (.slot 17) (.lit (.int .i64 0))) (.lit (.int .u8 0)))) (.lit (.bool true)) (.n2 (.bin .neq) (.n2 .idxs (.slot 17) (.lit (.int .i64 63))) (.lit (.int .u8 0)))),
    .asg 93 (.n3 .pick (.n3 .pick (.n3 .pick (.n2 (.bin .neq) (.n1 .lens (.slot 17)) (.lit (.int .i64 66))) (.lit (.bool true)) (.n2 (.sbin .neq) (.n3 (.sls true false) (.slot 17) (.lit (.int .i64 64)) (.lit (.tuple #[]))) (.lit (str [99, 100])))) (.lit (.bool true)) (.n2 (.bin .neq) (.n2 .idxs (.slot 17) (.lit (.int .i64 0))) (.lit (.int .u8 0)))) (.lit (.bool true)) (.n2 (.bin .neq) (.n2 .idxs (.slot 17) (.lit (.int .i64 63))) (.lit (.int .u8 0))))])
  (.cond (.slot 93)
    (.seq
    (.reg [.asg 0 (.lit (.bool false))])
    .ret)
    .skip))
  h10_7)))
def h10_5 : HC :=
  (.seq
  (.reg [.eff (some 61) (.call { callee := .value (.func 17), args := #[.tmp 60, .const (.int .i64 1)], argTypes := #[24, 3] }) 31 [(60, .slot 1)] none [],
    .need (.n1 (.ext 0) (.slot 61)),
    .need (.n1 (.ext 1) (.slot 61)),
    .asg 15 (.n1 (.ext 0) (.slot 61))])
  (.seq
  (.reg [.eff (some 65) (.call { callee := .value (.func 12), args := #[.tmp 64, .const (.int .i64 3), .const (.int .i64 62), .const (str [97, 98, 99, 100])], argTypes := #[24, 3, 3, 9] }) 26 [(64, .slot 1)] none []])
  (.seq
  (.reg [.eff (some 67) (.buildSlice 22 2 #[(0, .const (.int .i64 0)), (1, .const (.int .i64 1))]) 22 [] none [],
    .eff (some 68) (.call { callee := .value (.func 15), args := #[.tmp 66, .tmp 67], argTypes := #[24, 22] }) 0 [(66, .slot 1), (67, .slot 67)] none []])
  h10_6)))
def h10_4 : HC :=
  (.seq
  (.reg [.eff (some 52) (.call { callee := .value (.func 12), args := #[.tmp 51, .const (.int .i64 2), .const (.int .i64 0), .const (str [120])], argTypes := #[24, 3, 3, 9] }) 26 [(51, .slot 1)] none [],
    .asg 11 (.slot 52)])
  (.seq
  (.reg [.eff (some 54) (.call { callee := .value (.func 14), args := #[.tmp 53, .const (.int .i64 1), .const (.int .i64 2)], argTypes := #[24, 3, 3] }) 26 [(53, .slot 1)] none [],
    .asg 12 (.slot 54)])
  (.seq
  (.reg [.eff (some 56) (.call { callee := .value (.func 13), args := #[.tmp 55, .const (.int .i64 2)], argTypes := #[24, 3] }) 26 [(55, .slot 1)] none [],
    .asg 13 (.slot 56)])
  (.seq
  (.reg [.eff (some 58) (.call { callee := .value (.func 14), args := #[.tmp 57, .const (.int .i64 1), .const (.int .i64 2)], argTypes := #[24, 3, 3] }) 26 [(57, .slot 1)] none [],
    .asg 14 (.slot 58)])
  h10_5))))
def h10_3 : HC :=
  (.seq
  (.reg [.eff (some 41) (.call { callee := .value (.func 16), args := #[.tmp 40], argTypes := #[24] }) 0 [(40, .slot 1)] none []])
  (.seq
  (.reg [.eff (some 44) (.call { callee := .value (.func 17), args := #[.tmp 43, .const (.int .i64 1)], argTypes := #[24, 3] }) 31 [(43, .slot 1)] none [],
    .need (.n1 (.ext 0) (.slot 44)),
    .need (.n1 (.ext 1) (.slot 44)),
    .asg 8 (.n1 (.ext 0) (.slot 44)),
    .asg 9 (.n1 (.ext 1) (.slot 44))])
  (.seq
  (.reg [.eff (some 48) (.call { callee := .value (.func 27), args := #[.tmp 47, .const (.int .i64 1)], argTypes := #[24, 3] }) 0 [(47, .slot 1)] none []])
  (.seq
  (.reg [.eff (some 50) (.call { callee := .value (.func 13), args := #[.tmp 49, .const (.int .i64 1)], argTypes := #[24, 3] }) 26 [(49, .slot 1)] none [],
    .asg 10 (.slot 50)])
  h10_4))))
def h10_2 : HC :=
  (.seq
  (.reg [.eff (some 31) (.buildSlice 22 1 #[(0, .const (.int .i64 1))]) 22 [] none [],
    .eff (some 32) (.call { callee := .value (.func 15), args := #[.tmp 30, .tmp 31], argTypes := #[24, 22] }) 0 [(30, .slot 1), (31, .slot 31)] none []])
  (.seq
  (.reg [.eff (some 35) (.call { callee := .value (.func 17), args := #[.tmp 34, .const (.int .i64 1)], argTypes := #[24, 3] }) 31 [(34, .slot 1)] none [],
    .need (.n1 (.ext 0) (.slot 35)),
    .need (.n1 (.ext 1) (.slot 35)),
    .asg 6 (.n1 (.ext 1) (.slot 35))])
  (.seq
  (.reg [.eff (some 39) (.call { callee := .value (.func 21), args := #[.tmp 38], argTypes := #[24] }) 4 [(38, .slot 1)] none [],
    .asg 7 (.slot 39)])
  h10_3)))
def h10_1 : HC :=
  (.seq
  (.reg [.eff (some 23) (.call { callee := .value (.func 12), args := #[.tmp 22, .const (.int .i64 1), .const (.int .i64 0), .const (str [104, 101, 108, 108, 111])], argTypes := #[24, 3, 3, 9] }) 26 [(22, .slot 1)] none [],
    .asg 2 (.slot 23)])
  (.seq
  (.reg [.eff (some 25) (.call { callee := .value (.func 13), args := #[.tmp 24, .const (.int .i64 1)], argTypes := #[24, 3] }) 26 [(24, .slot 1)] none [],
    .asg 3 (.slot 25)])
  (.seq
  (.reg [.eff (some 27) (.call { callee := .value (.func 12), args := #[.tmp 26, .const (.int .i64 1), .const (.int .i64 5), .const (str [121])], argTypes := #[24, 3, 3, 9] }) 26 [(26, .slot 1)] none [],
    .asg 4 (.slot 27)])
  (.seq
  (.reg [.eff (some 29) (.call { callee := .value (.func 12), args := #[.tmp 28, .const (.int .i64 1), .const (.int .i64 8), .const (str [122])], argTypes := #[24, 3, 3, 9] }) 26 [(28, .slot 1)] none []])
  h10_2))))
def h10 : HC :=
  (.seq
  (.reg [.asg 0 (.lit (.bool false))])
  (.seq
  (.reg [.eff (some 19) (.call { callee := .value (.func 11), args := #[], argTypes := #[] }) 24 [] none [],
    .asg 1 (.slot 19)])
  (.seq
  (.seq
  (.reg [.need (.n2 (.pnil false) (.slot 1) (.lit (.pointer none))),
    .asg 21 (.n2 (.pnil false) (.slot 1) (.lit (.pointer none)))])
  (.cond (.slot 21)
    (.seq
    (.reg [.asg 0 (.lit (.bool false))])
    .ret)
    .skip))
  h10_1)))
theorem k10 : fnOK Try.prog 1508645412680596655534794872566574707186825101279 [] [.tmp 0] 0 Try.f10 = some h10 := by kernel_rfl
theorem c10 : callable Try.prog 10 = true := by kernel_rfl
theorem q10 {args : List Value} (ha : args.length = 0) {w : World} {next : Value → World → Prop} {QP : List PanicEntry → World → Prop} (H : hw Try.prog noPanic h10 (endV [.tmp 0] next) (σ0 args) w) : callK Try.prog 10 args w next QP := fn_rule Try.func10 mixed k10 ha H
theorem r10 {args : List Value} (ha : args.length = 0) {w : World} {next : Value → World → Prop} {QP : List PanicEntry → World → Prop} (H : hw Try.prog noPanic h10 (endV [.tmp 0] next) (σ0 args) w) : callvK Try.prog (.func (.func 10) #[] #[]) args w next QP := callf c10 (q10 ha H)

/- missive/disk.New -/
def h11 : HC :=
  (.seq
  (.reg [.asg 0 (.lit (.pointer none))])
  (.seq
  (.reg [.eff (some 2) (.box 58 (.tmp 1)) 24 [(1, .lit (.agg #[(str []), (str []), (str []), (str []), (str []), (str []), (str []), (str []), (str []), (str []), (str []), (str []), (str []), (str []), (str []), (str []), (str []), (str []), (str []), (str []), (str []), (str []), (str []), (str []), (.slice none 0 0), (.int .i64 0), (.bool false), (.int .i64 0), (.slice none 0 0)]))] none [],
    .asg 0 (.slot 2)])
  .ret))
theorem k11 : fnOK Try.prog 5 [] [.tmp 0] 0 Try.f11 = some h11 := by kernel_rfl
theorem c11 : callable Try.prog 11 = true := by kernel_rfl
theorem q11 {args : List Value} (ha : args.length = 0) {w : World} {next : Value → World → Prop} {QP : List PanicEntry → World → Prop} (H : hw Try.prog noPanic h11 (endV [.tmp 0] next) (σ0 args) w) : callK Try.prog 11 args w next QP := fn_rule Try.func11 mixed k11 ha H
theorem r11 {args : List Value} (ha : args.length = 0) {w : World} {next : Value → World → Prop} {QP : List PanicEntry → World → Prop} (H : hw Try.prog noPanic h11 (endV [.tmp 0] next) (σ0 args) w) : callvK Try.prog (.func (.func 11) #[] #[]) args w next QP := callf c11 (q11 ha H)

/- (*missive/disk.Disk).Write -/
def h12_1 : HC :=
  (.seq
  (.reg [.asg 8 (.slot 10)])
  .ret)
def h12 : HC :=
  (.seq
  (.reg [.asg 8 (.lit (.int .i64 0))])
  (.seq
  (.reg [.eff (some 12) (.call { callee := .value (.func 37), args := #[.tmp 11], argTypes := #[24] }) 4 [(11, .slot 0)] none [],
    .asg 9 (.slot 12)])
  (.seq
  (.reg [.eff (some 17) (.call { callee := .value (.func 38), args := #[.tmp 13, .tmp 14, .tmp 15, .tmp 16], argTypes := #[24, 3, 3, 9] }) 26 [(13, .slot 0), (14, .slot 1), (15, .slot 2), (16, .slot 3)] none [],
    .asg 10 (.slot 17)])
  (.seq
  (.seq
  (.reg [.asg 18 (.slot 9)])
  (.cond (.slot 18)
    (.seq
    (.reg [.need (.n1 .nilchk (.slot 0)),
      .need (.n1 (.faddr 28) (.n1 .nilchk (.slot 0))),
      .need (.n1 .ld (.n1 (.faddr 28) (.n1 .nilchk (.slot 0)))),
      .eff (some 24) (.call { callee := .value (.func 15), args := #[.tmp 19, .tmp 23], argTypes := #[24, 22] }) 0 [(19, .slot 0), (23, .n1 .ld (.n1 (.faddr 28) (.n1 .nilchk (.slot 0))))] none []])
    (.seq
    (.reg [.asg 8 (.lit (.int .i64 8))])
    .ret))
    .skip))
  h12_1))))
theorem k12 : fnOK Try.prog 17176335 [] [.tmp 8] 4 Try.f12 = some h12 := by kernel_rfl
theorem c12 : callable Try.prog 12 = true := by kernel_rfl
theorem q12 {args : List Value} (ha : args.length = 4) {w : World} {next : Value → World → Prop} {QP : List PanicEntry → World → Prop} (H : hw Try.prog noPanic h12 (endV [.tmp 8] next) (σ0 args) w) : callK Try.prog 12 args w next QP := fn_rule Try.func12 mixed k12 ha H
theorem r12 {args : List Value} (ha : args.length = 4) {w : World} {next : Value → World → Prop} {QP : List PanicEntry → World → Prop} (H : hw Try.prog noPanic h12 (endV [.tmp 8] next) (σ0 args) w) : callvK Try.prog (.func (.func 12) #[] #[]) args w next QP := callf c12 (q12 ha H)

/- (*missive/disk.Disk).Flush -/
def h13_3 : HC :=
  (.seq
  (.reg [.need (.n1 .nilchk (.slot 0)),
    .need (.n1 (.faddr 12) (.n1 .nilchk (.slot 0))),
    .need (.n2 (.iaddra 12 1) (.n1 (.faddr 12) (.n1 .nilchk (.slot 0))) (.slot 1)),
    .need (.n1 .ld (.n2 (.iaddra 12 1) (.n1 (.faddr 12) (.n1 .nilchk (.slot 0))) (.slot 1))),
    .eff (some 41) (.call { callee := .value (.func 40), args := #[.tmp 33, .tmp 34, .tmp 40], argTypes := #[24, 3, 9] }) 0 [(33, .slot 0), (34, .slot 1), (40, .n1 .ld (.n2 (.iaddra 12 1) (.n1 (.faddr 12) (.n1 .nilchk (.slot 0))) (.slot 1)))] none []])
  (.seq
  (.reg [.asg 4 (.lit (.int .i64 0))])
  .ret))
def h13_2 : HC :=
  (.seq
  (.seq
  (.reg [.need (.n1 .nilchk (.slot 0)),
    .need (.n1 (.faddr 25) (.n1 .nilchk (.slot 0))),
    .need (.n1 .ld (.n1 (.faddr 25) (.n1 .nilchk (.slot 0)))),
    .need (.n2 (.bin .gtr) (.n1 .ld (.n1 (.faddr 25) (.n1 .nilchk (.slot 0)))) (.lit (.int .i64 0))),
    .asg 25 (.n2 (.bin .gtr) (.n1 .ld (.n1 (.faddr 25) (.n1 .nilchk (.slot 0)))) (.lit (.int .i64 0)))])
  (.cond (.slot 25)
    (.seq
    (.reg [.need (.n1 .nilchk (.slot 0)),
      .need (.n1 (.faddr 25) (.n1 .nilchk (.slot 0))),
      .need (.n1 .ld (.n1 (.faddr 25) (.n1 .nilchk (.slot 0)))),
      .need (.n2 (.bin .sub) (.n1 .ld (.n1 (.faddr 25) (.n1 .nilchk (.slot 0)))) (.lit (.int .i64 1))),
      .need (.n1 .nilchk (.slot 0)),
      .need (.n1 (.faddr 25) (.n1 .nilchk (.slot 0))),
      .eff none (.store 3 (.tmp 32) (.tmp 30)) 0 [(32, .n1 (.faddr 25) (.n1 .nilchk (.slot 0))), (30, .n2 (.bin .sub) (.n1 .ld (.n1 (.faddr 25) (.n1 .nilchk (.slot 0)))) (.lit (.int .i64 1)))] none []])
    (.seq
    (.reg [.asg 4 (.lit (.int .i64 9))])
    .ret))
    .skip))
  h13_3)
def h13_1 : HC :=
  (.seq
  (.seq
  (.reg [.eff (some 16) (.buildSlice 22 1 #[(0, .tmp 15)]) 22 [(15, .slot 1)] none [],
    .eff (some 17) (.call { callee := .value (.func 39), args := #[.tmp 14, .tmp 16], argTypes := #[24, 22] }) 26 [(14, .slot 0), (16, .slot 16)] none [],
    .asg 5 (.slot 17)])
  (.seq
  (.reg [.need (.n2 (.bin .neq) (.slot 5) (.lit (.int .i64 0))),
    .asg 19 (.n2 (.bin .neq) (.slot 5) (.lit (.int .i64 0)))])
  (.cond (.slot 19)
    (.seq
    (.reg [.asg 4 (.slot 5)])
    .ret)
    .skip)))
  h13_2)
def h13 : HC :=
  (.seq
  (.reg [.asg 4 (.lit (.int .i64 0))])
  (.seq
  (.seq
  (.reg [.eff (some 7) (.call { callee := .value (.func 37), args := #[.tmp 6], argTypes := #[24] }) 4 [(6, .slot 0)] none []])
  (.cond (.slot 7)
    (.reg [.need (.n1 .nilchk (.slot 0)),
      .need (.n1 (.faddr 28) (.n1 .nilchk (.slot 0))),
      .need (.n1 .ld (.n1 (.faddr 28) (.n1 .nilchk (.slot 0)))),
      .eff (some 13) (.call { callee := .value (.func 15), args := #[.tmp 8, .tmp 12], argTypes := #[24, 22] }) 0 [(8, .slot 0), (12, .n1 .ld (.n1 (.faddr 28) (.n1 .nilchk (.slot 0))))] none []])
    .skip))
  h13_1))
theorem k13 : fnOK Try.prog 2199057539251 [] [.tmp 4] 2 Try.f13 = some h13 := by kernel_rfl
theorem c13 : callable Try.prog 13 = true := by kernel_rfl
theorem q13 {args : List Value} (ha : args.length = 2) {w : World} {next : Value → World → Prop} {QP : List PanicEntry → World → Prop} (H : hw Try.prog noPanic h13 (endV [.tmp 4] next) (σ0 args) w) : callK Try.prog 13 args w next QP := fn_rule Try.func13 mixed k13 ha H
theorem r13 {args : List Value} (ha : args.length = 2) {w : World} {next : Value → World → Prop} {QP : List PanicEntry → World → Prop} (H : hw Try.prog noPanic h13 (endV [.tmp 4] next) (σ0 args) w) : callvK Try.prog (.func (.func 13) #[] #[]) args w next QP := callf c13 (q13 ha H)

/- (*missive/disk.Disk).Turn -/
def h14_3 : HC :=
  (.seq
  (.draw [.need (.n1 .ld (.slot 5)),
    .need (.n1 .nilchk (.slot 0)),
    .need (.n1 (.faddr 0) (.n1 .nilchk (.slot 0))),
    .need (.n2 (.iaddra 12 1) (.n1 (.faddr 0) (.n1 .nilchk (.slot 0))) (.n1 .ld (.slot 5))),
    .need (.n1 .ld (.n2 (.iaddra 12 1) (.n1 (.faddr 0) (.n1 .nilchk (.slot 0))) (.n1 .ld (.slot 5)))),
    .eff (some 43) (.call { callee := .value (.func 40), args := #[.tmp 35, .tmp 36, .tmp 42], argTypes := #[24, 3, 9] }) 0 [(35, .slot 0), (36, .slot 1), (42, .n1 .ld (.n2 (.iaddra 12 1) (.n1 (.faddr 0) (.n1 .nilchk (.slot 0))) (.n1 .ld (.slot 5))))] none []])
  (.seq
  (.reg [.need (.n1 .ld (.slot 5)),
    .eff (some 46) (.call { callee := .value (.func 40), args := #[.tmp 44, .tmp 45, .const (str [])], argTypes := #[24, 3, 9] }) 0 [(44, .slot 0), (45, .n1 .ld (.slot 5))] none []])
  (.seq
  (.reg [.asg 6 (.lit (.int .i64 0))])
  .ret)))
def h14_2 : HC :=
  (.seq
  (.block 0
    (.seq
    (.reg [.need (.n1 .ld (.slot 5)),
      .need (.n2 (.bin .eql) (.slot 1) (.n1 .ld (.slot 5))),
      .asg 24 (.n2 (.bin .eql) (.slot 1) (.n1 .ld (.slot 5)))])
    (.cond (.slot 24)
      (.seq
      (.reg [.asg 6 (.lit (.int .i64 1))])
      .ret)
      (.seq
      (.reg [.need (.n1 .nilchk (.slot 0)),
        .need (.n1 (.faddr 24) (.n1 .nilchk (.slot 0))),
        .need (.n1 .ld (.n1 (.faddr 24) (.n1 .nilchk (.slot 0)))),
        .eff (some 34) (.call { callee := .value (.func 41), args := #[.tmp 32, .tmp 33], argTypes := #[56, 64] }) 4 [(32, .n1 .ld (.n1 (.faddr 24) (.n1 .nilchk (.slot 0)))), (33, .n2 .capt (.lit (.func (.func 42) #[] #[])) (.slot 5))] none [],
        .asg 28 (.slot 34)])
      (.cond (.slot 28)
        (.seq
        (.reg [.asg 6 (.lit (.int .i64 7))])
        .ret)
        .skip)))))
  h14_3)
def h14_1 : HC :=
  (.seq
  (.seq
  (.reg [.need (.n1 .ld (.slot 5)),
    .eff (some 19) (.buildSlice 22 2 #[(0, .tmp 17), (1, .tmp 18)]) 22 [(17, .slot 1), (18, .n1 .ld (.slot 5))] none [],
    .eff (some 20) (.call { callee := .value (.func 39), args := #[.tmp 16, .tmp 19], argTypes := #[24, 22] }) 26 [(16, .slot 0), (19, .slot 19)] none [],
    .asg 7 (.slot 20)])
  (.seq
  (.reg [.need (.n2 (.bin .neq) (.slot 7) (.lit (.int .i64 0))),
    .asg 22 (.n2 (.bin .neq) (.slot 7) (.lit (.int .i64 0)))])
  (.cond (.slot 22)
    (.seq
    (.reg [.asg 6 (.slot 7)])
    .ret)
    .skip)))
  h14_2)
def h14 : HC :=
  (.seq
  (.reg [.eff (some 5) (.box 3 (.tmp 2)) 0 [(2, .slot 2)] none [],
    .asg 6 (.lit (.int .i64 0))])
  (.seq
  (.seq
  (.reg [.eff (some 9) (.call { callee := .value (.func 37), args := #[.tmp 8], argTypes := #[24] }) 4 [(8, .slot 0)] none []])
  (.cond (.slot 9)
    (.reg [.need (.n1 .nilchk (.slot 0)),
      .need (.n1 (.faddr 28) (.n1 .nilchk (.slot 0))),
      .need (.n1 .ld (.n1 (.faddr 28) (.n1 .nilchk (.slot 0)))),
      .eff (some 15) (.call { callee := .value (.func 15), args := #[.tmp 10, .tmp 14], argTypes := #[24, 22] }) 0 [(10, .slot 0), (14, .n1 .ld (.n1 (.faddr 28) (.n1 .nilchk (.slot 0))))] none []])
    .skip))
  h14_1))
theorem k14 : fnOK Try.prog 79182308082407 [⟨10, [0, 0, 0, 0, 4, 20, 60, 124, 255], [(0, []), (1, []), (2, []), (3, []), (4, []), (5, []), (6, []), (7, []), (8, [])]⟩] [.tmp 6] 3 Try.f14 = some h14 := by kernel_rfl
theorem c14 : callable Try.prog 14 = true := by kernel_rfl
theorem q14 {args : List Value} (ha : args.length = 3) {w : World} {next : Value → World → Prop} {QP : List PanicEntry → World → Prop} (H : hw Try.prog noPanic h14 (endV [.tmp 6] next) (σ0 args) w) : callK Try.prog 14 args w next QP := fn_rule Try.func14 mixed k14 ha H
theorem r14 {args : List Value} (ha : args.length = 3) {w : World} {next : Value → World → Prop} {QP : List PanicEntry → World → Prop} (H : hw Try.prog noPanic h14 (endV [.tmp 6] next) (σ0 args) w) : callvK Try.prog (.func (.func 14) #[] #[]) args w next QP := callf c14 (q14 ha H)

/- (*missive/disk.Disk).Crash -/
def h15_4 : HC :=
  (.reg [.need (.n2 (.bin .add) (.slot 22) (.lit (.int .i64 1))),
    .asg 22 (.n2 (.bin .add) (.slot 22) (.lit (.int .i64 1)))])
def h15_3 : HC :=
  (.seq
  (.block 1
    (.seq
    (.reg [.need (.n2 (.iaddr 3) (.slot 20) (.slot 22)),
      .need (.n1 (.ldn 3) (.n2 (.iaddr 3) (.slot 20) (.slot 22))),
      .asg 26 (.n1 (.ldn 3) (.n2 (.iaddr 3) (.slot 20) (.slot 22))),
      .eff (some 5) (.alloc 63) 0 [] none [],
      .asg 4 (.slot 22),
      .eff none (.store 63 (.tmp 5) (.tmp 26)) 0 [(5, .slot 5), (26, .slot 26)] none []])
    (.seq
    (.reg [.need (.n1 (.faddr 2) (.slot 5)),
      .need (.n1 .ld (.n1 (.faddr 2) (.slot 5))),
      .need (.n1 .lens (.n1 .ld (.n1 (.faddr 2) (.slot 5)))),
      .asg 6 (.n1 .lens (.n1 .ld (.n1 (.faddr 2) (.slot 5))))])
    (.block 2
      (.seq
      (.reg [.need (.n1 .lensl (.slot 1)),
        .need (.n2 (.bin .geq) (.slot 4) (.n1 .lensl (.slot 1))),
        .asg 30 (.n2 (.bin .geq) (.slot 4) (.n1 .lensl (.slot 1)))])
      (.cond (.slot 30)
        .skip
        (.seq
        (.reg [.need (.n2 (.iaddr 1) (.slot 1) (.slot 4)),
          .need (.n1 .ld (.n2 (.iaddr 1) (.slot 1) (.slot 4))),
          .need (.n2 (.bin .eql) (.n1 .ld (.n2 (.iaddr 1) (.slot 1) (.slot 4))) (.lit (.int .i64 1))),
          .asg 35 (.n2 (.bin .eql) (.n1 .ld (.n2 (.iaddr 1) (.slot 1) (.slot 4))) (.lit (.int .i64 1)))])
        (.cond (.slot 35)
          (.draw [.need (.n1 (.faddr 0) (.slot 5)),
            .need (.n1 .ld (.n1 (.faddr 0) (.slot 5))),
            .asg 43 (.n1 .ld (.n1 (.faddr 0) (.slot 5))),
            .need (.n1 (.faddr 0) (.slot 5)),
            .need (.n1 .ld (.n1 (.faddr 0) (.slot 5))),
            .need (.n1 .nilchk (.slot 0)),
            .need (.n1 (.faddr 0) (.n1 .nilchk (.slot 0))),
            .need (.n2 (.iaddra 12 1) (.n1 (.faddr 0) (.n1 .nilchk (.slot 0))) (.n1 .ld (.n1 (.faddr 0) (.slot 5)))),
            .need (.n1 .ld (.n2 (.iaddra 12 1) (.n1 (.faddr 0) (.n1 .nilchk (.slot 0))) (.n1 .ld (.n1 (.faddr 0) (.slot 5))))),
            .need (.n1 (.faddr 1) (.slot 5)),
            .need (.n1 .ld (.n1 (.faddr 1) (.slot 5))),
            .need (.n1 (.faddr 2) (.slot 5)),
            .need (.n1 .ld (.n1 (.faddr 2) (.slot 5))),
            .need (.n1 .nilchk (.slot 0)),
            .need (.n1 (.faddr 0) (.n1 .nilchk (.slot 0))),
            .eff (some 55) (.call { callee := .value (.func 43), args := #[.tmp 50, .tmp 52, .tmp 54], argTypes := #[9, 3, 9] }) 9 [(50, .n1 .ld (.n2 (.iaddra 12 1) (.n1 (.faddr 0) (.n1 .nilchk (.slot 0))) (.n1 .ld (.n1 (.faddr 0) (.slot 5))))), (52, .n1 .ld (.n1 (.faddr 1) (.slot 5))), (54, .n1 .ld (.n1 (.faddr 2) (.slot 5)))] none [⟨none, .ld, .n1 (.faddr 0) (.slot 5)⟩],
            .need (.n2 (.iaddra 12 1) (.n1 (.faddr 0) (.n1 .nilchk (.slot 0))) (.slot 43)),
            .eff none (.store 9 (.tmp 58) (.tmp 55)) 0 [(58, .n2 (.iaddra 12 1) (.n1 (.faddr 0) (.n1 .nilchk (.slot 0))) (.slot 43)), (55, .slot 55)] none []])
          (.seq
          (.reg [.need (.n2 (.iaddr 1) (.slot 1) (.slot 4)),
            .need (.n1 .ld (.n2 (.iaddr 1) (.slot 1) (.slot 4))),
            .need (.n2 (.bin .eql) (.n1 .ld (.n2 (.iaddr 1) (.slot 1) (.slot 4))) (.lit (.int .i64 2))),
            .asg 59 (.n2 (.bin .eql) (.n1 .ld (.n2 (.iaddr 1) (.slot 1) (.slot 4))) (.lit (.int .i64 2)))])
          (.cond (.slot 59)
            (.draw [.need (.n1 (.faddr 0) (.slot 5)),
              .need (.n1 .ld (.n1 (.faddr 0) (.slot 5))),
              .asg 67 (.n1 .ld (.n1 (.faddr 0) (.slot 5))),
              .need (.n1 (.faddr 0) (.slot 5)),
              .need (.n1 .ld (.n1 (.faddr 0) (.slot 5))),
              .need (.n1 .nilchk (.slot 0)),
              .need (.n1 (.faddr 0) (.n1 .nilchk (.slot 0))),
              .need (.n2 (.iaddra 12 1) (.n1 (.faddr 0) (.n1 .nilchk (.slot 0))) (.n1 .ld (.n1 (.faddr 0) (.slot 5)))),
              .need (.n1 .ld (.n2 (.iaddra 12 1) (.n1 (.faddr 0) (.n1 .nilchk (.slot 0))) (.n1 .ld (.n1 (.faddr 0) (.slot 5))))),
              .need (.n1 (.faddr 1) (.slot 5)),
              .need (.n1 .ld (.n1 (.faddr 1) (.slot 5))),
              .need (.n1 (.faddr 2) (.slot 5)),
              .need (.n1 .ld (.n1 (.faddr 2) (.slot 5))),
              .need (.n2 .mn (.slot 6) (.lit (.int .i64 24))),
              .need (.n3 (.sls false true) (.n1 .ld (.n1 (.faddr 2) (.slot 5))) (.lit (.tuple #[])) (.n2 .mn (.slot 6) (.lit (.int .i64 24)))),
              .need (.n1 .nilchk (.slot 0)),
              .need (.n1 (.faddr 0) (.n1 .nilchk (.slot 0))),
              .eff (some 82) (.call { callee := .value (.func 43), args := #[.tmp 74, .tmp 76, .tmp 81], argTypes := #[9, 3, 9] }) 9 [(74, .n1 .ld (.n2 (.iaddra 12 1) (.n1 (.faddr 0) (.n1 .nilchk (.slot 0))) (.n1 .ld (.n1 (.faddr 0) (.slot 5))))), (76, .n1 .ld (.n1 (.faddr 1) (.slot 5))), (81, .n3 (.sls false true) (.n1 .ld (.n1 (.faddr 2) (.slot 5))) (.lit (.tuple #[])) (.n2 .mn (.slot 6) (.lit (.int .i64 24))))] none [⟨none, .ld, .n1 (.faddr 0) (.slot 5)⟩],
              .need (.n2 (.iaddra 12 1) (.n1 (.faddr 0) (.n1 .nilchk (.slot 0))) (.slot 67)),
              .eff none (.store 9 (.tmp 85) (.tmp 82)) 0 [(85, .n2 (.iaddra 12 1) (.n1 (.faddr 0) (.n1 .nilchk (.slot 0))) (.slot 67)), (82, .slot 82)] none []])
            .skip))))))))))
  h15_4)
def h15_2 : HC :=
  (.seq
  (.reg [.need (.n2 (.bin .lss) (.slot 22) (.slot 21)),
    .asg 23 (.n2 (.bin .lss) (.slot 22) (.slot 21))])
  (.seq
  (.cond (.slot 23)
    .skip
    (.exit 0))
  h15_3))
def h15_5 : HC :=
  (.reg [.need (.n1 .nilchk (.slot 0)),
    .need (.n1 (.faddr 0) (.n1 .nilchk (.slot 0))),
    .need (.n1 (.ldn 12) (.n1 (.faddr 0) (.n1 .nilchk (.slot 0)))),
    .need (.n1 .nilchk (.slot 0)),
    .need (.n1 (.faddr 12) (.n1 .nilchk (.slot 0))),
    .eff none (.store 55 (.tmp 94) (.tmp 92)) 0 [(94, .n1 (.faddr 12) (.n1 .nilchk (.slot 0))), (92, .n1 (.ldn 12) (.n1 (.faddr 0) (.n1 .nilchk (.slot 0))))] none [],
    .need (.n1 .nilchk (.slot 0)),
    .need (.n1 (.faddr 24) (.n1 .nilchk (.slot 0))),
    .eff none (.store 56 (.tmp 96) (.const (.slice none 0 0))) 0 [(96, .n1 (.faddr 24) (.n1 .nilchk (.slot 0)))] none []])
def h15_1 : HC :=
  (.seq
  (.reg [.need (.n1 .nilchk (.slot 0)),
    .need (.n1 (.faddr 26) (.n1 .nilchk (.slot 0))),
    .eff none (.store 4 (.tmp 14) (.const (.bool true))) 0 [(14, .n1 (.faddr 26) (.n1 .nilchk (.slot 0)))] none [],
    .need (.n1 .nilchk (.slot 0)),
    .need (.n1 (.faddr 27) (.n1 .nilchk (.slot 0))),
    .eff none (.store 3 (.tmp 16) (.const (.int .i64 0))) 0 [(16, .n1 (.faddr 27) (.n1 .nilchk (.slot 0)))] none []])
  (.seq
  (.seq
  (.reg [.need (.n1 .nilchk (.slot 0)),
    .need (.n1 (.faddr 24) (.n1 .nilchk (.slot 0))),
    .need (.n1 .ld (.n1 (.faddr 24) (.n1 .nilchk (.slot 0)))),
    .asg 20 (.n1 .ld (.n1 (.faddr 24) (.n1 .nilchk (.slot 0)))),
    .need (.n1 .lensl (.slot 20)),
    .asg 21 (.n1 .lensl (.slot 20)),
    .asg 22 (.lit (.int .i64 0))])
  (.block 0
    (.loop
      h15_2)))
  h15_5))
def h15 : HC :=
  (.seq
  (.seq
  (.reg [.need (.n1 .nilchk (.slot 0)),
    .need (.n1 (.faddr 26) (.n1 .nilchk (.slot 0))),
    .need (.n1 .ld (.n1 (.faddr 26) (.n1 .nilchk (.slot 0)))),
    .asg 10 (.n1 .ld (.n1 (.faddr 26) (.n1 .nilchk (.slot 0))))])
  (.cond (.slot 10)
    .ret
    .skip))
  h15_1)
theorem k15 : fnOK Try.prog 4835851464909487306966131 [⟨8, [0, 0, 2, 0, 0, 16, 8, 72, 248, 504, 0, 1024, 0, 4096, 16376, 1, 32769, 131071, 262143], [(0, []), (1, []), (2, []), (3, []), (4, []), (5, []), (6, []), (7, []), (8, []), (9, []), (10, []), (11, []), (12, []), (13, []), (15, []), (16, []), (14, [2]), (17, []), (18, [])]⟩, ⟨10, [0, 0, 2, 0, 0, 16, 8, 72, 248, 504, 0, 1024, 0, 4096, 0, 16384, 61440, 131064, 1, 262145, 1048575, 2097151], [(0, []), (1, []), (2, []), (3, []), (4, []), (5, []), (6, []), (7, []), (8, []), (9, []), (10, []), (11, []), (12, []), (13, []), (14, []), (15, []), (16, []), (18, []), (19, []), (17, [2]), (20, []), (21, [])]⟩] [] 2 Try.f15 = some h15 := by kernel_rfl
theorem c15 : callable Try.prog 15 = true := by kernel_rfl
theorem q15 {args : List Value} (ha : args.length = 2) {w : World} {next : Value → World → Prop} {QP : List PanicEntry → World → Prop} (H : hw Try.prog noPanic h15 (endV [] next) (σ0 args) w) : callK Try.prog 15 args w next QP := fn_rule Try.func15 mixed k15 ha H
theorem r15 {args : List Value} (ha : args.length = 2) {w : World} {next : Value → World → Prop} {QP : List PanicEntry → World → Prop} (H : hw Try.prog noPanic h15 (endV [] next) (σ0 args) w) : callvK Try.prog (.func (.func 15) #[] #[]) args w next QP := callf c15 (q15 ha H)

/- (*missive/disk.Disk).Start -/
def h16 : HC :=
  (.reg [.need (.n1 .nilchk (.slot 0)),
    .need (.n1 (.faddr 26) (.n1 .nilchk (.slot 0))),
    .eff none (.store 4 (.tmp 4) (.const (.bool false))) 0 [(4, .n1 (.faddr 26) (.n1 .nilchk (.slot 0)))] none []])
theorem k16 : fnOK Try.prog 1 [] [] 1 Try.f16 = some h16 := by kernel_rfl
theorem c16 : callable Try.prog 16 = true := by kernel_rfl
theorem q16 {args : List Value} (ha : args.length = 1) {w : World} {next : Value → World → Prop} {QP : List PanicEntry → World → Prop} (H : hw Try.prog noPanic h16 (endV [] next) (σ0 args) w) : callK Try.prog 16 args w next QP := fn_rule Try.func16 mixed k16 ha H
theorem r16 {args : List Value} (ha : args.length = 1) {w : World} {next : Value → World → Prop} {QP : List PanicEntry → World → Prop} (H : hw Try.prog noPanic h16 (endV [] next) (σ0 args) w) : callvK Try.prog (.func (.func 16) #[] #[]) args w next QP := callf c16 (q16 ha H)

/- (*missive/disk.Disk).Read -/
def h17_1 : HC :=
  (.seq
  (.reg [.need (.n1 .nilchk (.slot 0)),
    .need (.n1 (.faddr 12) (.n1 .nilchk (.slot 0))),
    .need (.n2 (.iaddra 12 1) (.n1 (.faddr 12) (.n1 .nilchk (.slot 0))) (.slot 1)),
    .need (.n1 .ld (.n2 (.iaddra 12 1) (.n1 (.faddr 12) (.n1 .nilchk (.slot 0))) (.slot 1))),
    .asg 4 (.n1 .ld (.n2 (.iaddra 12 1) (.n1 (.faddr 12) (.n1 .nilchk (.slot 0))) (.slot 1))),
    .asg 5 (.lit (.int .i64 0))])
  .ret)
def h17 : HC :=
  (.seq
  (.reg [.asg 4 (.lit (str [])),
    .asg 5 (.lit (.int .i64 0))])
  (.seq
  (.seq
  (.reg [.eff (some 9) (.buildSlice 22 1 #[(0, .tmp 8)]) 22 [(8, .slot 1)] none [],
    .eff (some 10) (.call { callee := .value (.func 39), args := #[.tmp 7, .tmp 9], argTypes := #[24, 22] }) 26 [(7, .slot 0), (9, .slot 9)] none [],
    .asg 6 (.slot 10)])
  (.seq
  (.reg [.need (.n2 (.bin .neq) (.slot 6) (.lit (.int .i64 0))),
    .asg 12 (.n2 (.bin .neq) (.slot 6) (.lit (.int .i64 0)))])
  (.cond (.slot 12)
    (.seq
    (.reg [.asg 4 (.lit (str [])),
      .asg 5 (.slot 6)])
    .ret)
    .skip)))
  h17_1))
theorem k17 : fnOK Try.prog 5747 [] [.tmp 4, .tmp 5] 2 Try.f17 = some h17 := by kernel_rfl
theorem c17 : callable Try.prog 17 = true := by kernel_rfl
theorem q17 {args : List Value} (ha : args.length = 2) {w : World} {next : Value → World → Prop} {QP : List PanicEntry → World → Prop} (H : hw Try.prog noPanic h17 (endV [.tmp 4, .tmp 5] next) (σ0 args) w) : callK Try.prog 17 args w next QP := fn_rule Try.func17 mixed k17 ha H
theorem r17 {args : List Value} (ha : args.length = 2) {w : World} {next : Value → World → Prop} {QP : List PanicEntry → World → Prop} (H : hw Try.prog noPanic h17 (endV [.tmp 4, .tmp 5] next) (σ0 args) w) : callvK Try.prog (.func (.func 17) #[] #[]) args w next QP := callf c17 (q17 ha H)

/- (*missive/disk.Disk).Size -/
def h18_1 : HC :=
  (.seq
  (.reg [.need (.n1 .nilchk (.slot 0)),
    .need (.n1 (.faddr 12) (.n1 .nilchk (.slot 0))),
    .need (.n2 (.iaddra 12 1) (.n1 (.faddr 12) (.n1 .nilchk (.slot 0))) (.slot 1)),
    .need (.n1 .ld (.n2 (.iaddra 12 1) (.n1 (.faddr 12) (.n1 .nilchk (.slot 0))) (.slot 1))),
    .need (.n1 .lens (.n1 .ld (.n2 (.iaddra 12 1) (.n1 (.faddr 12) (.n1 .nilchk (.slot 0))) (.slot 1)))),
    .asg 4 (.n1 .lens (.n1 .ld (.n2 (.iaddra 12 1) (.n1 (.faddr 12) (.n1 .nilchk (.slot 0))) (.slot 1))))])
  .ret)
def h18 : HC :=
  (.seq
  (.reg [.asg 4 (.lit (.int .i64 0))])
  (.seq
  (.seq
  (.reg [.eff (some 6) (.call { callee := .value (.func 44), args := #[.tmp 5], argTypes := #[3] }) 4 [(5, .slot 1)] none [],
    .need (.n1 .bnot (.slot 6)),
    .asg 7 (.n1 .bnot (.slot 6))])
  (.cond (.slot 7)
    (.seq
    (.reg [.asg 4 (.lit (.int .i64 0))])
    .ret)
    .skip))
  h18_1))
theorem k18 : fnOK Try.prog 211 [] [.tmp 4] 2 Try.f18 = some h18 := by kernel_rfl
theorem c18 : callable Try.prog 18 = true := by kernel_rfl
theorem q18 {args : List Value} (ha : args.length = 2) {w : World} {next : Value → World → Prop} {QP : List PanicEntry → World → Prop} (H : hw Try.prog noPanic h18 (endV [.tmp 4] next) (σ0 args) w) : callK Try.prog 18 args w next QP := fn_rule Try.func18 mixed k18 ha H
theorem r18 {args : List Value} (ha : args.length = 2) {w : World} {next : Value → World → Prop} {QP : List PanicEntry → World → Prop} (H : hw Try.prog noPanic h18 (endV [.tmp 4] next) (σ0 args) w) : callvK Try.prog (.func (.func 18) #[] #[]) args w next QP := callf c18 (q18 ha H)

/- missive/missivelaw05.part -/
def h19_2 : HC :=
  (.seq
  (.reg [.asg 4 (.lit (str []))])
  .ret)
def h19_1 : HC :=
  (.seq
  (.seq
  (.reg [.need (.n2 (.bin .eql) (.slot 1) (.lit (.int .i64 2))),
    .asg 9 (.n2 (.bin .eql) (.slot 1) (.lit (.int .i64 2)))])
  (.cond (.slot 9)
    (.seq
    (.reg [.need (.n1 .lens (.slot 0)),
      .need (.n2 .mn (.lit (.int .i64 24)) (.n1 .lens (.slot 0))),
      .need (.n3 (.sls false true) (.slot 0) (.lit (.tuple #[])) (.n2 .mn (.lit (.int .i64 24)) (.n1 .lens (.slot 0)))),
      .asg 4 (.n3 (.sls false true) (.slot 0) (.lit (.tuple #[])) (.n2 .mn (.lit (.int .i64 24)) (.n1 .lens (.slot 0))))])
    .ret)
    .skip))
  h19_2)
def h19 : HC :=
  (.seq
  (.reg [.asg 4 (.lit (str []))])
  (.seq
  (.seq
  (.reg [.need (.n2 (.bin .eql) (.slot 1) (.lit (.int .i64 1))),
    .asg 6 (.n2 (.bin .eql) (.slot 1) (.lit (.int .i64 1)))])
  (.cond (.slot 6)
    (.seq
    (.reg [.asg 4 (.slot 0)])
    .ret)
    .skip))
  h19_1))
theorem k19 : fnOK Try.prog 595 [] [.tmp 4] 2 Try.f19 = some h19 := by kernel_rfl
theorem c19 : callable Try.prog 19 = true := by kernel_rfl
theorem q19 {args : List Value} (ha : args.length = 2) {w : World} {next : Value → World → Prop} {QP : List PanicEntry → World → Prop} (H : hw Try.prog noPanic h19 (endV [.tmp 4] next) (σ0 args) w) : callK Try.prog 19 args w next QP := fn_rule Try.func19 mixed k19 ha H
theorem r19 {args : List Value} (ha : args.length = 2) {w : World} {next : Value → World → Prop} {QP : List PanicEntry → World → Prop} (H : hw Try.prog noPanic h19 (endV [.tmp 4] next) (σ0 args) w) : callvK Try.prog (.func (.func 19) #[] #[]) args w next QP := callf c19 (q19 ha H)

/- missive/missivelaw05.few -/
def h20_3 : HC :=
  (.draw [.need (.n2 (.iaddr 6) (.slot 0) (.slot 4)),
    .need (.n1 (.faddr 4) (.n2 (.iaddr 6) (.slot 0) (.slot 4))),
    .need (.n1 .ld (.n1 (.faddr 4) (.n2 (.iaddr 6) (.slot 0) (.slot 4)))),
    .need (.n1 .lens (.n1 .ld (.n1 (.faddr 4) (.n2 (.iaddr 6) (.slot 0) (.slot 4))))),
    .need (.n2 (.bin .add) (.slot 3) (.n1 .lens (.n1 .ld (.n1 (.faddr 4) (.n2 (.iaddr 6) (.slot 0) (.slot 4)))))),
    .need (.n2 (.iaddr 6) (.slot 0) (.slot 4)),
    .need (.n1 (.faddr 5) (.n2 (.iaddr 6) (.slot 0) (.slot 4))),
    .need (.n1 .ld (.n1 (.faddr 5) (.n2 (.iaddr 6) (.slot 0) (.slot 4)))),
    .need (.n1 .lensl (.n1 .ld (.n1 (.faddr 5) (.n2 (.iaddr 6) (.slot 0) (.slot 4))))),
    .need (.n2 (.bin .add) (.n2 (.bin .add) (.slot 3) (.n1 .lens (.n1 .ld (.n1 (.faddr 4) (.n2 (.iaddr 6) (.slot 0) (.slot 4)))))) (.n1 .lensl (.n1 .ld (.n1 (.faddr 5) (.n2 (.iaddr 6) (.slot 0) (.slot 4)))))),
    .asg 3 (.n2 (.bin .add) (.n2 (.bin .add) (.slot 3) (.n1 .lens (.n1 .ld (.n1 (.faddr 4) (.n2 (.iaddr 6) (.slot 0) (.slot 4)))))) (.n1 .lensl (.n1 .ld (.n1 (.faddr 5) (.n2 (.iaddr 6) (.slot 0) (.slot 4))))))])
def h20_4 : HC :=
  (.reg [.need (.n2 (.bin .add) (.slot 4) (.lit (.int .i64 1))),
    .asg 4 (.n2 (.bin .add) (.slot 4) (.lit (.int .i64 1)))])
def h20_2 : HC :=
  (.seq
  (.block 1
    (.seq
    (.seq
    (.reg [.need (.n2 (.iaddr 6) (.slot 0) (.slot 4)),
      .need (.n1 (.faddr 3) (.n2 (.iaddr 6) (.slot 0) (.slot 4))),
      .need (.n1 .ld (.n1 (.faddr 3) (.n2 (.iaddr 6) (.slot 0) (.slot 4)))),
      .need (.n2 (.bin .geq) (.n1 .ld (.n1 (.faddr 3) (.n2 (.iaddr 6) (.slot 0) (.slot 4)))) (.lit (.int .i64 4000))),
      .need (.gif (.n2 (.bin .geq) (.n1 .ld (.n1 (.faddr 3) (.n2 (.iaddr 6) (.slot 0) (.slot 4)))) (.lit (.int .i64 4000))) true (.n2 (.iaddr 6) (.slot 0) (.slot 4))),
      .need (.gif (.n2 (.bin .geq) (.n1 .ld (.n1 (.faddr 3) (.n2 (.iaddr 6) (.slot 0) (.slot 4)))) (.lit (.int .i64 4000))) true (.n1 (.faddr 3) (.n2 (.iaddr 6) (.slot 0) (.slot 4)))),
      .need (.gif (.n2 (.bin .geq) (.n1 .ld (.n1 (.faddr 3) (.n2 (.iaddr 6) (.slot 0) (.slot 4)))) (.lit (.int .i64 4000))) true (.n1 .ld (.n1 (.faddr 3) (.n2 (.iaddr 6) (.slot 0) (.slot 4))))),
      .need (.gif (.n2 (.bin .geq) (.n1 .ld (.n1 (.faddr 3) (.n2 (.iaddr 6) (.slot 0) (.slot 4)))) (.lit (.int .i64 4000))) true (.n2 (.bin .leq) (.n1 .ld (.n1 (.faddr 3) (.n2 (.iaddr 6) (.slot 0) (.slot 4)))) (.lit (.int .i64 16777216)))),
      .need (.n3 .pick (.n2 (.bin .geq) (.n1 .ld (.n1 (.faddr 3) (.n2 (.iaddr 6) (.slot 0) (.slot 4)))) (.lit (.int .i64 4000))) (.n2 (.bin .leq) (.n1 .ld (.n1 (.faddr 3) (.n2 (.iaddr 6) (.slot 0) (.slot 4)))) (.lit (.int .i64 16777216))) (.lit (.bool false))),
      .asg 24 (.n3 .pick (.n2 (.bin .geq) (.n1 .ld (.n1 (.faddr 3) (.n2 (.iaddr 6) (.slot 0) (.slot 4)))) (.lit (.int .i64 4000))) (.n2 (.bin .leq) (.n1 .ld (.n1 (.faddr 3) (.n2 (.iaddr 6) (.slot 0) (.slot 4)))) (.lit (.int .i64 16777216))) (.lit (.bool false)))])
    (.cond (.slot 24)
      (.seq
      (.reg [.asg 2 (.lit (.bool false))])
      .ret)
      .skip))
    h20_3))
  h20_4)
def h20_1 : HC :=
  (.seq
  (.seq
  (.reg [.need (.n1 .lensl (.slot 0)),
    .need (.n2 (.bin .lss) (.slot 4) (.n1 .lensl (.slot 0))),
    .asg 8 (.n2 (.bin .lss) (.slot 4) (.n1 .lensl (.slot 0)))])
  (.cond (.slot 8)
    .skip
    (.exit 0)))
  h20_2)
def h20_5 : HC :=
  (.seq
  (.reg [.need (.n1 .lensl (.slot 0)),
    .need (.n2 (.bin .leq) (.n1 .lensl (.slot 0)) (.lit (.int .i64 200))),
    .need (.gif (.n2 (.bin .leq) (.n1 .lensl (.slot 0)) (.lit (.int .i64 200))) true (.n2 (.bin .leq) (.slot 3) (.lit (.int .i64 5000)))),
    .need (.n3 .pick (.n2 (.bin .leq) (.n1 .lensl (.slot 0)) (.lit (.int .i64 200))) (.n2 (.bin .leq) (.slot 3) (.lit (.int .i64 5000))) (.lit (.bool false))),
    .asg 2 (.n3 .pick (.n2 (.bin .leq) (.n1 .lensl (.slot 0)) (.lit (.int .i64 200))) (.n2 (.bin .leq) (.slot 3) (.lit (.int .i64 5000))) (.lit (.bool false)))])
  .ret)
def h20 : HC :=
  (.seq
  (.reg [.asg 2 (.lit (.bool false))])
  (.seq
  (.reg [.asg 3 (.lit (.int .i64 0))])
  (.seq
  (.seq
  (.reg [.asg 4 (.lit (.int .i64 0))])
  (.block 0
    (.loop
      h20_1)))
  h20_5)))
theorem k20 : fnOK Try.prog 16777501 [⟨7, [0, 0, 0, 6, 14, 30, 62, 127, 0, 0, 768, 1792, 3840, 7936, 16383, 32767], [(0, []), (1, []), (2, []), (3, []), (4, []), (5, []), (6, []), (7, []), (8, []), (9, []), (10, []), (11, []), (12, []), (13, []), (14, []), (15, [])]⟩] [.tmp 2] 1 Try.f20 = some h20 := by kernel_rfl
theorem c20 : callable Try.prog 20 = true := by kernel_rfl
theorem q20 {args : List Value} (ha : args.length = 1) {w : World} {next : Value → World → Prop} {QP : List PanicEntry → World → Prop} (H : hw Try.prog noPanic h20 (endV [.tmp 2] next) (σ0 args) w) : callK Try.prog 20 args w next QP := fn_rule Try.func20 mixed k20 ha H
theorem r20 {args : List Value} (ha : args.length = 1) {w : World} {next : Value → World → Prop} {QP : List PanicEntry → World → Prop} (H : hw Try.prog noPanic h20 (endV [.tmp 2] next) (σ0 args) w) : callvK Try.prog (.func (.func 20) #[] #[]) args w next QP := callf c20 (q20 ha H)

/- (*missive/disk.Disk).Down -/
def h21 : HC :=
  (.seq
  (.reg [.asg 2 (.lit (.bool false))])
  (.seq
  (.reg [.need (.n1 .nilchk (.slot 0)),
    .need (.n1 (.faddr 26) (.n1 .nilchk (.slot 0))),
    .need (.n1 .ld (.n1 (.faddr 26) (.n1 .nilchk (.slot 0)))),
    .asg 2 (.n1 .ld (.n1 (.faddr 26) (.n1 .nilchk (.slot 0))))])
  .ret))
theorem k21 : fnOK Try.prog 5 [] [.tmp 2] 1 Try.f21 = some h21 := by kernel_rfl
theorem c21 : callable Try.prog 21 = true := by kernel_rfl
theorem q21 {args : List Value} (ha : args.length = 1) {w : World} {next : Value → World → Prop} {QP : List PanicEntry → World → Prop} (H : hw Try.prog noPanic h21 (endV [.tmp 2] next) (σ0 args) w) : callK Try.prog 21 args w next QP := fn_rule Try.func21 mixed k21 ha H
theorem r21 {args : List Value} (ha : args.length = 1) {w : World} {next : Value → World → Prop} {QP : List PanicEntry → World → Prop} (H : hw Try.prog noPanic h21 (endV [.tmp 2] next) (σ0 args) w) : callvK Try.prog (.func (.func 21) #[] #[]) args w next QP := callf c21 (q21 ha H)

/- missive/missivelaw05.pick -/
def h22_1 : HC :=
  (.seq
  (.reg [.asg 2 (.slot 0)])
  .ret)
def h22 : HC :=
  (.seq
  (.reg [.asg 2 (.lit (.int .i64 0))])
  (.seq
  (.reg [.need (.n2 (.bin .rem) (.slot 0) (.lit (.int .i64 11))),
    .asg 0 (.n2 (.bin .rem) (.slot 0) (.lit (.int .i64 11)))])
  (.seq
  (.seq
  (.reg [.need (.n2 (.bin .lss) (.slot 0) (.lit (.int .i64 0))),
    .asg 6 (.n2 (.bin .lss) (.slot 0) (.lit (.int .i64 0)))])
  (.cond (.slot 6)
    (.reg [.need (.n2 (.bin .add) (.slot 0) (.lit (.int .i64 11))),
      .asg 0 (.n2 (.bin .add) (.slot 0) (.lit (.int .i64 11)))])
    .skip))
  h22_1)))
theorem k22 : fnOK Try.prog 69 [] [.tmp 2] 1 Try.f22 = some h22 := by kernel_rfl
theorem c22 : callable Try.prog 22 = true := by kernel_rfl
theorem q22 {args : List Value} (ha : args.length = 1) {w : World} {next : Value → World → Prop} {QP : List PanicEntry → World → Prop} (H : hw Try.prog noPanic h22 (endV [.tmp 2] next) (σ0 args) w) : callK Try.prog 22 args w next QP := fn_rule Try.func22 mixed k22 ha H
theorem r22 {args : List Value} (ha : args.length = 1) {w : World} {next : Value → World → Prop} {QP : List PanicEntry → World → Prop} (H : hw Try.prog noPanic h22 (endV [.tmp 2] next) (σ0 args) w) : callvK Try.prog (.func (.func 22) #[] #[]) args w next QP := callf c22 (q22 ha H)

/- missive/missivelaw05.do -/
def h23_1 : HC :=
  (.cond (.slot 9)
    (.seq
    (.reg [.need (.n1 (.faddr 1) (.slot 3)),
      .need (.n1 .ld (.n1 (.faddr 1) (.slot 3))),
      .need (.n1 (.faddr 3) (.slot 3)),
      .need (.n1 .ld (.n1 (.faddr 3) (.slot 3))),
      .need (.n1 (.faddr 4) (.slot 3)),
      .need (.n1 .ld (.n1 (.faddr 4) (.slot 3))),
      .eff (some 19) (.call { callee := .value (.func 12), args := #[.tmp 12, .tmp 14, .tmp 16, .tmp 18], argTypes := #[24, 3, 3, 9] }) 26 [(12, .slot 0), (14, .n1 .ld (.n1 (.faddr 1) (.slot 3))), (16, .n1 .ld (.n1 (.faddr 3) (.slot 3))), (18, .n1 .ld (.n1 (.faddr 4) (.slot 3)))] none [],
      .asg 4 (.lit (str [])),
      .asg 5 (.slot 19)])
    .ret)
    (.seq
    (.reg [.need (.n2 (.bin .eql) (.slot 8) (.lit (.int .i64 2))),
      .asg 20 (.n2 (.bin .eql) (.slot 8) (.lit (.int .i64 2)))])
    (.cond (.slot 20)
      (.seq
      (.reg [.need (.n1 (.faddr 1) (.slot 3)),
        .need (.n1 .ld (.n1 (.faddr 1) (.slot 3))),
        .eff (some 25) (.call { callee := .value (.func 13), args := #[.tmp 22, .tmp 24], argTypes := #[24, 3] }) 26 [(22, .slot 0), (24, .n1 .ld (.n1 (.faddr 1) (.slot 3)))] none [],
        .asg 4 (.lit (str [])),
        .asg 5 (.slot 25)])
      .ret)
      (.seq
      (.reg [.need (.n2 (.bin .eql) (.slot 8) (.lit (.int .i64 3))),
        .asg 26 (.n2 (.bin .eql) (.slot 8) (.lit (.int .i64 3)))])
      (.cond (.slot 26)
        (.seq
        (.reg [.need (.n1 (.faddr 1) (.slot 3)),
          .need (.n1 .ld (.n1 (.faddr 1) (.slot 3))),
          .need (.n1 (.faddr 3) (.slot 3)),
          .need (.n1 .ld (.n1 (.faddr 3) (.slot 3))),
          .eff (some 33) (.call { callee := .value (.func 36), args := #[.tmp 28, .tmp 30, .tmp 32], argTypes := #[24, 3, 3] }) 26 [(28, .slot 0), (30, .n1 .ld (.n1 (.faddr 1) (.slot 3))), (32, .n1 .ld (.n1 (.faddr 3) (.slot 3)))] none [],
          .asg 4 (.lit (str [])),
          .asg 5 (.slot 33)])
        .ret)
        (.seq
        (.reg [.need (.n2 (.bin .eql) (.slot 8) (.lit (.int .i64 4))),
          .asg 34 (.n2 (.bin .eql) (.slot 8) (.lit (.int .i64 4)))])
        (.cond (.slot 34)
          (.seq
          (.reg [.need (.n1 (.faddr 1) (.slot 3)),
            .need (.n1 .ld (.n1 (.faddr 1) (.slot 3))),
            .need (.n1 (.faddr 2) (.slot 3)),
            .need (.n1 .ld (.n1 (.faddr 2) (.slot 3))),
            .eff (some 41) (.call { callee := .value (.func 14), args := #[.tmp 36, .tmp 38, .tmp 40], argTypes := #[24, 3, 3] }) 26 [(36, .slot 0), (38, .n1 .ld (.n1 (.faddr 1) (.slot 3))), (40, .n1 .ld (.n1 (.faddr 2) (.slot 3)))] none [],
            .asg 4 (.lit (str [])),
            .asg 5 (.slot 41)])
          .ret)
          (.seq
          (.reg [.need (.n2 (.bin .eql) (.slot 8) (.lit (.int .i64 5))),
            .asg 42 (.n2 (.bin .eql) (.slot 8) (.lit (.int .i64 5)))])
          (.cond (.slot 42)
            (.reg [.need (.n1 (.faddr 5) (.slot 3)),
              .need (.n1 .ld (.n1 (.faddr 5) (.slot 3))),
              .eff (some 47) (.call { callee := .value (.func 15), args := #[.tmp 44, .tmp 46], argTypes := #[24, 22] }) 0 [(44, .slot 0), (46, .n1 .ld (.n1 (.faddr 5) (.slot 3)))] none []])
            (.seq
            (.reg [.need (.n2 (.bin .eql) (.slot 8) (.lit (.int .i64 6))),
              .asg 48 (.n2 (.bin .eql) (.slot 8) (.lit (.int .i64 6)))])
            (.cond (.slot 48)
              (.reg [.need (.n1 (.faddr 3) (.slot 3)),
                .need (.n1 .ld (.n1 (.faddr 3) (.slot 3))),
                .eff (some 53) (.call { callee := .value (.func 27), args := #[.tmp 50, .tmp 52], argTypes := #[24, 3] }) 0 [(50, .slot 0), (52, .n1 .ld (.n1 (.faddr 3) (.slot 3)))] none []])
              (.seq
              (.reg [.need (.n2 (.bin .eql) (.slot 8) (.lit (.int .i64 7))),
                .asg 54 (.n2 (.bin .eql) (.slot 8) (.lit (.int .i64 7)))])
              (.cond (.slot 54)
                (.reg [.eff (some 57) (.call { callee := .value (.func 16), args := #[.tmp 56], argTypes := #[24] }) 0 [(56, .slot 0)] none []])
                (.seq
                (.reg [.need (.n2 (.bin .eql) (.slot 8) (.lit (.int .i64 8))),
                  .asg 58 (.n2 (.bin .eql) (.slot 8) (.lit (.int .i64 8)))])
                (.cond (.slot 58)
                  (.seq
                  (.reg [.need (.n1 (.faddr 1) (.slot 3)),
                    .need (.n1 .ld (.n1 (.faddr 1) (.slot 3))),
                    .eff (some 63) (.call { callee := .value (.func 17), args := #[.tmp 60, .tmp 62], argTypes := #[24, 3] }) 31 [(60, .slot 0), (62, .n1 .ld (.n1 (.faddr 1) (.slot 3)))] none [],
                    .need (.n1 (.ext 0) (.slot 63)),
                    .need (.n1 (.ext 1) (.slot 63)),
                    .asg 4 (.n1 (.ext 0) (.slot 63)),
                    .asg 5 (.n1 (.ext 1) (.slot 63))])
                  .ret)
                  (.seq
                  (.reg [.need (.n2 (.bin .eql) (.slot 8) (.lit (.int .i64 10))),
                    .asg 66 (.n2 (.bin .eql) (.slot 8) (.lit (.int .i64 10)))])
                  (.cond (.slot 66)
                    (.reg [.need (.n1 (.faddr 3) (.slot 3)),
                      .need (.n1 .ld (.n1 (.faddr 3) (.slot 3))),
                      .need (.n1 (.faddr 5) (.slot 3)),
                      .need (.n1 .ld (.n1 (.faddr 5) (.slot 3))),
                      .eff (some 73) (.call { callee := .value (.func 26), args := #[.tmp 68, .tmp 70, .tmp 72], argTypes := #[24, 3, 22] }) 0 [(68, .slot 0), (70, .n1 .ld (.n1 (.faddr 3) (.slot 3))), (72, .n1 .ld (.n1 (.faddr 5) (.slot 3)))] none []])
                    .skip)))))))))))))))))
def h23_2 : HC :=
  (.seq
  (.reg [.asg 4 (.lit (str [])),
    .asg 5 (.lit (.int .i64 0))])
  .ret)
def h23 : HC :=
  (.seq
  (.reg [.eff (some 3) (.box 42 (.tmp 1)) 0 [(1, .slot 1)] none [],
    .asg 4 (.lit (str [])),
    .asg 5 (.lit (.int .i64 0))])
  (.seq
  (.seq
  (.reg [.need (.n1 (.faddr 0) (.slot 3)),
    .need (.n1 .ld (.n1 (.faddr 0) (.slot 3))),
    .eff (some 8) (.call { callee := .value (.func 22), args := #[.tmp 7], argTypes := #[3] }) 3 [(7, .n1 .ld (.n1 (.faddr 0) (.slot 3)))] none []])
  (.block 0
    (.seq
    (.seq
    (.reg [.need (.n2 (.bin .eql) (.slot 8) (.lit (.int .i64 0))),
      .asg 9 (.n2 (.bin .eql) (.slot 8) (.lit (.int .i64 0)))])
    (.cond (.slot 9)
      .skip
      (.reg [.need (.n2 (.bin .eql) (.slot 8) (.lit (.int .i64 1))),
        .asg 9 (.n2 (.bin .eql) (.slot 8) (.lit (.int .i64 1)))])))
    h23_1)))
  h23_2))
theorem k23 : fnOK Try.prog 9528203110068382073659 [] [.tmp 4, .tmp 5] 2 Try.f23 = some h23 := by kernel_rfl
theorem c23 : callable Try.prog 23 = true := by kernel_rfl
theorem q23 {args : List Value} (ha : args.length = 2) {w : World} {next : Value → World → Prop} {QP : List PanicEntry → World → Prop} (H : hw Try.prog noPanic h23 (endV [.tmp 4, .tmp 5] next) (σ0 args) w) : callK Try.prog 23 args w next QP := fn_rule Try.func23 mixed k23 ha H
theorem r23 {args : List Value} (ha : args.length = 2) {w : World} {next : Value → World → Prop} {QP : List PanicEntry → World → Prop} (H : hw Try.prog noPanic h23 (endV [.tmp 4, .tmp 5] next) (σ0 args) w) : callvK Try.prog (.func (.func 23) #[] #[]) args w next QP := callf c23 (q23 ha H)

/- missive/missivelaw05.without -/
def h24_3 : HC :=
  (.reg [.need (.n2 (.bin .add) (.slot 6) (.lit (.int .i64 1))),
    .asg 6 (.n2 (.bin .add) (.slot 6) (.lit (.int .i64 1)))])
def h24_2 : HC :=
  (.seq
  (.block 1
    (.seq
    (.reg [.need (.n2 (.iaddr 6) (.slot 0) (.slot 6)),
      .need (.n1 (.faddr 1) (.n2 (.iaddr 6) (.slot 0) (.slot 6))),
      .need (.n1 .ld (.n1 (.faddr 1) (.n2 (.iaddr 6) (.slot 0) (.slot 6)))),
      .need (.n2 (.bin .neq) (.n1 .ld (.n1 (.faddr 1) (.n2 (.iaddr 6) (.slot 0) (.slot 6)))) (.slot 1)),
      .asg 19 (.n2 (.bin .neq) (.n1 .ld (.n1 (.faddr 1) (.n2 (.iaddr 6) (.slot 0) (.slot 6)))) (.slot 1))])
    (.cond (.slot 19)
      (.reg [.need (.n2 (.iaddr 6) (.slot 0) (.slot 6)),
        .need (.n1 (.ldn 6) (.n2 (.iaddr 6) (.slot 0) (.slot 6))),
        .eff (some 25) (.buildSlice 38 1 #[(0, .tmp 24)]) 38 [(24, .n1 (.ldn 6) (.n2 (.iaddr 6) (.slot 0) (.slot 6)))] none [],
        .eff (some 26) (.call { callee := .builtin .append, args := #[.tmp 20, .tmp 25], argTypes := #[38, 38] }) 38 [(20, .slot 5), (25, .slot 25)] none [],
        .asg 5 (.slot 26)])
      .skip)))
  h24_3)
def h24_1 : HC :=
  (.seq
  (.seq
  (.reg [.need (.n1 .lensl (.slot 0)),
    .need (.n2 (.bin .lss) (.slot 6) (.n1 .lensl (.slot 0))),
    .asg 10 (.n2 (.bin .lss) (.slot 6) (.n1 .lensl (.slot 0)))])
  (.cond (.slot 10)
    .skip
    (.exit 0)))
  h24_2)
def h24_4 : HC :=
  (.seq
  (.reg [.asg 4 (.slot 5)])
  .ret)
def h24 : HC :=
  (.seq
  (.reg [.asg 4 (.lit (.slice none 0 0))])
  (.seq
  (.reg [.asg 5 (.lit (.slice none 0 0))])
  (.seq
  (.seq
  (.reg [.asg 6 (.lit (.int .i64 0))])
  (.block 0
    (.loop
      h24_1)))
  h24_4)))
theorem k24 : fnOK Try.prog 101188723 [] [.tmp 4] 2 Try.f24 = some h24 := by kernel_rfl
theorem c24 : callable Try.prog 24 = true := by kernel_rfl
theorem q24 {args : List Value} (ha : args.length = 2) {w : World} {next : Value → World → Prop} {QP : List PanicEntry → World → Prop} (H : hw Try.prog noPanic h24 (endV [.tmp 4] next) (σ0 args) w) : callK Try.prog 24 args w next QP := fn_rule Try.func24 mixed k24 ha H
theorem r24 {args : List Value} (ha : args.length = 2) {w : World} {next : Value → World → Prop} {QP : List PanicEntry → World → Prop} (H : hw Try.prog noPanic h24 (endV [.tmp 4] next) (σ0 args) w) : callvK Try.prog (.func (.func 24) #[] #[]) args w next QP := callf c24 (q24 ha H)

/- missive/missivelaw05.here -/
def h25_5 : HC :=
  (.reg [.need (.n2 (.bin .add) (.slot 11) (.lit (.int .i64 1))),
    .asg 11 (.n2 (.bin .add) (.slot 11) (.lit (.int .i64 1)))])
def h25_4 : HC :=
  (.seq
  (.block 3
    (.seq
    (.reg [.need (.n2 (.iaddr 6) (.slot 2) (.slot 11)),
      .need (.n1 (.faddr 3) (.n2 (.iaddr 6) (.slot 2) (.slot 11))),
      .need (.n1 .ld (.n1 (.faddr 3) (.n2 (.iaddr 6) (.slot 2) (.slot 11)))),
      .need (.n2 (.bin .sub) (.slot 9) (.n1 .ld (.n1 (.faddr 3) (.n2 (.iaddr 6) (.slot 2) (.slot 11))))),
      .asg 12 (.n2 (.bin .sub) (.slot 9) (.n1 .ld (.n1 (.faddr 3) (.n2 (.iaddr 6) (.slot 2) (.slot 11)))))])
    (.draw [.need (.n2 (.iaddr 6) (.slot 2) (.slot 11)),
      .need (.n1 (.faddr 1) (.n2 (.iaddr 6) (.slot 2) (.slot 11))),
      .need (.n1 .ld (.n1 (.faddr 1) (.n2 (.iaddr 6) (.slot 2) (.slot 11)))),
      .need (.n2 (.bin .eql) (.n1 .ld (.n1 (.faddr 1) (.n2 (.iaddr 6) (.slot 2) (.slot 11)))) (.slot 3)),
      .need (.gif (.n2 (.bin .eql) (.n1 .ld (.n1 (.faddr 1) (.n2 (.iaddr 6) (.slot 2) (.slot 11)))) (.slot 3)) true (.n2 (.bin .geq) (.slot 12) (.lit (.int .i64 0)))),
      .need (.n3 .pick (.n2 (.bin .eql) (.n1 .ld (.n1 (.faddr 1) (.n2 (.iaddr 6) (.slot 2) (.slot 11)))) (.slot 3)) (.n2 (.bin .geq) (.slot 12) (.lit (.int .i64 0))) (.lit (.bool false))),
      .need (.gif (.n3 .pick (.n2 (.bin .eql) (.n1 .ld (.n1 (.faddr 1) (.n2 (.iaddr 6) (.slot 2) (.slot 11)))) (.slot 3)) (.n2 (.bin .geq) (.slot 12) (.lit (.int .i64 0))) (.lit (.bool false))) true (.n2 (.iaddr 6) (.slot 2) (.slot 11))),
      .need (.gif (.n3 .pick (.n2 (.bin .eql) (.n1 .ld (.n1 (.faddr 1) (.n2 (.iaddr 6) (.slot 2) (.slot 11)))) (.slot 3)) (.n2 (.bin .geq) (.slot 12) (.lit (.int .i64 0))) (.lit (.bool false))) true (.n1 (.faddr 4) (.n2 (.iaddr 6) (.slot 2) (.slot 11)))),
      .need (.gif (.n3 .pick (.n2 (.bin .eql) (.n1 .ld (.n1 (.faddr 1) (.n2 (.iaddr 6) (.slot 2) (.slot 11)))) (.slot 3)) (.n2 (.bin .geq) (.slot 12) (.lit (.int .i64 0))) (.lit (.bool false))) true (.n1 .ld (.n1 (.faddr 4) (.n2 (.iaddr 6) (.slot 2) (.slot 11))))),
      .need (.gif (.n3 .pick (.n2 (.bin .eql) (.n1 .ld (.n1 (.faddr 1) (.n2 (.iaddr 6) (.slot 2) (.slot 11)))) (.slot 3)) (.n2 (.bin .geq) (.slot 12) (.lit (.int .i64 0))) (.lit (.bool false))) true (.n1 .lens (.n1 .ld (.n1 (.faddr 4) (.n2 (.iaddr 6) (.slot 2) (.slot 11)))))),
      .need (.gif (.n3 .pick (.n2 (.bin .eql) (.n1 .ld (.n1 (.faddr 1) (.n2 (.iaddr 6) (.slot 2) (.slot 11)))) (.slot 3)) (.n2 (.bin .geq) (.slot 12) (.lit (.int .i64 0))) (.lit (.bool false))) true (.n2 (.bin .lss) (.slot 12) (.n1 .lens (.n1 .ld (.n1 (.faddr 4) (.n2 (.iaddr 6) (.slot 2) (.slot 11))))))),
      .need (.n3 .pick (.n3 .pick (.n2 (.bin .eql) (.n1 .ld (.n1 (.faddr 1) (.n2 (.iaddr 6) (.slot 2) (.slot 11)))) (.slot 3)) (.n2 (.bin .geq) (.slot 12) (.lit (.int .i64 0))) (.lit (.bool false))) (.n2 (.bin .lss) (.slot 12) (.n1 .lens (.n1 .ld (.n1 (.faddr 4) (.n2 (.iaddr 6) (.slot 2) (.slot 11)))))) (.lit (.bool false))),
      .need (.gif (.n3 .pick (.n3 .pick (.n2 (.bin .eql) (.n1 .ld (.n1 (.faddr 1) (.n2 (.iaddr 6) (.slot 2) (.slot 11)))) (.slot 3)) (.n2 (.bin .geq) (.slot 12) (.lit (.int .i64 0))) (.lit (.bool false))) (.n2 (.bin .lss) (.slot 12) (.n1 .lens (.n1 .ld (.n1 (.faddr 4) (.n2 (.iaddr 6) (.slot 2) (.slot 11)))))) (.lit (.bool false))) true (.n2 (.iaddr 6) (.slot 2) (.slot 11))),
      .need (.gif (.n3 .pick (.n3 .pick (.n2 (.bin .eql) (.n1 .ld (.n1 (.faddr 1) (.n2 (.iaddr 6) (.slot 2) (.slot 11)))) (.slot 3)) (.n2 (.bin .geq) (.slot 12) (.lit (.int .i64 0))) (.lit (.bool false))) (.n2 (.bin .lss) (.slot 12) (.n1 .lens (.n1 .ld (.n1 (.faddr 4) (.n2 (.iaddr 6) (.slot 2) (.slot 11)))))) (.lit (.bool false))) true (.n1 (.faddr 4) (.n2 (.iaddr 6) (.slot 2) (.slot 11)))),
      .need (.gif (.n3 .pick (.n3 .pick (.n2 (.bin .eql) (.n1 .ld (.n1 (.faddr 1) (.n2 (.iaddr 6) (.slot 2) (.slot 11)))) (.slot 3)) (.n2 (.bin .geq) (.slot 12) (.lit (.int .i64 0))) (.lit (.bool false))) (.n2 (.bin .lss) (.slot 12) (.n1 .lens (.n1 .ld (.n1 (.faddr 4) (.n2 (.iaddr 6) (.slot 2) (.slot 11)))))) (.lit (.bool false))) true (.n1 .ld (.n1 (.faddr 4) (.n2 (.iaddr 6) (.slot 2) (.slot 11))))),
      .need (.gif (.n3 .pick (.n3 .pick (.n2 (.bin .eql) (.n1 .ld (.n1 (.faddr 1) (.n2 (.iaddr 6) (.slot 2) (.slot 11)))) (.slot 3)) (.n2 (.bin .geq) (.slot 12) (.lit (.int .i64 0))) (.lit (.bool false))) (.n2 (.bin .lss) (.slot 12) (.n1 .lens (.n1 .ld (.n1 (.faddr 4) (.n2 (.iaddr 6) (.slot 2) (.slot 11)))))) (.lit (.bool false))) true (.n2 .idxs (.n1 .ld (.n1 (.faddr 4) (.n2 (.iaddr 6) (.slot 2) (.slot 11)))) (.slot 12))),
      .need (.gif (.n3 .pick (.n3 .pick (.n2 (.bin .eql) (.n1 .ld (.n1 (.faddr 1) (.n2 (.iaddr 6) (.slot 2) (.slot 11)))) (.slot 3)) (.n2 (.bin .geq) (.slot 12) (.lit (.int .i64 0))) (.lit (.bool false))) (.n2 (.bin .lss) (.slot 12) (.n1 .lens (.n1 .ld (.n1 (.faddr 4) (.n2 (.iaddr 6) (.slot 2) (.slot 11)))))) (.lit (.bool false))) true (.n2 .idxs (.slot 0) (.slot 9))),
      .need (.gif (.n3 .pick (.n3 .pick (.n2 (.bin .eql) (.n1 .ld (.n1 (.faddr 1) (.n2 (.iaddr 6) (.slot 2) (.slot 11)))) (.slot 3)) (.n2 (.bin .geq) (.slot 12) (.lit (.int .i64 0))) (.lit (.bool false))) (.n2 (.bin .lss) (.slot 12) (.n1 .lens (.n1 .ld (.n1 (.faddr 4) (.n2 (.iaddr 6) (.slot 2) (.slot 11)))))) (.lit (.bool false))) true (.n2 (.bin .eql) (.n2 .idxs (.n1 .ld (.n1 (.faddr 4) (.n2 (.iaddr 6) (.slot 2) (.slot 11)))) (.slot 12)) (.n2 .idxs (.slot 0) (.slot 9)))),
      .need (.n3 .pick (.n3 .pick (.n3 .pick (.n2 (.bin .eql) (.n1 .ld (.n1 (.faddr 1) (.n2 (.iaddr 6) (.slot 2) (.slot 11)))) (.slot 3)) (.n2 (.bin .geq) (.slot 12) (.lit (.int .i64 0))) (.lit (.bool false))) (.n2 (.bin .lss) (.slot 12) (.n1 .lens (.n1 .ld (.n1 (.faddr 4) (.n2 (.iaddr 6) (.slot 2) (.slot 11)))))) (.lit (.bool false))) (.n2 (.bin .eql) (.n2 .idxs (.n1 .ld (.n1 (.faddr 4) (.n2 (.iaddr 6) (.slot 2) (.slot 11)))) (.slot 12)) (.n2 .idxs (.slot 0) (.slot 9))) (.lit (.bool false))),
      .asg 10 (.n3 .pick (.n3 .pick (.n3 .pick (.n2 (.bin .eql) (.n1 .ld (.n1 (.faddr 1) (.n2 (.iaddr 6) (.slot 2) (.slot 11)))) (.slot 3)) (.n2 (.bin .geq) (.slot 12) (.lit (.int .i64 0))) (.lit (.bool false))) (.n2 (.bin .lss) (.slot 12) (.n1 .lens (.n1 .ld (.n1 (.faddr 4) (.n2 (.iaddr 6) (.slot 2) (.slot 11)))))) (.lit (.bool false))) (.n2 (.bin .eql) (.n2 .idxs (.n1 .ld (.n1 (.faddr 4) (.n2 (.iaddr 6) (.slot 2) (.slot 11)))) (.slot 12)) (.n2 .idxs (.slot 0) (.slot 9))) (.lit (.bool false)))])))
  h25_5)
def h25_3 : HC :=
  (.seq
  (.seq
  (.reg [.need (.n1 .lensl (.slot 2)),
    .need (.n2 (.bin .lss) (.slot 11) (.n1 .lensl (.slot 2))),
    .need (.gif (.n2 (.bin .lss) (.slot 11) (.n1 .lensl (.slot 2))) true (.n1 .bnot (.slot 10))),
    .need (.n3 .pick (.n2 (.bin .lss) (.slot 11) (.n1 .lensl (.slot 2))) (.n1 .bnot (.slot 10)) (.lit (.bool false))),
    .asg 51 (.n3 .pick (.n2 (.bin .lss) (.slot 11) (.n1 .lensl (.slot 2))) (.n1 .bnot (.slot 10)) (.lit (.bool false)))])
  (.cond (.slot 51)
    .skip
    (.exit 2)))
  h25_4)
def h25_6 : HC :=
  (.seq
  (.reg [.need (.n1 .bnot (.slot 10)),
    .asg 96 (.n1 .bnot (.slot 10))])
  (.cond (.slot 96)
    (.seq
    (.reg [.asg 8 (.lit (.bool false))])
    .ret)
    .skip))
def h25_7 : HC :=
  (.reg [.need (.n2 (.bin .add) (.slot 9) (.lit (.int .i64 1))),
    .asg 9 (.n2 (.bin .add) (.slot 9) (.lit (.int .i64 1)))])
def h25_2 : HC :=
  (.seq
  (.block 1
    (.seq
    (.draw [.need (.n1 .lens (.slot 1)),
      .need (.n2 (.bin .lss) (.slot 9) (.n1 .lens (.slot 1))),
      .need (.gif (.n2 (.bin .lss) (.slot 9) (.n1 .lens (.slot 1))) true (.n2 .idxs (.slot 0) (.slot 9))),
      .need (.gif (.n2 (.bin .lss) (.slot 9) (.n1 .lens (.slot 1))) true (.n2 .idxs (.slot 1) (.slot 9))),
      .need (.gif (.n2 (.bin .lss) (.slot 9) (.n1 .lens (.slot 1))) true (.n2 (.bin .eql) (.n2 .idxs (.slot 0) (.slot 9)) (.n2 .idxs (.slot 1) (.slot 9)))),
      .need (.n3 .pick (.n2 (.bin .lss) (.slot 9) (.n1 .lens (.slot 1))) (.n2 (.bin .eql) (.n2 .idxs (.slot 0) (.slot 9)) (.n2 .idxs (.slot 1) (.slot 9))) (.lit (.bool false))),
      .need (.gif (.n3 .pick (.n2 (.bin .lss) (.slot 9) (.n1 .lens (.slot 1))) (.n2 (.bin .eql) (.n2 .idxs (.slot 0) (.slot 9)) (.n2 .idxs (.slot 1) (.slot 9))) (.lit (.bool false))) false (.n1 .lens (.slot 1))),
      .need (.gif (.n3 .pick (.n2 (.bin .lss) (.slot 9) (.n1 .lens (.slot 1))) (.n2 (.bin .eql) (.n2 .idxs (.slot 0) (.slot 9)) (.n2 .idxs (.slot 1) (.slot 9))) (.lit (.bool false))) false (.n2 (.bin .geq) (.slot 9) (.n1 .lens (.slot 1)))),
      .need (.gif (.gif (.n3 .pick (.n2 (.bin .lss) (.slot 9) (.n1 .lens (.slot 1))) (.n2 (.bin .eql) (.n2 .idxs (.slot 0) (.slot 9)) (.n2 .idxs (.slot 1) (.slot 9))) (.lit (.bool false))) false (.n2 (.bin .geq) (.slot 9) (.n1 .lens (.slot 1)))) true (.n2 .idxs (.slot 0) (.slot 9))),
      .need (.gif (.gif (.n3 .pick (.n2 (.bin .lss) (.slot 9) (.n1 .lens (.slot 1))) (.n2 (.bin .eql) (.n2 .idxs (.slot 0) (.slot 9)) (.n2 .idxs (.slot 1) (.slot 9))) (.lit (.bool false))) false (.n2 (.bin .geq) (.slot 9) (.n1 .lens (.slot 1)))) true (.n2 (.bin .eql) (.n2 .idxs (.slot 0) (.slot 9)) (.lit (.int .u8 0)))),
      .need (.gif (.n3 .pick (.n2 (.bin .lss) (.slot 9) (.n1 .lens (.slot 1))) (.n2 (.bin .eql) (.n2 .idxs (.slot 0) (.slot 9)) (.n2 .idxs (.slot 1) (.slot 9))) (.lit (.bool false))) false (.n3 .pick (.n2 (.bin .geq) (.slot 9) (.n1 .lens (.slot 1))) (.n2 (.bin .eql) (.n2 .idxs (.slot 0) (.slot 9)) (.lit (.int .u8 0))) (.lit (.bool false)))),
      .need (.n3 .pick (.n3 .pick (.n2 (.bin .lss) (.slot 9) (.n1 .lens (.slot 1))) (.n2 (.bin .eql) (.n2 .idxs (.slot 0) (.slot 9)) (.n2 .idxs (.slot 1) (.slot 9))) (.lit (.bool false))) (.lit (.bool true)) (.n3 .pick (.n2 (.bin .geq) (.slot 9) (.n1 .lens (.slot 1))) (.n2 (.bin .eql) (.n2 .idxs (.slot 0) (.slot 9)) (.lit (.int .u8 0))) (.lit (.bool false)))),
      .asg 10 (.n3 .pick (.n3 .pick (.n2 (.bin .lss) (.slot 9) (.n1 .lens (.slot 1))) (.n2 (.bin .eql) (.n2 .idxs (.slot 0) (.slot 9)) (.n2 .idxs (.slot 1) (.slot 9))) (.lit (.bool false))) (.lit (.bool true)) (.n3 .pick (.n2 (.bin .geq) (.slot 9) (.n1 .lens (.slot 1))) (.n2 (.bin .eql) (.n2 .idxs (.slot 0) (.slot 9)) (.lit (.int .u8 0))) (.lit (.bool false))))])
    (.seq
    (.seq
    (.reg [.asg 11 (.lit (.int .i64 0))])
    (.block 2
      (.loop
        h25_3)))
    h25_6)))
  h25_7)
def h25_1 : HC :=
  (.seq
  (.seq
  (.reg [.need (.n1 .lens (.slot 0)),
    .need (.n2 (.bin .lss) (.slot 9) (.n1 .lens (.slot 0))),
    .asg 16 (.n2 (.bin .lss) (.slot 9) (.n1 .lens (.slot 0)))])
  (.cond (.slot 16)
    .skip
    (.exit 0)))
  h25_2)
def h25_8 : HC :=
  (.seq
  (.reg [.need (.n1 .lens (.slot 0)),
    .need (.n1 .lens (.slot 1)),
    .need (.n2 (.bin .geq) (.n1 .lens (.slot 0)) (.n1 .lens (.slot 1))),
    .asg 8 (.n2 (.bin .geq) (.n1 .lens (.slot 0)) (.n1 .lens (.slot 1)))])
  .ret)
def h25 : HC :=
  (.seq
  (.reg [.asg 8 (.lit (.bool false))])
  (.seq
  (.seq
  (.reg [.asg 9 (.lit (.int .i64 0))])
  (.block 0
    (.loop
      h25_1)))
  h25_8))
theorem k25 : fnOK Try.prog 79228162514266589393357709071 [⟨4, [0, 0, 2, 7, 15, 31, 31, 127, 31, 31, 799, 2047, 4095, 8191, 16383, 16383, 49151, 131071, 262143, 524287, 524287, 2097151, 4194303, 8388607, 16777215, 33554431], [(0, []), (1, []), (2, []), (3, []), (4, []), (5, []), (6, []), (7, []), (8, []), (9, []), (10, []), (11, []), (12, []), (13, []), (14, []), (15, []), (16, []), (17, []), (18, []), (19, []), (20, []), (21, []), (22, []), (23, []), (24, []), (25, [])]⟩, ⟨9, [0, 0, 3, 7, 15, 0, 63, 127, 255, 511, 1023, 2047, 4095, 4095, 4095, 28671, 61439, 126975, 258047, 524287, 1048575, 2097151, 4194303, 4194303, 16777215, 33554431, 67108863, 4194303, 268435455, 4194303, 4194303, 1614807039, 4294967295, 8589934591, 17179869183], [(0, []), (1, []), (2, []), (3, []), (4, []), (5, []), (6, []), (7, []), (8, []), (9, []), (10, []), (11, []), (12, []), (13, []), (14, []), (15, []), (16, []), (17, []), (18, []), (19, []), (20, []), (21, []), (22, []), (23, []), (24, []), (25, []), (26, []), (27, []), (28, []), (29, []), (30, []), (31, []), (32, []), (33, []), (34, [])]⟩] [.tmp 8] 4 Try.f25 = some h25 := by kernel_rfl
theorem c25 : callable Try.prog 25 = true := by kernel_rfl
theorem q25 {args : List Value} (ha : args.length = 4) {w : World} {next : Value → World → Prop} {QP : List PanicEntry → World → Prop} (H : hw Try.prog noPanic h25 (endV [.tmp 8] next) (σ0 args) w) : callK Try.prog 25 args w next QP := fn_rule Try.func25 mixed k25 ha H
theorem r25 {args : List Value} (ha : args.length = 4) {w : World} {next : Value → World → Prop} {QP : List PanicEntry → World → Prop} (H : hw Try.prog noPanic h25 (endV [.tmp 8] next) (σ0 args) w) : callvK Try.prog (.func (.func 25) #[] #[]) args w next QP := callf c25 (q25 ha H)

/- (*missive/disk.Disk).Arm -/
def h26 : HC :=
  (.reg [.need (.n2 .mx (.slot 1) (.lit (.int .i64 0))),
    .eff (some 11) (.call { callee := .value (.func 45), args := #[.tmp 10], argTypes := #[22] }) 22 [(10, .slot 2)] none [],
    .need (.n1 .nilchk (.slot 0)),
    .need (.n1 (.faddr 27) (.n1 .nilchk (.slot 0))),
    .eff none (.store 3 (.tmp 13) (.tmp 9)) 0 [(13, .n1 (.faddr 27) (.n1 .nilchk (.slot 0))), (9, .n2 .mx (.slot 1) (.lit (.int .i64 0)))] none [],
    .need (.n1 .nilchk (.slot 0)),
    .need (.n1 (.faddr 28) (.n1 .nilchk (.slot 0))),
    .eff none (.store 22 (.tmp 15) (.tmp 11)) 0 [(15, .n1 (.faddr 28) (.n1 .nilchk (.slot 0))), (11, .slot 11)] none []])
theorem k26 : fnOK Try.prog 2055 [] [] 3 Try.f26 = some h26 := by kernel_rfl
theorem c26 : callable Try.prog 26 = true := by kernel_rfl
theorem q26 {args : List Value} (ha : args.length = 3) {w : World} {next : Value → World → Prop} {QP : List PanicEntry → World → Prop} (H : hw Try.prog noPanic h26 (endV [] next) (σ0 args) w) : callK Try.prog 26 args w next QP := fn_rule Try.func26 mixed k26 ha H
theorem r26 {args : List Value} (ha : args.length = 3) {w : World} {next : Value → World → Prop} {QP : List PanicEntry → World → Prop} (H : hw Try.prog noPanic h26 (endV [] next) (σ0 args) w) : callvK Try.prog (.func (.func 26) #[] #[]) args w next QP := callf c26 (q26 ha H)

/- (*missive/disk.Disk).Lose -/
def h27 : HC :=
  (.reg [.need (.n2 .mx (.slot 1) (.lit (.int .i64 0))),
    .need (.n1 .nilchk (.slot 0)),
    .need (.n1 (.faddr 25) (.n1 .nilchk (.slot 0))),
    .eff none (.store 3 (.tmp 8) (.tmp 6)) 0 [(8, .n1 (.faddr 25) (.n1 .nilchk (.slot 0))), (6, .n2 .mx (.slot 1) (.lit (.int .i64 0)))] none []])
theorem k27 : fnOK Try.prog 3 [] [] 2 Try.f27 = some h27 := by kernel_rfl
theorem c27 : callable Try.prog 27 = true := by kernel_rfl
theorem q27 {args : List Value} (ha : args.length = 2) {w : World} {next : Value → World → Prop} {QP : List PanicEntry → World → Prop} (H : hw Try.prog noPanic h27 (endV [] next) (σ0 args) w) : callK Try.prog 27 args w next QP := fn_rule Try.func27 mixed k27 ha H
theorem r27 {args : List Value} (ha : args.length = 2) {w : World} {next : Value → World → Prop} {QP : List PanicEntry → World → Prop} (H : hw Try.prog noPanic h27 (endV [] next) (σ0 args) w) : callvK Try.prog (.func (.func 27) #[] #[]) args w next QP := callf c27 (q27 ha H)

/- (*missive/disk.Disk).Copy -/
def h28_1 : HC :=
  (.seq
  (.reg [.asg 2 (.slot 3)])
  .ret)
def h28 : HC :=
  (.seq
  (.reg [.asg 2 (.lit (.pointer none))])
  (.seq
  (.reg [.need (.n1 .nilchk (.slot 0)),
    .need (.n1 (.ldn 29) (.n1 .nilchk (.slot 0))),
    .asg 6 (.n1 (.ldn 29) (.n1 .nilchk (.slot 0))),
    .eff (some 3) (.alloc 58) 0 [] none [],
    .eff none (.store 58 (.tmp 3) (.tmp 6)) 0 [(3, .slot 3), (6, .slot 6)] none []])
  (.seq
  (.reg [.need (.n1 .nilchk (.slot 0)),
    .need (.n1 (.faddr 24) (.n1 .nilchk (.slot 0))),
    .need (.n1 .ld (.n1 (.faddr 24) (.n1 .nilchk (.slot 0)))),
    .eff (some 11) (.call { callee := .value (.func 46), args := #[.tmp 10], argTypes := #[56] }) 56 [(10, .n1 .ld (.n1 (.faddr 24) (.n1 .nilchk (.slot 0))))] none [],
    .need (.n1 (.faddr 24) (.slot 3)),
    .eff none (.store 56 (.tmp 12) (.tmp 11)) 0 [(12, .n1 (.faddr 24) (.slot 3)), (11, .slot 11)] none []])
  h28_1)))
theorem k28 : fnOK Try.prog 2125 [] [.tmp 2] 1 Try.f28 = some h28 := by kernel_rfl
theorem c28 : callable Try.prog 28 = true := by kernel_rfl
theorem q28 {args : List Value} (ha : args.length = 1) {w : World} {next : Value → World → Prop} {QP : List PanicEntry → World → Prop} (H : hw Try.prog noPanic h28 (endV [.tmp 2] next) (σ0 args) w) : callK Try.prog 28 args w next QP := fn_rule Try.func28 mixed k28 ha H
theorem r28 {args : List Value} (ha : args.length = 1) {w : World} {next : Value → World → Prop} {QP : List PanicEntry → World → Prop} (H : hw Try.prog noPanic h28 (endV [.tmp 2] next) (σ0 args) w) : callvK Try.prog (.func (.func 28) #[] #[]) args w next QP := callf c28 (q28 ha H)

/- (*missive/disk.Disk).Cut -/
def h36_3 : HC :=
  (.seq
  (.reg [.need (.n1 .nilchk (.slot 0)),
    .need (.n1 (.faddr 12) (.n1 .nilchk (.slot 0))),
    .need (.n2 (.iaddra 12 1) (.n1 (.faddr 12) (.n1 .nilchk (.slot 0))) (.slot 1)),
    .need (.n1 .ld (.n2 (.iaddra 12 1) (.n1 (.faddr 12) (.n1 .nilchk (.slot 0))) (.slot 1))),
    .need (.n3 (.sls false true) (.n1 .ld (.n2 (.iaddra 12 1) (.n1 (.faddr 12) (.n1 .nilchk (.slot 0))) (.slot 1))) (.lit (.tuple #[])) (.slot 2)),
    .eff (some 42) (.call { callee := .value (.func 40), args := #[.tmp 32, .tmp 33, .tmp 41], argTypes := #[24, 3, 9] }) 0 [(32, .slot 0), (33, .slot 1), (41, .n3 (.sls false true) (.n1 .ld (.n2 (.iaddra 12 1) (.n1 (.faddr 12) (.n1 .nilchk (.slot 0))) (.slot 1))) (.lit (.tuple #[])) (.slot 2))] none []])
  (.seq
  (.reg [.asg 6 (.lit (.int .i64 0))])
  .ret))
def h36_2 : HC :=
  (.seq
  (.seq
  (.reg [.need (.n2 (.bin .lss) (.slot 2) (.lit (.int .i64 0))),
    .eff (some 29) (.call { callee := .value (.func 18), args := #[.tmp 27, .tmp 28], argTypes := #[24, 3] }) 3 [(27, .slot 0), (28, .slot 1)] (some (.n2 (.bin .lss) (.slot 2) (.lit (.int .i64 0)), false)) [],
    .need (.gif (.n2 (.bin .lss) (.slot 2) (.lit (.int .i64 0))) false (.n2 (.bin .gtr) (.slot 2) (.slot 29))),
    .need (.n3 .pick (.n2 (.bin .lss) (.slot 2) (.lit (.int .i64 0))) (.lit (.bool true)) (.n2 (.bin .gtr) (.slot 2) (.slot 29))),
    .asg 31 (.n3 .pick (.n2 (.bin .lss) (.slot 2) (.lit (.int .i64 0))) (.lit (.bool true)) (.n2 (.bin .gtr) (.slot 2) (.slot 29)))])
  (.cond (.slot 31)
    (.seq
    (.reg [.asg 6 (.lit (.int .i64 1))])
    .ret)
    .skip))
  h36_3)
def h36_1 : HC :=
  (.seq
  (.seq
  (.reg [.eff (some 18) (.buildSlice 22 1 #[(0, .tmp 17)]) 22 [(17, .slot 1)] none [],
    .eff (some 19) (.call { callee := .value (.func 39), args := #[.tmp 16, .tmp 18], argTypes := #[24, 22] }) 26 [(16, .slot 0), (18, .slot 18)] none [],
    .asg 7 (.slot 19)])
  (.seq
  (.reg [.need (.n2 (.bin .neq) (.slot 7) (.lit (.int .i64 0))),
    .asg 21 (.n2 (.bin .neq) (.slot 7) (.lit (.int .i64 0)))])
  (.cond (.slot 21)
    (.seq
    (.reg [.asg 6 (.slot 7)])
    .ret)
    .skip)))
  h36_2)
def h36 : HC :=
  (.seq
  (.reg [.asg 6 (.lit (.int .i64 0))])
  (.seq
  (.seq
  (.reg [.eff (some 9) (.call { callee := .value (.func 37), args := #[.tmp 8], argTypes := #[24] }) 4 [(8, .slot 0)] none []])
  (.cond (.slot 9)
    (.reg [.need (.n1 .nilchk (.slot 0)),
      .need (.n1 (.faddr 28) (.n1 .nilchk (.slot 0))),
      .need (.n1 .ld (.n1 (.faddr 28) (.n1 .nilchk (.slot 0)))),
      .eff (some 15) (.call { callee := .value (.func 15), args := #[.tmp 10, .tmp 14], argTypes := #[24, 22] }) 0 [(10, .slot 0), (14, .n1 .ld (.n1 (.faddr 28) (.n1 .nilchk (.slot 0))))] none []])
    .skip))
  h36_1))
theorem k36 : fnOK Try.prog 4400733782727 [] [.tmp 6] 3 Try.f36 = some h36 := by kernel_rfl
theorem c36 : callable Try.prog 36 = true := by kernel_rfl
theorem q36 {args : List Value} (ha : args.length = 3) {w : World} {next : Value → World → Prop} {QP : List PanicEntry → World → Prop} (H : hw Try.prog noPanic h36 (endV [.tmp 6] next) (σ0 args) w) : callK Try.prog 36 args w next QP := fn_rule Try.func36 mixed k36 ha H
theorem r36 {args : List Value} (ha : args.length = 3) {w : World} {next : Value → World → Prop} {QP : List PanicEntry → World → Prop} (H : hw Try.prog noPanic h36 (endV [.tmp 6] next) (σ0 args) w) : callvK Try.prog (.func (.func 36) #[] #[]) args w next QP := callf c36 (q36 ha H)

/- (*missive/disk.Disk).ends -/
def h37_1 : HC :=
  (.seq
  (.reg [.need (.n1 .nilchk (.slot 0)),
    .need (.n1 (.faddr 27) (.n1 .nilchk (.slot 0))),
    .need (.n1 .ld (.n1 (.faddr 27) (.n1 .nilchk (.slot 0)))),
    .need (.n2 (.bin .sub) (.n1 .ld (.n1 (.faddr 27) (.n1 .nilchk (.slot 0)))) (.lit (.int .i64 1))),
    .need (.n1 .nilchk (.slot 0)),
    .need (.n1 (.faddr 27) (.n1 .nilchk (.slot 0))),
    .eff none (.store 3 (.tmp 20) (.tmp 18)) 0 [(20, .n1 (.faddr 27) (.n1 .nilchk (.slot 0))), (18, .n2 (.bin .sub) (.n1 .ld (.n1 (.faddr 27) (.n1 .nilchk (.slot 0)))) (.lit (.int .i64 1)))] none []])
  (.seq
  (.reg [.need (.n1 .nilchk (.slot 0)),
    .need (.n1 (.faddr 27) (.n1 .nilchk (.slot 0))),
    .need (.n1 .ld (.n1 (.faddr 27) (.n1 .nilchk (.slot 0)))),
    .need (.n2 (.bin .eql) (.n1 .ld (.n1 (.faddr 27) (.n1 .nilchk (.slot 0)))) (.lit (.int .i64 0))),
    .asg 2 (.n2 (.bin .eql) (.n1 .ld (.n1 (.faddr 27) (.n1 .nilchk (.slot 0)))) (.lit (.int .i64 0)))])
  .ret))
def h37 : HC :=
  (.seq
  (.reg [.asg 2 (.lit (.bool false))])
  (.seq
  (.seq
  (.reg [.need (.n1 .nilchk (.slot 0)),
    .need (.n1 (.faddr 26) (.n1 .nilchk (.slot 0))),
    .need (.n1 .ld (.n1 (.faddr 26) (.n1 .nilchk (.slot 0)))),
    .need (.gif (.n1 .ld (.n1 (.faddr 26) (.n1 .nilchk (.slot 0)))) false (.n1 .nilchk (.slot 0))),
    .need (.gif (.n1 .ld (.n1 (.faddr 26) (.n1 .nilchk (.slot 0)))) false (.n1 (.faddr 27) (.n1 .nilchk (.slot 0)))),
    .need (.gif (.n1 .ld (.n1 (.faddr 26) (.n1 .nilchk (.slot 0)))) false (.n1 .ld (.n1 (.faddr 27) (.n1 .nilchk (.slot 0))))),
    .need (.gif (.n1 .ld (.n1 (.faddr 26) (.n1 .nilchk (.slot 0)))) false (.n2 (.bin .eql) (.n1 .ld (.n1 (.faddr 27) (.n1 .nilchk (.slot 0)))) (.lit (.int .i64 0)))),
    .need (.n3 .pick (.n1 .ld (.n1 (.faddr 26) (.n1 .nilchk (.slot 0)))) (.lit (.bool true)) (.n2 (.bin .eql) (.n1 .ld (.n1 (.faddr 27) (.n1 .nilchk (.slot 0)))) (.lit (.int .i64 0)))),
    .asg 13 (.n3 .pick (.n1 .ld (.n1 (.faddr 26) (.n1 .nilchk (.slot 0)))) (.lit (.bool true)) (.n2 (.bin .eql) (.n1 .ld (.n1 (.faddr 27) (.n1 .nilchk (.slot 0)))) (.lit (.int .i64 0))))])
  (.cond (.slot 13)
    (.seq
    (.reg [.asg 2 (.lit (.bool false))])
    .ret)
    .skip))
  h37_1))
theorem k37 : fnOK Try.prog 8197 [] [.tmp 2] 1 Try.f37 = some h37 := by kernel_rfl
theorem c37 : callable Try.prog 37 = true := by kernel_rfl
theorem q37 {args : List Value} (ha : args.length = 1) {w : World} {next : Value → World → Prop} {QP : List PanicEntry → World → Prop} (H : hw Try.prog noPanic h37 (endV [.tmp 2] next) (σ0 args) w) : callK Try.prog 37 args w next QP := fn_rule Try.func37 mixed k37 ha H
theorem r37 {args : List Value} (ha : args.length = 1) {w : World} {next : Value → World → Prop} {QP : List PanicEntry → World → Prop} (H : hw Try.prog noPanic h37 (endV [.tmp 2] next) (σ0 args) w) : callvK Try.prog (.func (.func 37) #[] #[]) args w next QP := callf c37 (q37 ha H)

/- (*missive/disk.Disk).write -/
def h38_4 : HC :=
  (.block 2
    (.seq
    (.reg [.need (.n1 .lens (.slot 3)),
      .need (.n2 (.bin .rem) (.slot 2) (.lit (.int .i64 64))),
      .need (.n2 (.bin .sub) (.lit (.int .i64 64)) (.n2 (.bin .rem) (.slot 2) (.lit (.int .i64 64)))),
      .need (.n2 .mn (.n1 .lens (.slot 3)) (.n2 (.bin .sub) (.lit (.int .i64 64)) (.n2 (.bin .rem) (.slot 2) (.lit (.int .i64 64))))),
      .asg 10 (.n2 .mn (.n1 .lens (.slot 3)) (.n2 (.bin .sub) (.lit (.int .i64 64)) (.n2 (.bin .rem) (.slot 2) (.lit (.int .i64 64)))))])
    (.seq
    (.draw [.need (.n1 .nilchk (.slot 0)),
      .need (.n1 (.faddr 24) (.n1 .nilchk (.slot 0))),
      .need (.n1 .ld (.n1 (.faddr 24) (.n1 .nilchk (.slot 0)))),
      .asg 60 (.n1 .ld (.n1 (.faddr 24) (.n1 .nilchk (.slot 0)))),
      .need (.n3 (.sls false true) (.slot 3) (.lit (.tuple #[])) (.slot 10)),
      .need (.n2 (.put 0 1) (.lit (.agg #[(.int .i64 0), (.int .i64 0), (str [])])) (.slot 1)),
      .need (.n2 (.put 1 1) (.n2 (.put 0 1) (.lit (.agg #[(.int .i64 0), (.int .i64 0), (str [])])) (.slot 1)) (.slot 2)),
      .need (.n2 (.put 2 1) (.n2 (.put 1 1) (.n2 (.put 0 1) (.lit (.agg #[(.int .i64 0), (.int .i64 0), (str [])])) (.slot 1)) (.slot 2)) (.n3 (.sls false true) (.slot 3) (.lit (.tuple #[])) (.slot 10))),
      .eff (some 67) (.buildSlice 56 1 #[(0, .tmp 66)]) 56 [(66, .n2 (.put 2 1) (.n2 (.put 1 1) (.n2 (.put 0 1) (.lit (.agg #[(.int .i64 0), (.int .i64 0), (str [])])) (.slot 1)) (.slot 2)) (.n3 (.sls false true) (.slot 3) (.lit (.tuple #[])) (.slot 10)))] none [⟨none, .ld, .n1 (.faddr 24) (.n1 .nilchk (.slot 0))⟩],
      .eff (some 68) (.call { callee := .builtin .append, args := #[.tmp 60, .tmp 67], argTypes := #[56, 56] }) 56 [(60, .slot 60), (67, .slot 67)] none [],
      .need (.n1 .nilchk (.slot 0)),
      .need (.n1 (.faddr 24) (.n1 .nilchk (.slot 0))),
      .eff none (.store 56 (.tmp 70) (.tmp 68)) 0 [(70, .n1 (.faddr 24) (.n1 .nilchk (.slot 0))), (68, .slot 68)] none []])
    (.draw [.need (.n2 (.bin .add) (.slot 2) (.slot 10)),
      .need (.n3 (.sls true false) (.slot 3) (.slot 10) (.lit (.tuple #[]))),
      .asg 2 (.n2 (.bin .add) (.slot 2) (.slot 10)),
      .asg 3 (.n3 (.sls true false) (.slot 3) (.slot 10) (.lit (.tuple #[])))]))))
def h38_3 : HC :=
  (.seq
  (.seq
  (.reg [.need (.n2 (.sbin .neq) (.slot 3) (.lit (str []))),
    .asg 49 (.n2 (.sbin .neq) (.slot 3) (.lit (str [])))])
  (.cond (.slot 49)
    .skip
    (.exit 1)))
  h38_4)
def h38_5 : HC :=
  (.seq
  (.reg [.asg 8 (.lit (.int .i64 0))])
  .ret)
def h38_2 : HC :=
  (.seq
  (.draw [.need (.n1 .nilchk (.slot 0)),
    .need (.n1 (.faddr 12) (.n1 .nilchk (.slot 0))),
    .need (.n2 (.iaddra 12 1) (.n1 (.faddr 12) (.n1 .nilchk (.slot 0))) (.slot 1)),
    .need (.n1 .ld (.n2 (.iaddra 12 1) (.n1 (.faddr 12) (.n1 .nilchk (.slot 0))) (.slot 1))),
    .need (.n1 .nilchk (.slot 0)),
    .need (.n1 (.faddr 12) (.n1 .nilchk (.slot 0))),
    .eff (some 44) (.call { callee := .value (.func 43), args := #[.tmp 41, .tmp 42, .tmp 43], argTypes := #[9, 3, 9] }) 9 [(41, .n1 .ld (.n2 (.iaddra 12 1) (.n1 (.faddr 12) (.n1 .nilchk (.slot 0))) (.slot 1))), (42, .slot 2), (43, .slot 3)] none [],
    .need (.n2 (.iaddra 12 1) (.n1 (.faddr 12) (.n1 .nilchk (.slot 0))) (.slot 1)),
    .eff none (.store 9 (.tmp 47) (.tmp 44)) 0 [(47, .n2 (.iaddra 12 1) (.n1 (.faddr 12) (.n1 .nilchk (.slot 0))) (.slot 1)), (44, .slot 44)] none []])
  (.seq
  (.block 1
    (.loop
      h38_3))
  h38_5))
def h38_1 : HC :=
  (.seq
  (.block 0
    (.seq
    (.reg [.need (.n2 (.bin .lss) (.slot 2) (.lit (.int .i64 0))),
      .asg 18 (.n2 (.bin .lss) (.slot 2) (.lit (.int .i64 0)))])
    (.cond (.slot 18)
      (.seq
      (.reg [.asg 8 (.lit (.int .i64 1))])
      .ret)
      (.seq
      (.reg [.need (.n2 (.bin .gtr) (.slot 2) (.lit (.int .i64 16777216))),
        .need (.gif (.n2 (.bin .gtr) (.slot 2) (.lit (.int .i64 16777216))) false (.n1 .lens (.slot 3))),
        .need (.gif (.n2 (.bin .gtr) (.slot 2) (.lit (.int .i64 16777216))) false (.n2 (.bin .sub) (.lit (.int .i64 16777216)) (.slot 2))),
        .need (.gif (.n2 (.bin .gtr) (.slot 2) (.lit (.int .i64 16777216))) false (.n2 (.bin .gtr) (.n1 .lens (.slot 3)) (.n2 (.bin .sub) (.lit (.int .i64 16777216)) (.slot 2)))),
        .need (.n3 .pick (.n2 (.bin .gtr) (.slot 2) (.lit (.int .i64 16777216))) (.lit (.bool true)) (.n2 (.bin .gtr) (.n1 .lens (.slot 3)) (.n2 (.bin .sub) (.lit (.int .i64 16777216)) (.slot 2)))),
        .asg 21 (.n3 .pick (.n2 (.bin .gtr) (.slot 2) (.lit (.int .i64 16777216))) (.lit (.bool true)) (.n2 (.bin .gtr) (.n1 .lens (.slot 3)) (.n2 (.bin .sub) (.lit (.int .i64 16777216)) (.slot 2))))])
      (.cond (.slot 21)
        (.seq
        (.reg [.asg 8 (.lit (.int .i64 6))])
        .ret)
        (.seq
        (.reg [.need (.n2 (.sbin .eql) (.slot 3) (.lit (str []))),
          .asg 31 (.n2 (.sbin .eql) (.slot 3) (.lit (str [])))])
        (.cond (.slot 31)
          (.seq
          (.reg [.asg 8 (.lit (.int .i64 0))])
          .ret)
          .skip)))))))
  h38_2)
def h38 : HC :=
  (.seq
  (.reg [.asg 8 (.lit (.int .i64 0))])
  (.seq
  (.seq
  (.reg [.eff (some 13) (.buildSlice 22 1 #[(0, .tmp 12)]) 22 [(12, .slot 1)] none [],
    .eff (some 14) (.call { callee := .value (.func 39), args := #[.tmp 11, .tmp 13], argTypes := #[24, 22] }) 26 [(11, .slot 0), (13, .slot 13)] none [],
    .asg 9 (.slot 14)])
  (.seq
  (.reg [.need (.n2 (.bin .neq) (.slot 9) (.lit (.int .i64 0))),
    .asg 16 (.n2 (.bin .neq) (.slot 9) (.lit (.int .i64 0)))])
  (.cond (.slot 16)
    (.seq
    (.reg [.asg 8 (.slot 9)])
    .ret)
    .skip)))
  h38_1))
theorem k38 : fnOK Try.prog 443875359817925486351 [⟨10, [0, 0, 0, 0, 4, 20, 60, 124, 0, 0, 1020, 1, 2049, 8191, 16383], [(0, []), (1, []), (2, []), (3, []), (4, []), (5, []), (6, []), (7, []), (8, []), (9, []), (11, []), (12, []), (10, []), (13, []), (14, [])]⟩, ⟨13, [0, 0, 2, 6, 14, 0, 0, 0, 0, 384, 992, 2016, 4094, 8191, 16383, 32767], [(0, []), (1, []), (2, []), (3, []), (4, []), (5, []), (6, []), (7, []), (8, []), (9, []), (10, []), (11, [4]), (12, []), (13, []), (14, []), (15, [])]⟩, ⟨14, [0, 0, 3, 0, 0, 24, 7, 127], [(0, []), (1, []), (2, []), (3, []), (4, []), (5, []), (6, []), (7, [])]⟩] [.tmp 8] 4 Try.f38 = some h38 := by kernel_rfl
theorem c38 : callable Try.prog 38 = true := by kernel_rfl
theorem q38 {args : List Value} (ha : args.length = 4) {w : World} {next : Value → World → Prop} {QP : List PanicEntry → World → Prop} (H : hw Try.prog noPanic h38 (endV [.tmp 8] next) (σ0 args) w) : callK Try.prog 38 args w next QP := fn_rule Try.func38 mixed k38 ha H
theorem r38 {args : List Value} (ha : args.length = 4) {w : World} {next : Value → World → Prop} {QP : List PanicEntry → World → Prop} (H : hw Try.prog noPanic h38 (endV [.tmp 8] next) (σ0 args) w) : callvK Try.prog (.func (.func 38) #[] #[]) args w next QP := callf c38 (q38 ha H)

/- (*missive/disk.Disk).may -/
def h39_4 : HC :=
  (.reg [.need (.n2 (.bin .add) (.slot 13) (.lit (.int .i64 1))),
    .asg 13 (.n2 (.bin .add) (.slot 13) (.lit (.int .i64 1)))])
def h39_3 : HC :=
  (.seq
  (.block 1
    (.seq
    (.reg [.need (.n2 (.iaddr 1) (.slot 11) (.slot 13)),
      .need (.n1 .ld (.n2 (.iaddr 1) (.slot 11) (.slot 13))),
      .asg 6 (.n1 .ld (.n2 (.iaddr 1) (.slot 11) (.slot 13)))])
    (.seq
    (.reg [.eff (some 18) (.call { callee := .value (.func 44), args := #[.tmp 17], argTypes := #[3] }) 4 [(17, .slot 6)] none [],
      .need (.n1 .bnot (.slot 18)),
      .asg 19 (.n1 .bnot (.slot 18))])
    (.cond (.slot 19)
      (.seq
      (.reg [.asg 4 (.lit (.int .i64 1))])
      .ret)
      .skip))))
  h39_4)
def h39_2 : HC :=
  (.seq
  (.reg [.need (.n2 (.bin .lss) (.slot 13) (.slot 12)),
    .asg 14 (.n2 (.bin .lss) (.slot 13) (.slot 12))])
  (.seq
  (.cond (.slot 14)
    .skip
    (.exit 0))
  h39_3))
def h39_5 : HC :=
  (.seq
  (.reg [.asg 4 (.lit (.int .i64 0))])
  .ret)
def h39_1 : HC :=
  (.seq
  (.seq
  (.reg [.asg 11 (.slot 1),
    .need (.n1 .lensl (.slot 11)),
    .asg 12 (.n1 .lensl (.slot 11)),
    .asg 13 (.lit (.int .i64 0))])
  (.block 0
    (.loop
      h39_2)))
  h39_5)
def h39 : HC :=
  (.seq
  (.reg [.asg 4 (.lit (.int .i64 0))])
  (.seq
  (.seq
  (.reg [.need (.n1 .nilchk (.slot 0)),
    .need (.n1 (.faddr 26) (.n1 .nilchk (.slot 0))),
    .need (.n1 .ld (.n1 (.faddr 26) (.n1 .nilchk (.slot 0)))),
    .asg 10 (.n1 .ld (.n1 (.faddr 26) (.n1 .nilchk (.slot 0))))])
  (.cond (.slot 10)
    (.seq
    (.reg [.asg 4 (.lit (.int .i64 8))])
    .ret)
    .skip))
  h39_1))
theorem k39 : fnOK Try.prog 818259 [] [.tmp 4] 2 Try.f39 = some h39 := by kernel_rfl
theorem c39 : callable Try.prog 39 = true := by kernel_rfl
theorem q39 {args : List Value} (ha : args.length = 2) {w : World} {next : Value → World → Prop} {QP : List PanicEntry → World → Prop} (H : hw Try.prog noPanic h39 (endV [.tmp 4] next) (σ0 args) w) : callK Try.prog 39 args w next QP := fn_rule Try.func39 mixed k39 ha H
theorem r39 {args : List Value} (ha : args.length = 2) {w : World} {next : Value → World → Prop} {QP : List PanicEntry → World → Prop} (H : hw Try.prog noPanic h39 (endV [.tmp 4] next) (σ0 args) w) : callvK Try.prog (.func (.func 39) #[] #[]) args w next QP := callf c39 (q39 ha H)

/- (*missive/disk.Disk).settle -/
def h40 : HC :=
  (.seq
  (.reg [.eff (some 4) (.box 3 (.tmp 1)) 0 [(1, .slot 1)] none []])
  (.seq
  (.draw [.need (.n1 .ld (.slot 4)),
    .need (.n1 .ld (.slot 4)),
    .asg 9 (.n1 .ld (.slot 4)),
    .need (.n1 .nilchk (.slot 0)),
    .need (.n1 (.faddr 0) (.n1 .nilchk (.slot 0))),
    .need (.n2 (.iaddra 12 1) (.n1 (.faddr 0) (.n1 .nilchk (.slot 0))) (.n1 .ld (.slot 4))),
    .need (.n1 .nilchk (.slot 0)),
    .need (.n1 (.faddr 12) (.n1 .nilchk (.slot 0))),
    .eff none (.store 9 (.tmp 14) (.tmp 10)) 0 [(14, .n2 (.iaddra 12 1) (.n1 (.faddr 0) (.n1 .nilchk (.slot 0))) (.n1 .ld (.slot 4))), (10, .slot 2)] none [⟨none, .ld, .slot 4⟩],
    .need (.n2 (.iaddra 12 1) (.n1 (.faddr 12) (.n1 .nilchk (.slot 0))) (.slot 9)),
    .eff none (.store 9 (.tmp 17) (.tmp 11)) 0 [(17, .n2 (.iaddra 12 1) (.n1 (.faddr 12) (.n1 .nilchk (.slot 0))) (.slot 9)), (11, .slot 2)] none []])
  (.reg [.need (.n1 .nilchk (.slot 0)),
    .need (.n1 (.faddr 24) (.n1 .nilchk (.slot 0))),
    .need (.n1 .ld (.n1 (.faddr 24) (.n1 .nilchk (.slot 0)))),
    .eff (some 24) (.call { callee := .value (.func 56), args := #[.tmp 22, .tmp 23], argTypes := #[56, 64] }) 56 [(22, .n1 .ld (.n1 (.faddr 24) (.n1 .nilchk (.slot 0)))), (23, .n2 .capt (.lit (.func (.func 57) #[] #[])) (.slot 4))] none [],
    .need (.n1 .nilchk (.slot 0)),
    .need (.n1 (.faddr 24) (.n1 .nilchk (.slot 0))),
    .eff none (.store 56 (.tmp 26) (.tmp 24)) 0 [(26, .n1 (.faddr 24) (.n1 .nilchk (.slot 0))), (24, .slot 24)] none []])))
theorem k40 : fnOK Try.prog 16777751 [⟨1, [0, 0, 0, 0, 0, 0, 1, 65, 211, 467, 4, 1028, 4095, 8191], [(0, []), (1, []), (2, []), (3, []), (4, []), (5, []), (6, []), (7, []), (8, []), (10, []), (11, []), (9, [3]), (12, []), (13, [])]⟩] [] 3 Try.f40 = some h40 := by kernel_rfl
theorem c40 : callable Try.prog 40 = true := by kernel_rfl
theorem q40 {args : List Value} (ha : args.length = 3) {w : World} {next : Value → World → Prop} {QP : List PanicEntry → World → Prop} (H : hw Try.prog noPanic h40 (endV [] next) (σ0 args) w) : callK Try.prog 40 args w next QP := fn_rule Try.func40 mixed k40 ha H
theorem r40 {args : List Value} (ha : args.length = 3) {w : World} {next : Value → World → Prop} {QP : List PanicEntry → World → Prop} (H : hw Try.prog noPanic h40 (endV [] next) (σ0 args) w) : callvK Try.prog (.func (.func 40) #[] #[]) args w next QP := callf c40 (q40 ha H)

/- slices.ContainsFunc(()missive/disk.pending,missive/disk.pending) -/
def h41 : HC :=
  (.seq
  (.reg [.asg 4 (.lit (.bool false))])
  (.seq
  (.reg [.eff (some 7) (.call { callee := .value (.func 58), args := #[.tmp 5, .tmp 6], argTypes := #[56, 64] }) 3 [(5, .slot 0), (6, .slot 1)] none [],
    .need (.n2 (.bin .geq) (.slot 7) (.lit (.int .i64 0))),
    .asg 4 (.n2 (.bin .geq) (.slot 7) (.lit (.int .i64 0)))])
  .ret))
theorem k41 : fnOK Try.prog 147 [] [.tmp 4] 2 Try.f41 = some h41 := by kernel_rfl
theorem c41 : callable Try.prog 41 = true := by kernel_rfl
theorem q41 {args : List Value} (ha : args.length = 2) {w : World} {next : Value → World → Prop} {QP : List PanicEntry → World → Prop} (H : hw Try.prog noPanic h41 (endV [.tmp 4] next) (σ0 args) w) : callK Try.prog 41 args w next QP := fn_rule Try.func41 mixed k41 ha H
theorem r41 {args : List Value} (ha : args.length = 2) {w : World} {next : Value → World → Prop} {QP : List PanicEntry → World → Prop} (H : hw Try.prog noPanic h41 (endV [.tmp 4] next) (σ0 args) w) : callvK Try.prog (.func (.func 41) #[] #[]) args w next QP := callf c41 (q41 ha H)

/- (*missive/disk.Disk).Turn$1 -/
def h42 : HC :=
  (.seq
  (.reg [.eff (some 2) (.box 63 (.tmp 0)) 0 [(0, .slot 0)] none [],
    .asg 3 (.lit (.bool false))])
  (.seq
  (.reg [.need (.n1 (.faddr 0) (.slot 2)),
    .need (.n1 .ld (.n1 (.faddr 0) (.slot 2))),
    .need (.n1 .ld (.slot 1)),
    .need (.n2 (.bin .eql) (.n1 .ld (.n1 (.faddr 0) (.slot 2))) (.n1 .ld (.slot 1))),
    .asg 3 (.n2 (.bin .eql) (.n1 .ld (.n1 (.faddr 0) (.slot 2))) (.n1 .ld (.slot 1)))])
  .ret))
theorem k42 : fnOK Try.prog 15 [] [.tmp 3] 2 Try.f42 = some h42 := by kernel_rfl
theorem c42 : callable Try.prog 42 = true := by kernel_rfl
theorem q42 {args : List Value} (ha : args.length = 2) {w : World} {next : Value → World → Prop} {QP : List PanicEntry → World → Prop} (H : hw Try.prog noPanic h42 (endV [.tmp 3] next) (σ0 args) w) : callK Try.prog 42 args w next QP := fn_rule Try.func42 mixed k42 ha H
theorem r42 {args : List Value} (ha : args.length = 2) {w : World} {next : Value → World → Prop} {QP : List PanicEntry → World → Prop} (H : hw Try.prog noPanic h42 (endV [.tmp 3] next) (σ0 args) w) : callvK Try.prog (.func (.func 42) #[] #[]) args w next QP := callf c42 (q42 ha H)

/- missive/disk.put -/
def h43 : HC :=
  (.seq
  (.reg [.asg 6 (.lit (str []))])
  (.seq
  (.reg [.need (.n1 .lens (.slot 0)),
    .need (.n1 .lens (.slot 2)),
    .need (.n2 (.bin .add) (.slot 1) (.n1 .lens (.slot 2))),
    .need (.n2 .mx (.n1 .lens (.slot 0)) (.n2 (.bin .add) (.slot 1) (.n1 .lens (.slot 2)))),
    .eff (some 15) (.makeSlice 36 (.tmp 14) (.tmp 14)) 36 [(14, .n2 .mx (.n1 .lens (.slot 0)) (.n2 (.bin .add) (.slot 1) (.n1 .lens (.slot 2)))), (14, .n2 .mx (.n1 .lens (.slot 0)) (.n2 (.bin .add) (.slot 1) (.n1 .lens (.slot 2))))] none [],
    .asg 7 (.slot 15)])
  (.seq
  (.reg [.eff (some 18) (.call { callee := .builtin .copy, args := #[.tmp 16, .tmp 17], argTypes := #[36, 9] }) 3 [(16, .slot 7), (17, .slot 0)] none []])
  (.seq
  (.reg [.need (.n3 (.slv 1 true false) (.slot 7) (.slot 1) (.lit (.tuple #[]))),
    .eff (some 23) (.call { callee := .builtin .copy, args := #[.tmp 21, .tmp 22], argTypes := #[36, 9] }) 3 [(21, .n3 (.slv 1 true false) (.slot 7) (.slot 1) (.lit (.tuple #[]))), (22, .slot 2)] none []])
  (.seq
  (.reg [.eff (some 25) (.convert 36 9 (.tmp 24)) 9 [(24, .slot 7)] none [],
    .asg 6 (.slot 25)])
  .ret)))))
theorem k43 : fnOK Try.prog 42238151 [] [.tmp 6] 3 Try.f43 = some h43 := by kernel_rfl
theorem c43 : callable Try.prog 43 = true := by kernel_rfl
theorem q43 {args : List Value} (ha : args.length = 3) {w : World} {next : Value → World → Prop} {QP : List PanicEntry → World → Prop} (H : hw Try.prog noPanic h43 (endV [.tmp 6] next) (σ0 args) w) : callK Try.prog 43 args w next QP := fn_rule Try.func43 mixed k43 ha H
theorem r43 {args : List Value} (ha : args.length = 3) {w : World} {next : Value → World → Prop} {QP : List PanicEntry → World → Prop} (H : hw Try.prog noPanic h43 (endV [.tmp 6] next) (σ0 args) w) : callvK Try.prog (.func (.func 43) #[] #[]) args w next QP := callf c43 (q43 ha H)

/- missive/disk.is -/
def h44 : HC :=
  (.seq
  (.reg [.asg 2 (.lit (.bool false))])
  (.seq
  (.reg [.need (.n2 (.bin .geq) (.slot 0) (.lit (.int .i64 0))),
    .need (.gif (.n2 (.bin .geq) (.slot 0) (.lit (.int .i64 0))) true (.n2 (.bin .lss) (.slot 0) (.lit (.int .i64 12)))),
    .need (.n3 .pick (.n2 (.bin .geq) (.slot 0) (.lit (.int .i64 0))) (.n2 (.bin .lss) (.slot 0) (.lit (.int .i64 12))) (.lit (.bool false))),
    .asg 2 (.n3 .pick (.n2 (.bin .geq) (.slot 0) (.lit (.int .i64 0))) (.n2 (.bin .lss) (.slot 0) (.lit (.int .i64 12))) (.lit (.bool false)))])
  .ret))
theorem k44 : fnOK Try.prog 5 [] [.tmp 2] 1 Try.f44 = some h44 := by kernel_rfl
theorem c44 : callable Try.prog 44 = true := by kernel_rfl
theorem q44 {args : List Value} (ha : args.length = 1) {w : World} {next : Value → World → Prop} {QP : List PanicEntry → World → Prop} (H : hw Try.prog noPanic h44 (endV [.tmp 2] next) (σ0 args) w) : callK Try.prog 44 args w next QP := fn_rule Try.func44 mixed k44 ha H
theorem r44 {args : List Value} (ha : args.length = 1) {w : World} {next : Value → World → Prop} {QP : List PanicEntry → World → Prop} (H : hw Try.prog noPanic h44 (endV [.tmp 2] next) (σ0 args) w) : callvK Try.prog (.func (.func 44) #[] #[]) args w next QP := callf c44 (q44 ha H)

/- slices.Clone(()int,int) -/
def h45_1 : HC :=
  (.seq
  (.reg [.eff (some 5) (.buildSlice 22 0 #[]) 22 [] none [],
    .eff (some 7) (.call { callee := .builtin .append, args := #[.tmp 5, .tmp 6], argTypes := #[22, 22] }) 22 [(5, .slot 5), (6, .slot 0)] none [],
    .asg 2 (.slot 7)])
  .ret)
def h45 : HC :=
  (.seq
  (.reg [.asg 2 (.lit (.slice none 0 0))])
  (.seq
  (.seq
  (.reg [.need (.n2 (.slnil false) (.slot 0) (.lit (.slice none 0 0))),
    .asg 4 (.n2 (.slnil false) (.slot 0) (.lit (.slice none 0 0)))])
  (.cond (.slot 4)
    (.seq
    (.reg [.asg 2 (.lit (.slice none 0 0))])
    .ret)
    .skip))
  h45_1))
theorem k45 : fnOK Try.prog 181 [] [.tmp 2] 1 Try.f45 = some h45 := by kernel_rfl
theorem c45 : callable Try.prog 45 = true := by kernel_rfl
theorem q45 {args : List Value} (ha : args.length = 1) {w : World} {next : Value → World → Prop} {QP : List PanicEntry → World → Prop} (H : hw Try.prog noPanic h45 (endV [.tmp 2] next) (σ0 args) w) : callK Try.prog 45 args w next QP := fn_rule Try.func45 mixed k45 ha H
theorem r45 {args : List Value} (ha : args.length = 1) {w : World} {next : Value → World → Prop} {QP : List PanicEntry → World → Prop} (H : hw Try.prog noPanic h45 (endV [.tmp 2] next) (σ0 args) w) : callvK Try.prog (.func (.func 45) #[] #[]) args w next QP := callf c45 (q45 ha H)

/- slices.Clone(()missive/disk.pending,missive/disk.pending) -/
def h46_1 : HC :=
  (.seq
  (.reg [.eff (some 5) (.buildSlice 56 0 #[]) 56 [] none [],
    .eff (some 7) (.call { callee := .builtin .append, args := #[.tmp 5, .tmp 6], argTypes := #[56, 56] }) 56 [(5, .slot 5), (6, .slot 0)] none [],
    .asg 2 (.slot 7)])
  .ret)
def h46 : HC :=
  (.seq
  (.reg [.asg 2 (.lit (.slice none 0 0))])
  (.seq
  (.seq
  (.reg [.need (.n2 (.slnil false) (.slot 0) (.lit (.slice none 0 0))),
    .asg 4 (.n2 (.slnil false) (.slot 0) (.lit (.slice none 0 0)))])
  (.cond (.slot 4)
    (.seq
    (.reg [.asg 2 (.lit (.slice none 0 0))])
    .ret)
    .skip))
  h46_1))
theorem k46 : fnOK Try.prog 181 [] [.tmp 2] 1 Try.f46 = some h46 := by kernel_rfl
theorem c46 : callable Try.prog 46 = true := by kernel_rfl
theorem q46 {args : List Value} (ha : args.length = 1) {w : World} {next : Value → World → Prop} {QP : List PanicEntry → World → Prop} (H : hw Try.prog noPanic h46 (endV [.tmp 2] next) (σ0 args) w) : callK Try.prog 46 args w next QP := fn_rule Try.func46 mixed k46 ha H
theorem r46 {args : List Value} (ha : args.length = 1) {w : World} {next : Value → World → Prop} {QP : List PanicEntry → World → Prop} (H : hw Try.prog noPanic h46 (endV [.tmp 2] next) (σ0 args) w) : callvK Try.prog (.func (.func 46) #[] #[]) args w next QP := callf c46 (q46 ha H)

/- slices.DeleteFunc(()missive/disk.pending,missive/disk.pending) -/
def h56_4 : HC :=
  (.reg [.need (.n2 (.bin .add) (.slot 6) (.lit (.int .i64 1))),
    .asg 6 (.n2 (.bin .add) (.slot 6) (.lit (.int .i64 1)))])
def h56_3 : HC :=
  (.seq
  (.block 1
    (.seq
    (.reg [.need (.n2 (.iaddr 3) (.slot 0) (.slot 6)),
      .need (.n1 (.ldn 3) (.n2 (.iaddr 3) (.slot 0) (.slot 6))),
      .asg 25 (.n1 (.ldn 3) (.n2 (.iaddr 3) (.slot 0) (.slot 6))),
      .eff (some 7) (.alloc 63) 0 [] none [],
      .eff none (.store 63 (.tmp 7) (.tmp 25)) 0 [(7, .slot 7), (25, .slot 25)] none []])
    (.seq
    (.reg [.need (.n1 (.ldn 3) (.slot 7)),
      .eff (some 28) (.call { callee := .value (.tmp 26), args := #[.tmp 27], argTypes := #[63] }) 4 [(26, .slot 1), (27, .n1 (.ldn 3) (.slot 7))] none [],
      .need (.n1 .bnot (.slot 28)),
      .asg 29 (.n1 .bnot (.slot 28))])
    (.cond (.slot 29)
      (.seq
      (.reg [.need (.n1 (.ldn 3) (.slot 7)),
        .need (.n2 (.iaddr 3) (.slot 0) (.slot 5)),
        .eff none (.store 63 (.tmp 33) (.tmp 32)) 0 [(33, .n2 (.iaddr 3) (.slot 0) (.slot 5)), (32, .n1 (.ldn 3) (.slot 7))] none []])
      (.reg [.need (.n2 (.bin .add) (.slot 5) (.lit (.int .i64 1))),
        .asg 5 (.n2 (.bin .add) (.slot 5) (.lit (.int .i64 1)))]))
      .skip))))
  h56_4)
def h56_2 : HC :=
  (.seq
  (.seq
  (.reg [.need (.n1 .lensl (.slot 0)),
    .need (.n2 (.bin .lss) (.slot 6) (.n1 .lensl (.slot 0))),
    .asg 19 (.n2 (.bin .lss) (.slot 6) (.n1 .lensl (.slot 0)))])
  (.cond (.slot 19)
    .skip
    (.exit 0)))
  h56_3)
def h56_5 : HC :=
  (.seq
  (.reg [.need (.n3 (.slv 3 true false) (.slot 0) (.slot 5) (.lit (.tuple #[]))),
    .eff none (.call { callee := .builtin .clear, args := #[.tmp 38], argTypes := #[56] }) 0 [(38, .n3 (.slv 3 true false) (.slot 0) (.slot 5) (.lit (.tuple #[])))] none []])
  (.seq
  (.reg [.need (.n3 (.slv 3 false true) (.slot 0) (.lit (.tuple #[])) (.slot 5)),
    .asg 4 (.n3 (.slv 3 false true) (.slot 0) (.lit (.tuple #[])) (.slot 5))])
  .ret))
def h56_1 : HC :=
  (.seq
  (.seq
  (.reg [.need (.n2 (.bin .add) (.slot 5) (.lit (.int .i64 1))),
    .asg 6 (.n2 (.bin .add) (.slot 5) (.lit (.int .i64 1)))])
  (.block 0
    (.loop
      h56_2)))
  h56_5)
def h56 : HC :=
  (.seq
  (.reg [.asg 4 (.lit (.slice none 0 0))])
  (.seq
  (.reg [.eff (some 10) (.call { callee := .value (.func 58), args := #[.tmp 8, .tmp 9], argTypes := #[56, 64] }) 3 [(8, .slot 0), (9, .slot 1)] none [],
    .asg 5 (.slot 10)])
  (.seq
  (.seq
  (.reg [.need (.n2 (.bin .eql) (.slot 5) (.lit (.int .i64 (-1)))),
    .asg 12 (.n2 (.bin .eql) (.slot 5) (.lit (.int .i64 (-1))))])
  (.cond (.slot 12)
    (.seq
    (.reg [.asg 4 (.slot 0)])
    .ret)
    .skip))
  h56_1)))
theorem k56 : fnOK Try.prog 839390451 [] [.tmp 4] 2 Try.f56 = some h56 := by kernel_rfl
theorem c56 : callable Try.prog 56 = true := by kernel_rfl
theorem q56 {args : List Value} (ha : args.length = 2) {w : World} {next : Value → World → Prop} {QP : List PanicEntry → World → Prop} (H : hw Try.prog noPanic h56 (endV [.tmp 4] next) (σ0 args) w) : callK Try.prog 56 args w next QP := fn_rule Try.func56 mixed k56 ha H
theorem r56 {args : List Value} (ha : args.length = 2) {w : World} {next : Value → World → Prop} {QP : List PanicEntry → World → Prop} (H : hw Try.prog noPanic h56 (endV [.tmp 4] next) (σ0 args) w) : callvK Try.prog (.func (.func 56) #[] #[]) args w next QP := callf c56 (q56 ha H)

/- (*missive/disk.Disk).settle$1 -/
def h57 : HC :=
  (.seq
  (.reg [.eff (some 2) (.box 63 (.tmp 0)) 0 [(0, .slot 0)] none [],
    .asg 3 (.lit (.bool false))])
  (.seq
  (.reg [.need (.n1 (.faddr 0) (.slot 2)),
    .need (.n1 .ld (.n1 (.faddr 0) (.slot 2))),
    .need (.n1 .ld (.slot 1)),
    .need (.n2 (.bin .eql) (.n1 .ld (.n1 (.faddr 0) (.slot 2))) (.n1 .ld (.slot 1))),
    .asg 3 (.n2 (.bin .eql) (.n1 .ld (.n1 (.faddr 0) (.slot 2))) (.n1 .ld (.slot 1)))])
  .ret))
theorem k57 : fnOK Try.prog 15 [] [.tmp 3] 2 Try.f57 = some h57 := by kernel_rfl
theorem c57 : callable Try.prog 57 = true := by kernel_rfl
theorem q57 {args : List Value} (ha : args.length = 2) {w : World} {next : Value → World → Prop} {QP : List PanicEntry → World → Prop} (H : hw Try.prog noPanic h57 (endV [.tmp 3] next) (σ0 args) w) : callK Try.prog 57 args w next QP := fn_rule Try.func57 mixed k57 ha H
theorem r57 {args : List Value} (ha : args.length = 2) {w : World} {next : Value → World → Prop} {QP : List PanicEntry → World → Prop} (H : hw Try.prog noPanic h57 (endV [.tmp 3] next) (σ0 args) w) : callvK Try.prog (.func (.func 57) #[] #[]) args w next QP := callf c57 (q57 ha H)

/- slices.IndexFunc(()missive/disk.pending,missive/disk.pending) -/
def h58_3 : HC :=
  (.reg [.need (.n2 (.bin .add) (.slot 8) (.lit (.int .i64 1))),
    .asg 8 (.n2 (.bin .add) (.slot 8) (.lit (.int .i64 1)))])
def h58_2 : HC :=
  (.seq
  (.block 1
    (.seq
    (.reg [.asg 5 (.slot 8)])
    (.seq
    (.reg [.need (.n2 (.iaddr 3) (.slot 0) (.slot 5)),
      .need (.n1 (.ldn 3) (.n2 (.iaddr 3) (.slot 0) (.slot 5))),
      .eff (some 16) (.call { callee := .value (.tmp 11), args := #[.tmp 15], argTypes := #[63] }) 4 [(11, .slot 1), (15, .n1 (.ldn 3) (.n2 (.iaddr 3) (.slot 0) (.slot 5)))] none []])
    (.cond (.slot 16)
      (.seq
      (.reg [.asg 4 (.slot 5)])
      .ret)
      .skip))))
  h58_3)
def h58_1 : HC :=
  (.seq
  (.reg [.need (.n2 (.bin .lss) (.slot 8) (.slot 7)),
    .asg 9 (.n2 (.bin .lss) (.slot 8) (.slot 7))])
  (.seq
  (.cond (.slot 9)
    .skip
    (.exit 0))
  h58_2))
def h58_4 : HC :=
  (.seq
  (.reg [.asg 4 (.lit (.int .i64 (-1)))])
  .ret)
def h58 : HC :=
  (.seq
  (.reg [.asg 4 (.lit (.int .i64 0))])
  (.seq
  (.seq
  (.reg [.need (.n1 .lensl (.slot 0)),
    .asg 7 (.n1 .lensl (.slot 0)),
    .asg 8 (.lit (.int .i64 0))])
  (.block 0
    (.loop
      h58_1)))
  h58_4))
theorem k58 : fnOK Try.prog 66483 [] [.tmp 4] 2 Try.f58 = some h58 := by kernel_rfl
theorem c58 : callable Try.prog 58 = true := by kernel_rfl
theorem q58 {args : List Value} (ha : args.length = 2) {w : World} {next : Value → World → Prop} {QP : List PanicEntry → World → Prop} (H : hw Try.prog noPanic h58 (endV [.tmp 4] next) (σ0 args) w) : callK Try.prog 58 args w next QP := fn_rule Try.func58 mixed k58 ha H
theorem r58 {args : List Value} (ha : args.length = 2) {w : World} {next : Value → World → Prop} {QP : List PanicEntry → World → Prop} (H : hw Try.prog noPanic h58 (endV [.tmp 4] next) (σ0 args) w) : callvK Try.prog (.func (.func 58) #[] #[]) args w next QP := callf c58 (q58 ha H)

end Go.Proofs.Y
