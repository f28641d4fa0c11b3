/- the functions of the program as code over named slots, printed by hl.py -/
import Derived.Test.YtgalileklafbbaaYCode
set_option linter.unusedSimpArgs false
set_option linter.unusedVariables false
set_option maxRecDepth 100000
set_option maxRecDepth 100000
namespace Go.Proofs.Y
open Go Go.HL Go.Proofs
/- missive/missivelaw06.JournalForms -/
def h10_7 : HC :=
  (.seq
  (.reg [.eff (some 90) (.call { callee := .value (.func 47), args := #[.tmp 89], argTypes := #[55] }) 40 [(89, .slot 12)] none [],
    .eff (some 92) (.call { callee := .value (.func 46), args := #[.tmp 90, .tmp 91], argTypes := #[40, 40] }) 4 [(90, .slot 90), (91, .slot 9)] none [],
    .asg 14 (.slot 92)])
  (.seq
  (.reg [.need (.n3 .pick (.slot 5) (.slot 11) (.lit (.bool false))),
    .need (.n3 .pick (.n3 .pick (.slot 5) (.slot 11) (.lit (.bool false))) (.slot 14) (.lit (.bool false))),
    .asg 4 (.n3 .pick (.n3 .pick (.slot 5) (.slot 11) (.lit (.bool false))) (.slot 14) (.lit (.bool false)))])
  .ret))
def h10_6 : HC :=
  (.seq
  (.reg [.eff (some 80) (.call { callee := .value (.func 44), args := #[.tmp 79, .const (.int .i64 1)], argTypes := #[24, 3] }) 56 [(79, .slot 6)] none [],
    .need (.n1 (.ext 0) (.slot 80)),
    .need (.n1 (.ext 1) (.slot 80)),
    .asg 12 (.n1 (.ext 0) (.slot 80)),
    .asg 13 (.n1 (.ext 1) (.slot 80))])
  (.seq
  (.seq
  (.reg [.need (.n2 (.pnil false) (.slot 12) (.lit (.pointer none))),
    .need (.gif (.n2 (.pnil false) (.slot 12) (.lit (.pointer none))) false (.n2 (.bin .neq) (.slot 13) (.lit (.int .i64 0)))),
    .need (.n3 .pick (.n2 (.pnil false) (.slot 12) (.lit (.pointer none))) (.lit (.bool true)) (.n2 (.bin .neq) (.slot 13) (.lit (.int .i64 0)))),
    .asg 88 (.n3 .pick (.n2 (.pnil false) (.slot 12) (.lit (.pointer none))) (.lit (.bool true)) (.n2 (.bin .neq) (.slot 13) (.lit (.int .i64 0))))])
  (.cond (.slot 88)
    (.seq
    (.reg [.asg 4 (.lit (.bool false))])
    .ret)
    .skip))
  h10_7))
def h10_5 : HC :=
  (.seq
  (.seq
  (.reg [.need (.n1 .lens (.slot 0)),
    .eff (some 76) (.call { callee := .value (.func 18), args := #[.tmp 72, .const (.int .i64 1), .tmp 74, .tmp 75], argTypes := #[24, 3, 3, 9] }) 26 [(72, .slot 6), (74, .n1 .lens (.slot 0)), (75, .slot 1)] none [],
    .need (.n2 (.bin .neq) (.slot 76) (.lit (.int .i64 0))),
    .asg 77 (.n2 (.bin .neq) (.slot 76) (.lit (.int .i64 0)))])
  (.cond (.slot 77)
    (.seq
    (.reg [.asg 4 (.lit (.bool false))])
    .ret)
    .skip))
  h10_6)
def h10_4 : HC :=
  (.seq
  (.reg [.eff (some 62) (.call { callee := .value (.func 47), args := #[.tmp 61], argTypes := #[55] }) 40 [(61, .slot 7)] none [],
    .eff (some 64) (.call { callee := .value (.func 46), args := #[.tmp 62, .tmp 63], argTypes := #[40, 40] }) 4 [(62, .slot 62), (63, .slot 9)] none [],
    .asg 11 (.slot 64)])
  (.seq
  (.seq
  (.reg [.need (.n1 .lens (.slot 0)),
    .need (.n2 (.bin .lss) (.n1 .lens (.slot 0)) (.lit (.int .i64 16))),
    .asg 67 (.n2 (.bin .lss) (.n1 .lens (.slot 0)) (.lit (.int .i64 16)))])
  (.cond (.slot 67)
    (.seq
    (.reg [.need (.n3 .pick (.slot 5) (.slot 11) (.lit (.bool false))),
      .asg 4 (.n3 .pick (.slot 5) (.slot 11) (.lit (.bool false)))])
    .ret)
    .skip))
  h10_5))
def h10_3 : HC :=
  (.seq
  (.seq
  (.reg [.need (.n1 .bnot (.slot 10)),
    .asg 59 (.n1 .bnot (.slot 10))])
  (.cond (.slot 59)
    (.seq
    (.reg [.asg 4 (.slot 5)])
    .ret)
    .skip))
  h10_4)
def h10_2 : HC :=
  (.seq
  (.reg [.eff (some 32) (.call { callee := .value (.func 44), args := #[.tmp 31, .const (.int .i64 1)], argTypes := #[24, 3] }) 56 [(31, .slot 6)] none [],
    .need (.n1 (.ext 0) (.slot 32)),
    .need (.n1 (.ext 1) (.slot 32)),
    .asg 7 (.n1 (.ext 0) (.slot 32)),
    .asg 8 (.n1 (.ext 1) (.slot 32))])
  (.seq
  (.reg [.eff (some 37) (.call { callee := .value (.func 45), args := #[.tmp 36], argTypes := #[9] }) 58 [(36, .slot 0)] none [],
    .need (.n1 (.ext 0) (.slot 37)),
    .need (.n1 (.ext 1) (.slot 37)),
    .asg 9 (.n1 (.ext 0) (.slot 37)),
    .asg 10 (.n1 (.ext 1) (.slot 37))])
  (.seq
  (.seq
  (.reg [.need (.n2 (.bin .eql) (.slot 8) (.lit (.int .i64 0))),
    .need (.n2 (.beq true) (.n2 (.bin .eql) (.slot 8) (.lit (.int .i64 0))) (.slot 10)),
    .need (.gif (.n2 (.beq true) (.n2 (.bin .eql) (.slot 8) (.lit (.int .i64 0))) (.slot 10)) false (.n2 (.pnil true) (.slot 7) (.lit (.pointer none)))),
    .need (.gif (.n2 (.beq true) (.n2 (.bin .eql) (.slot 8) (.lit (.int .i64 0))) (.slot 10)) false (.n2 (.beq true) (.n2 (.pnil true) (.slot 7) (.lit (.pointer none))) (.slot 10))),
    .need (.n3 .pick (.n2 (.beq true) (.n2 (.bin .eql) (.slot 8) (.lit (.int .i64 0))) (.slot 10)) (.lit (.bool true)) (.n2 (.beq true) (.n2 (.pnil true) (.slot 7) (.lit (.pointer none))) (.slot 10))),
    .need (.gif (.n3 .pick (.n2 (.beq true) (.n2 (.bin .eql) (.slot 8) (.lit (.int .i64 0))) (.slot 10)) (.lit (.bool true)) (.n2 (.beq true) (.n2 (.pnil true) (.slot 7) (.lit (.pointer none))) (.slot 10))) false (.n1 .bnot (.slot 10))),
    .need (.gif (.gif (.n3 .pick (.n2 (.beq true) (.n2 (.bin .eql) (.slot 8) (.lit (.int .i64 0))) (.slot 10)) (.lit (.bool true)) (.n2 (.beq true) (.n2 (.pnil true) (.slot 7) (.lit (.pointer none))) (.slot 10))) false (.n1 .bnot (.slot 10))) true (.n2 (.bin .neq) (.slot 8) (.lit (.int .i64 2)))),
    .need (.gif (.n3 .pick (.n2 (.beq true) (.n2 (.bin .eql) (.slot 8) (.lit (.int .i64 0))) (.slot 10)) (.lit (.bool true)) (.n2 (.beq true) (.n2 (.pnil true) (.slot 7) (.lit (.pointer none))) (.slot 10))) false (.n3 .pick (.n1 .bnot (.slot 10)) (.n2 (.bin .neq) (.slot 8) (.lit (.int .i64 2))) (.lit (.bool false)))),
    .need (.n3 .pick (.n3 .pick (.n2 (.beq true) (.n2 (.bin .eql) (.slot 8) (.lit (.int .i64 0))) (.slot 10)) (.lit (.bool true)) (.n2 (.beq true) (.n2 (.pnil true) (.slot 7) (.lit (.pointer none))) (.slot 10))) (.lit (.bool true)) (.n3 .pick (.n1 .bnot (.slot 10)) (.n2 (.bin .neq) (.slot 8) (.lit (.int .i64 2))) (.lit (.bool false)))),
    .asg 57 (.n3 .pick (.n3 .pick (.n2 (.beq true) (.n2 (.bin .eql) (.slot 8) (.lit (.int .i64 0))) (.slot 10)) (.lit (.bool true)) (.n2 (.beq true) (.n2 (.pnil true) (.slot 7) (.lit (.pointer none))) (.slot 10))) (.lit (.bool true)) (.n3 .pick (.n1 .bnot (.slot 10)) (.n2 (.bin .neq) (.slot 8) (.lit (.int .i64 2))) (.lit (.bool false))))])
  (.cond (.slot 57)
    (.seq
    (.reg [.asg 4 (.lit (.bool false))])
    .ret)
    .skip))
  h10_3)))
def h10_1 : HC :=
  (.seq
  (.reg [.eff (some 25) (.call { callee := .value (.func 17), args := #[], argTypes := #[] }) 24 [] none [],
    .asg 6 (.slot 25)])
  (.seq
  (.seq
  (.reg [.eff (some 28) (.call { callee := .value (.func 18), args := #[.tmp 26, .const (.int .i64 1), .const (.int .i64 0), .tmp 27], argTypes := #[24, 3, 3, 9] }) 26 [(26, .slot 6), (27, .slot 0)] none [],
    .need (.n2 (.bin .neq) (.slot 28) (.lit (.int .i64 0))),
    .asg 29 (.n2 (.bin .neq) (.slot 28) (.lit (.int .i64 0)))])
  (.cond (.slot 29)
    (.seq
    (.reg [.asg 4 (.lit (.bool false))])
    .ret)
    .skip))
  h10_2))
def h10 : HC :=
  (.seq
  (.reg [.asg 4 (.lit (.bool false))])
  (.seq
  (.reg [.eff (some 15) (.call { callee := .value (.func 43), args := #[], argTypes := #[] }) 4 [] none [],
    .asg 5 (.slot 15)])
  (.seq
  (.seq
  (.reg [.need (.n1 .lens (.slot 0)),
    .need (.n2 (.bin .gtr) (.n1 .lens (.slot 0)) (.lit (.int .i64 1000))),
    .need (.gif (.n2 (.bin .gtr) (.n1 .lens (.slot 0)) (.lit (.int .i64 1000))) false (.n1 .lens (.slot 1))),
    .need (.gif (.n2 (.bin .gtr) (.n1 .lens (.slot 0)) (.lit (.int .i64 1000))) false (.n2 (.bin .gtr) (.n1 .lens (.slot 1)) (.lit (.int .i64 1000)))),
    .need (.n3 .pick (.n2 (.bin .gtr) (.n1 .lens (.slot 0)) (.lit (.int .i64 1000))) (.lit (.bool true)) (.n2 (.bin .gtr) (.n1 .lens (.slot 1)) (.lit (.int .i64 1000)))),
    .asg 23 (.n3 .pick (.n2 (.bin .gtr) (.n1 .lens (.slot 0)) (.lit (.int .i64 1000))) (.lit (.bool true)) (.n2 (.bin .gtr) (.n1 .lens (.slot 1)) (.lit (.int .i64 1000))))])
  (.cond (.slot 23)
    (.seq
    (.reg [.asg 4 (.slot 5)])
    .ret)
    .skip))
  h10_1)))
theorem k10 : fnOK Try.prog 6500620977011997580139233267 [] [.tmp 4] 2 Try.f10 = some h10 := by kernel_rfl
theorem c10 : callable Try.prog 10 = true := by kernel_rfl
theorem q10 {args : List Value} (ha : args.length = 2) {w : World} {next : Value → World → Prop} {QP : List PanicEntry → World → Prop} (H : hw Try.prog noPanic h10 (endV [.tmp 4] next) (σ0 args) w) : callK Try.prog 10 args w next QP := fn_rule Try.func10 mixed k10 ha H
theorem r10 {args : List Value} (ha : args.length = 2) {w : World} {next : Value → World → Prop} {QP : List PanicEntry → World → Prop} (H : hw Try.prog noPanic h10 (endV [.tmp 4] next) (σ0 args) w) : callvK Try.prog (.func (.func 10) #[] #[]) args w next QP := callf c10 (q10 ha H)

/- missive/missivelaw06.JournalTurns -/
def h11_8 : HC :=
  (.seq
  (.reg [.eff (some 129) (.call { callee := .value (.func 47), args := #[.tmp 128], argTypes := #[55] }) 40 [(128, .slot 18)] none [],
    .eff (some 131) (.call { callee := .value (.func 46), args := #[.tmp 129, .tmp 130], argTypes := #[40, 40] }) 4 [(129, .slot 129), (130, .slot 1)] none [],
    .asg 20 (.slot 131)])
  (.seq
  (.reg [.need (.n3 .pick (.slot 9) (.slot 20) (.lit (.bool false))),
    .asg 8 (.n3 .pick (.slot 9) (.slot 20) (.lit (.bool false)))])
  .ret))
def h11_7 : HC :=
  (.seq
  (.reg [.eff (some 114) (.call { callee := .value (.func 21), args := #[.tmp 112, .tmp 113], argTypes := #[24, 22] }) 0 [(112, .slot 11), (113, .slot 3)] none []])
  (.seq
  (.reg [.eff (some 116) (.call { callee := .value (.func 22), args := #[.tmp 115], argTypes := #[24] }) 0 [(115, .slot 11)] none []])
  (.seq
  (.reg [.eff (some 119) (.call { callee := .value (.func 44), args := #[.tmp 118, .const (.int .i64 5)], argTypes := #[24, 3] }) 56 [(118, .slot 11)] none [],
    .need (.n1 (.ext 0) (.slot 119)),
    .need (.n1 (.ext 1) (.slot 119)),
    .asg 18 (.n1 (.ext 0) (.slot 119)),
    .asg 19 (.n1 (.ext 1) (.slot 119))])
  (.seq
  (.seq
  (.reg [.need (.n2 (.pnil false) (.slot 18) (.lit (.pointer none))),
    .need (.gif (.n2 (.pnil false) (.slot 18) (.lit (.pointer none))) false (.n2 (.bin .neq) (.slot 19) (.lit (.int .i64 0)))),
    .need (.n3 .pick (.n2 (.pnil false) (.slot 18) (.lit (.pointer none))) (.lit (.bool true)) (.n2 (.bin .neq) (.slot 19) (.lit (.int .i64 0)))),
    .asg 127 (.n3 .pick (.n2 (.pnil false) (.slot 18) (.lit (.pointer none))) (.lit (.bool true)) (.n2 (.bin .neq) (.slot 19) (.lit (.int .i64 0))))])
  (.cond (.slot 127)
    (.seq
    (.reg [.asg 8 (.lit (.bool false))])
    .ret)
    .skip))
  h11_8))))
def h11_6 : HC :=
  (.seq
  (.seq
  (.reg [.need (.n2 (.bin .eql) (.slot 13) (.lit (.int .i64 0))),
    .need (.gif (.n2 (.bin .eql) (.slot 13) (.lit (.int .i64 0))) true (.n1 .bnot (.slot 17))),
    .need (.n3 .pick (.n2 (.bin .eql) (.slot 13) (.lit (.int .i64 0))) (.n1 .bnot (.slot 17)) (.lit (.bool false))),
    .need (.gif (.n3 .pick (.n2 (.bin .eql) (.slot 13) (.lit (.int .i64 0))) (.n1 .bnot (.slot 17)) (.lit (.bool false))) false (.n1 .bnot (.slot 16))),
    .need (.gif (.gif (.n3 .pick (.n2 (.bin .eql) (.slot 13) (.lit (.int .i64 0))) (.n1 .bnot (.slot 17)) (.lit (.bool false))) false (.n1 .bnot (.slot 16))) true (.n1 .bnot (.slot 17))),
    .need (.gif (.n3 .pick (.n2 (.bin .eql) (.slot 13) (.lit (.int .i64 0))) (.n1 .bnot (.slot 17)) (.lit (.bool false))) false (.n3 .pick (.n1 .bnot (.slot 16)) (.n1 .bnot (.slot 17)) (.lit (.bool false)))),
    .need (.n3 .pick (.n3 .pick (.n2 (.bin .eql) (.slot 13) (.lit (.int .i64 0))) (.n1 .bnot (.slot 17)) (.lit (.bool false))) (.lit (.bool true)) (.n3 .pick (.n1 .bnot (.slot 16)) (.n1 .bnot (.slot 17)) (.lit (.bool false)))),
    .eff (some 109) (.call { callee := .value (.func 49), args := #[.tmp 107, .tmp 108], argTypes := #[55, 40] }) 26 [(107, .slot 14), (108, .slot 1)] (some (.n3 .pick (.n3 .pick (.n2 (.bin .eql) (.slot 13) (.lit (.int .i64 0))) (.n1 .bnot (.slot 17)) (.lit (.bool false))) (.lit (.bool true)) (.n3 .pick (.n1 .bnot (.slot 16)) (.n1 .bnot (.slot 17)) (.lit (.bool false))), false)) [],
    .need (.gif (.n3 .pick (.n3 .pick (.n2 (.bin .eql) (.slot 13) (.lit (.int .i64 0))) (.n1 .bnot (.slot 17)) (.lit (.bool false))) (.lit (.bool true)) (.n3 .pick (.n1 .bnot (.slot 16)) (.n1 .bnot (.slot 17)) (.lit (.bool false)))) false (.n2 (.bin .neq) (.slot 109) (.lit (.int .i64 0)))),
    .need (.n3 .pick (.n3 .pick (.n3 .pick (.n2 (.bin .eql) (.slot 13) (.lit (.int .i64 0))) (.n1 .bnot (.slot 17)) (.lit (.bool false))) (.lit (.bool true)) (.n3 .pick (.n1 .bnot (.slot 16)) (.n1 .bnot (.slot 17)) (.lit (.bool false)))) (.lit (.bool true)) (.n2 (.bin .neq) (.slot 109) (.lit (.int .i64 0)))),
    .asg 111 (.n3 .pick (.n3 .pick (.n3 .pick (.n2 (.bin .eql) (.slot 13) (.lit (.int .i64 0))) (.n1 .bnot (.slot 17)) (.lit (.bool false))) (.lit (.bool true)) (.n3 .pick (.n1 .bnot (.slot 16)) (.n1 .bnot (.slot 17)) (.lit (.bool false)))) (.lit (.bool true)) (.n2 (.bin .neq) (.slot 109) (.lit (.int .i64 0))))])
  (.cond (.slot 111)
    (.seq
    (.reg [.asg 8 (.lit (.bool false))])
    .ret)
    .skip))
  h11_7)
def h11_5 : HC :=
  (.seq
  (.reg [.eff (some 85) (.call { callee := .value (.func 47), args := #[.tmp 84], argTypes := #[55] }) 40 [(84, .slot 14)] none [],
    .eff (some 87) (.call { callee := .value (.func 46), args := #[.tmp 85, .tmp 86], argTypes := #[40, 40] }) 4 [(85, .slot 85), (86, .slot 0)] none [],
    .asg 16 (.slot 87)])
  (.seq
  (.reg [.eff (some 89) (.call { callee := .value (.func 47), args := #[.tmp 88], argTypes := #[55] }) 40 [(88, .slot 14)] none [],
    .eff (some 91) (.call { callee := .value (.func 46), args := #[.tmp 89, .tmp 90], argTypes := #[40, 40] }) 4 [(89, .slot 89), (90, .slot 1)] none [],
    .asg 17 (.slot 91)])
  h11_6))
def h11_4 : HC :=
  (.seq
  (.reg [.eff (some 67) (.call { callee := .value (.func 44), args := #[.tmp 66, .const (.int .i64 5)], argTypes := #[24, 3] }) 56 [(66, .slot 11)] none [],
    .need (.n1 (.ext 0) (.slot 67)),
    .need (.n1 (.ext 1) (.slot 67)),
    .asg 14 (.n1 (.ext 0) (.slot 67)),
    .asg 15 (.n1 (.ext 1) (.slot 67))])
  (.seq
  (.seq
  (.reg [.need (.n2 (.pnil false) (.slot 14) (.lit (.pointer none))),
    .need (.gif (.n2 (.pnil false) (.slot 14) (.lit (.pointer none))) false (.n2 (.bin .neq) (.slot 15) (.lit (.int .i64 0)))),
    .need (.n3 .pick (.n2 (.pnil false) (.slot 14) (.lit (.pointer none))) (.lit (.bool true)) (.n2 (.bin .neq) (.slot 15) (.lit (.int .i64 0)))),
    .need (.gif (.n3 .pick (.n2 (.pnil false) (.slot 14) (.lit (.pointer none))) (.lit (.bool true)) (.n2 (.bin .neq) (.slot 15) (.lit (.int .i64 0)))) false (.n2 (.bin .neq) (.slot 13) (.lit (.int .i64 0)))),
    .need (.gif (.gif (.n3 .pick (.n2 (.pnil false) (.slot 14) (.lit (.pointer none))) (.lit (.bool true)) (.n2 (.bin .neq) (.slot 15) (.lit (.int .i64 0)))) false (.n2 (.bin .neq) (.slot 13) (.lit (.int .i64 0)))) true (.n2 (.bin .neq) (.slot 13) (.lit (.int .i64 8)))),
    .need (.gif (.n3 .pick (.n2 (.pnil false) (.slot 14) (.lit (.pointer none))) (.lit (.bool true)) (.n2 (.bin .neq) (.slot 15) (.lit (.int .i64 0)))) false (.n3 .pick (.n2 (.bin .neq) (.slot 13) (.lit (.int .i64 0))) (.n2 (.bin .neq) (.slot 13) (.lit (.int .i64 8))) (.lit (.bool false)))),
    .need (.n3 .pick (.n3 .pick (.n2 (.pnil false) (.slot 14) (.lit (.pointer none))) (.lit (.bool true)) (.n2 (.bin .neq) (.slot 15) (.lit (.int .i64 0)))) (.lit (.bool true)) (.n3 .pick (.n2 (.bin .neq) (.slot 13) (.lit (.int .i64 0))) (.n2 (.bin .neq) (.slot 13) (.lit (.int .i64 8))) (.lit (.bool false)))),
    .asg 83 (.n3 .pick (.n3 .pick (.n2 (.pnil false) (.slot 14) (.lit (.pointer none))) (.lit (.bool true)) (.n2 (.bin .neq) (.slot 15) (.lit (.int .i64 0)))) (.lit (.bool true)) (.n3 .pick (.n2 (.bin .neq) (.slot 13) (.lit (.int .i64 0))) (.n2 (.bin .neq) (.slot 13) (.lit (.int .i64 8))) (.lit (.bool false))))])
  (.cond (.slot 83)
    (.seq
    (.reg [.asg 8 (.lit (.bool false))])
    .ret)
    .skip))
  h11_5))
def h11_3 : HC :=
  (.seq
  (.seq
  (.reg [.need (.n2 (.bin .neq) (.slot 13) (.lit (.int .i64 0))),
    .asg 62 (.n2 (.bin .neq) (.slot 13) (.lit (.int .i64 0)))])
  (.cond (.slot 62)
    (.reg [.eff (some 64) (.call { callee := .value (.func 22), args := #[.tmp 63], argTypes := #[24] }) 0 [(63, .slot 11)] none []])
    .skip))
  h11_4)
def h11_2 : HC :=
  (.seq
  (.reg [.eff (some 52) (.call { callee := .value (.func 50), args := #[.tmp 51, .const (.int .i64 5)], argTypes := #[3, 3] }) 3 [(51, .slot 2)] none [],
    .need (.n2 (.bin .add) (.lit (.int .i64 1)) (.slot 52)),
    .eff (some 55) (.call { callee := .value (.func 32), args := #[.tmp 50, .tmp 53, .tmp 54], argTypes := #[24, 3, 22] }) 0 [(50, .slot 11), (53, .n2 (.bin .add) (.lit (.int .i64 1)) (.slot 52)), (54, .slot 3)] none []])
  (.seq
  (.reg [.eff (some 58) (.call { callee := .value (.func 49), args := #[.tmp 56, .tmp 57], argTypes := #[55, 40] }) 26 [(56, .slot 12), (57, .slot 1)] none [],
    .asg 13 (.slot 58)])
  (.seq
  (.reg [.eff (some 60) (.call { callee := .value (.func 32), args := #[.tmp 59, .const (.int .i64 0), .const (.slice none 0 0)], argTypes := #[24, 3, 22] }) 0 [(59, .slot 11)] none []])
  h11_3)))
def h11_1 : HC :=
  (.seq
  (.reg [.eff (some 32) (.call { callee := .value (.func 17), args := #[], argTypes := #[] }) 24 [] none [],
    .asg 11 (.slot 32)])
  (.seq
  (.reg [.eff (some 35) (.call { callee := .value (.func 44), args := #[.tmp 34, .const (.int .i64 5)], argTypes := #[24, 3] }) 56 [(34, .slot 11)] none [],
    .need (.n1 (.ext 0) (.slot 35)),
    .need (.n1 (.ext 1) (.slot 35)),
    .asg 12 (.n1 (.ext 0) (.slot 35)),
    .asg 13 (.n1 (.ext 1) (.slot 35))])
  (.seq
  (.seq
  (.reg [.need (.n2 (.pnil false) (.slot 12) (.lit (.pointer none))),
    .need (.gif (.n2 (.pnil false) (.slot 12) (.lit (.pointer none))) false (.n2 (.bin .neq) (.slot 13) (.lit (.int .i64 0)))),
    .need (.n3 .pick (.n2 (.pnil false) (.slot 12) (.lit (.pointer none))) (.lit (.bool true)) (.n2 (.bin .neq) (.slot 13) (.lit (.int .i64 0)))),
    .eff (some 47) (.call { callee := .value (.func 49), args := #[.tmp 45, .tmp 46], argTypes := #[55, 40] }) 26 [(45, .slot 12), (46, .slot 0)] (some (.n3 .pick (.n2 (.pnil false) (.slot 12) (.lit (.pointer none))) (.lit (.bool true)) (.n2 (.bin .neq) (.slot 13) (.lit (.int .i64 0))), false)) [],
    .need (.gif (.n3 .pick (.n2 (.pnil false) (.slot 12) (.lit (.pointer none))) (.lit (.bool true)) (.n2 (.bin .neq) (.slot 13) (.lit (.int .i64 0)))) false (.n2 (.bin .neq) (.slot 47) (.lit (.int .i64 0)))),
    .need (.n3 .pick (.n3 .pick (.n2 (.pnil false) (.slot 12) (.lit (.pointer none))) (.lit (.bool true)) (.n2 (.bin .neq) (.slot 13) (.lit (.int .i64 0)))) (.lit (.bool true)) (.n2 (.bin .neq) (.slot 47) (.lit (.int .i64 0)))),
    .asg 49 (.n3 .pick (.n3 .pick (.n2 (.pnil false) (.slot 12) (.lit (.pointer none))) (.lit (.bool true)) (.n2 (.bin .neq) (.slot 13) (.lit (.int .i64 0)))) (.lit (.bool true)) (.n2 (.bin .neq) (.slot 47) (.lit (.int .i64 0))))])
  (.cond (.slot 49)
    (.seq
    (.reg [.asg 8 (.lit (.bool false))])
    .ret)
    .skip))
  h11_2)))
def h11 : HC :=
  (.seq
  (.reg [.asg 8 (.lit (.bool false))])
  (.seq
  (.reg [.eff (some 21) (.call { callee := .value (.func 43), args := #[], argTypes := #[] }) 4 [] none [],
    .asg 9 (.slot 21)])
  (.seq
  (.reg [.need (.n2 (.put 2 1) (.lit (.agg #[(.int .i64 0), (str []), (.slice none 0 0), (.slice none 0 0), (.int .i64 0)])) (.slot 0)),
    .need (.n2 (.put 3 1) (.n2 (.put 2 1) (.lit (.agg #[(.int .i64 0), (str []), (.slice none 0 0), (.slice none 0 0), (.int .i64 0)])) (.slot 0)) (.slot 3)),
    .need (.n2 (.put 2 1) (.lit (.agg #[(.int .i64 0), (str []), (.slice none 0 0), (.slice none 0 0), (.int .i64 0)])) (.slot 1)),
    .eff (some 27) (.buildSlice 66 2 #[(0, .tmp 24), (1, .tmp 26)]) 66 [(24, .n2 (.put 3 1) (.n2 (.put 2 1) (.lit (.agg #[(.int .i64 0), (str []), (.slice none 0 0), (.slice none 0 0), (.int .i64 0)])) (.slot 0)) (.slot 3)), (26, .n2 (.put 2 1) (.lit (.agg #[(.int .i64 0), (str []), (.slice none 0 0), (.slice none 0 0), (.int .i64 0)])) (.slot 1))] none [],
    .eff (some 28) (.call { callee := .value (.func 48), args := #[.tmp 27], argTypes := #[66] }) 4 [(27, .slot 27)] none [],
    .asg 10 (.slot 28)])
  (.seq
  (.seq
  (.reg [.need (.n1 .bnot (.slot 10)),
    .asg 30 (.n1 .bnot (.slot 10))])
  (.cond (.slot 30)
    (.seq
    (.reg [.asg 8 (.slot 9)])
    .ret)
    .skip))
  h11_1))))
theorem k11 : fnOK Try.prog 3573736557793751554929747202125890322191 [] [.tmp 8] 4 Try.f11 = some h11 := by kernel_rfl
theorem c11 : callable Try.prog 11 = true := by kernel_rfl
theorem q11 {args : List Value} (ha : args.length = 4) {w : World} {next : Value → World → Prop} {QP : List PanicEntry → World → Prop} (H : hw Try.prog noPanic h11 (endV [.tmp 8] next) (σ0 args) w) : callK Try.prog 11 args w next QP := fn_rule Try.func11 mixed k11 ha H
theorem r11 {args : List Value} (ha : args.length = 4) {w : World} {next : Value → World → Prop} {QP : List PanicEntry → World → Prop} (H : hw Try.prog noPanic h11 (endV [.tmp 8] next) (σ0 args) w) : callvK Try.prog (.func (.func 11) #[] #[]) args w next QP := callf c11 (q11 ha H)

/- missive/missivelaw06.JournalLists -/
def h12_5 : HC :=
  (.cond (.slot 81)
    (.reg [.asg 6 (.lit (.int .i64 0))])
    (.seq
    (.reg [.need (.n1 (.faddr 1) (.slot 10)),
      .need (.n1 .ld (.n1 (.faddr 1) (.slot 10))),
      .eff (some 45) (.call { callee := .value (.func 53), args := #[.tmp 42, .tmp 44], argTypes := #[55, 9] }) 26 [(42, .slot 5), (44, .n1 .ld (.n1 (.faddr 1) (.slot 10)))] none [],
      .asg 6 (.slot 45)])
    (.reg [.need (.n1 (.faddr 1) (.slot 10)),
      .need (.n1 .ld (.n1 (.faddr 1) (.slot 10))),
      .eff (some 49) (.buildSlice 40 1 #[(0, .tmp 48)]) 40 [(48, .n1 .ld (.n1 (.faddr 1) (.slot 10)))] none [],
      .eff (some 50) (.call { callee := .builtin .append, args := #[.tmp 46, .tmp 49], argTypes := #[40, 40] }) 40 [(46, .slot 7), (49, .slot 49)] none [],
      .asg 7 (.slot 50)])))
def h12_6 : HC :=
  (.seq
  (.reg [.eff (some 85) (.call { callee := .value (.func 47), args := #[.tmp 84], argTypes := #[55] }) 40 [(84, .slot 5)] none [],
    .eff (some 87) (.call { callee := .value (.func 46), args := #[.tmp 85, .tmp 86], argTypes := #[40, 40] }) 4 [(85, .slot 85), (86, .slot 7)] none [],
    .asg 11 (.slot 87)])
  (.seq
  (.reg [.need (.n2 (.bin .neq) (.slot 6) (.lit (.int .i64 0))),
    .need (.gif (.n2 (.bin .neq) (.slot 6) (.lit (.int .i64 0))) false (.n1 .bnot (.slot 11))),
    .need (.n3 .pick (.n2 (.bin .neq) (.slot 6) (.lit (.int .i64 0))) (.lit (.bool true)) (.n1 .bnot (.slot 11))),
    .eff (some 96) (.call { callee := .value (.func 54), args := #[.tmp 95], argTypes := #[55] }) 3 [(95, .slot 5)] (some (.n3 .pick (.n2 (.bin .neq) (.slot 6) (.lit (.int .i64 0))) (.lit (.bool true)) (.n1 .bnot (.slot 11)), false)) [],
    .need (.gif (.n3 .pick (.n2 (.bin .neq) (.slot 6) (.lit (.int .i64 0))) (.lit (.bool true)) (.n1 .bnot (.slot 11))) false (.n2 (.bin .neq) (.slot 96) (.slot 8))),
    .need (.n3 .pick (.n3 .pick (.n2 (.bin .neq) (.slot 6) (.lit (.int .i64 0))) (.lit (.bool true)) (.n1 .bnot (.slot 11))) (.lit (.bool true)) (.n2 (.bin .neq) (.slot 96) (.slot 8))),
    .asg 99 (.n3 .pick (.n3 .pick (.n2 (.bin .neq) (.slot 6) (.lit (.int .i64 0))) (.lit (.bool true)) (.n1 .bnot (.slot 11))) (.lit (.bool true)) (.n2 (.bin .neq) (.slot 96) (.slot 8)))])
  (.cond (.slot 99)
    (.seq
    (.reg [.asg 2 (.lit (.bool false))])
    .ret)
    .skip)))
def h12_7 : HC :=
  (.reg [.need (.n2 (.bin .add) (.slot 9) (.lit (.int .i64 1))),
    .asg 9 (.n2 (.bin .add) (.slot 9) (.lit (.int .i64 1)))])
def h12_4 : HC :=
  (.seq
  (.block 1
    (.seq
    (.reg [.need (.n2 (.iaddr 5) (.slot 0) (.slot 9)),
      .need (.n1 (.ldn 5) (.n2 (.iaddr 5) (.slot 0) (.slot 9))),
      .asg 38 (.n1 (.ldn 5) (.n2 (.iaddr 5) (.slot 0) (.slot 9))),
      .eff (some 10) (.alloc 65) 0 [] none [],
      .eff none (.store 65 (.tmp 10) (.tmp 38)) 0 [(10, .slot 10), (38, .slot 38)] none []])
    (.seq
    (.seq
    (.reg [.need (.n1 (.faddr 0) (.slot 10)),
      .need (.n1 .ld (.n1 (.faddr 0) (.slot 10))),
      .need (.n2 (.bin .and) (.n1 .ld (.n1 (.faddr 0) (.slot 10))) (.lit (.int .i64 7))),
      .asg 41 (.n2 (.bin .and) (.n1 .ld (.n1 (.faddr 0) (.slot 10))) (.lit (.int .i64 7)))])
    (.block 2
      (.seq
      (.reg [.need (.n2 (.bin .eql) (.slot 41) (.lit (.int .i64 3))),
        .asg 51 (.n2 (.bin .eql) (.slot 41) (.lit (.int .i64 3)))])
      (.cond (.slot 51)
        (.seq
        (.reg [.eff (some 54) (.call { callee := .value (.func 51), args := #[.tmp 53], argTypes := #[55] }) 26 [(53, .slot 5)] none [],
          .asg 6 (.slot 54)])
        (.reg [.need (.n1 .lensl (.slot 7)),
          .asg 8 (.n1 .lensl (.slot 7))]))
        (.seq
        (.reg [.need (.n2 (.bin .eql) (.slot 41) (.lit (.int .i64 4))),
          .asg 57 (.n2 (.bin .eql) (.slot 41) (.lit (.int .i64 4)))])
        (.cond (.slot 57)
          (.seq
          (.reg [.need (.n1 (.faddr 2) (.slot 10)),
            .need (.n1 .ld (.n1 (.faddr 2) (.slot 10))),
            .eff (some 62) (.call { callee := .value (.func 52), args := #[.tmp 59, .tmp 61], argTypes := #[55, 40] }) 26 [(59, .slot 5), (61, .n1 .ld (.n1 (.faddr 2) (.slot 10)))] none [],
            .asg 6 (.slot 62)])
          (.seq
          (.reg [.need (.n1 (.faddr 2) (.slot 10)),
            .need (.n1 .ld (.n1 (.faddr 2) (.slot 10))),
            .eff (some 66) (.call { callee := .builtin .append, args := #[.tmp 63, .tmp 65], argTypes := #[40, 40] }) 40 [(63, .slot 7), (65, .n1 .ld (.n1 (.faddr 2) (.slot 10)))] none [],
            .asg 7 (.slot 66)])
          (.reg [.need (.n1 .lensl (.slot 7)),
            .asg 8 (.n1 .lensl (.slot 7))])))
          (.seq
          (.reg [.need (.n2 (.bin .eql) (.slot 41) (.lit (.int .i64 5))),
            .asg 69 (.n2 (.bin .eql) (.slot 41) (.lit (.int .i64 5)))])
          (.cond (.slot 69)
            (.seq
            (.reg [.need (.n1 (.faddr 2) (.slot 10)),
              .need (.n1 .ld (.n1 (.faddr 2) (.slot 10))),
              .eff (some 74) (.call { callee := .value (.func 49), args := #[.tmp 71, .tmp 73], argTypes := #[55, 40] }) 26 [(71, .slot 5), (73, .n1 .ld (.n1 (.faddr 2) (.slot 10)))] none [],
              .asg 6 (.slot 74)])
            (.seq
            (.reg [.eff (some 75) (.buildSlice 40 0 #[]) 40 [] none [],
              .need (.n1 (.faddr 2) (.slot 10)),
              .need (.n1 .ld (.n1 (.faddr 2) (.slot 10))),
              .eff (some 78) (.call { callee := .builtin .append, args := #[.tmp 75, .tmp 77], argTypes := #[40, 40] }) 40 [(75, .slot 75), (77, .n1 .ld (.n1 (.faddr 2) (.slot 10)))] none [],
              .asg 7 (.slot 78)])
            (.reg [.need (.n1 .lensl (.slot 7)),
              .asg 8 (.n1 .lensl (.slot 7))])))
            (.seq
            (.seq
            (.reg [.need (.n2 (.bin .eql) (.slot 41) (.lit (.int .i64 6))),
              .asg 81 (.n2 (.bin .eql) (.slot 41) (.lit (.int .i64 6)))])
            (.cond (.slot 81)
              .skip
              (.reg [.need (.n2 (.bin .eql) (.slot 41) (.lit (.int .i64 7))),
                .asg 81 (.n2 (.bin .eql) (.slot 41) (.lit (.int .i64 7)))])))
            h12_5)))))))))
    h12_6)))
  h12_7)
def h12_3 : HC :=
  (.seq
  (.seq
  (.reg [.need (.n1 .lensl (.slot 0)),
    .need (.n2 (.bin .lss) (.slot 9) (.n1 .lensl (.slot 0))),
    .asg 32 (.n2 (.bin .lss) (.slot 9) (.n1 .lensl (.slot 0)))])
  (.cond (.slot 32)
    .skip
    (.exit 0)))
  h12_4)
def h12_8 : HC :=
  (.seq
  (.reg [.asg 2 (.slot 3)])
  .ret)
def h12_2 : HC :=
  (.seq
  (.reg [.asg 7 (.lit (.slice none 0 0))])
  (.seq
  (.reg [.asg 8 (.lit (.int .i64 0))])
  (.seq
  (.seq
  (.reg [.asg 9 (.lit (.int .i64 0))])
  (.block 0
    (.loop
      h12_3)))
  h12_8)))
def h12_1 : HC :=
  (.seq
  (.reg [.eff (some 19) (.call { callee := .value (.func 17), args := #[], argTypes := #[] }) 24 [] none [],
    .eff (some 20) (.call { callee := .value (.func 44), args := #[.tmp 19, .const (.int .i64 0)], argTypes := #[24, 3] }) 56 [(19, .slot 19)] none [],
    .need (.n1 (.ext 0) (.slot 20)),
    .need (.n1 (.ext 1) (.slot 20)),
    .asg 5 (.n1 (.ext 0) (.slot 20)),
    .asg 6 (.n1 (.ext 1) (.slot 20))])
  (.seq
  (.seq
  (.reg [.need (.n2 (.pnil false) (.slot 5) (.lit (.pointer none))),
    .need (.gif (.n2 (.pnil false) (.slot 5) (.lit (.pointer none))) false (.n2 (.bin .neq) (.slot 6) (.lit (.int .i64 0)))),
    .need (.n3 .pick (.n2 (.pnil false) (.slot 5) (.lit (.pointer none))) (.lit (.bool true)) (.n2 (.bin .neq) (.slot 6) (.lit (.int .i64 0)))),
    .asg 28 (.n3 .pick (.n2 (.pnil false) (.slot 5) (.lit (.pointer none))) (.lit (.bool true)) (.n2 (.bin .neq) (.slot 6) (.lit (.int .i64 0))))])
  (.cond (.slot 28)
    (.seq
    (.reg [.asg 2 (.lit (.bool false))])
    .ret)
    .skip))
  h12_2))
def h12 : HC :=
  (.seq
  (.reg [.asg 2 (.lit (.bool false))])
  (.seq
  (.reg [.eff (some 12) (.call { callee := .value (.func 43), args := #[], argTypes := #[] }) 4 [] none [],
    .asg 3 (.slot 12)])
  (.seq
  (.reg [.eff (some 14) (.call { callee := .value (.func 48), args := #[.tmp 13], argTypes := #[66] }) 4 [(13, .slot 0)] none [],
    .asg 4 (.slot 14)])
  (.seq
  (.seq
  (.reg [.need (.n1 .bnot (.slot 4)),
    .asg 16 (.n1 .bnot (.slot 4))])
  (.cond (.slot 16)
    (.seq
    (.reg [.asg 2 (.slot 3)])
    .ret)
    .skip))
  h12_1))))
theorem k12 : fnOK Try.prog 713249668179869886932303044605 [] [.tmp 2] 1 Try.f12 = some h12 := by kernel_rfl
theorem c12 : callable Try.prog 12 = true := by kernel_rfl
theorem q12 {args : List Value} (ha : args.length = 1) {w : World} {next : Value → World → Prop} {QP : List PanicEntry → World → Prop} (H : hw Try.prog noPanic h12 (endV [.tmp 2] next) (σ0 args) w) : callK Try.prog 12 args w next QP := fn_rule Try.func12 mixed k12 ha H
theorem r12 {args : List Value} (ha : args.length = 1) {w : World} {next : Value → World → Prop} {QP : List PanicEntry → World → Prop} (H : hw Try.prog noPanic h12 (endV [.tmp 2] next) (σ0 args) w) : callvK Try.prog (.func (.func 12) #[] #[]) args w next QP := callf c12 (q12 ha H)

/- missive/missivelaw06.JournalSpoils -/
def h13_6 : HC :=
  (.reg [.need (.n2 (.bin .add) (.slot 14) (.lit (.int .i64 16))),
    .need (.n2 (.iaddr 1) (.slot 0) (.slot 15)),
    .need (.n1 .ld (.n2 (.iaddr 1) (.slot 0) (.slot 15))),
    .need (.n1 .lens (.n1 .ld (.n2 (.iaddr 1) (.slot 0) (.slot 15)))),
    .need (.n2 (.bin .add) (.n2 (.bin .add) (.slot 14) (.lit (.int .i64 16))) (.n1 .lens (.n1 .ld (.n2 (.iaddr 1) (.slot 0) (.slot 15))))),
    .asg 14 (.n2 (.bin .add) (.n2 (.bin .add) (.slot 14) (.lit (.int .i64 16))) (.n1 .lens (.n1 .ld (.n2 (.iaddr 1) (.slot 0) (.slot 15)))))])
def h13_7 : HC :=
  (.reg [.need (.n2 (.bin .add) (.slot 15) (.lit (.int .i64 1))),
    .asg 15 (.n2 (.bin .add) (.slot 15) (.lit (.int .i64 1)))])
def h13_5 : HC :=
  (.seq
  (.block 1
    (.seq
    (.seq
    (.reg [.need (.n2 (.bin .geq) (.slot 1) (.slot 14)),
      .need (.gif (.n2 (.bin .geq) (.slot 1) (.slot 14)) true (.n2 (.bin .add) (.slot 14) (.lit (.int .i64 8)))),
      .need (.gif (.n2 (.bin .geq) (.slot 1) (.slot 14)) true (.n2 (.bin .lss) (.slot 1) (.n2 (.bin .add) (.slot 14) (.lit (.int .i64 8))))),
      .need (.n3 .pick (.n2 (.bin .geq) (.slot 1) (.slot 14)) (.n2 (.bin .lss) (.slot 1) (.n2 (.bin .add) (.slot 14) (.lit (.int .i64 8)))) (.lit (.bool false))),
      .asg 91 (.n3 .pick (.n2 (.bin .geq) (.slot 1) (.slot 14)) (.n2 (.bin .lss) (.slot 1) (.n2 (.bin .add) (.slot 14) (.lit (.int .i64 8)))) (.lit (.bool false)))])
    (.cond (.slot 91)
      (.seq
      (.reg [.asg 6 (.slot 7)])
      .ret)
      .skip))
    h13_6))
  h13_7)
def h13_4 : HC :=
  (.seq
  (.seq
  (.reg [.need (.n1 .lensl (.slot 0)),
    .need (.n2 (.bin .lss) (.slot 15) (.n1 .lensl (.slot 0))),
    .asg 80 (.n2 (.bin .lss) (.slot 15) (.n1 .lensl (.slot 0)))])
  (.cond (.slot 80)
    .skip
    (.exit 0)))
  h13_5)
def h13_10 : HC :=
  (.seq
  (.reg [.need (.gif (.slot 7) true (.n2 (.pnil false) (.slot 16) (.lit (.pointer none)))),
    .need (.n3 .pick (.slot 7) (.n2 (.pnil false) (.slot 16) (.lit (.pointer none))) (.lit (.bool false))),
    .need (.gif (.n3 .pick (.slot 7) (.n2 (.pnil false) (.slot 16) (.lit (.pointer none))) (.lit (.bool false))) true (.n2 (.bin .eql) (.slot 17) (.lit (.int .i64 2)))),
    .need (.n3 .pick (.n3 .pick (.slot 7) (.n2 (.pnil false) (.slot 16) (.lit (.pointer none))) (.lit (.bool false))) (.n2 (.bin .eql) (.slot 17) (.lit (.int .i64 2))) (.lit (.bool false))),
    .asg 6 (.n3 .pick (.n3 .pick (.slot 7) (.n2 (.pnil false) (.slot 16) (.lit (.pointer none))) (.lit (.bool false))) (.n2 (.bin .eql) (.slot 17) (.lit (.int .i64 2))) (.lit (.bool false)))])
  .ret)
def h13_9 : HC :=
  (.seq
  (.reg [.eff (some 110) (.call { callee := .value (.func 44), args := #[.tmp 109, .const (.int .i64 4)], argTypes := #[24, 3] }) 56 [(109, .slot 9)] none [],
    .need (.n1 (.ext 0) (.slot 110)),
    .need (.n1 (.ext 1) (.slot 110)),
    .asg 16 (.n1 (.ext 0) (.slot 110)),
    .asg 17 (.n1 (.ext 1) (.slot 110))])
  (.seq
  (.reg [.eff (some 115) (.call { callee := .value (.func 23), args := #[.tmp 114, .const (.int .i64 4)], argTypes := #[24, 3] }) 31 [(114, .slot 9)] none [],
    .need (.n1 (.ext 0) (.slot 115)),
    .need (.n1 (.ext 1) (.slot 115)),
    .asg 18 (.n1 (.ext 0) (.slot 115))])
  (.seq
  (.reg [.need (.n3 (.sls false true) (.slot 18) (.lit (.tuple #[])) (.lit (.int .i64 8))),
    .need (.n2 (.sbin .eql) (.n3 (.sls false true) (.slot 18) (.lit (.tuple #[])) (.lit (.int .i64 8))) (.lit (str [0, 0, 0, 0, 0, 0, 0, 0]))),
    .asg 20 (.n2 (.sbin .eql) (.n3 (.sls false true) (.slot 18) (.lit (.tuple #[])) (.lit (.int .i64 8))) (.lit (str [0, 0, 0, 0, 0, 0, 0, 0])))])
  (.seq
  (.seq
  (.reg [.asg 121 (.slot 20)])
  (.cond (.slot 121)
    (.seq
    (.reg [.need (.gif (.slot 7) true (.n2 (.pnil true) (.slot 16) (.lit (.pointer none)))),
      .need (.n3 .pick (.slot 7) (.n2 (.pnil true) (.slot 16) (.lit (.pointer none))) (.lit (.bool false))),
      .need (.gif (.n3 .pick (.slot 7) (.n2 (.pnil true) (.slot 16) (.lit (.pointer none))) (.lit (.bool false))) true (.n2 (.bin .eql) (.slot 17) (.lit (.int .i64 0)))),
      .need (.n3 .pick (.n3 .pick (.slot 7) (.n2 (.pnil true) (.slot 16) (.lit (.pointer none))) (.lit (.bool false))) (.n2 (.bin .eql) (.slot 17) (.lit (.int .i64 0))) (.lit (.bool false))),
      .eff (some 133) (.call { callee := .value (.func 47), args := #[.tmp 132], argTypes := #[55] }) 40 [(132, .slot 16)] (some (.n3 .pick (.n3 .pick (.slot 7) (.n2 (.pnil true) (.slot 16) (.lit (.pointer none))) (.lit (.bool false))) (.n2 (.bin .eql) (.slot 17) (.lit (.int .i64 0))) (.lit (.bool false)), true)) [],
      .need (.gif (.n3 .pick (.n3 .pick (.slot 7) (.n2 (.pnil true) (.slot 16) (.lit (.pointer none))) (.lit (.bool false))) (.n2 (.bin .eql) (.slot 17) (.lit (.int .i64 0))) (.lit (.bool false))) true (.n1 .lensl (.slot 133))),
      .need (.gif (.n3 .pick (.n3 .pick (.slot 7) (.n2 (.pnil true) (.slot 16) (.lit (.pointer none))) (.lit (.bool false))) (.n2 (.bin .eql) (.slot 17) (.lit (.int .i64 0))) (.lit (.bool false))) true (.n2 (.bin .eql) (.n1 .lensl (.slot 133)) (.lit (.int .i64 0)))),
      .need (.n3 .pick (.n3 .pick (.n3 .pick (.slot 7) (.n2 (.pnil true) (.slot 16) (.lit (.pointer none))) (.lit (.bool false))) (.n2 (.bin .eql) (.slot 17) (.lit (.int .i64 0))) (.lit (.bool false))) (.n2 (.bin .eql) (.n1 .lensl (.slot 133)) (.lit (.int .i64 0))) (.lit (.bool false))),
      .asg 6 (.n3 .pick (.n3 .pick (.n3 .pick (.slot 7) (.n2 (.pnil true) (.slot 16) (.lit (.pointer none))) (.lit (.bool false))) (.n2 (.bin .eql) (.slot 17) (.lit (.int .i64 0))) (.lit (.bool false))) (.n2 (.bin .eql) (.n1 .lensl (.slot 133)) (.lit (.int .i64 0))) (.lit (.bool false)))])
    .ret)
    .skip))
  h13_10))))
def h13_8 : HC :=
  (.seq
  (.seq
  (.reg [.eff (some 104) (.buildSlice 36 1 #[(0, .tmp 103)]) 36 [(103, .slot 2)] none [],
    .eff (some 105) (.convert 36 9 (.tmp 104)) 9 [(104, .slot 104)] none [],
    .eff (some 106) (.call { callee := .value (.func 18), args := #[.tmp 101, .const (.int .i64 4), .tmp 102, .tmp 105], argTypes := #[24, 3, 3, 9] }) 26 [(101, .slot 9), (102, .slot 1), (105, .slot 105)] none [],
    .need (.n2 (.bin .neq) (.slot 106) (.lit (.int .i64 0))),
    .asg 107 (.n2 (.bin .neq) (.slot 106) (.lit (.int .i64 0)))])
  (.cond (.slot 107)
    (.seq
    (.reg [.asg 6 (.lit (.bool false))])
    .ret)
    .skip))
  h13_9)
def h13_3 : HC :=
  (.seq
  (.reg [.asg 14 (.lit (.int .i64 16))])
  (.seq
  (.seq
  (.reg [.asg 15 (.lit (.int .i64 0))])
  (.block 0
    (.loop
      h13_4)))
  h13_8))
def h13_2 : HC :=
  (.seq
  (.reg [.eff (some 54) (.call { callee := .value (.func 23), args := #[.tmp 53, .const (.int .i64 4)], argTypes := #[24, 3] }) 31 [(53, .slot 9)] none [],
    .need (.n1 (.ext 0) (.slot 54)),
    .need (.n1 (.ext 1) (.slot 54)),
    .asg 12 (.n1 (.ext 0) (.slot 54))])
  (.seq
  (.seq
  (.reg [.need (.n2 (.bin .lss) (.slot 1) (.lit (.int .i64 0))),
    .need (.gif (.n2 (.bin .lss) (.slot 1) (.lit (.int .i64 0))) false (.n1 .lens (.slot 12))),
    .need (.gif (.n2 (.bin .lss) (.slot 1) (.lit (.int .i64 0))) false (.n2 (.bin .geq) (.slot 1) (.n1 .lens (.slot 12)))),
    .need (.n3 .pick (.n2 (.bin .lss) (.slot 1) (.lit (.int .i64 0))) (.lit (.bool true)) (.n2 (.bin .geq) (.slot 1) (.n1 .lens (.slot 12)))),
    .need (.gif (.n3 .pick (.n2 (.bin .lss) (.slot 1) (.lit (.int .i64 0))) (.lit (.bool true)) (.n2 (.bin .geq) (.slot 1) (.n1 .lens (.slot 12)))) false (.n1 .lens (.slot 12))),
    .need (.gif (.n3 .pick (.n2 (.bin .lss) (.slot 1) (.lit (.int .i64 0))) (.lit (.bool true)) (.n2 (.bin .geq) (.slot 1) (.n1 .lens (.slot 12)))) false (.n2 (.bin .sub) (.n1 .lens (.slot 12)) (.lit (.int .i64 1)))),
    .need (.gif (.n3 .pick (.n2 (.bin .lss) (.slot 1) (.lit (.int .i64 0))) (.lit (.bool true)) (.n2 (.bin .geq) (.slot 1) (.n1 .lens (.slot 12)))) false (.n2 .mn (.slot 1) (.n2 (.bin .sub) (.n1 .lens (.slot 12)) (.lit (.int .i64 1))))),
    .need (.gif (.n3 .pick (.n2 (.bin .lss) (.slot 1) (.lit (.int .i64 0))) (.lit (.bool true)) (.n2 (.bin .geq) (.slot 1) (.n1 .lens (.slot 12)))) false (.n2 .idxs (.slot 12) (.n2 .mn (.slot 1) (.n2 (.bin .sub) (.n1 .lens (.slot 12)) (.lit (.int .i64 1)))))),
    .need (.gif (.n3 .pick (.n2 (.bin .lss) (.slot 1) (.lit (.int .i64 0))) (.lit (.bool true)) (.n2 (.bin .geq) (.slot 1) (.n1 .lens (.slot 12)))) false (.n2 (.bin .eql) (.n2 .idxs (.slot 12) (.n2 .mn (.slot 1) (.n2 (.bin .sub) (.n1 .lens (.slot 12)) (.lit (.int .i64 1))))) (.slot 2))),
    .need (.n3 .pick (.n3 .pick (.n2 (.bin .lss) (.slot 1) (.lit (.int .i64 0))) (.lit (.bool true)) (.n2 (.bin .geq) (.slot 1) (.n1 .lens (.slot 12)))) (.lit (.bool true)) (.n2 (.bin .eql) (.n2 .idxs (.slot 12) (.n2 .mn (.slot 1) (.n2 (.bin .sub) (.n1 .lens (.slot 12)) (.lit (.int .i64 1))))) (.slot 2))),
    .asg 75 (.n3 .pick (.n3 .pick (.n2 (.bin .lss) (.slot 1) (.lit (.int .i64 0))) (.lit (.bool true)) (.n2 (.bin .geq) (.slot 1) (.n1 .lens (.slot 12)))) (.lit (.bool true)) (.n2 (.bin .eql) (.n2 .idxs (.slot 12) (.n2 .mn (.slot 1) (.n2 (.bin .sub) (.n1 .lens (.slot 12)) (.lit (.int .i64 1))))) (.slot 2)))])
  (.cond (.slot 75)
    (.seq
    (.reg [.asg 6 (.slot 7)])
    .ret)
    .skip))
  h13_3))
def h13_1 : HC :=
  (.seq
  (.reg [.eff (some 34) (.call { callee := .value (.func 17), args := #[], argTypes := #[] }) 24 [] none [],
    .asg 9 (.slot 34)])
  (.seq
  (.reg [.eff (some 37) (.call { callee := .value (.func 44), args := #[.tmp 36, .const (.int .i64 4)], argTypes := #[24, 3] }) 56 [(36, .slot 9)] none [],
    .need (.n1 (.ext 0) (.slot 37)),
    .need (.n1 (.ext 1) (.slot 37)),
    .asg 10 (.n1 (.ext 0) (.slot 37)),
    .asg 11 (.n1 (.ext 1) (.slot 37))])
  (.seq
  (.seq
  (.reg [.need (.n2 (.pnil false) (.slot 10) (.lit (.pointer none))),
    .need (.gif (.n2 (.pnil false) (.slot 10) (.lit (.pointer none))) false (.n2 (.bin .neq) (.slot 11) (.lit (.int .i64 0)))),
    .need (.n3 .pick (.n2 (.pnil false) (.slot 10) (.lit (.pointer none))) (.lit (.bool true)) (.n2 (.bin .neq) (.slot 11) (.lit (.int .i64 0)))),
    .eff (some 49) (.call { callee := .value (.func 52), args := #[.tmp 47, .tmp 48], argTypes := #[55, 40] }) 26 [(47, .slot 10), (48, .slot 0)] (some (.n3 .pick (.n2 (.pnil false) (.slot 10) (.lit (.pointer none))) (.lit (.bool true)) (.n2 (.bin .neq) (.slot 11) (.lit (.int .i64 0))), false)) [],
    .need (.gif (.n3 .pick (.n2 (.pnil false) (.slot 10) (.lit (.pointer none))) (.lit (.bool true)) (.n2 (.bin .neq) (.slot 11) (.lit (.int .i64 0)))) false (.n2 (.bin .neq) (.slot 49) (.lit (.int .i64 0)))),
    .need (.n3 .pick (.n3 .pick (.n2 (.pnil false) (.slot 10) (.lit (.pointer none))) (.lit (.bool true)) (.n2 (.bin .neq) (.slot 11) (.lit (.int .i64 0)))) (.lit (.bool true)) (.n2 (.bin .neq) (.slot 49) (.lit (.int .i64 0)))),
    .asg 51 (.n3 .pick (.n3 .pick (.n2 (.pnil false) (.slot 10) (.lit (.pointer none))) (.lit (.bool true)) (.n2 (.bin .neq) (.slot 11) (.lit (.int .i64 0)))) (.lit (.bool true)) (.n2 (.bin .neq) (.slot 49) (.lit (.int .i64 0))))])
  (.cond (.slot 51)
    (.seq
    (.reg [.asg 6 (.lit (.bool false))])
    .ret)
    .skip))
  h13_2)))
def h13 : HC :=
  (.seq
  (.reg [.asg 6 (.lit (.bool false))])
  (.seq
  (.reg [.eff (some 21) (.call { callee := .value (.func 43), args := #[], argTypes := #[] }) 4 [] none [],
    .asg 7 (.slot 21)])
  (.seq
  (.reg [.need (.n2 (.put 2 1) (.lit (.agg #[(.int .i64 0), (str []), (.slice none 0 0), (.slice none 0 0), (.int .i64 0)])) (.slot 0)),
    .eff (some 24) (.buildSlice 66 1 #[(0, .tmp 23)]) 66 [(23, .n2 (.put 2 1) (.lit (.agg #[(.int .i64 0), (str []), (.slice none 0 0), (.slice none 0 0), (.int .i64 0)])) (.slot 0))] none [],
    .eff (some 25) (.call { callee := .value (.func 48), args := #[.tmp 24], argTypes := #[66] }) 4 [(24, .slot 24)] none [],
    .asg 8 (.slot 25)])
  (.seq
  (.seq
  (.reg [.need (.n1 .bnot (.slot 8)),
    .need (.gif (.n1 .bnot (.slot 8)) false (.n1 .lensl (.slot 0))),
    .need (.gif (.n1 .bnot (.slot 8)) false (.n2 (.bin .eql) (.n1 .lensl (.slot 0)) (.lit (.int .i64 0)))),
    .need (.n3 .pick (.n1 .bnot (.slot 8)) (.lit (.bool true)) (.n2 (.bin .eql) (.n1 .lensl (.slot 0)) (.lit (.int .i64 0)))),
    .asg 32 (.n3 .pick (.n1 .bnot (.slot 8)) (.lit (.bool true)) (.n2 (.bin .eql) (.n1 .lensl (.slot 0)) (.lit (.int .i64 0))))])
  (.cond (.slot 32)
    (.seq
    (.reg [.asg 6 (.slot 7)])
    .ret)
    .skip))
  h13_1))))
theorem k13 : fnOK Try.prog 10891737338149304756460129855184007847879 [] [.tmp 6] 3 Try.f13 = some h13 := by kernel_rfl
theorem c13 : callable Try.prog 13 = true := by kernel_rfl
theorem q13 {args : List Value} (ha : args.length = 3) {w : World} {next : Value → World → Prop} {QP : List PanicEntry → World → Prop} (H : hw Try.prog noPanic h13 (endV [.tmp 6] next) (σ0 args) w) : callK Try.prog 13 args w next QP := fn_rule Try.func13 mixed k13 ha H
theorem r13 {args : List Value} (ha : args.length = 3) {w : World} {next : Value → World → Prop} {QP : List PanicEntry → World → Prop} (H : hw Try.prog noPanic h13 (endV [.tmp 6] next) (σ0 args) w) : callvK Try.prog (.func (.func 13) #[] #[]) args w next QP := callf c13 (q13 ha H)

/- missive/missivelaw06.JournalTells -/
def h14_6 : HC :=
  (.seq
  (.reg [.eff (some 126) (.call { callee := .value (.func 44), args := #[.tmp 124, .tmp 125], argTypes := #[24, 3] }) 56 [(124, .slot 7), (125, .slot 0)] none [],
    .need (.n1 (.ext 0) (.slot 126)),
    .need (.n1 (.ext 1) (.slot 126)),
    .asg 9 (.n1 (.ext 0) (.slot 126)),
    .asg 10 (.n1 (.ext 1) (.slot 126))])
  (.reg [.eff (some 132) (.call { callee := .value (.func 55), args := #[.tmp 130, .tmp 131], argTypes := #[51, 3] }) 75 [(130, .slot 8), (131, .slot 0)] none [],
    .need (.n1 (.ext 0) (.slot 132)),
    .need (.n1 (.ext 1) (.slot 132)),
    .asg 11 (.n1 (.ext 0) (.slot 132)),
    .asg 12 (.n1 (.ext 1) (.slot 132))]))
def h14_10 : HC :=
  (.seq
  (.draw [.need (.n1 .nilchk (.slot 11)),
    .need (.n1 (.faddr 2) (.n1 .nilchk (.slot 11))),
    .need (.n1 .ld (.n1 (.faddr 2) (.n1 .nilchk (.slot 11)))),
    .asg 191 (.n1 .ld (.n1 (.faddr 2) (.n1 .nilchk (.slot 11)))),
    .eff (some 187) (.call { callee := .value (.func 47), args := #[.tmp 186], argTypes := #[55] }) 40 [(186, .slot 9)] none [⟨none, .ld, .n1 (.faddr 2) (.n1 .nilchk (.slot 11))⟩],
    .eff (some 192) (.call { callee := .value (.func 46), args := #[.tmp 187, .tmp 191], argTypes := #[40, 40] }) 4 [(187, .slot 187), (191, .slot 191)] none [],
    .asg 23 (.slot 192)])
  (.seq
  (.draw [.need (.n1 .bnot (.slot 23)),
    .need (.gif (.n1 .bnot (.slot 23)) false (.n1 .nilchk (.slot 11))),
    .need (.gif (.n1 .bnot (.slot 23)) false (.n1 (.faddr 3) (.n1 .nilchk (.slot 11)))),
    .need (.gif (.n1 .bnot (.slot 23)) false (.n1 .ld (.n1 (.faddr 3) (.n1 .nilchk (.slot 11))))),
    .asg 201 (.gif (.n1 .bnot (.slot 23)) false (.n1 .ld (.n1 (.faddr 3) (.n1 .nilchk (.slot 11))))),
    .eff (some 197) (.call { callee := .value (.func 54), args := #[.tmp 196], argTypes := #[55] }) 3 [(196, .slot 9)] (some (.n1 .bnot (.slot 23), false)) [⟨(some (.n1 .bnot (.slot 23), false)), .ld, .n1 (.faddr 3) (.n1 .nilchk (.slot 11))⟩],
    .need (.gif (.n1 .bnot (.slot 23)) false (.n2 (.bin .neq) (.slot 197) (.slot 201))),
    .need (.n3 .pick (.n1 .bnot (.slot 23)) (.lit (.bool true)) (.n2 (.bin .neq) (.slot 197) (.slot 201))),
    .need (.gif (.n3 .pick (.n1 .bnot (.slot 23)) (.lit (.bool true)) (.n2 (.bin .neq) (.slot 197) (.slot 201))) false (.n2 (.sbin .neq) (.slot 15) (.slot 17))),
    .need (.n3 .pick (.n3 .pick (.n1 .bnot (.slot 23)) (.lit (.bool true)) (.n2 (.bin .neq) (.slot 197) (.slot 201))) (.lit (.bool true)) (.n2 (.sbin .neq) (.slot 15) (.slot 17))),
    .need (.gif (.n3 .pick (.n3 .pick (.n1 .bnot (.slot 23)) (.lit (.bool true)) (.n2 (.bin .neq) (.slot 197) (.slot 201))) (.lit (.bool true)) (.n2 (.sbin .neq) (.slot 15) (.slot 17))) false (.n2 (.sbin .neq) (.slot 19) (.slot 21))),
    .need (.n3 .pick (.n3 .pick (.n3 .pick (.n1 .bnot (.slot 23)) (.lit (.bool true)) (.n2 (.bin .neq) (.slot 197) (.slot 201))) (.lit (.bool true)) (.n2 (.sbin .neq) (.slot 15) (.slot 17))) (.lit (.bool true)) (.n2 (.sbin .neq) (.slot 19) (.slot 21))),
    .asg 213 (.n3 .pick (.n3 .pick (.n3 .pick (.n1 .bnot (.slot 23)) (.lit (.bool true)) (.n2 (.bin .neq) (.slot 197) (.slot 201))) (.lit (.bool true)) (.n2 (.sbin .neq) (.slot 15) (.slot 17))) (.lit (.bool true)) (.n2 (.sbin .neq) (.slot 19) (.slot 21)))])
  (.cond (.slot 213)
    (.seq
    (.reg [.asg 4 (.lit (.bool false))])
    .ret)
    .skip)))
def h14_9 : HC :=
  (.seq
  (.reg [.eff (some 163) (.call { callee := .value (.func 23), args := #[.tmp 161, .tmp 162], argTypes := #[24, 3] }) 31 [(161, .slot 7), (162, .slot 0)] none [],
    .need (.n1 (.ext 0) (.slot 163)),
    .need (.n1 (.ext 1) (.slot 163)),
    .asg 15 (.n1 (.ext 0) (.slot 163))])
  (.seq
  (.reg [.eff (some 169) (.call { callee := .value (.func 41), args := #[.tmp 167, .tmp 168], argTypes := #[51, 3] }) 31 [(167, .slot 8), (168, .slot 0)] none [],
    .need (.n1 (.ext 0) (.slot 169)),
    .need (.n1 (.ext 1) (.slot 169)),
    .asg 17 (.n1 (.ext 0) (.slot 169))])
  (.seq
  (.reg [.need (.n2 (.bin .add) (.slot 0) (.lit (.int .i64 1))),
    .eff (some 176) (.call { callee := .value (.func 23), args := #[.tmp 173, .tmp 175], argTypes := #[24, 3] }) 31 [(173, .slot 7), (175, .n2 (.bin .add) (.slot 0) (.lit (.int .i64 1)))] none [],
    .need (.n1 (.ext 0) (.slot 176)),
    .need (.n1 (.ext 1) (.slot 176)),
    .asg 19 (.n1 (.ext 0) (.slot 176))])
  (.seq
  (.reg [.need (.n2 (.bin .add) (.slot 0) (.lit (.int .i64 1))),
    .eff (some 183) (.call { callee := .value (.func 41), args := #[.tmp 180, .tmp 182], argTypes := #[51, 3] }) 31 [(180, .slot 8), (182, .n2 (.bin .add) (.slot 0) (.lit (.int .i64 1)))] none [],
    .need (.n1 (.ext 0) (.slot 183)),
    .need (.n1 (.ext 1) (.slot 183)),
    .asg 21 (.n1 (.ext 0) (.slot 183))])
  h14_10))))
def h14_8 : HC :=
  (.seq
  (.seq
  (.reg [.need (.n2 (.pnil false) (.slot 9) (.lit (.pointer none))),
    .asg 158 (.n2 (.pnil false) (.slot 9) (.lit (.pointer none)))])
  (.cond (.slot 158)
    (.seq
    (.reg [.asg 4 (.slot 5)])
    .ret)
    .skip))
  h14_9)
def h14_7 : HC :=
  (.seq
  (.seq
  (.reg [.need (.n2 (.bin .neq) (.slot 10) (.slot 12)),
    .need (.gif (.n2 (.bin .neq) (.slot 10) (.slot 12)) false (.n2 (.pnil false) (.slot 9) (.lit (.pointer none)))),
    .need (.gif (.n2 (.bin .neq) (.slot 10) (.slot 12)) false (.n2 (.pnil false) (.slot 11) (.lit (.pointer none)))),
    .need (.gif (.n2 (.bin .neq) (.slot 10) (.slot 12)) false (.n2 (.beq true) (.n2 (.pnil false) (.slot 9) (.lit (.pointer none))) (.n2 (.pnil false) (.slot 11) (.lit (.pointer none))))),
    .need (.n3 .pick (.n2 (.bin .neq) (.slot 10) (.slot 12)) (.lit (.bool true)) (.n2 (.beq true) (.n2 (.pnil false) (.slot 9) (.lit (.pointer none))) (.n2 (.pnil false) (.slot 11) (.lit (.pointer none))))),
    .asg 156 (.n3 .pick (.n2 (.bin .neq) (.slot 10) (.slot 12)) (.lit (.bool true)) (.n2 (.beq true) (.n2 (.pnil false) (.slot 9) (.lit (.pointer none))) (.n2 (.pnil false) (.slot 11) (.lit (.pointer none)))))])
  (.cond (.slot 156)
    (.seq
    (.reg [.asg 4 (.lit (.bool false))])
    .ret)
    .skip))
  h14_8)
def h14_11 : HC :=
  (.reg [.need (.n2 (.bin .add) (.slot 13) (.lit (.int .i64 1))),
    .asg 13 (.n2 (.bin .add) (.slot 13) (.lit (.int .i64 1)))])
def h14_5 : HC :=
  (.seq
  (.block 1
    (.seq
    (.reg [.need (.n2 (.iaddr 5) (.slot 1) (.slot 13)),
      .need (.n1 (.ldn 5) (.n2 (.iaddr 5) (.slot 1) (.slot 13))),
      .asg 71 (.n1 (.ldn 5) (.n2 (.iaddr 5) (.slot 1) (.slot 13))),
      .eff (some 14) (.alloc 65) 0 [] none [],
      .eff none (.store 65 (.tmp 14) (.tmp 71)) 0 [(14, .slot 14), (71, .slot 71)] none []])
    (.seq
    (.reg [.asg 10 (.lit (.int .i64 0))])
    (.seq
    (.reg [.asg 12 (.lit (.int .i64 0))])
    (.seq
    (.seq
    (.reg [.need (.n1 (.faddr 0) (.slot 14)),
      .need (.n1 .ld (.n1 (.faddr 0) (.slot 14))),
      .need (.n2 (.bin .and) (.n1 .ld (.n1 (.faddr 0) (.slot 14))) (.lit (.int .i64 7))),
      .asg 74 (.n2 (.bin .and) (.n1 .ld (.n1 (.faddr 0) (.slot 14))) (.lit (.int .i64 7)))])
    (.block 2
      (.seq
      (.reg [.need (.n2 (.bin .eql) (.slot 74) (.lit (.int .i64 3))),
        .asg 83 (.n2 (.bin .eql) (.slot 74) (.lit (.int .i64 3)))])
      (.cond (.slot 83)
        (.seq
        (.reg [.eff (some 86) (.call { callee := .value (.func 51), args := #[.tmp 85], argTypes := #[55] }) 26 [(85, .slot 9)] none [],
          .asg 10 (.slot 86)])
        (.reg [.eff (some 88) (.call { callee := .value (.func 56), args := #[.tmp 87], argTypes := #[74] }) 26 [(87, .slot 11)] none [],
          .asg 12 (.slot 88)]))
        (.seq
        (.reg [.need (.n2 (.bin .eql) (.slot 74) (.lit (.int .i64 4))),
          .asg 89 (.n2 (.bin .eql) (.slot 74) (.lit (.int .i64 4)))])
        (.cond (.slot 89)
          (.seq
          (.reg [.need (.n1 (.faddr 2) (.slot 14)),
            .need (.n1 .ld (.n1 (.faddr 2) (.slot 14))),
            .eff (some 94) (.call { callee := .value (.func 52), args := #[.tmp 91, .tmp 93], argTypes := #[55, 40] }) 26 [(91, .slot 9), (93, .n1 .ld (.n1 (.faddr 2) (.slot 14)))] none [],
            .asg 10 (.slot 94)])
          (.reg [.need (.n1 (.faddr 2) (.slot 14)),
            .need (.n1 .ld (.n1 (.faddr 2) (.slot 14))),
            .eff (some 98) (.call { callee := .value (.func 57), args := #[.tmp 95, .tmp 97], argTypes := #[74, 40] }) 26 [(95, .slot 11), (97, .n1 .ld (.n1 (.faddr 2) (.slot 14)))] none [],
            .asg 12 (.slot 98)]))
          (.seq
          (.reg [.need (.n2 (.bin .eql) (.slot 74) (.lit (.int .i64 5))),
            .asg 99 (.n2 (.bin .eql) (.slot 74) (.lit (.int .i64 5)))])
          (.cond (.slot 99)
            (.seq
            (.reg [.need (.n1 (.faddr 2) (.slot 14)),
              .need (.n1 .ld (.n1 (.faddr 2) (.slot 14))),
              .eff (some 104) (.call { callee := .value (.func 49), args := #[.tmp 101, .tmp 103], argTypes := #[55, 40] }) 26 [(101, .slot 9), (103, .n1 .ld (.n1 (.faddr 2) (.slot 14)))] none [],
              .asg 10 (.slot 104)])
            (.reg [.need (.n1 (.faddr 2) (.slot 14)),
              .need (.n1 .ld (.n1 (.faddr 2) (.slot 14))),
              .eff (some 108) (.call { callee := .value (.func 58), args := #[.tmp 105, .tmp 107], argTypes := #[74, 40] }) 26 [(105, .slot 11), (107, .n1 .ld (.n1 (.faddr 2) (.slot 14)))] none [],
              .asg 12 (.slot 108)]))
            (.seq
            (.reg [.need (.n2 (.bin .eql) (.slot 74) (.lit (.int .i64 6))),
              .asg 109 (.n2 (.bin .eql) (.slot 74) (.lit (.int .i64 6)))])
            (.cond (.slot 109)
              (.seq
              (.reg [.need (.n1 (.faddr 3) (.slot 14)),
                .need (.n1 .ld (.n1 (.faddr 3) (.slot 14))),
                .eff (some 114) (.call { callee := .value (.func 21), args := #[.tmp 111, .tmp 113], argTypes := #[24, 22] }) 0 [(111, .slot 7), (113, .n1 .ld (.n1 (.faddr 3) (.slot 14)))] none []])
              (.seq
              (.reg [.need (.n1 (.faddr 3) (.slot 14)),
                .need (.n1 .ld (.n1 (.faddr 3) (.slot 14))),
                .eff (some 118) (.call { callee := .value (.func 59), args := #[.tmp 115, .tmp 117], argTypes := #[51, 22] }) 0 [(115, .slot 8), (117, .n1 .ld (.n1 (.faddr 3) (.slot 14)))] none []])
              (.seq
              (.reg [.eff (some 120) (.call { callee := .value (.func 22), args := #[.tmp 119], argTypes := #[24] }) 0 [(119, .slot 7)] none []])
              (.seq
              (.reg [.eff (some 122) (.call { callee := .value (.func 40), args := #[.tmp 121], argTypes := #[51] }) 0 [(121, .slot 8)] none []])
              h14_6))))
              (.seq
              (.reg [.need (.n2 (.bin .eql) (.slot 74) (.lit (.int .i64 7))),
                .asg 135 (.n2 (.bin .eql) (.slot 74) (.lit (.int .i64 7)))])
              (.cond (.slot 135)
                (.seq
                (.reg [.need (.n1 (.faddr 4) (.slot 14)),
                  .need (.n1 .ld (.n1 (.faddr 4) (.slot 14))),
                  .eff (some 140) (.call { callee := .value (.func 50), args := #[.tmp 139, .const (.int .i64 3)], argTypes := #[3, 3] }) 3 [(139, .n1 .ld (.n1 (.faddr 4) (.slot 14)))] none [],
                  .eff (some 141) (.call { callee := .value (.func 33), args := #[.tmp 137, .tmp 140], argTypes := #[24, 3] }) 0 [(137, .slot 7), (140, .slot 140)] none []])
                (.reg [.need (.n1 (.faddr 4) (.slot 14)),
                  .need (.n1 .ld (.n1 (.faddr 4) (.slot 14))),
                  .eff (some 145) (.call { callee := .value (.func 50), args := #[.tmp 144, .const (.int .i64 3)], argTypes := #[3, 3] }) 3 [(144, .n1 .ld (.n1 (.faddr 4) (.slot 14)))] none [],
                  .eff (some 146) (.call { callee := .value (.func 60), args := #[.tmp 142, .tmp 145], argTypes := #[51, 3] }) 0 [(142, .slot 8), (145, .slot 145)] none []]))
                (.seq
                (.reg [.need (.n1 (.faddr 1) (.slot 14)),
                  .need (.n1 .ld (.n1 (.faddr 1) (.slot 14))),
                  .eff (some 78) (.call { callee := .value (.func 53), args := #[.tmp 75, .tmp 77], argTypes := #[55, 9] }) 26 [(75, .slot 9), (77, .n1 .ld (.n1 (.faddr 1) (.slot 14)))] none [],
                  .asg 10 (.slot 78)])
                (.reg [.need (.n1 (.faddr 1) (.slot 14)),
                  .need (.n1 .ld (.n1 (.faddr 1) (.slot 14))),
                  .eff (some 82) (.call { callee := .value (.func 61), args := #[.tmp 79, .tmp 81], argTypes := #[74, 9] }) 26 [(79, .slot 11), (81, .n1 .ld (.n1 (.faddr 1) (.slot 14)))] none [],
                  .asg 12 (.slot 82)]))))))))))))))
    h14_7)))))
  h14_11)
def h14_4 : HC :=
  (.seq
  (.seq
  (.reg [.need (.n1 .lensl (.slot 1)),
    .need (.n2 (.bin .lss) (.slot 13) (.n1 .lensl (.slot 1))),
    .need (.gif (.n2 (.bin .lss) (.slot 13) (.n1 .lensl (.slot 1))) true (.n2 (.pnil true) (.slot 9) (.lit (.pointer none)))),
    .need (.n3 .pick (.n2 (.bin .lss) (.slot 13) (.n1 .lensl (.slot 1))) (.n2 (.pnil true) (.slot 9) (.lit (.pointer none))) (.lit (.bool false))),
    .need (.gif (.n3 .pick (.n2 (.bin .lss) (.slot 13) (.n1 .lensl (.slot 1))) (.n2 (.pnil true) (.slot 9) (.lit (.pointer none))) (.lit (.bool false))) true (.n2 (.pnil true) (.slot 11) (.lit (.pointer none)))),
    .need (.n3 .pick (.n3 .pick (.n2 (.bin .lss) (.slot 13) (.n1 .lensl (.slot 1))) (.n2 (.pnil true) (.slot 9) (.lit (.pointer none))) (.lit (.bool false))) (.n2 (.pnil true) (.slot 11) (.lit (.pointer none))) (.lit (.bool false))),
    .asg 65 (.n3 .pick (.n3 .pick (.n2 (.bin .lss) (.slot 13) (.n1 .lensl (.slot 1))) (.n2 (.pnil true) (.slot 9) (.lit (.pointer none))) (.lit (.bool false))) (.n2 (.pnil true) (.slot 11) (.lit (.pointer none))) (.lit (.bool false)))])
  (.cond (.slot 65)
    .skip
    (.exit 0)))
  h14_5)
def h14_12 : HC :=
  (.seq
  (.reg [.asg 4 (.slot 5)])
  .ret)
def h14_3 : HC :=
  (.seq
  (.seq
  (.reg [.asg 13 (.lit (.int .i64 0))])
  (.block 0
    (.loop
      h14_4)))
  h14_12)
def h14_2 : HC :=
  (.seq
  (.seq
  (.reg [.need (.n2 (.bin .neq) (.slot 10) (.slot 12)),
    .need (.gif (.n2 (.bin .neq) (.slot 10) (.slot 12)) false (.n2 (.pnil false) (.slot 9) (.lit (.pointer none)))),
    .need (.gif (.n2 (.bin .neq) (.slot 10) (.slot 12)) false (.n2 (.pnil false) (.slot 11) (.lit (.pointer none)))),
    .need (.gif (.n2 (.bin .neq) (.slot 10) (.slot 12)) false (.n2 (.beq true) (.n2 (.pnil false) (.slot 9) (.lit (.pointer none))) (.n2 (.pnil false) (.slot 11) (.lit (.pointer none))))),
    .need (.n3 .pick (.n2 (.bin .neq) (.slot 10) (.slot 12)) (.lit (.bool true)) (.n2 (.beq true) (.n2 (.pnil false) (.slot 9) (.lit (.pointer none))) (.n2 (.pnil false) (.slot 11) (.lit (.pointer none))))),
    .asg 53 (.n3 .pick (.n2 (.bin .neq) (.slot 10) (.slot 12)) (.lit (.bool true)) (.n2 (.beq true) (.n2 (.pnil false) (.slot 9) (.lit (.pointer none))) (.n2 (.pnil false) (.slot 11) (.lit (.pointer none)))))])
  (.cond (.slot 53)
    (.seq
    (.reg [.asg 4 (.lit (.bool false))])
    .ret)
    .skip))
  h14_3)
def h14_1 : HC :=
  (.seq
  (.reg [.eff (some 30) (.call { callee := .value (.func 17), args := #[], argTypes := #[] }) 24 [] none [],
    .asg 7 (.slot 30)])
  (.seq
  (.reg [.eff (some 31) (.call { callee := .value (.func 35), args := #[], argTypes := #[] }) 51 [] none [],
    .asg 8 (.slot 31)])
  (.seq
  (.reg [.eff (some 35) (.call { callee := .value (.func 44), args := #[.tmp 33, .tmp 34], argTypes := #[24, 3] }) 56 [(33, .slot 7), (34, .slot 0)] none [],
    .need (.n1 (.ext 0) (.slot 35)),
    .need (.n1 (.ext 1) (.slot 35)),
    .asg 9 (.n1 (.ext 0) (.slot 35)),
    .asg 10 (.n1 (.ext 1) (.slot 35))])
  (.seq
  (.reg [.eff (some 41) (.call { callee := .value (.func 55), args := #[.tmp 39, .tmp 40], argTypes := #[51, 3] }) 75 [(39, .slot 8), (40, .slot 0)] none [],
    .need (.n1 (.ext 0) (.slot 41)),
    .need (.n1 (.ext 1) (.slot 41)),
    .asg 11 (.n1 (.ext 0) (.slot 41)),
    .asg 12 (.n1 (.ext 1) (.slot 41))])
  h14_2))))
def h14 : HC :=
  (.seq
  (.reg [.asg 4 (.lit (.bool false))])
  (.seq
  (.reg [.eff (some 24) (.call { callee := .value (.func 43), args := #[], argTypes := #[] }) 4 [] none [],
    .asg 5 (.slot 24)])
  (.seq
  (.reg [.eff (some 26) (.call { callee := .value (.func 48), args := #[.tmp 25], argTypes := #[66] }) 4 [(25, .slot 1)] none [],
    .asg 6 (.slot 26)])
  (.seq
  (.seq
  (.reg [.need (.n1 .bnot (.slot 6)),
    .asg 28 (.n1 .bnot (.slot 6))])
  (.cond (.slot 28)
    (.seq
    (.reg [.asg 4 (.slot 5)])
    .ret)
    .skip))
  h14_1))))
theorem k14 : fnOK Try.prog 13167460826082236738370137363043931609298117881305423512311889907 [⟨47, [0, 1, 0, 4, 12, 28, 63, 127], [(0, []), (2, []), (3, []), (4, []), (5, []), (1, [5]), (6, []), (7, [])], none⟩, ⟨48, [0, 1, 3, 7, 15, 7, 39, 103, 231, 511, 1023, 2047, 4095, 4095, 16383, 32767, 65535, 131071, 131071, 524287, 1048575], [(0, []), (1, []), (2, []), (3, []), (5, []), (6, []), (7, []), (8, []), (4, [8]), (9, []), (10, []), (11, []), (12, []), (13, []), (14, []), (15, []), (16, []), (17, []), (18, []), (19, []), (20, [])], none⟩] [.tmp 4] 2 Try.f14 = some h14 := by kernel_rfl
theorem c14 : callable Try.prog 14 = true := by kernel_rfl
theorem q14 {args : List Value} (ha : args.length = 2) {w : World} {next : Value → World → Prop} {QP : List PanicEntry → World → Prop} (H : hw Try.prog noPanic h14 (endV [.tmp 4] next) (σ0 args) w) : callK Try.prog 14 args w next QP := fn_rule Try.func14 mixed k14 ha H
theorem r14 {args : List Value} (ha : args.length = 2) {w : World} {next : Value → World → Prop} {QP : List PanicEntry → World → Prop} (H : hw Try.prog noPanic h14 (endV [.tmp 4] next) (σ0 args) w) : callvK Try.prog (.func (.func 14) #[] #[]) args w next QP := callf c14 (q14 ha H)

/- missive/missivelaw06.JournalLasts -/
def h15_6 : HC :=
  (.reg [.eff (some 87) (.buildSlice 80 1 #[(0, .tmp 86)]) 80 [(86, .slot 14)] none [],
    .eff (some 88) (.call { callee := .builtin .append, args := #[.tmp 85, .tmp 87], argTypes := #[80, 80] }) 80 [(85, .slot 10), (87, .slot 87)] none [],
    .asg 10 (.slot 88)])
def h15_7 : HC :=
  (.draw [.need (.n1 (.faddr 2) (.slot 13)),
    .need (.n1 .ld (.n1 (.faddr 2) (.slot 13))),
    .asg 102 (.n1 .ld (.n1 (.faddr 2) (.slot 13))),
    .eff (some 98) (.buildSlice 40 0 #[]) 40 [] none [⟨none, .ld, .n1 (.faddr 2) (.slot 13)⟩],
    .eff (some 100) (.call { callee := .builtin .append, args := #[.tmp 98, .tmp 99], argTypes := #[40, 40] }) 40 [(98, .slot 98), (99, .slot 14)] none [⟨none, .ld, .n1 (.faddr 2) (.slot 13)⟩],
    .eff (some 103) (.call { callee := .builtin .append, args := #[.tmp 100, .tmp 102], argTypes := #[40, 40] }) 40 [(100, .slot 100), (102, .slot 102)] none [],
    .eff (some 104) (.buildSlice 80 1 #[(0, .tmp 103)]) 80 [(103, .slot 103)] none [],
    .eff (some 105) (.call { callee := .builtin .append, args := #[.tmp 97, .tmp 104], argTypes := #[80, 80] }) 80 [(97, .slot 10), (104, .slot 104)] none [],
    .asg 10 (.slot 105)])
def h15_8 : HC :=
  (.reg [.need (.n1 (.faddr 2) (.slot 13)),
    .need (.n1 .ld (.n1 (.faddr 2) (.slot 13))),
    .eff (some 117) (.buildSlice 80 1 #[(0, .tmp 116)]) 80 [(116, .n1 .ld (.n1 (.faddr 2) (.slot 13)))] none [],
    .eff (some 118) (.call { callee := .builtin .append, args := #[.tmp 114, .tmp 117], argTypes := #[80, 80] }) 80 [(114, .slot 10), (117, .slot 117)] none [],
    .asg 10 (.slot 118)])
def l15_12 : List HS :=
  .need (.gif (.n3 .pick (.n2 (.pnil false) (.slot 8) (.lit (.pointer none))) (.lit (.bool true)) (.n2 (.bin .neq) (.slot 9) (.lit (.int .i64 0)))) false (.n1 .lensl (.slot 155))) ::
  .need (.gif (.n3 .pick (.n2 (.pnil false) (.slot 8) (.lit (.pointer none))) (.lit (.bool true)) (.n2 (.bin .neq) (.slot 9) (.lit (.int .i64 0)))) false (.n2 (.bin .neq) (.slot 153) (.n1 .lensl (.slot 155)))) ::
  .need (.n3 .pick (.n3 .pick (.n2 (.pnil false) (.slot 8) (.lit (.pointer none))) (.lit (.bool true)) (.n2 (.bin .neq) (.slot 9) (.lit (.int .i64 0)))) (.lit (.bool true)) (.n2 (.bin .neq) (.slot 153) (.n1 .lensl (.slot 155)))) ::
  .asg 158 (.n3 .pick (.n3 .pick (.n2 (.pnil false) (.slot 8) (.lit (.pointer none))) (.lit (.bool true)) (.n2 (.bin .neq) (.slot 9) (.lit (.int .i64 0)))) (.lit (.bool true)) (.n2 (.bin .neq) (.slot 153) (.n1 .lensl (.slot 155)))) ::
  []
def l15_13 : List HS :=
  .eff (some 155) (.call { callee := .value (.func 47), args := #[.tmp 154], argTypes := #[55] }) 40 [(154, .slot 8)] (some (.n3 .pick (.n2 (.pnil false) (.slot 8) (.lit (.pointer none))) (.lit (.bool true)) (.n2 (.bin .neq) (.slot 9) (.lit (.int .i64 0))), false)) [] ::
  l15_12
def h15_15 : HC :=
  (.reg [.eff (some 167) (.buildSlice 80 1 #[(0, .tmp 166)]) 80 [(166, .slot 15)] none [],
    .asg 10 (.slot 167)])
def h15_14 : HC :=
  (.seq
  (.reg [.eff (some 160) (.call { callee := .value (.func 47), args := #[.tmp 159], argTypes := #[55] }) 40 [(159, .slot 8)] none [],
    .asg 15 (.slot 160)])
  (.seq
  (.reg [.eff (some 163) (.call { callee := .value (.func 62), args := #[.tmp 161, .tmp 162], argTypes := #[40, 80] }) 4 [(161, .slot 15), (162, .slot 10)] none [],
    .asg 16 (.slot 163)])
  (.seq
  (.seq
  (.reg [.need (.n1 .bnot (.slot 16)),
    .asg 165 (.n1 .bnot (.slot 16))])
  (.cond (.slot 165)
    (.seq
    (.reg [.asg 4 (.lit (.bool false))])
    .ret)
    .skip))
  h15_15)))
def h15_11 : HC :=
  (.seq
  (.seq
  (.reg (.need (.n2 (.pnil false) (.slot 8) (.lit (.pointer none))) ::
    .need (.gif (.n2 (.pnil false) (.slot 8) (.lit (.pointer none))) false (.n2 (.bin .neq) (.slot 9) (.lit (.int .i64 0)))) ::
    .need (.n3 .pick (.n2 (.pnil false) (.slot 8) (.lit (.pointer none))) (.lit (.bool true)) (.n2 (.bin .neq) (.slot 9) (.lit (.int .i64 0)))) ::
    .eff (some 153) (.call { callee := .value (.func 54), args := #[.tmp 152], argTypes := #[55] }) 3 [(152, .slot 8)] (some (.n3 .pick (.n2 (.pnil false) (.slot 8) (.lit (.pointer none))) (.lit (.bool true)) (.n2 (.bin .neq) (.slot 9) (.lit (.int .i64 0))), false)) [] ::
    l15_13))
  (.cond (.slot 158)
    (.seq
    (.reg [.asg 4 (.lit (.bool false))])
    .ret)
    .skip))
  h15_14)
def h15_10 : HC :=
  (.seq
  (.reg [.eff (some 135) (.call { callee := .value (.func 32), args := #[.tmp 134, .const (.int .i64 0), .const (.slice none 0 0)], argTypes := #[24, 3, 22] }) 0 [(134, .slot 7)] none []])
  (.seq
  (.reg [.eff (some 137) (.call { callee := .value (.func 33), args := #[.tmp 136, .const (.int .i64 0)], argTypes := #[24, 3] }) 0 [(136, .slot 7)] none []])
  (.seq
  (.reg [.eff (some 139) (.call { callee := .value (.func 22), args := #[.tmp 138], argTypes := #[24] }) 0 [(138, .slot 7)] none []])
  (.seq
  (.reg [.eff (some 142) (.call { callee := .value (.func 44), args := #[.tmp 141, .const (.int .i64 3)], argTypes := #[24, 3] }) 56 [(141, .slot 7)] none [],
    .need (.n1 (.ext 0) (.slot 142)),
    .need (.n1 (.ext 1) (.slot 142)),
    .asg 8 (.n1 (.ext 0) (.slot 142)),
    .asg 9 (.n1 (.ext 1) (.slot 142))])
  h15_11))))
def h15_9 : HC :=
  (.seq
  (.seq
  (.reg [.need (.n2 (.bin .neq) (.slot 9) (.lit (.int .i64 8))),
    .asg 133 (.n2 (.bin .neq) (.slot 9) (.lit (.int .i64 8)))])
  (.cond (.slot 133)
    (.exit 1)
    .skip))
  h15_10)
def h15_5 : HC :=
  (.seq
  (.reg [.asg 9 (.lit (.int .i64 0))])
  (.seq
  (.reg [.eff (some 71) (.call { callee := .value (.func 47), args := #[.tmp 70], argTypes := #[55] }) 40 [(70, .slot 8)] none [],
    .asg 14 (.slot 71)])
  (.seq
  (.seq
  (.reg [.need (.n1 (.faddr 0) (.slot 13)),
    .need (.n1 .ld (.n1 (.faddr 0) (.slot 13))),
    .need (.n2 (.bin .and) (.n1 .ld (.n1 (.faddr 0) (.slot 13))) (.lit (.int .i64 7))),
    .asg 74 (.n2 (.bin .and) (.n1 .ld (.n1 (.faddr 0) (.slot 13))) (.lit (.int .i64 7)))])
  (.block 2
    (.seq
    (.reg [.need (.n2 (.bin .eql) (.slot 74) (.lit (.int .i64 3))),
      .asg 79 (.n2 (.bin .eql) (.slot 74) (.lit (.int .i64 3)))])
    (.cond (.slot 79)
      (.seq
      (.reg [.eff (some 82) (.call { callee := .value (.func 51), args := #[.tmp 81], argTypes := #[55] }) 26 [(81, .slot 8)] none [],
        .asg 9 (.slot 82)])
      (.seq
      (.seq
      (.reg [.need (.n2 (.bin .eql) (.slot 9) (.lit (.int .i64 0))),
        .asg 84 (.n2 (.bin .eql) (.slot 9) (.lit (.int .i64 0)))])
      (.cond (.slot 84)
        (.reg [.asg 10 (.lit (.slice none 0 0))])
        .skip))
      h15_6))
      (.seq
      (.reg [.need (.n2 (.bin .eql) (.slot 74) (.lit (.int .i64 4))),
        .asg 89 (.n2 (.bin .eql) (.slot 74) (.lit (.int .i64 4)))])
      (.cond (.slot 89)
        (.seq
        (.reg [.need (.n1 (.faddr 2) (.slot 13)),
          .need (.n1 .ld (.n1 (.faddr 2) (.slot 13))),
          .eff (some 94) (.call { callee := .value (.func 52), args := #[.tmp 91, .tmp 93], argTypes := #[55, 40] }) 26 [(91, .slot 8), (93, .n1 .ld (.n1 (.faddr 2) (.slot 13)))] none [],
          .asg 9 (.slot 94)])
        (.seq
        (.seq
        (.reg [.need (.n2 (.bin .eql) (.slot 9) (.lit (.int .i64 0))),
          .asg 96 (.n2 (.bin .eql) (.slot 9) (.lit (.int .i64 0)))])
        (.cond (.slot 96)
          (.reg [.asg 10 (.lit (.slice none 0 0))])
          .skip))
        h15_7))
        (.seq
        (.reg [.need (.n2 (.bin .eql) (.slot 74) (.lit (.int .i64 5))),
          .asg 106 (.n2 (.bin .eql) (.slot 74) (.lit (.int .i64 5)))])
        (.cond (.slot 106)
          (.seq
          (.reg [.need (.n1 (.faddr 2) (.slot 13)),
            .need (.n1 .ld (.n1 (.faddr 2) (.slot 13))),
            .eff (some 111) (.call { callee := .value (.func 49), args := #[.tmp 108, .tmp 110], argTypes := #[55, 40] }) 26 [(108, .slot 8), (110, .n1 .ld (.n1 (.faddr 2) (.slot 13)))] none [],
            .asg 9 (.slot 111)])
          (.seq
          (.seq
          (.reg [.need (.n2 (.bin .eql) (.slot 9) (.lit (.int .i64 0))),
            .asg 113 (.n2 (.bin .eql) (.slot 9) (.lit (.int .i64 0)))])
          (.cond (.slot 113)
            (.reg [.asg 10 (.lit (.slice none 0 0))])
            .skip))
          h15_8))
          (.seq
          (.reg [.need (.n2 (.bin .eql) (.slot 74) (.lit (.int .i64 6))),
            .asg 119 (.n2 (.bin .eql) (.slot 74) (.lit (.int .i64 6)))])
          (.cond (.slot 119)
            (.seq
            (.reg [.need (.n1 (.faddr 3) (.slot 13)),
              .need (.n1 .ld (.n1 (.faddr 3) (.slot 13))),
              .eff (some 124) (.call { callee := .value (.func 21), args := #[.tmp 121, .tmp 123], argTypes := #[24, 22] }) 0 [(121, .slot 7), (123, .n1 .ld (.n1 (.faddr 3) (.slot 13)))] none []])
            (.reg [.asg 9 (.lit (.int .i64 8))]))
            (.seq
            (.reg [.need (.n2 (.bin .eql) (.slot 74) (.lit (.int .i64 7))),
              .asg 125 (.n2 (.bin .eql) (.slot 74) (.lit (.int .i64 7)))])
            (.cond (.slot 125)
              (.reg [.need (.n1 (.faddr 4) (.slot 13)),
                .need (.n1 .ld (.n1 (.faddr 4) (.slot 13))),
                .eff (some 130) (.call { callee := .value (.func 50), args := #[.tmp 129, .const (.int .i64 3)], argTypes := #[3, 3] }) 3 [(129, .n1 .ld (.n1 (.faddr 4) (.slot 13)))] none [],
                .eff (some 131) (.call { callee := .value (.func 33), args := #[.tmp 127, .tmp 130], argTypes := #[24, 3] }) 0 [(127, .slot 7), (130, .slot 130)] none []])
              (.reg [.need (.n1 (.faddr 1) (.slot 13)),
                .need (.n1 .ld (.n1 (.faddr 1) (.slot 13))),
                .eff (some 78) (.call { callee := .value (.func 53), args := #[.tmp 75, .tmp 77], argTypes := #[55, 9] }) 26 [(75, .slot 8), (77, .n1 .ld (.n1 (.faddr 1) (.slot 13)))] none [],
                .asg 9 (.slot 78)])))))))))))))
  h15_9)))
def h15_16 : HC :=
  (.reg [.need (.n2 (.bin .add) (.slot 12) (.lit (.int .i64 1))),
    .asg 12 (.n2 (.bin .add) (.slot 12) (.lit (.int .i64 1)))])
def h15_4 : HC :=
  (.seq
  (.block 1
    (.seq
    (.reg [.need (.n2 (.iaddr 5) (.slot 0) (.slot 12)),
      .need (.n1 (.ldn 5) (.n2 (.iaddr 5) (.slot 0) (.slot 12))),
      .asg 50 (.n1 (.ldn 5) (.n2 (.iaddr 5) (.slot 0) (.slot 12))),
      .eff (some 13) (.alloc 65) 0 [] none [],
      .eff none (.store 65 (.tmp 13) (.tmp 50)) 0 [(13, .slot 13), (50, .slot 50)] none []])
    (.seq
    (.seq
    (.reg [.need (.n2 (.bin .rem) (.slot 12) (.lit (.int .i64 3))),
      .need (.n2 (.bin .eql) (.n2 (.bin .rem) (.slot 12) (.lit (.int .i64 3))) (.lit (.int .i64 0))),
      .need (.gif (.n2 (.bin .eql) (.n2 (.bin .rem) (.slot 12) (.lit (.int .i64 3))) (.lit (.int .i64 0))) true (.n1 .lensl (.slot 1))),
      .need (.gif (.n2 (.bin .eql) (.n2 (.bin .rem) (.slot 12) (.lit (.int .i64 3))) (.lit (.int .i64 0))) true (.n2 (.bin .lss) (.slot 11) (.n1 .lensl (.slot 1)))),
      .need (.n3 .pick (.n2 (.bin .eql) (.n2 (.bin .rem) (.slot 12) (.lit (.int .i64 3))) (.lit (.int .i64 0))) (.n2 (.bin .lss) (.slot 11) (.n1 .lensl (.slot 1))) (.lit (.bool false))),
      .asg 59 (.n3 .pick (.n2 (.bin .eql) (.n2 (.bin .rem) (.slot 12) (.lit (.int .i64 3))) (.lit (.int .i64 0))) (.n2 (.bin .lss) (.slot 11) (.n1 .lensl (.slot 1))) (.lit (.bool false)))])
    (.cond (.slot 59)
      (.seq
      (.draw [.need (.n2 (.iaddr 1) (.slot 1) (.slot 11)),
        .need (.n1 .ld (.n2 (.iaddr 1) (.slot 1) (.slot 11))),
        .need (.n1 (.faddr 3) (.slot 13)),
        .need (.n1 .ld (.n1 (.faddr 3) (.slot 13))),
        .eff (some 67) (.call { callee := .value (.func 32), args := #[.tmp 60, .tmp 64, .tmp 66], argTypes := #[24, 3, 22] }) 0 [(60, .slot 7), (64, .n1 .ld (.n2 (.iaddr 1) (.slot 1) (.slot 11))), (66, .n1 .ld (.n1 (.faddr 3) (.slot 13)))] none []])
      (.reg [.need (.n2 (.bin .add) (.slot 11) (.lit (.int .i64 1))),
        .asg 11 (.n2 (.bin .add) (.slot 11) (.lit (.int .i64 1)))]))
      .skip))
    h15_5)))
  h15_16)
def h15_3 : HC :=
  (.seq
  (.seq
  (.reg [.need (.n1 .lensl (.slot 0)),
    .need (.n2 (.bin .lss) (.slot 12) (.n1 .lensl (.slot 0))),
    .asg 44 (.n2 (.bin .lss) (.slot 12) (.n1 .lensl (.slot 0)))])
  (.cond (.slot 44)
    .skip
    (.exit 0)))
  h15_4)
def h15_17 : HC :=
  (.seq
  (.reg [.asg 4 (.slot 5)])
  .ret)
def h15_2 : HC :=
  (.seq
  (.reg [.eff (some 40) (.buildSlice 80 1 #[(0, .const (.slice none 0 0))]) 80 [] none [],
    .asg 10 (.slot 40)])
  (.seq
  (.reg [.asg 11 (.lit (.int .i64 0))])
  (.seq
  (.seq
  (.reg [.asg 12 (.lit (.int .i64 0))])
  (.block 0
    (.loop
      h15_3)))
  h15_17)))
def h15_1 : HC :=
  (.seq
  (.reg [.eff (some 28) (.call { callee := .value (.func 17), args := #[], argTypes := #[] }) 24 [] none [],
    .asg 7 (.slot 28)])
  (.seq
  (.reg [.eff (some 31) (.call { callee := .value (.func 44), args := #[.tmp 30, .const (.int .i64 3)], argTypes := #[24, 3] }) 56 [(30, .slot 7)] none [],
    .need (.n1 (.ext 0) (.slot 31)),
    .need (.n1 (.ext 1) (.slot 31)),
    .asg 8 (.n1 (.ext 0) (.slot 31)),
    .asg 9 (.n1 (.ext 1) (.slot 31))])
  (.seq
  (.seq
  (.reg [.need (.n2 (.pnil false) (.slot 8) (.lit (.pointer none))),
    .need (.gif (.n2 (.pnil false) (.slot 8) (.lit (.pointer none))) false (.n2 (.bin .neq) (.slot 9) (.lit (.int .i64 0)))),
    .need (.n3 .pick (.n2 (.pnil false) (.slot 8) (.lit (.pointer none))) (.lit (.bool true)) (.n2 (.bin .neq) (.slot 9) (.lit (.int .i64 0)))),
    .asg 39 (.n3 .pick (.n2 (.pnil false) (.slot 8) (.lit (.pointer none))) (.lit (.bool true)) (.n2 (.bin .neq) (.slot 9) (.lit (.int .i64 0))))])
  (.cond (.slot 39)
    (.seq
    (.reg [.asg 4 (.lit (.bool false))])
    .ret)
    .skip))
  h15_2)))
def h15 : HC :=
  (.seq
  (.reg [.asg 4 (.lit (.bool false))])
  (.seq
  (.reg [.eff (some 17) (.call { callee := .value (.func 43), args := #[], argTypes := #[] }) 4 [] none [],
    .asg 5 (.slot 17)])
  (.seq
  (.reg [.eff (some 19) (.call { callee := .value (.func 48), args := #[.tmp 18], argTypes := #[66] }) 4 [(18, .slot 0)] none [],
    .asg 6 (.slot 19)])
  (.seq
  (.seq
  (.reg [.need (.n1 .bnot (.slot 6)),
    .need (.gif (.n1 .bnot (.slot 6)) false (.n1 .lensl (.slot 1))),
    .need (.gif (.n1 .bnot (.slot 6)) false (.n2 (.bin .gtr) (.n1 .lensl (.slot 1)) (.lit (.int .i64 10)))),
    .need (.n3 .pick (.n1 .bnot (.slot 6)) (.lit (.bool true)) (.n2 (.bin .gtr) (.n1 .lensl (.slot 1)) (.lit (.int .i64 10)))),
    .asg 26 (.n3 .pick (.n1 .bnot (.slot 6)) (.lit (.bool true)) (.n2 (.bin .gtr) (.n1 .lensl (.slot 1)) (.lit (.int .i64 10))))])
  (.cond (.slot 26)
    (.seq
    (.reg [.asg 4 (.slot 5)])
    .ret)
    .skip))
  h15_1))))
theorem k15 : fnOK Try.prog 247416248530866262519785172228107616846364193587187 [⟨16, [0, 0, 0, 6, 14, 0, 32, 127], [(0, []), (1, []), (2, []), (3, []), (4, []), (5, []), (6, []), (7, [])], none⟩, ⟨31, [0, 0, 0, 6, 0, 16, 62, 126, 255, 511], [(0, []), (2, []), (4, []), (5, []), (1, [5]), (3, [5]), (6, []), (7, []), (8, []), (9, [])], none⟩] [.tmp 4] 2 Try.f15 = some h15 := by kernel_rfl
theorem c15 : callable Try.prog 15 = true := by kernel_rfl
theorem q15 {args : List Value} (ha : args.length = 2) {w : World} {next : Value → World → Prop} {QP : List PanicEntry → World → Prop} (H : hw Try.prog noPanic h15 (endV [.tmp 4] next) (σ0 args) w) : callK Try.prog 15 args w next QP := fn_rule Try.func15 mixed k15 ha H
theorem r15 {args : List Value} (ha : args.length = 2) {w : World} {next : Value → World → Prop} {QP : List PanicEntry → World → Prop} (H : hw Try.prog noPanic h15 (endV [.tmp 4] next) (σ0 args) w) : callvK Try.prog (.func (.func 15) #[] #[]) args w next QP := callf c15 (q15 ha H)

/- missive/missivelaw06.small -/
def h43_5 : HC :=
  (.seq
  (.reg [.eff (some 77) (.call { callee := .value (.func 47), args := #[.tmp 76], argTypes := #[55] }) 40 [(76, .slot 12)] none [],
    .eff (some 78) (.buildSlice 40 2 #[(0, .const (str [98])), (1, .const (str [99]))]) 40 [] none [],
    .eff (some 79) (.call { callee := .value (.func 46), args := #[.tmp 77, .tmp 78], argTypes := #[40, 40] }) 4 [(77, .slot 77), (78, .slot 78)] none [],
    .asg 14 (.slot 79)])
  (.seq
  (.reg [.need (.n2 (.bin .eql) (.slot 4) (.lit (.int .i64 0))),
    .need (.gif (.n2 (.bin .eql) (.slot 4) (.lit (.int .i64 0))) true (.n2 (.bin .eql) (.slot 5) (.lit (.int .i64 0)))),
    .need (.n3 .pick (.n2 (.bin .eql) (.slot 4) (.lit (.int .i64 0))) (.n2 (.bin .eql) (.slot 5) (.lit (.int .i64 0))) (.lit (.bool false))),
    .need (.gif (.n3 .pick (.n2 (.bin .eql) (.slot 4) (.lit (.int .i64 0))) (.n2 (.bin .eql) (.slot 5) (.lit (.int .i64 0))) (.lit (.bool false))) true (.n2 (.bin .eql) (.slot 6) (.lit (.int .i64 0)))),
    .need (.n3 .pick (.n3 .pick (.n2 (.bin .eql) (.slot 4) (.lit (.int .i64 0))) (.n2 (.bin .eql) (.slot 5) (.lit (.int .i64 0))) (.lit (.bool false))) (.n2 (.bin .eql) (.slot 6) (.lit (.int .i64 0))) (.lit (.bool false))),
    .need (.gif (.n3 .pick (.n3 .pick (.n2 (.bin .eql) (.slot 4) (.lit (.int .i64 0))) (.n2 (.bin .eql) (.slot 5) (.lit (.int .i64 0))) (.lit (.bool false))) (.n2 (.bin .eql) (.slot 6) (.lit (.int .i64 0))) (.lit (.bool false))) true (.n2 (.bin .eql) (.slot 11) (.lit (.int .i64 0)))),
    .need (.n3 .pick (.n3 .pick (.n3 .pick (.n2 (.bin .eql) (.slot 4) (.lit (.int .i64 0))) (.n2 (.bin .eql) (.slot 5) (.lit (.int .i64 0))) (.lit (.bool false))) (.n2 (.bin .eql) (.slot 6) (.lit (.int .i64 0))) (.lit (.bool false))) (.n2 (.bin .eql) (.slot 11) (.lit (.int .i64 0))) (.lit (.bool false))),
    .need (.gif (.n3 .pick (.n3 .pick (.n3 .pick (.n2 (.bin .eql) (.slot 4) (.lit (.int .i64 0))) (.n2 (.bin .eql) (.slot 5) (.lit (.int .i64 0))) (.lit (.bool false))) (.n2 (.bin .eql) (.slot 6) (.lit (.int .i64 0))) (.lit (.bool false))) (.n2 (.bin .eql) (.slot 11) (.lit (.int .i64 0))) (.lit (.bool false))) true (.n2 (.bin .eql) (.slot 7) (.lit (.int .i64 1)))),
    .need (.n3 .pick (.n3 .pick (.n3 .pick (.n3 .pick (.n2 (.bin .eql) (.slot 4) (.lit (.int .i64 0))) (.n2 (.bin .eql) (.slot 5) (.lit (.int .i64 0))) (.lit (.bool false))) (.n2 (.bin .eql) (.slot 6) (.lit (.int .i64 0))) (.lit (.bool false))) (.n2 (.bin .eql) (.slot 11) (.lit (.int .i64 0))) (.lit (.bool false))) (.n2 (.bin .eql) (.slot 7) (.lit (.int .i64 1))) (.lit (.bool false))),
    .need (.n3 .pick (.n3 .pick (.n3 .pick (.n3 .pick (.n3 .pick (.n2 (.bin .eql) (.slot 4) (.lit (.int .i64 0))) (.n2 (.bin .eql) (.slot 5) (.lit (.int .i64 0))) (.lit (.bool false))) (.n2 (.bin .eql) (.slot 6) (.lit (.int .i64 0))) (.lit (.bool false))) (.n2 (.bin .eql) (.slot 11) (.lit (.int .i64 0))) (.lit (.bool false))) (.n2 (.bin .eql) (.slot 7) (.lit (.int .i64 1))) (.lit (.bool false))) (.slot 10) (.lit (.bool false))),
    .need (.n3 .pick (.n3 .pick (.n3 .pick (.n3 .pick (.n3 .pick (.n3 .pick (.n2 (.bin .eql) (.slot 4) (.lit (.int .i64 0))) (.n2 (.bin .eql) (.slot 5) (.lit (.int .i64 0))) (.lit (.bool false))) (.n2 (.bin .eql) (.slot 6) (.lit (.int .i64 0))) (.lit (.bool false))) (.n2 (.bin .eql) (.slot 11) (.lit (.int .i64 0))) (.lit (.bool false))) (.n2 (.bin .eql) (.slot 7) (.lit (.int .i64 1))) (.lit (.bool false))) (.slot 10) (.lit (.bool false))) (.slot 14) (.lit (.bool false))),
    .eff (some 106) (.call { callee := .value (.func 54), args := #[.tmp 105], argTypes := #[55] }) 3 [(105, .slot 12)] (some (.n3 .pick (.n3 .pick (.n3 .pick (.n3 .pick (.n3 .pick (.n3 .pick (.n2 (.bin .eql) (.slot 4) (.lit (.int .i64 0))) (.n2 (.bin .eql) (.slot 5) (.lit (.int .i64 0))) (.lit (.bool false))) (.n2 (.bin .eql) (.slot 6) (.lit (.int .i64 0))) (.lit (.bool false))) (.n2 (.bin .eql) (.slot 11) (.lit (.int .i64 0))) (.lit (.bool false))) (.n2 (.bin .eql) (.slot 7) (.lit (.int .i64 1))) (.lit (.bool false))) (.slot 10) (.lit (.bool false))) (.slot 14) (.lit (.bool false)), true)) [],
    .need (.gif (.n3 .pick (.n3 .pick (.n3 .pick (.n3 .pick (.n3 .pick (.n3 .pick (.n2 (.bin .eql) (.slot 4) (.lit (.int .i64 0))) (.n2 (.bin .eql) (.slot 5) (.lit (.int .i64 0))) (.lit (.bool false))) (.n2 (.bin .eql) (.slot 6) (.lit (.int .i64 0))) (.lit (.bool false))) (.n2 (.bin .eql) (.slot 11) (.lit (.int .i64 0))) (.lit (.bool false))) (.n2 (.bin .eql) (.slot 7) (.lit (.int .i64 1))) (.lit (.bool false))) (.slot 10) (.lit (.bool false))) (.slot 14) (.lit (.bool false))) true (.n2 (.bin .eql) (.slot 106) (.lit (.int .i64 2)))),
    .need (.n3 .pick (.n3 .pick (.n3 .pick (.n3 .pick (.n3 .pick (.n3 .pick (.n3 .pick (.n2 (.bin .eql) (.slot 4) (.lit (.int .i64 0))) (.n2 (.bin .eql) (.slot 5) (.lit (.int .i64 0))) (.lit (.bool false))) (.n2 (.bin .eql) (.slot 6) (.lit (.int .i64 0))) (.lit (.bool false))) (.n2 (.bin .eql) (.slot 11) (.lit (.int .i64 0))) (.lit (.bool false))) (.n2 (.bin .eql) (.slot 7) (.lit (.int .i64 1))) (.lit (.bool false))) (.slot 10) (.lit (.bool false))) (.slot 14) (.lit (.bool false))) (.n2 (.bin .eql) (.slot 106) (.lit (.int .i64 2))) (.lit (.bool false))),
    .asg 0 (.n3 .pick (.n3 .pick (.n3 .pick (.n3 .pick (.n3 .pick (.n3 .pick (.n3 .pick (.n2 (.bin .eql) (.slot 4) (.lit (.int .i64 0))) (.n2 (.bin .eql) (.slot 5) (.lit (.int .i64 0))) (.lit (.bool false))) (.n2 (.bin .eql) (.slot 6) (.lit (.int .i64 0))) (.lit (.bool false))) (.n2 (.bin .eql) (.slot 11) (.lit (.int .i64 0))) (.lit (.bool false))) (.n2 (.bin .eql) (.slot 7) (.lit (.int .i64 1))) (.lit (.bool false))) (.slot 10) (.lit (.bool false))) (.slot 14) (.lit (.bool false))) (.n2 (.bin .eql) (.slot 106) (.lit (.int .i64 2))) (.lit (.bool false)))])
  .ret))
def h43_4 : HC :=
  (.seq
  (.reg [.eff (some 62) (.call { callee := .value (.func 21), args := #[.tmp 61, .const (.slice none 0 0)], argTypes := #[24, 22] }) 0 [(61, .slot 1)] none []])
  (.seq
  (.reg [.eff (some 64) (.call { callee := .value (.func 22), args := #[.tmp 63], argTypes := #[24] }) 0 [(63, .slot 1)] none []])
  (.seq
  (.reg [.eff (some 67) (.call { callee := .value (.func 44), args := #[.tmp 66, .const (.int .i64 2)], argTypes := #[24, 3] }) 56 [(66, .slot 1)] none [],
    .need (.n1 (.ext 0) (.slot 67)),
    .need (.n1 (.ext 1) (.slot 67)),
    .asg 12 (.n1 (.ext 0) (.slot 67)),
    .asg 13 (.n1 (.ext 1) (.slot 67))])
  (.seq
  (.seq
  (.reg [.need (.n2 (.pnil false) (.slot 12) (.lit (.pointer none))),
    .need (.gif (.n2 (.pnil false) (.slot 12) (.lit (.pointer none))) false (.n2 (.bin .neq) (.slot 13) (.lit (.int .i64 0)))),
    .need (.n3 .pick (.n2 (.pnil false) (.slot 12) (.lit (.pointer none))) (.lit (.bool true)) (.n2 (.bin .neq) (.slot 13) (.lit (.int .i64 0)))),
    .asg 75 (.n3 .pick (.n2 (.pnil false) (.slot 12) (.lit (.pointer none))) (.lit (.bool true)) (.n2 (.bin .neq) (.slot 13) (.lit (.int .i64 0))))])
  (.cond (.slot 75)
    (.seq
    (.reg [.asg 0 (.lit (.bool false))])
    .ret)
    .skip))
  h43_5))))
def h43_3 : HC :=
  (.seq
  (.reg [.eff (some 55) (.call { callee := .value (.func 47), args := #[.tmp 54], argTypes := #[55] }) 40 [(54, .slot 8)] none [],
    .eff (some 56) (.buildSlice 40 1 #[(0, .const (str [97]))]) 40 [] none [],
    .eff (some 57) (.call { callee := .value (.func 46), args := #[.tmp 55, .tmp 56], argTypes := #[40, 40] }) 4 [(55, .slot 55), (56, .slot 56)] none [],
    .asg 10 (.slot 57)])
  (.seq
  (.reg [.eff (some 59) (.buildSlice 40 2 #[(0, .const (str [98])), (1, .const (str [99]))]) 40 [] none [],
    .eff (some 60) (.call { callee := .value (.func 49), args := #[.tmp 58, .tmp 59], argTypes := #[55, 40] }) 26 [(58, .slot 8), (59, .slot 59)] none [],
    .asg 11 (.slot 60)])
  h43_4))
def h43_2 : HC :=
  (.seq
  (.reg [.eff (some 40) (.call { callee := .value (.func 21), args := #[.tmp 39, .const (.slice none 0 0)], argTypes := #[24, 22] }) 0 [(39, .slot 1)] none []])
  (.seq
  (.reg [.eff (some 42) (.call { callee := .value (.func 22), args := #[.tmp 41], argTypes := #[24] }) 0 [(41, .slot 1)] none []])
  (.seq
  (.reg [.eff (some 45) (.call { callee := .value (.func 44), args := #[.tmp 44, .const (.int .i64 2)], argTypes := #[24, 3] }) 56 [(44, .slot 1)] none [],
    .need (.n1 (.ext 0) (.slot 45)),
    .need (.n1 (.ext 1) (.slot 45)),
    .asg 8 (.n1 (.ext 0) (.slot 45)),
    .asg 9 (.n1 (.ext 1) (.slot 45))])
  (.seq
  (.seq
  (.reg [.need (.n2 (.pnil false) (.slot 8) (.lit (.pointer none))),
    .need (.gif (.n2 (.pnil false) (.slot 8) (.lit (.pointer none))) false (.n2 (.bin .neq) (.slot 9) (.lit (.int .i64 0)))),
    .need (.n3 .pick (.n2 (.pnil false) (.slot 8) (.lit (.pointer none))) (.lit (.bool true)) (.n2 (.bin .neq) (.slot 9) (.lit (.int .i64 0)))),
    .asg 53 (.n3 .pick (.n2 (.pnil false) (.slot 8) (.lit (.pointer none))) (.lit (.bool true)) (.n2 (.bin .neq) (.slot 9) (.lit (.int .i64 0))))])
  (.cond (.slot 53)
    (.seq
    (.reg [.asg 0 (.lit (.bool false))])
    .ret)
    .skip))
  h43_3))))
def h43_1 : HC :=
  (.seq
  (.reg [.eff (some 32) (.call { callee := .value (.func 53), args := #[.tmp 31, .const (str [97])], argTypes := #[55, 9] }) 26 [(31, .slot 2)] none [],
    .asg 4 (.slot 32)])
  (.seq
  (.reg [.eff (some 34) (.call { callee := .value (.func 51), args := #[.tmp 33], argTypes := #[55] }) 26 [(33, .slot 2)] none [],
    .asg 5 (.slot 34)])
  (.seq
  (.reg [.eff (some 36) (.call { callee := .value (.func 53), args := #[.tmp 35, .const (str [98])], argTypes := #[55, 9] }) 26 [(35, .slot 2)] none [],
    .asg 6 (.slot 36)])
  (.seq
  (.reg [.eff (some 38) (.call { callee := .value (.func 54), args := #[.tmp 37], argTypes := #[55] }) 3 [(37, .slot 2)] none [],
    .asg 7 (.slot 38)])
  h43_2))))
def h43 : HC :=
  (.seq
  (.reg [.asg 0 (.lit (.bool false))])
  (.seq
  (.reg [.eff (some 15) (.call { callee := .value (.func 17), args := #[], argTypes := #[] }) 24 [] none [],
    .asg 1 (.slot 15)])
  (.seq
  (.reg [.eff (some 18) (.call { callee := .value (.func 44), args := #[.tmp 17, .const (.int .i64 2)], argTypes := #[24, 3] }) 56 [(17, .slot 1)] none [],
    .need (.n1 (.ext 0) (.slot 18)),
    .need (.n1 (.ext 1) (.slot 18)),
    .asg 2 (.n1 (.ext 0) (.slot 18)),
    .asg 3 (.n1 (.ext 1) (.slot 18))])
  (.seq
  (.seq
  (.reg [.need (.n2 (.pnil false) (.slot 1) (.lit (.pointer none))),
    .need (.gif (.n2 (.pnil false) (.slot 1) (.lit (.pointer none))) false (.n2 (.pnil false) (.slot 2) (.lit (.pointer none)))),
    .need (.n3 .pick (.n2 (.pnil false) (.slot 1) (.lit (.pointer none))) (.lit (.bool true)) (.n2 (.pnil false) (.slot 2) (.lit (.pointer none)))),
    .need (.gif (.n3 .pick (.n2 (.pnil false) (.slot 1) (.lit (.pointer none))) (.lit (.bool true)) (.n2 (.pnil false) (.slot 2) (.lit (.pointer none)))) false (.n2 (.bin .neq) (.slot 3) (.lit (.int .i64 0)))),
    .need (.n3 .pick (.n3 .pick (.n2 (.pnil false) (.slot 1) (.lit (.pointer none))) (.lit (.bool true)) (.n2 (.pnil false) (.slot 2) (.lit (.pointer none)))) (.lit (.bool true)) (.n2 (.bin .neq) (.slot 3) (.lit (.int .i64 0)))),
    .asg 30 (.n3 .pick (.n3 .pick (.n2 (.pnil false) (.slot 1) (.lit (.pointer none))) (.lit (.bool true)) (.n2 (.pnil false) (.slot 2) (.lit (.pointer none)))) (.lit (.bool true)) (.n2 (.bin .neq) (.slot 3) (.lit (.int .i64 0))))])
  (.cond (.slot 30)
    (.seq
    (.reg [.asg 0 (.lit (.bool false))])
    .ret)
    .skip))
  h43_1))))
theorem k43 : fnOK Try.prog 81129639510368328736311882350591 [] [.tmp 0] 0 Try.f43 = some h43 := by kernel_rfl
theorem c43 : callable Try.prog 43 = true := by kernel_rfl
theorem q43 {args : List Value} (ha : args.length = 0) {w : World} {next : Value → World → Prop} {QP : List PanicEntry → World → Prop} (H : hw Try.prog noPanic h43 (endV [.tmp 0] next) (σ0 args) w) : callK Try.prog 43 args w next QP := fn_rule Try.func43 mixed k43 ha H
theorem r43 {args : List Value} (ha : args.length = 0) {w : World} {next : Value → World → Prop} {QP : List PanicEntry → World → Prop} (H : hw Try.prog noPanic h43 (endV [.tmp 0] next) (σ0 args) w) : callvK Try.prog (.func (.func 43) #[] #[]) args w next QP := callf c43 (q43 ha H)

/- missive/journal.Open -/
def h44_5 : HC :=
  (.seq
  (.reg [.need (.n1 .lensl (.slot 9)),
    .need (.n1 .nilchk (.slot 8)),
    .need (.n1 (.faddr 2) (.n1 .nilchk (.slot 8))),
    .eff none (.store 40 (.tmp 84) (.tmp 80)) 0 [(84, .n1 (.faddr 2) (.n1 .nilchk (.slot 8))), (80, .slot 9)] none [],
    .need (.n1 .nilchk (.slot 8)),
    .need (.n1 (.faddr 3) (.n1 .nilchk (.slot 8))),
    .eff none (.store 3 (.tmp 86) (.tmp 82)) 0 [(86, .n1 (.faddr 3) (.n1 .nilchk (.slot 8))), (82, .n1 .lensl (.slot 9))] none []])
  (.seq
  (.reg [.asg 4 (.slot 8),
    .asg 5 (.lit (.int .i64 0))])
  .ret))
def h44_4 : HC :=
  (.seq
  (.reg [.need (.n1 .nilchk (.slot 8)),
    .need (.n1 (.faddr 4) (.n1 .nilchk (.slot 8))),
    .need (.n1 .ld (.n1 (.faddr 4) (.n1 .nilchk (.slot 8)))),
    .need (.n3 (.sls true true) (.slot 6) (.lit (.int .i64 16)) (.n1 .ld (.n1 (.faddr 4) (.n1 .nilchk (.slot 8))))),
    .eff (some 65) (.call { callee := .value (.func 81), args := #[.tmp 64], argTypes := #[9] }) 58 [(64, .n3 (.sls true true) (.slot 6) (.lit (.int .i64 16)) (.n1 .ld (.n1 (.faddr 4) (.n1 .nilchk (.slot 8)))))] none [],
    .need (.n1 (.ext 0) (.slot 65)),
    .need (.n1 (.ext 1) (.slot 65)),
    .asg 9 (.n1 (.ext 0) (.slot 65)),
    .asg 10 (.n1 (.ext 1) (.slot 65))])
  (.seq
  (.seq
  (.reg [.need (.n1 .bnot (.slot 10)),
    .need (.gif (.n1 .bnot (.slot 10)) false (.n1 .lensl (.slot 9))),
    .need (.gif (.n1 .bnot (.slot 10)) false (.n3 (.sls true false) (.slot 6) (.lit (.int .i64 8)) (.lit (.tuple #[])))),
    .eff (some 75) (.call { callee := .value (.func 80), args := #[.tmp 74], argTypes := #[9] }) 3 [(74, .n3 (.sls true false) (.slot 6) (.lit (.int .i64 8)) (.lit (.tuple #[])))] (some (.n1 .bnot (.slot 10), false)) [],
    .need (.gif (.n1 .bnot (.slot 10)) false (.n2 (.bin .neq) (.n1 .lensl (.slot 9)) (.slot 75))),
    .need (.n3 .pick (.n1 .bnot (.slot 10)) (.lit (.bool true)) (.n2 (.bin .neq) (.n1 .lensl (.slot 9)) (.slot 75))),
    .asg 77 (.n3 .pick (.n1 .bnot (.slot 10)) (.lit (.bool true)) (.n2 (.bin .neq) (.n1 .lensl (.slot 9)) (.slot 75)))])
  (.cond (.slot 77)
    (.seq
    (.reg [.asg 4 (.lit (.pointer none)),
      .asg 5 (.lit (.int .i64 2))])
    .ret)
    .skip))
  h44_5))
def h44_3 : HC :=
  (.seq
  (.reg [.eff (some 41) (.call { callee := .value (.func 80), args := #[.tmp 40], argTypes := #[9] }) 3 [(40, .slot 6)] none [],
    .need (.n1 .nilchk (.slot 8)),
    .need (.n1 (.faddr 4) (.n1 .nilchk (.slot 8))),
    .eff none (.store 3 (.tmp 43) (.tmp 41)) 0 [(43, .n1 (.faddr 4) (.n1 .nilchk (.slot 8))), (41, .slot 41)] none []])
  (.seq
  (.seq
  (.reg [.need (.n1 .nilchk (.slot 8)),
    .need (.n1 (.faddr 4) (.n1 .nilchk (.slot 8))),
    .need (.n1 .ld (.n1 (.faddr 4) (.n1 .nilchk (.slot 8)))),
    .need (.n2 (.bin .lss) (.n1 .ld (.n1 (.faddr 4) (.n1 .nilchk (.slot 8)))) (.lit (.int .i64 16))),
    .need (.gif (.n2 (.bin .lss) (.n1 .ld (.n1 (.faddr 4) (.n1 .nilchk (.slot 8)))) (.lit (.int .i64 16))) false (.n1 .nilchk (.slot 8))),
    .need (.gif (.n2 (.bin .lss) (.n1 .ld (.n1 (.faddr 4) (.n1 .nilchk (.slot 8)))) (.lit (.int .i64 16))) false (.n1 (.faddr 4) (.n1 .nilchk (.slot 8)))),
    .need (.gif (.n2 (.bin .lss) (.n1 .ld (.n1 (.faddr 4) (.n1 .nilchk (.slot 8)))) (.lit (.int .i64 16))) false (.n1 .ld (.n1 (.faddr 4) (.n1 .nilchk (.slot 8))))),
    .need (.gif (.n2 (.bin .lss) (.n1 .ld (.n1 (.faddr 4) (.n1 .nilchk (.slot 8)))) (.lit (.int .i64 16))) false (.n1 .lens (.slot 6))),
    .need (.gif (.n2 (.bin .lss) (.n1 .ld (.n1 (.faddr 4) (.n1 .nilchk (.slot 8)))) (.lit (.int .i64 16))) false (.n2 (.bin .gtr) (.n1 .ld (.n1 (.faddr 4) (.n1 .nilchk (.slot 8)))) (.n1 .lens (.slot 6)))),
    .need (.n3 .pick (.n2 (.bin .lss) (.n1 .ld (.n1 (.faddr 4) (.n1 .nilchk (.slot 8)))) (.lit (.int .i64 16))) (.lit (.bool true)) (.n2 (.bin .gtr) (.n1 .ld (.n1 (.faddr 4) (.n1 .nilchk (.slot 8)))) (.n1 .lens (.slot 6)))),
    .asg 57 (.n3 .pick (.n2 (.bin .lss) (.n1 .ld (.n1 (.faddr 4) (.n1 .nilchk (.slot 8)))) (.lit (.int .i64 16))) (.lit (.bool true)) (.n2 (.bin .gtr) (.n1 .ld (.n1 (.faddr 4) (.n1 .nilchk (.slot 8)))) (.n1 .lens (.slot 6))))])
  (.cond (.slot 57)
    (.seq
    (.reg [.asg 4 (.lit (.pointer none)),
      .asg 5 (.lit (.int .i64 2))])
    .ret)
    .skip))
  h44_4))
def h44_2 : HC :=
  (.seq
  (.reg [.need (.n2 (.put 0 1) (.lit (.agg #[(.pointer none), (.int .i64 0), (.slice none 0 0), (.int .i64 0), (.int .i64 0)])) (.slot 0)),
    .need (.n2 (.put 1 1) (.n2 (.put 0 1) (.lit (.agg #[(.pointer none), (.int .i64 0), (.slice none 0 0), (.int .i64 0), (.int .i64 0)])) (.slot 0)) (.slot 1)),
    .need (.n2 (.put 4 1) (.n2 (.put 1 1) (.n2 (.put 0 1) (.lit (.agg #[(.pointer none), (.int .i64 0), (.slice none 0 0), (.int .i64 0), (.int .i64 0)])) (.slot 0)) (.slot 1)) (.lit (.int .i64 16))),
    .eff (some 29) (.box 102 (.tmp 28)) 55 [(28, .n2 (.put 4 1) (.n2 (.put 1 1) (.n2 (.put 0 1) (.lit (.agg #[(.pointer none), (.int .i64 0), (.slice none 0 0), (.int .i64 0), (.int .i64 0)])) (.slot 0)) (.slot 1)) (.lit (.int .i64 16)))] none [],
    .asg 8 (.slot 29)])
  (.seq
  (.seq
  (.reg [.need (.n1 .lens (.slot 6)),
    .need (.n2 (.bin .lss) (.n1 .lens (.slot 6)) (.lit (.int .i64 16))),
    .eff (some 35) (.call { callee := .value (.func 80), args := #[.tmp 34], argTypes := #[9] }) 3 [(34, .slot 6)] (some (.n2 (.bin .lss) (.n1 .lens (.slot 6)) (.lit (.int .i64 16)), false)) [],
    .need (.gif (.n2 (.bin .lss) (.n1 .lens (.slot 6)) (.lit (.int .i64 16))) false (.n2 (.bin .eql) (.slot 35) (.lit (.int .i64 0)))),
    .need (.n3 .pick (.n2 (.bin .lss) (.n1 .lens (.slot 6)) (.lit (.int .i64 16))) (.lit (.bool true)) (.n2 (.bin .eql) (.slot 35) (.lit (.int .i64 0)))),
    .asg 37 (.n3 .pick (.n2 (.bin .lss) (.n1 .lens (.slot 6)) (.lit (.int .i64 16))) (.lit (.bool true)) (.n2 (.bin .eql) (.slot 35) (.lit (.int .i64 0))))])
  (.cond (.slot 37)
    (.seq
    (.reg [.asg 4 (.slot 8),
      .asg 5 (.lit (.int .i64 0))])
    .ret)
    .skip))
  h44_3))
def h44_1 : HC :=
  (.seq
  (.reg [.eff (some 20) (.call { callee := .value (.func 23), args := #[.tmp 18, .tmp 19], argTypes := #[24, 3] }) 31 [(18, .slot 0), (19, .slot 1)] none [],
    .need (.n1 (.ext 0) (.slot 20)),
    .need (.n1 (.ext 1) (.slot 20)),
    .asg 6 (.n1 (.ext 0) (.slot 20)),
    .asg 7 (.n1 (.ext 1) (.slot 20))])
  (.seq
  (.seq
  (.reg [.need (.n2 (.bin .neq) (.slot 7) (.lit (.int .i64 0))),
    .asg 24 (.n2 (.bin .neq) (.slot 7) (.lit (.int .i64 0)))])
  (.cond (.slot 24)
    (.seq
    (.reg [.asg 4 (.lit (.pointer none)),
      .asg 5 (.slot 7)])
    .ret)
    .skip))
  h44_2))
def h44 : HC :=
  (.seq
  (.reg [.asg 4 (.lit (.pointer none)),
    .asg 5 (.lit (.int .i64 0))])
  (.seq
  (.seq
  (.reg [.need (.n2 (.bin .lss) (.slot 1) (.lit (.int .i64 0))),
    .need (.gif (.n2 (.bin .lss) (.slot 1) (.lit (.int .i64 0))) false (.n2 (.bin .gtr) (.slot 1) (.lit (.int .i64 6)))),
    .need (.n3 .pick (.n2 (.bin .lss) (.slot 1) (.lit (.int .i64 0))) (.lit (.bool true)) (.n2 (.bin .gtr) (.slot 1) (.lit (.int .i64 6)))),
    .asg 16 (.n3 .pick (.n2 (.bin .lss) (.slot 1) (.lit (.int .i64 0))) (.lit (.bool true)) (.n2 (.bin .gtr) (.slot 1) (.lit (.int .i64 6))))])
  (.cond (.slot 16)
    (.seq
    (.reg [.asg 4 (.lit (.pointer none)),
      .asg 5 (.lit (.int .i64 1))])
    .ret)
    .skip))
  h44_1))
theorem k44 : fnOK Try.prog 188931696920492680218611 [] [.tmp 4, .tmp 5] 2 Try.f44 = some h44 := by kernel_rfl
theorem c44 : callable Try.prog 44 = true := by kernel_rfl
theorem q44 {args : List Value} (ha : args.length = 2) {w : World} {next : Value → World → Prop} {QP : List PanicEntry → World → Prop} (H : hw Try.prog noPanic h44 (endV [.tmp 4, .tmp 5] next) (σ0 args) w) : callK Try.prog 44 args w next QP := fn_rule Try.func44 mixed k44 ha H
theorem r44 {args : List Value} (ha : args.length = 2) {w : World} {next : Value → World → Prop} {QP : List PanicEntry → World → Prop} (H : hw Try.prog noPanic h44 (endV [.tmp 4, .tmp 5] next) (σ0 args) w) : callvK Try.prog (.func (.func 44) #[] #[]) args w next QP := callf c44 (q44 ha H)

/- missive/missiveref06.Rows -/
def h45_6 : HC :=
  (.seq
  (.reg [.eff (some 100) (.buildSlice 40 1 #[(0, .tmp 99)]) 40 [(99, .slot 14)] none [],
    .eff (some 101) (.call { callee := .builtin .append, args := #[.tmp 98, .tmp 100], argTypes := #[40, 40] }) 40 [(98, .slot 8), (100, .slot 100)] none [],
    .asg 8 (.slot 101)])
  (.reg [.need (.n2 (.bin .add) (.slot 9) (.lit (.int .i64 16))),
    .need (.n2 (.bin .add) (.n2 (.bin .add) (.slot 9) (.lit (.int .i64 16))) (.slot 10)),
    .asg 9 (.n2 (.bin .add) (.n2 (.bin .add) (.slot 9) (.lit (.int .i64 16))) (.slot 10))]))
def h45_5 : HC :=
  (.seq
  (.reg [.need (.n2 (.bin .add) (.slot 9) (.lit (.int .i64 16))),
    .need (.n2 (.bin .add) (.slot 9) (.lit (.int .i64 16))),
    .need (.n2 (.bin .add) (.n2 (.bin .add) (.slot 9) (.lit (.int .i64 16))) (.slot 10)),
    .need (.n3 (.sls true true) (.slot 0) (.n2 (.bin .add) (.slot 9) (.lit (.int .i64 16))) (.n2 (.bin .add) (.n2 (.bin .add) (.slot 9) (.lit (.int .i64 16))) (.slot 10))),
    .asg 14 (.n3 (.sls true true) (.slot 0) (.n2 (.bin .add) (.slot 9) (.lit (.int .i64 16))) (.n2 (.bin .add) (.n2 (.bin .add) (.slot 9) (.lit (.int .i64 16))) (.slot 10)))])
  (.seq
  (.seq
  (.reg [.eff (some 95) (.call { callee := .value (.func 83), args := #[.tmp 94], argTypes := #[9] }) 3 [(94, .slot 14)] none [],
    .need (.n2 (.bin .neq) (.slot 95) (.slot 12)),
    .asg 97 (.n2 (.bin .neq) (.slot 95) (.slot 12))])
  (.cond (.slot 97)
    (.seq
    (.reg [.asg 2 (.lit (.slice none 0 0)),
      .asg 3 (.lit (.bool false))])
    .ret)
    .skip))
  h45_6))
def h45_4 : HC :=
  (.block 1
    (.seq
    (.reg [.need (.n3 (.sls false true) (.slot 0) (.lit (.tuple #[])) (.slot 4)),
      .eff (some 51) (.call { callee := .value (.func 82), args := #[.tmp 49, .tmp 50], argTypes := #[9, 3] }) 104 [(49, .n3 (.sls false true) (.slot 0) (.lit (.tuple #[])) (.slot 4)), (50, .slot 9)] none [],
      .need (.n1 (.ext 0) (.slot 51)),
      .need (.n1 (.ext 1) (.slot 51)),
      .asg 10 (.n1 (.ext 0) (.slot 51)),
      .asg 11 (.n1 (.ext 1) (.slot 51))])
    (.seq
    (.reg [.need (.n3 (.sls false true) (.slot 0) (.lit (.tuple #[])) (.slot 4)),
      .need (.n2 (.bin .add) (.slot 9) (.lit (.int .i64 8))),
      .eff (some 60) (.call { callee := .value (.func 82), args := #[.tmp 57, .tmp 59], argTypes := #[9, 3] }) 104 [(57, .n3 (.sls false true) (.slot 0) (.lit (.tuple #[])) (.slot 4)), (59, .n2 (.bin .add) (.slot 9) (.lit (.int .i64 8)))] none [],
      .need (.n1 (.ext 0) (.slot 60)),
      .need (.n1 (.ext 1) (.slot 60)),
      .asg 12 (.n1 (.ext 0) (.slot 60)),
      .asg 13 (.n1 (.ext 1) (.slot 60))])
    (.seq
    (.seq
    (.reg [.need (.n1 .bnot (.slot 11)),
      .need (.gif (.n1 .bnot (.slot 11)) false (.n1 .bnot (.slot 13))),
      .need (.n3 .pick (.n1 .bnot (.slot 11)) (.lit (.bool true)) (.n1 .bnot (.slot 13))),
      .need (.gif (.n3 .pick (.n1 .bnot (.slot 11)) (.lit (.bool true)) (.n1 .bnot (.slot 13))) false (.n2 (.bin .lss) (.slot 10) (.lit (.int .i64 0)))),
      .need (.n3 .pick (.n3 .pick (.n1 .bnot (.slot 11)) (.lit (.bool true)) (.n1 .bnot (.slot 13))) (.lit (.bool true)) (.n2 (.bin .lss) (.slot 10) (.lit (.int .i64 0)))),
      .need (.gif (.n3 .pick (.n3 .pick (.n1 .bnot (.slot 11)) (.lit (.bool true)) (.n1 .bnot (.slot 13))) (.lit (.bool true)) (.n2 (.bin .lss) (.slot 10) (.lit (.int .i64 0)))) false (.n2 (.bin .gtr) (.slot 10) (.slot 4))),
      .need (.n3 .pick (.n3 .pick (.n3 .pick (.n1 .bnot (.slot 11)) (.lit (.bool true)) (.n1 .bnot (.slot 13))) (.lit (.bool true)) (.n2 (.bin .lss) (.slot 10) (.lit (.int .i64 0)))) (.lit (.bool true)) (.n2 (.bin .gtr) (.slot 10) (.slot 4))),
      .need (.gif (.n3 .pick (.n3 .pick (.n3 .pick (.n1 .bnot (.slot 11)) (.lit (.bool true)) (.n1 .bnot (.slot 13))) (.lit (.bool true)) (.n2 (.bin .lss) (.slot 10) (.lit (.int .i64 0)))) (.lit (.bool true)) (.n2 (.bin .gtr) (.slot 10) (.slot 4))) false (.n2 (.bin .add) (.slot 9) (.lit (.int .i64 16)))),
      .need (.gif (.n3 .pick (.n3 .pick (.n3 .pick (.n1 .bnot (.slot 11)) (.lit (.bool true)) (.n1 .bnot (.slot 13))) (.lit (.bool true)) (.n2 (.bin .lss) (.slot 10) (.lit (.int .i64 0)))) (.lit (.bool true)) (.n2 (.bin .gtr) (.slot 10) (.slot 4))) false (.n2 (.bin .add) (.n2 (.bin .add) (.slot 9) (.lit (.int .i64 16))) (.slot 10))),
      .need (.gif (.n3 .pick (.n3 .pick (.n3 .pick (.n1 .bnot (.slot 11)) (.lit (.bool true)) (.n1 .bnot (.slot 13))) (.lit (.bool true)) (.n2 (.bin .lss) (.slot 10) (.lit (.int .i64 0)))) (.lit (.bool true)) (.n2 (.bin .gtr) (.slot 10) (.slot 4))) false (.n2 (.bin .gtr) (.n2 (.bin .add) (.n2 (.bin .add) (.slot 9) (.lit (.int .i64 16))) (.slot 10)) (.slot 4))),
      .need (.n3 .pick (.n3 .pick (.n3 .pick (.n3 .pick (.n1 .bnot (.slot 11)) (.lit (.bool true)) (.n1 .bnot (.slot 13))) (.lit (.bool true)) (.n2 (.bin .lss) (.slot 10) (.lit (.int .i64 0)))) (.lit (.bool true)) (.n2 (.bin .gtr) (.slot 10) (.slot 4))) (.lit (.bool true)) (.n2 (.bin .gtr) (.n2 (.bin .add) (.n2 (.bin .add) (.slot 9) (.lit (.int .i64 16))) (.slot 10)) (.slot 4))),
      .asg 85 (.n3 .pick (.n3 .pick (.n3 .pick (.n3 .pick (.n1 .bnot (.slot 11)) (.lit (.bool true)) (.n1 .bnot (.slot 13))) (.lit (.bool true)) (.n2 (.bin .lss) (.slot 10) (.lit (.int .i64 0)))) (.lit (.bool true)) (.n2 (.bin .gtr) (.slot 10) (.slot 4))) (.lit (.bool true)) (.n2 (.bin .gtr) (.n2 (.bin .add) (.n2 (.bin .add) (.slot 9) (.lit (.int .i64 16))) (.slot 10)) (.slot 4)))])
    (.cond (.slot 85)
      (.seq
      (.reg [.asg 2 (.lit (.slice none 0 0)),
        .asg 3 (.lit (.bool false))])
      .ret)
      .skip))
    h45_5))))
def h45_3 : HC :=
  (.seq
  (.seq
  (.reg [.need (.n2 (.bin .lss) (.slot 9) (.slot 4)),
    .asg 45 (.n2 (.bin .lss) (.slot 9) (.slot 4))])
  (.cond (.slot 45)
    .skip
    (.exit 0)))
  h45_4)
def h45_7 : HC :=
  (.seq
  (.reg [.need (.n1 .lensl (.slot 8)),
    .need (.n2 (.bin .eql) (.n1 .lensl (.slot 8)) (.slot 6)),
    .asg 2 (.slot 8),
    .asg 3 (.n2 (.bin .eql) (.n1 .lensl (.slot 8)) (.slot 6))])
  .ret)
def h45_2 : HC :=
  (.seq
  (.reg [.asg 8 (.lit (.slice none 0 0))])
  (.seq
  (.reg [.asg 9 (.lit (.int .i64 16))])
  (.seq
  (.block 0
    (.loop
      h45_3))
  h45_7)))
def h45_1 : HC :=
  (.seq
  (.seq
  (.reg [.need (.n2 (.bin .lss) (.slot 4) (.lit (.int .i64 16))),
    .need (.gif (.n2 (.bin .lss) (.slot 4) (.lit (.int .i64 16))) false (.n1 .lens (.slot 0))),
    .need (.gif (.n2 (.bin .lss) (.slot 4) (.lit (.int .i64 16))) false (.n2 (.bin .gtr) (.slot 4) (.n1 .lens (.slot 0)))),
    .need (.n3 .pick (.n2 (.bin .lss) (.slot 4) (.lit (.int .i64 16))) (.lit (.bool true)) (.n2 (.bin .gtr) (.slot 4) (.n1 .lens (.slot 0)))),
    .asg 42 (.n3 .pick (.n2 (.bin .lss) (.slot 4) (.lit (.int .i64 16))) (.lit (.bool true)) (.n2 (.bin .gtr) (.slot 4) (.n1 .lens (.slot 0))))])
  (.cond (.slot 42)
    (.seq
    (.reg [.asg 2 (.lit (.slice none 0 0)),
      .asg 3 (.lit (.bool false))])
    .ret)
    .skip))
  h45_2)
def h45 : HC :=
  (.seq
  (.reg [.asg 2 (.lit (.slice none 0 0)),
    .asg 3 (.lit (.bool false))])
  (.seq
  (.reg [.eff (some 17) (.call { callee := .value (.func 82), args := #[.tmp 16, .const (.int .i64 0)], argTypes := #[9, 3] }) 104 [(16, .slot 0)] none [],
    .need (.n1 (.ext 0) (.slot 17)),
    .need (.n1 (.ext 1) (.slot 17)),
    .asg 4 (.n1 (.ext 0) (.slot 17)),
    .asg 5 (.n1 (.ext 1) (.slot 17))])
  (.seq
  (.reg [.eff (some 22) (.call { callee := .value (.func 82), args := #[.tmp 21, .const (.int .i64 8)], argTypes := #[9, 3] }) 104 [(21, .slot 0)] none [],
    .need (.n1 (.ext 0) (.slot 22)),
    .need (.n1 (.ext 1) (.slot 22)),
    .asg 6 (.n1 (.ext 0) (.slot 22)),
    .asg 7 (.n1 (.ext 1) (.slot 22))])
  (.seq
  (.seq
  (.reg [.need (.n1 .bnot (.slot 5)),
    .need (.gif (.n1 .bnot (.slot 5)) false (.n1 .bnot (.slot 7))),
    .need (.n3 .pick (.n1 .bnot (.slot 5)) (.lit (.bool true)) (.n1 .bnot (.slot 7))),
    .need (.gif (.n3 .pick (.n1 .bnot (.slot 5)) (.lit (.bool true)) (.n1 .bnot (.slot 7))) false (.n2 (.bin .eql) (.slot 4) (.lit (.int .i64 0)))),
    .need (.n3 .pick (.n3 .pick (.n1 .bnot (.slot 5)) (.lit (.bool true)) (.n1 .bnot (.slot 7))) (.lit (.bool true)) (.n2 (.bin .eql) (.slot 4) (.lit (.int .i64 0)))),
    .asg 34 (.n3 .pick (.n3 .pick (.n1 .bnot (.slot 5)) (.lit (.bool true)) (.n1 .bnot (.slot 7))) (.lit (.bool true)) (.n2 (.bin .eql) (.slot 4) (.lit (.int .i64 0))))])
  (.cond (.slot 34)
    (.seq
    (.reg [.asg 2 (.lit (.slice none 0 0)),
      .asg 3 (.lit (.bool true))])
    .ret)
    .skip))
  h45_1))))
theorem k45 : fnOK Try.prog 4001060892597731929511583449085 [] [.tmp 2, .tmp 3] 1 Try.f45 = some h45 := by kernel_rfl
theorem c45 : callable Try.prog 45 = true := by kernel_rfl
theorem q45 {args : List Value} (ha : args.length = 1) {w : World} {next : Value → World → Prop} {QP : List PanicEntry → World → Prop} (H : hw Try.prog noPanic h45 (endV [.tmp 2, .tmp 3] next) (σ0 args) w) : callK Try.prog 45 args w next QP := fn_rule Try.func45 mixed k45 ha H
theorem r45 {args : List Value} (ha : args.length = 1) {w : World} {next : Value → World → Prop} {QP : List PanicEntry → World → Prop} (H : hw Try.prog noPanic h45 (endV [.tmp 2, .tmp 3] next) (σ0 args) w) : callvK Try.prog (.func (.func 45) #[] #[]) args w next QP := callf c45 (q45 ha H)

/- missive/missiveref06.Same -/
def h46_4 : HC :=
  (.reg [.need (.n2 (.bin .add) (.slot 5) (.lit (.int .i64 1))),
    .asg 5 (.n2 (.bin .add) (.slot 5) (.lit (.int .i64 1)))])
def h46_3 : HC :=
  (.seq
  (.block 1
    (.seq
    (.draw [.need (.n2 (.iaddr 1) (.slot 0) (.slot 5)),
      .need (.n1 .ld (.n2 (.iaddr 1) (.slot 0) (.slot 5))),
      .need (.n2 (.iaddr 1) (.slot 1) (.slot 5)),
      .need (.n1 .ld (.n2 (.iaddr 1) (.slot 1) (.slot 5))),
      .need (.n2 (.sbin .neq) (.n1 .ld (.n2 (.iaddr 1) (.slot 0) (.slot 5))) (.n1 .ld (.n2 (.iaddr 1) (.slot 1) (.slot 5)))),
      .asg 25 (.n2 (.sbin .neq) (.n1 .ld (.n2 (.iaddr 1) (.slot 0) (.slot 5))) (.n1 .ld (.n2 (.iaddr 1) (.slot 1) (.slot 5))))])
    (.cond (.slot 25)
      (.seq
      (.reg [.asg 4 (.lit (.bool false))])
      .ret)
      .skip)))
  h46_4)
def h46_2 : HC :=
  (.seq
  (.seq
  (.reg [.need (.n1 .lensl (.slot 0)),
    .need (.n2 (.bin .lss) (.slot 5) (.n1 .lensl (.slot 0))),
    .asg 14 (.n2 (.bin .lss) (.slot 5) (.n1 .lensl (.slot 0)))])
  (.cond (.slot 14)
    .skip
    (.exit 0)))
  h46_3)
def h46_5 : HC :=
  (.seq
  (.reg [.asg 4 (.lit (.bool true))])
  .ret)
def h46_1 : HC :=
  (.seq
  (.seq
  (.reg [.asg 5 (.lit (.int .i64 0))])
  (.block 0
    (.loop
      h46_2)))
  h46_5)
def h46 : HC :=
  (.seq
  (.reg [.asg 4 (.lit (.bool false))])
  (.seq
  (.seq
  (.reg [.need (.n1 .lensl (.slot 0)),
    .need (.n1 .lensl (.slot 1)),
    .need (.n2 (.bin .neq) (.n1 .lensl (.slot 0)) (.n1 .lensl (.slot 1))),
    .asg 10 (.n2 (.bin .neq) (.n1 .lensl (.slot 0)) (.n1 .lensl (.slot 1)))])
  (.cond (.slot 10)
    (.seq
    (.reg [.asg 4 (.lit (.bool false))])
    .ret)
    .skip))
  h46_1))
theorem k46 : fnOK Try.prog 33571891 [⟨6, [0, 0, 3, 7, 0, 0, 48, 112, 255], [(0, []), (1, []), (2, []), (3, []), (4, []), (5, []), (6, []), (7, []), (8, [])], none⟩] [.tmp 4] 2 Try.f46 = some h46 := by kernel_rfl
theorem c46 : callable Try.prog 46 = true := by kernel_rfl
theorem q46 {args : List Value} (ha : args.length = 2) {w : World} {next : Value → World → Prop} {QP : List PanicEntry → World → Prop} (H : hw Try.prog noPanic h46 (endV [.tmp 4] next) (σ0 args) w) : callK Try.prog 46 args w next QP := fn_rule Try.func46 mixed k46 ha H
theorem r46 {args : List Value} (ha : args.length = 2) {w : World} {next : Value → World → Prop} {QP : List PanicEntry → World → Prop} (H : hw Try.prog noPanic h46 (endV [.tmp 4] next) (σ0 args) w) : callvK Try.prog (.func (.func 46) #[] #[]) args w next QP := callf c46 (q46 ha H)

/- (*missive/journal.Log).All -/
def h47 : HC :=
  (.seq
  (.reg [.asg 2 (.lit (.slice none 0 0))])
  (.seq
  (.reg [.need (.n1 .nilchk (.slot 0)),
    .need (.n1 (.faddr 2) (.n1 .nilchk (.slot 0))),
    .need (.n1 .ld (.n1 (.faddr 2) (.n1 .nilchk (.slot 0)))),
    .eff (some 7) (.call { callee := .value (.func 84), args := #[.tmp 6], argTypes := #[40] }) 40 [(6, .n1 .ld (.n1 (.faddr 2) (.n1 .nilchk (.slot 0))))] none [],
    .asg 2 (.slot 7)])
  .ret))
theorem k47 : fnOK Try.prog 133 [] [.tmp 2] 1 Try.f47 = some h47 := by kernel_rfl
theorem c47 : callable Try.prog 47 = true := by kernel_rfl
theorem q47 {args : List Value} (ha : args.length = 1) {w : World} {next : Value → World → Prop} {QP : List PanicEntry → World → Prop} (H : hw Try.prog noPanic h47 (endV [.tmp 2] next) (σ0 args) w) : callK Try.prog 47 args w next QP := fn_rule Try.func47 mixed k47 ha H
theorem r47 {args : List Value} (ha : args.length = 1) {w : World} {next : Value → World → Prop} {QP : List PanicEntry → World → Prop} (H : hw Try.prog noPanic h47 (endV [.tmp 2] next) (σ0 args) w) : callvK Try.prog (.func (.func 47) #[] #[]) args w next QP := callf c47 (q47 ha H)

/- missive/missivelaw06.few -/
def h48_7 : HC :=
  (.reg [.need (.n2 (.bin .add) (.slot 4) (.lit (.int .i64 1))),
    .asg 4 (.n2 (.bin .add) (.slot 4) (.lit (.int .i64 1)))])
def h48_6 : HC :=
  (.seq
  (.block 3
    (.seq
    (.reg [.need (.n2 (.iaddr 5) (.slot 0) (.slot 3)),
      .need (.n1 (.faddr 2) (.n2 (.iaddr 5) (.slot 0) (.slot 3))),
      .need (.n1 .ld (.n1 (.faddr 2) (.n2 (.iaddr 5) (.slot 0) (.slot 3)))),
      .need (.n2 (.iaddr 1) (.n1 .ld (.n1 (.faddr 2) (.n2 (.iaddr 5) (.slot 0) (.slot 3)))) (.slot 4)),
      .need (.n1 .ld (.n2 (.iaddr 1) (.n1 .ld (.n1 (.faddr 2) (.n2 (.iaddr 5) (.slot 0) (.slot 3)))) (.slot 4))),
      .need (.n1 .lens (.n1 .ld (.n2 (.iaddr 1) (.n1 .ld (.n1 (.faddr 2) (.n2 (.iaddr 5) (.slot 0) (.slot 3)))) (.slot 4)))),
      .need (.n2 (.bin .gtr) (.n1 .lens (.n1 .ld (.n2 (.iaddr 1) (.n1 .ld (.n1 (.faddr 2) (.n2 (.iaddr 5) (.slot 0) (.slot 3)))) (.slot 4)))) (.lit (.int .i64 200))),
      .asg 58 (.n2 (.bin .gtr) (.n1 .lens (.n1 .ld (.n2 (.iaddr 1) (.n1 .ld (.n1 (.faddr 2) (.n2 (.iaddr 5) (.slot 0) (.slot 3)))) (.slot 4)))) (.lit (.int .i64 200)))])
    (.cond (.slot 58)
      (.seq
      (.reg [.asg 2 (.lit (.bool false))])
      .ret)
      .skip)))
  h48_7)
def h48_5 : HC :=
  (.seq
  (.seq
  (.reg [.need (.n2 (.iaddr 5) (.slot 0) (.slot 3)),
    .need (.n1 (.faddr 2) (.n2 (.iaddr 5) (.slot 0) (.slot 3))),
    .need (.n1 .ld (.n1 (.faddr 2) (.n2 (.iaddr 5) (.slot 0) (.slot 3)))),
    .need (.n1 .lensl (.n1 .ld (.n1 (.faddr 2) (.n2 (.iaddr 5) (.slot 0) (.slot 3))))),
    .need (.n2 (.bin .lss) (.slot 4) (.n1 .lensl (.n1 .ld (.n1 (.faddr 2) (.n2 (.iaddr 5) (.slot 0) (.slot 3)))))),
    .asg 46 (.n2 (.bin .lss) (.slot 4) (.n1 .lensl (.n1 .ld (.n1 (.faddr 2) (.n2 (.iaddr 5) (.slot 0) (.slot 3))))))])
  (.cond (.slot 46)
    .skip
    (.exit 2)))
  h48_6)
def h48_4 : HC :=
  (.seq
  (.reg [.asg 4 (.lit (.int .i64 0))])
  (.block 2
    (.loop
      h48_5)))
def h48_8 : HC :=
  (.reg [.need (.n2 (.bin .add) (.slot 3) (.lit (.int .i64 1))),
    .asg 3 (.n2 (.bin .add) (.slot 3) (.lit (.int .i64 1)))])
def h48_3 : HC :=
  (.seq
  (.block 1
    (.seq
    (.seq
    (.reg [.need (.n2 (.iaddr 5) (.slot 0) (.slot 3)),
      .need (.n1 (.faddr 1) (.n2 (.iaddr 5) (.slot 0) (.slot 3))),
      .need (.n1 .ld (.n1 (.faddr 1) (.n2 (.iaddr 5) (.slot 0) (.slot 3)))),
      .need (.n1 .lens (.n1 .ld (.n1 (.faddr 1) (.n2 (.iaddr 5) (.slot 0) (.slot 3))))),
      .need (.n2 (.bin .gtr) (.n1 .lens (.n1 .ld (.n1 (.faddr 1) (.n2 (.iaddr 5) (.slot 0) (.slot 3))))) (.lit (.int .i64 200))),
      .need (.gif (.n2 (.bin .gtr) (.n1 .lens (.n1 .ld (.n1 (.faddr 1) (.n2 (.iaddr 5) (.slot 0) (.slot 3))))) (.lit (.int .i64 200))) false (.n2 (.iaddr 5) (.slot 0) (.slot 3))),
      .need (.gif (.n2 (.bin .gtr) (.n1 .lens (.n1 .ld (.n1 (.faddr 1) (.n2 (.iaddr 5) (.slot 0) (.slot 3))))) (.lit (.int .i64 200))) false (.n1 (.faddr 2) (.n2 (.iaddr 5) (.slot 0) (.slot 3)))),
      .need (.gif (.n2 (.bin .gtr) (.n1 .lens (.n1 .ld (.n1 (.faddr 1) (.n2 (.iaddr 5) (.slot 0) (.slot 3))))) (.lit (.int .i64 200))) false (.n1 .ld (.n1 (.faddr 2) (.n2 (.iaddr 5) (.slot 0) (.slot 3))))),
      .need (.gif (.n2 (.bin .gtr) (.n1 .lens (.n1 .ld (.n1 (.faddr 1) (.n2 (.iaddr 5) (.slot 0) (.slot 3))))) (.lit (.int .i64 200))) false (.n1 .lensl (.n1 .ld (.n1 (.faddr 2) (.n2 (.iaddr 5) (.slot 0) (.slot 3)))))),
      .need (.gif (.n2 (.bin .gtr) (.n1 .lens (.n1 .ld (.n1 (.faddr 1) (.n2 (.iaddr 5) (.slot 0) (.slot 3))))) (.lit (.int .i64 200))) false (.n2 (.bin .gtr) (.n1 .lensl (.n1 .ld (.n1 (.faddr 2) (.n2 (.iaddr 5) (.slot 0) (.slot 3))))) (.lit (.int .i64 6)))),
      .need (.n3 .pick (.n2 (.bin .gtr) (.n1 .lens (.n1 .ld (.n1 (.faddr 1) (.n2 (.iaddr 5) (.slot 0) (.slot 3))))) (.lit (.int .i64 200))) (.lit (.bool true)) (.n2 (.bin .gtr) (.n1 .lensl (.n1 .ld (.n1 (.faddr 2) (.n2 (.iaddr 5) (.slot 0) (.slot 3))))) (.lit (.int .i64 6)))),
      .need (.gif (.n3 .pick (.n2 (.bin .gtr) (.n1 .lens (.n1 .ld (.n1 (.faddr 1) (.n2 (.iaddr 5) (.slot 0) (.slot 3))))) (.lit (.int .i64 200))) (.lit (.bool true)) (.n2 (.bin .gtr) (.n1 .lensl (.n1 .ld (.n1 (.faddr 2) (.n2 (.iaddr 5) (.slot 0) (.slot 3))))) (.lit (.int .i64 6)))) false (.n2 (.iaddr 5) (.slot 0) (.slot 3))),
      .need (.gif (.n3 .pick (.n2 (.bin .gtr) (.n1 .lens (.n1 .ld (.n1 (.faddr 1) (.n2 (.iaddr 5) (.slot 0) (.slot 3))))) (.lit (.int .i64 200))) (.lit (.bool true)) (.n2 (.bin .gtr) (.n1 .lensl (.n1 .ld (.n1 (.faddr 2) (.n2 (.iaddr 5) (.slot 0) (.slot 3))))) (.lit (.int .i64 6)))) false (.n1 (.faddr 3) (.n2 (.iaddr 5) (.slot 0) (.slot 3)))),
      .need (.gif (.n3 .pick (.n2 (.bin .gtr) (.n1 .lens (.n1 .ld (.n1 (.faddr 1) (.n2 (.iaddr 5) (.slot 0) (.slot 3))))) (.lit (.int .i64 200))) (.lit (.bool true)) (.n2 (.bin .gtr) (.n1 .lensl (.n1 .ld (.n1 (.faddr 2) (.n2 (.iaddr 5) (.slot 0) (.slot 3))))) (.lit (.int .i64 6)))) false (.n1 .ld (.n1 (.faddr 3) (.n2 (.iaddr 5) (.slot 0) (.slot 3))))),
      .need (.gif (.n3 .pick (.n2 (.bin .gtr) (.n1 .lens (.n1 .ld (.n1 (.faddr 1) (.n2 (.iaddr 5) (.slot 0) (.slot 3))))) (.lit (.int .i64 200))) (.lit (.bool true)) (.n2 (.bin .gtr) (.n1 .lensl (.n1 .ld (.n1 (.faddr 2) (.n2 (.iaddr 5) (.slot 0) (.slot 3))))) (.lit (.int .i64 6)))) false (.n1 .lensl (.n1 .ld (.n1 (.faddr 3) (.n2 (.iaddr 5) (.slot 0) (.slot 3)))))),
      .need (.gif (.n3 .pick (.n2 (.bin .gtr) (.n1 .lens (.n1 .ld (.n1 (.faddr 1) (.n2 (.iaddr 5) (.slot 0) (.slot 3))))) (.lit (.int .i64 200))) (.lit (.bool true)) (.n2 (.bin .gtr) (.n1 .lensl (.n1 .ld (.n1 (.faddr 2) (.n2 (.iaddr 5) (.slot 0) (.slot 3))))) (.lit (.int .i64 6)))) false (.n2 (.bin .gtr) (.n1 .lensl (.n1 .ld (.n1 (.faddr 3) (.n2 (.iaddr 5) (.slot 0) (.slot 3))))) (.lit (.int .i64 60)))),
      .need (.n3 .pick (.n3 .pick (.n2 (.bin .gtr) (.n1 .lens (.n1 .ld (.n1 (.faddr 1) (.n2 (.iaddr 5) (.slot 0) (.slot 3))))) (.lit (.int .i64 200))) (.lit (.bool true)) (.n2 (.bin .gtr) (.n1 .lensl (.n1 .ld (.n1 (.faddr 2) (.n2 (.iaddr 5) (.slot 0) (.slot 3))))) (.lit (.int .i64 6)))) (.lit (.bool true)) (.n2 (.bin .gtr) (.n1 .lensl (.n1 .ld (.n1 (.faddr 3) (.n2 (.iaddr 5) (.slot 0) (.slot 3))))) (.lit (.int .i64 60)))),
      .asg 38 (.n3 .pick (.n3 .pick (.n2 (.bin .gtr) (.n1 .lens (.n1 .ld (.n1 (.faddr 1) (.n2 (.iaddr 5) (.slot 0) (.slot 3))))) (.lit (.int .i64 200))) (.lit (.bool true)) (.n2 (.bin .gtr) (.n1 .lensl (.n1 .ld (.n1 (.faddr 2) (.n2 (.iaddr 5) (.slot 0) (.slot 3))))) (.lit (.int .i64 6)))) (.lit (.bool true)) (.n2 (.bin .gtr) (.n1 .lensl (.n1 .ld (.n1 (.faddr 3) (.n2 (.iaddr 5) (.slot 0) (.slot 3))))) (.lit (.int .i64 60))))])
    (.cond (.slot 38)
      (.seq
      (.reg [.asg 2 (.lit (.bool false))])
      .ret)
      .skip))
    h48_4))
  h48_8)
def h48_2 : HC :=
  (.seq
  (.seq
  (.reg [.need (.n1 .lensl (.slot 0)),
    .need (.n2 (.bin .lss) (.slot 3) (.n1 .lensl (.slot 0))),
    .asg 11 (.n2 (.bin .lss) (.slot 3) (.n1 .lensl (.slot 0)))])
  (.cond (.slot 11)
    .skip
    (.exit 0)))
  h48_3)
def h48_9 : HC :=
  (.seq
  (.reg [.asg 2 (.lit (.bool true))])
  .ret)
def h48_1 : HC :=
  (.seq
  (.seq
  (.reg [.asg 3 (.lit (.int .i64 0))])
  (.block 0
    (.loop
      h48_2)))
  h48_9)
def h48 : HC :=
  (.seq
  (.reg [.asg 2 (.lit (.bool false))])
  (.seq
  (.seq
  (.reg [.need (.n1 .lensl (.slot 0)),
    .need (.n2 (.bin .gtr) (.n1 .lensl (.slot 0)) (.lit (.int .i64 30))),
    .asg 7 (.n2 (.bin .gtr) (.n1 .lensl (.slot 0)) (.lit (.int .i64 30)))])
  (.cond (.slot 7)
    (.seq
    (.reg [.asg 2 (.lit (.bool false))])
    .ret)
    .skip))
  h48_1))
theorem k48 : fnOK Try.prog 288301019773798557 [] [.tmp 2] 1 Try.f48 = some h48 := by kernel_rfl
theorem c48 : callable Try.prog 48 = true := by kernel_rfl
theorem q48 {args : List Value} (ha : args.length = 1) {w : World} {next : Value → World → Prop} {QP : List PanicEntry → World → Prop} (H : hw Try.prog noPanic h48 (endV [.tmp 2] next) (σ0 args) w) : callK Try.prog 48 args w next QP := fn_rule Try.func48 mixed k48 ha H
theorem r48 {args : List Value} (ha : args.length = 1) {w : World} {next : Value → World → Prop} {QP : List PanicEntry → World → Prop} (H : hw Try.prog noPanic h48 (endV [.tmp 2] next) (σ0 args) w) : callvK Try.prog (.func (.func 48) #[] #[]) args w next QP := callf c48 (q48 ha H)

/- (*missive/journal.Log).Rewrite -/
def h49_3 : HC :=
  (.seq
  (.reg [.asg 4 (.slot 7)])
  .ret)
def h49_2 : HC :=
  (.seq
  (.seq
  (.reg [.need (.n2 (.bin .eql) (.slot 7) (.lit (.int .i64 0))),
    .asg 20 (.n2 (.bin .eql) (.slot 7) (.lit (.int .i64 0)))])
  (.cond (.slot 20)
    (.draw [.need (.n1 .ld (.slot 2)),
      .asg 21 (.n1 .ld (.slot 2)),
      .need (.n1 .ld (.slot 2)),
      .asg 22 (.n1 .ld (.slot 2)),
      .need (.n1 .ld (.slot 2)),
      .asg 23 (.n1 .ld (.slot 2)),
      .need (.n1 .ld (.slot 3)),
      .need (.n1 .ld (.slot 3)),
      .need (.n1 .lensl (.n1 .ld (.slot 3))),
      .asg 27 (.n1 .lensl (.n1 .ld (.slot 3))),
      .need (.n1 .ld (.slot 6)),
      .asg 28 (.n1 .ld (.slot 6)),
      .eff (some 25) (.call { callee := .value (.func 84), args := #[.tmp 24], argTypes := #[40] }) 40 [(24, .n1 .ld (.slot 3))] none [⟨none, .ld, .slot 2⟩, ⟨none, .ld, .slot 2⟩, ⟨none, .ld, .slot 2⟩, ⟨none, .ld, .slot 3⟩, ⟨none, .ld, .slot 6⟩],
      .need (.n1 .nilchk (.slot 21)),
      .need (.n1 (.faddr 2) (.n1 .nilchk (.slot 21))),
      .eff none (.store 40 (.tmp 30) (.tmp 25)) 0 [(30, .n1 (.faddr 2) (.n1 .nilchk (.slot 21))), (25, .slot 25)] none [⟨none, .ld, .slot 2⟩, ⟨none, .ld, .slot 2⟩, ⟨none, .ld, .slot 3⟩, ⟨none, .ld, .slot 6⟩],
      .need (.n1 .nilchk (.slot 22)),
      .need (.n1 (.faddr 3) (.n1 .nilchk (.slot 22))),
      .eff none (.store 3 (.tmp 32) (.tmp 27)) 0 [(32, .n1 (.faddr 3) (.n1 .nilchk (.slot 22))), (27, .slot 27)] none [⟨none, .ld, .slot 2⟩, ⟨none, .ld, .slot 6⟩],
      .need (.n1 .nilchk (.slot 23)),
      .need (.n1 (.faddr 4) (.n1 .nilchk (.slot 23))),
      .eff none (.store 3 (.tmp 34) (.tmp 28)) 0 [(34, .n1 (.faddr 4) (.n1 .nilchk (.slot 23))), (28, .slot 28)] none []])
    .skip))
  h49_3)
def h49_1 : HC :=
  (.seq
  (.reg [.need (.n1 .ld (.slot 5)),
    .need (.n1 .lens (.n1 .ld (.slot 5))),
    .need (.n2 (.bin .add) (.lit (.int .i64 16)) (.n1 .lens (.n1 .ld (.slot 5)))),
    .asg 12 (.n2 (.bin .add) (.lit (.int .i64 16)) (.n1 .lens (.n1 .ld (.slot 5)))),
    .eff (some 6) (.alloc 3) 0 [] none [],
    .eff none (.store 3 (.tmp 6) (.tmp 12)) 0 [(6, .slot 6), (12, .slot 12)] none []])
  (.seq
  (.reg [.eff (some 17) (.buildSlice 128 4 #[(0, .tmp 13), (1, .tmp 14), (2, .tmp 15), (3, .tmp 16)]) 128 [(13, .n2 .capt (.lit (.func (.func 87) #[] #[])) (.slot 2)), (14, .n2 .capt (.n2 .capt (.n2 .capt (.n2 .capt (.lit (.func (.func 88) #[] #[])) (.slot 2)) (.slot 6)) (.slot 3)) (.slot 5)), (15, .n2 .capt (.lit (.func (.func 90) #[] #[])) (.slot 2)), (16, .n2 .capt (.lit (.func (.func 91) #[] #[])) (.slot 2))] none [],
    .eff (some 18) (.call { callee := .value (.func 86), args := #[.tmp 17], argTypes := #[128] }) 26 [(17, .slot 17)] none [],
    .asg 7 (.slot 18)])
  h49_2))
def h49 : HC :=
  (.seq
  (.reg [.eff (some 2) (.box 55 (.tmp 0)) 0 [(0, .slot 0)] none [],
    .eff (some 3) (.box 40 (.tmp 1)) 0 [(1, .slot 1)] none [],
    .asg 4 (.lit (.int .i64 0))])
  (.seq
  (.reg [.need (.n1 .ld (.slot 3)),
    .eff (some 9) (.call { callee := .value (.func 85), args := #[.tmp 8], argTypes := #[40] }) 9 [(8, .n1 .ld (.slot 3))] none [],
    .eff (some 5) (.alloc 9) 0 [] none [],
    .eff none (.store 9 (.tmp 5) (.tmp 9)) 0 [(5, .slot 5), (9, .slot 9)] none []])
  h49_1))
theorem k49 : fnOK Try.prog 452334335 [⟨5, [0, 0, 0, 0, 8, 0, 32, 0, 25, 281, 793, 1915, 3963, 8059, 16383, 32767, 65535], [(0, []), (1, []), (2, []), (3, []), (5, []), (6, []), (7, []), (4, [0, 1, 2, 5, 7]), (8, []), (9, []), (10, [1, 2, 5, 7]), (11, []), (12, []), (13, [2, 7]), (14, []), (15, []), (16, [])], none⟩] [.tmp 4] 2 Try.f49 = some h49 := by kernel_rfl
theorem c49 : callable Try.prog 49 = true := by kernel_rfl
theorem q49 {args : List Value} (ha : args.length = 2) {w : World} {next : Value → World → Prop} {QP : List PanicEntry → World → Prop} (H : hw Try.prog noPanic h49 (endV [.tmp 4] next) (σ0 args) w) : callK Try.prog 49 args w next QP := fn_rule Try.func49 mixed k49 ha H
theorem r49 {args : List Value} (ha : args.length = 2) {w : World} {next : Value → World → Prop} {QP : List PanicEntry → World → Prop} (H : hw Try.prog noPanic h49 (endV [.tmp 4] next) (σ0 args) w) : callvK Try.prog (.func (.func 49) #[] #[]) args w next QP := callf c49 (q49 ha H)

/- missive/missivelaw06.pick -/
def h50_1 : HC :=
  (.seq
  (.reg [.asg 4 (.slot 0)])
  .ret)
def h50 : HC :=
  (.seq
  (.reg [.asg 4 (.lit (.int .i64 0))])
  (.seq
  (.reg [.need (.n2 (.bin .rem) (.slot 0) (.slot 1)),
    .asg 0 (.n2 (.bin .rem) (.slot 0) (.slot 1))])
  (.seq
  (.seq
  (.reg [.need (.n2 (.bin .lss) (.slot 0) (.lit (.int .i64 0))),
    .asg 9 (.n2 (.bin .lss) (.slot 0) (.lit (.int .i64 0)))])
  (.cond (.slot 9)
    (.reg [.need (.n2 (.bin .add) (.slot 0) (.slot 1)),
      .asg 0 (.n2 (.bin .add) (.slot 0) (.slot 1))])
    .skip))
  h50_1)))
theorem k50 : fnOK Try.prog 531 [] [.tmp 4] 2 Try.f50 = some h50 := by kernel_rfl
theorem c50 : callable Try.prog 50 = true := by kernel_rfl
theorem q50 {args : List Value} (ha : args.length = 2) {w : World} {next : Value → World → Prop} {QP : List PanicEntry → World → Prop} (H : hw Try.prog noPanic h50 (endV [.tmp 4] next) (σ0 args) w) : callK Try.prog 50 args w next QP := fn_rule Try.func50 mixed k50 ha H
theorem r50 {args : List Value} (ha : args.length = 2) {w : World} {next : Value → World → Prop} {QP : List PanicEntry → World → Prop} (H : hw Try.prog noPanic h50 (endV [.tmp 4] next) (σ0 args) w) : callvK Try.prog (.func (.func 50) #[] #[]) args w next QP := callf c50 (q50 ha H)

/- (*missive/journal.Log).Flush -/
def h51_1 : HC :=
  (.seq
  (.reg [.asg 2 (.lit (.int .i64 0))])
  .ret)
def h51_3 : HC :=
  (.seq
  (.reg [.asg 2 (.slot 3)])
  .ret)
def h51_2 : HC :=
  (.seq
  (.reg [.need (.n1 .ld (.slot 1)),
    .need (.n1 .ld (.slot 1)),
    .eff (some 24) (.buildSlice 128 3 #[(0, .tmp 20), (1, .tmp 21), (2, .tmp 23)]) 128 [(20, .n2 .capf (.lit (.func (.func 92) #[] #[])) (.n1 .ld (.slot 1))), (21, .n2 .capt (.lit (.func (.func 93) #[] #[])) (.slot 1)), (23, .n2 .capf (.lit (.func (.func 92) #[] #[])) (.n1 .ld (.slot 1)))] none [],
    .eff (some 25) (.call { callee := .value (.func 86), args := #[.tmp 24], argTypes := #[128] }) 26 [(24, .slot 24)] none [],
    .asg 3 (.slot 25)])
  (.seq
  (.seq
  (.reg [.need (.n2 (.bin .eql) (.slot 3) (.lit (.int .i64 0))),
    .asg 27 (.n2 (.bin .eql) (.slot 3) (.lit (.int .i64 0)))])
  (.cond (.slot 27)
    (.draw [.need (.n1 .ld (.slot 1)),
      .need (.n1 .ld (.slot 1)),
      .need (.n1 .nilchk (.n1 .ld (.slot 1))),
      .need (.n1 (.faddr 2) (.n1 .nilchk (.n1 .ld (.slot 1)))),
      .need (.n1 .ld (.n1 (.faddr 2) (.n1 .nilchk (.n1 .ld (.slot 1))))),
      .need (.n1 .lensl (.n1 .ld (.n1 (.faddr 2) (.n1 .nilchk (.n1 .ld (.slot 1)))))),
      .need (.n1 .nilchk (.n1 .ld (.slot 1))),
      .need (.n1 (.faddr 3) (.n1 .nilchk (.n1 .ld (.slot 1)))),
      .eff none (.store 3 (.tmp 35) (.tmp 33)) 0 [(35, .n1 (.faddr 3) (.n1 .nilchk (.n1 .ld (.slot 1)))), (33, .n1 .lensl (.n1 .ld (.n1 (.faddr 2) (.n1 .nilchk (.n1 .ld (.slot 1))))))] none []])
    .skip))
  h51_3))
def h51 : HC :=
  (.seq
  (.reg [.eff (some 1) (.box 55 (.tmp 0)) 0 [(0, .slot 0)] none [],
    .asg 2 (.lit (.int .i64 0))])
  (.seq
  (.seq
  (.draw [.need (.n1 .ld (.slot 1)),
    .need (.n1 .nilchk (.n1 .ld (.slot 1))),
    .need (.n1 (.faddr 3) (.n1 .nilchk (.n1 .ld (.slot 1)))),
    .need (.n1 .ld (.n1 (.faddr 3) (.n1 .nilchk (.n1 .ld (.slot 1))))),
    .need (.n1 .ld (.slot 1)),
    .need (.n1 .nilchk (.n1 .ld (.slot 1))),
    .need (.n1 (.faddr 2) (.n1 .nilchk (.n1 .ld (.slot 1)))),
    .need (.n1 .ld (.n1 (.faddr 2) (.n1 .nilchk (.n1 .ld (.slot 1))))),
    .need (.n1 .lensl (.n1 .ld (.n1 (.faddr 2) (.n1 .nilchk (.n1 .ld (.slot 1)))))),
    .need (.n2 (.bin .eql) (.n1 .ld (.n1 (.faddr 3) (.n1 .nilchk (.n1 .ld (.slot 1))))) (.n1 .lensl (.n1 .ld (.n1 (.faddr 2) (.n1 .nilchk (.n1 .ld (.slot 1))))))),
    .asg 13 (.n2 (.bin .eql) (.n1 .ld (.n1 (.faddr 3) (.n1 .nilchk (.n1 .ld (.slot 1))))) (.n1 .lensl (.n1 .ld (.n1 (.faddr 2) (.n1 .nilchk (.n1 .ld (.slot 1)))))))])
  (.cond (.slot 13)
    (.seq
    (.seq
    (.reg [.need (.n1 .ld (.slot 1)),
      .need (.n1 .nilchk (.n1 .ld (.slot 1))),
      .need (.n1 (.faddr 0) (.n1 .nilchk (.n1 .ld (.slot 1)))),
      .need (.n1 .ld (.n1 (.faddr 0) (.n1 .nilchk (.n1 .ld (.slot 1))))),
      .eff (some 18) (.call { callee := .value (.func 27), args := #[.tmp 17], argTypes := #[24] }) 4 [(17, .n1 .ld (.n1 (.faddr 0) (.n1 .nilchk (.n1 .ld (.slot 1)))))] none []])
    (.cond (.slot 18)
      (.seq
      (.reg [.asg 2 (.lit (.int .i64 8))])
      .ret)
      .skip))
    h51_1)
    .skip))
  h51_2))
theorem k51 : fnOK Try.prog 184819727 [⟨1, [0, 1, 3, 7, 0, 16, 48, 112, 240, 511], [(0, []), (1, []), (2, []), (3, []), (4, []), (5, []), (6, []), (7, []), (8, []), (9, [])], none⟩, ⟨7, [0, 0, 2, 6, 14, 30, 63, 127, 255], [(0, []), (1, []), (2, []), (3, []), (4, []), (5, []), (6, []), (7, []), (8, [])], none⟩] [.tmp 2] 1 Try.f51 = some h51 := by kernel_rfl
theorem c51 : callable Try.prog 51 = true := by kernel_rfl
theorem q51 {args : List Value} (ha : args.length = 1) {w : World} {next : Value → World → Prop} {QP : List PanicEntry → World → Prop} (H : hw Try.prog noPanic h51 (endV [.tmp 2] next) (σ0 args) w) : callK Try.prog 51 args w next QP := fn_rule Try.func51 mixed k51 ha H
theorem r51 {args : List Value} (ha : args.length = 1) {w : World} {next : Value → World → Prop} {QP : List PanicEntry → World → Prop} (H : hw Try.prog noPanic h51 (endV [.tmp 2] next) (σ0 args) w) : callvK Try.prog (.func (.func 51) #[] #[]) args w next QP := callf c51 (q51 ha H)

/- (*missive/journal.Log).Batch -/
def h52_1 : HC :=
  (.seq
  (.reg [.eff (some 16) (.call { callee := .value (.func 51), args := #[.tmp 15], argTypes := #[55] }) 26 [(15, .slot 0)] none [],
    .asg 4 (.slot 16)])
  .ret)
def h52 : HC :=
  (.seq
  (.reg [.asg 4 (.lit (.int .i64 0))])
  (.seq
  (.seq
  (.reg [.need (.n1 .lensl (.slot 1)),
    .need (.n2 (.bin .gtr) (.n1 .lensl (.slot 1)) (.lit (.int .i64 0))),
    .asg 8 (.n2 (.bin .gtr) (.n1 .lensl (.slot 1)) (.lit (.int .i64 0)))])
  (.cond (.slot 8)
    (.seq
    (.reg [.eff (some 11) (.call { callee := .value (.func 94), args := #[.tmp 9, .tmp 10], argTypes := #[55, 40] }) 26 [(9, .slot 0), (10, .slot 1)] none [],
      .asg 5 (.slot 11)])
    (.seq
    (.reg [.need (.n2 (.bin .neq) (.slot 5) (.lit (.int .i64 0))),
      .asg 13 (.n2 (.bin .neq) (.slot 5) (.lit (.int .i64 0)))])
    (.cond (.slot 13)
      (.seq
      (.reg [.asg 4 (.slot 5)])
      .ret)
      .skip)))
    .skip))
  h52_1))
theorem k52 : fnOK Try.prog 76083 [] [.tmp 4] 2 Try.f52 = some h52 := by kernel_rfl
theorem c52 : callable Try.prog 52 = true := by kernel_rfl
theorem q52 {args : List Value} (ha : args.length = 2) {w : World} {next : Value → World → Prop} {QP : List PanicEntry → World → Prop} (H : hw Try.prog noPanic h52 (endV [.tmp 4] next) (σ0 args) w) : callK Try.prog 52 args w next QP := fn_rule Try.func52 mixed k52 ha H
theorem r52 {args : List Value} (ha : args.length = 2) {w : World} {next : Value → World → Prop} {QP : List PanicEntry → World → Prop} (H : hw Try.prog noPanic h52 (endV [.tmp 4] next) (σ0 args) w) : callvK Try.prog (.func (.func 52) #[] #[]) args w next QP := callf c52 (q52 ha H)

/- (*missive/journal.Log).Append -/
def h53 : HC :=
  (.seq
  (.reg [.asg 4 (.lit (.int .i64 0))])
  (.seq
  (.reg [.eff (some 7) (.buildSlice 40 1 #[(0, .tmp 6)]) 40 [(6, .slot 1)] none [],
    .eff (some 8) (.call { callee := .value (.func 94), args := #[.tmp 5, .tmp 7], argTypes := #[55, 40] }) 26 [(5, .slot 0), (7, .slot 7)] none [],
    .asg 4 (.slot 8)])
  .ret))
theorem k53 : fnOK Try.prog 403 [] [.tmp 4] 2 Try.f53 = some h53 := by kernel_rfl
theorem c53 : callable Try.prog 53 = true := by kernel_rfl
theorem q53 {args : List Value} (ha : args.length = 2) {w : World} {next : Value → World → Prop} {QP : List PanicEntry → World → Prop} (H : hw Try.prog noPanic h53 (endV [.tmp 4] next) (σ0 args) w) : callK Try.prog 53 args w next QP := fn_rule Try.func53 mixed k53 ha H
theorem r53 {args : List Value} (ha : args.length = 2) {w : World} {next : Value → World → Prop} {QP : List PanicEntry → World → Prop} (H : hw Try.prog noPanic h53 (endV [.tmp 4] next) (σ0 args) w) : callvK Try.prog (.func (.func 53) #[] #[]) args w next QP := callf c53 (q53 ha H)

/- (*missive/journal.Log).Sure -/
def h54 : HC :=
  (.seq
  (.reg [.asg 2 (.lit (.int .i64 0))])
  (.seq
  (.reg [.need (.n1 .nilchk (.slot 0)),
    .need (.n1 (.faddr 3) (.n1 .nilchk (.slot 0))),
    .need (.n1 .ld (.n1 (.faddr 3) (.n1 .nilchk (.slot 0)))),
    .asg 2 (.n1 .ld (.n1 (.faddr 3) (.n1 .nilchk (.slot 0))))])
  .ret))
theorem k54 : fnOK Try.prog 5 [] [.tmp 2] 1 Try.f54 = some h54 := by kernel_rfl
theorem c54 : callable Try.prog 54 = true := by kernel_rfl
theorem q54 {args : List Value} (ha : args.length = 1) {w : World} {next : Value → World → Prop} {QP : List PanicEntry → World → Prop} (H : hw Try.prog noPanic h54 (endV [.tmp 2] next) (σ0 args) w) : callK Try.prog 54 args w next QP := fn_rule Try.func54 mixed k54 ha H
theorem r54 {args : List Value} (ha : args.length = 1) {w : World} {next : Value → World → Prop} {QP : List PanicEntry → World → Prop} (H : hw Try.prog noPanic h54 (endV [.tmp 2] next) (σ0 args) w) : callvK Try.prog (.func (.func 54) #[] #[]) args w next QP := callf c54 (q54 ha H)

/- missive/missiveref06.Open -/
def h55_3 : HC :=
  (.seq
  (.reg [.need (.n1 .lensl (.slot 8)),
    .need (.n2 (.put 0 1) (.lit (.agg #[(.pointer none), (.int .i64 0), (.slice none 0 0), (.int .i64 0)])) (.slot 0)),
    .need (.n2 (.put 1 1) (.n2 (.put 0 1) (.lit (.agg #[(.pointer none), (.int .i64 0), (.slice none 0 0), (.int .i64 0)])) (.slot 0)) (.slot 1)),
    .need (.n2 (.put 2 1) (.n2 (.put 1 1) (.n2 (.put 0 1) (.lit (.agg #[(.pointer none), (.int .i64 0), (.slice none 0 0), (.int .i64 0)])) (.slot 0)) (.slot 1)) (.slot 8)),
    .need (.n2 (.put 3 1) (.n2 (.put 2 1) (.n2 (.put 1 1) (.n2 (.put 0 1) (.lit (.agg #[(.pointer none), (.int .i64 0), (.slice none 0 0), (.int .i64 0)])) (.slot 0)) (.slot 1)) (.slot 8)) (.n1 .lensl (.slot 8))),
    .eff (some 38) (.box 78 (.tmp 37)) 74 [(37, .n2 (.put 3 1) (.n2 (.put 2 1) (.n2 (.put 1 1) (.n2 (.put 0 1) (.lit (.agg #[(.pointer none), (.int .i64 0), (.slice none 0 0), (.int .i64 0)])) (.slot 0)) (.slot 1)) (.slot 8)) (.n1 .lensl (.slot 8)))] none [],
    .asg 4 (.slot 38),
    .asg 5 (.lit (.int .i64 0))])
  .ret)
def h55_2 : HC :=
  (.seq
  (.reg [.eff (some 27) (.call { callee := .value (.func 45), args := #[.tmp 26], argTypes := #[9] }) 58 [(26, .slot 6)] none [],
    .need (.n1 (.ext 0) (.slot 27)),
    .need (.n1 (.ext 1) (.slot 27)),
    .asg 8 (.n1 (.ext 0) (.slot 27)),
    .asg 9 (.n1 (.ext 1) (.slot 27))])
  (.seq
  (.seq
  (.reg [.need (.n1 .bnot (.slot 9)),
    .asg 31 (.n1 .bnot (.slot 9))])
  (.cond (.slot 31)
    (.seq
    (.reg [.asg 4 (.lit (.pointer none)),
      .asg 5 (.lit (.int .i64 2))])
    .ret)
    .skip))
  h55_3))
def h55_1 : HC :=
  (.seq
  (.reg [.eff (some 19) (.call { callee := .value (.func 41), args := #[.tmp 17, .tmp 18], argTypes := #[51, 3] }) 31 [(17, .slot 0), (18, .slot 1)] none [],
    .need (.n1 (.ext 0) (.slot 19)),
    .need (.n1 (.ext 1) (.slot 19)),
    .asg 6 (.n1 (.ext 0) (.slot 19)),
    .asg 7 (.n1 (.ext 1) (.slot 19))])
  (.seq
  (.seq
  (.reg [.need (.n2 (.bin .neq) (.slot 7) (.lit (.int .i64 0))),
    .asg 23 (.n2 (.bin .neq) (.slot 7) (.lit (.int .i64 0)))])
  (.cond (.slot 23)
    (.seq
    (.reg [.asg 4 (.lit (.pointer none)),
      .asg 5 (.slot 7)])
    .ret)
    .skip))
  h55_2))
def h55 : HC :=
  (.seq
  (.reg [.asg 4 (.lit (.pointer none)),
    .asg 5 (.lit (.int .i64 0))])
  (.seq
  (.seq
  (.reg [.need (.n2 (.bin .lss) (.slot 1) (.lit (.int .i64 0))),
    .need (.gif (.n2 (.bin .lss) (.slot 1) (.lit (.int .i64 0))) false (.n2 (.bin .gtr) (.slot 1) (.lit (.int .i64 6)))),
    .need (.n3 .pick (.n2 (.bin .lss) (.slot 1) (.lit (.int .i64 0))) (.lit (.bool true)) (.n2 (.bin .gtr) (.slot 1) (.lit (.int .i64 6)))),
    .asg 15 (.n3 .pick (.n2 (.bin .lss) (.slot 1) (.lit (.int .i64 0))) (.lit (.bool true)) (.n2 (.bin .gtr) (.slot 1) (.lit (.int .i64 6))))])
  (.cond (.slot 15)
    (.seq
    (.reg [.asg 4 (.lit (.pointer none)),
      .asg 5 (.lit (.int .i64 1))])
    .ret)
    .skip))
  h55_1))
theorem k55 : fnOK Try.prog 277168554995 [] [.tmp 4, .tmp 5] 2 Try.f55 = some h55 := by kernel_rfl
theorem c55 : callable Try.prog 55 = true := by kernel_rfl
theorem q55 {args : List Value} (ha : args.length = 2) {w : World} {next : Value → World → Prop} {QP : List PanicEntry → World → Prop} (H : hw Try.prog noPanic h55 (endV [.tmp 4, .tmp 5] next) (σ0 args) w) : callK Try.prog 55 args w next QP := fn_rule Try.func55 mixed k55 ha H
theorem r55 {args : List Value} (ha : args.length = 2) {w : World} {next : Value → World → Prop} {QP : List PanicEntry → World → Prop} (H : hw Try.prog noPanic h55 (endV [.tmp 4, .tmp 5] next) (σ0 args) w) : callvK Try.prog (.func (.func 55) #[] #[]) args w next QP := callf c55 (q55 ha H)

/- (*missive/missiveref06.Log).Flush -/
def h56_1 : HC :=
  (.seq
  (.reg [.asg 2 (.lit (.int .i64 0))])
  .ret)
def h56_5 : HC :=
  (.seq
  (.reg [.asg 2 (.slot 3)])
  .ret)
def h56_4 : HC :=
  (.seq
  (.seq
  (.reg [.need (.n2 (.bin .eql) (.slot 3) (.lit (.int .i64 0))),
    .asg 56 (.n2 (.bin .eql) (.slot 3) (.lit (.int .i64 0)))])
  (.cond (.slot 56)
    (.reg [.need (.n1 .nilchk (.slot 0)),
      .need (.n1 (.faddr 2) (.n1 .nilchk (.slot 0))),
      .need (.n1 .ld (.n1 (.faddr 2) (.n1 .nilchk (.slot 0)))),
      .need (.n1 .lensl (.n1 .ld (.n1 (.faddr 2) (.n1 .nilchk (.slot 0))))),
      .need (.n1 .nilchk (.slot 0)),
      .need (.n1 (.faddr 3) (.n1 .nilchk (.slot 0))),
      .eff none (.store 3 (.tmp 64) (.tmp 62)) 0 [(64, .n1 (.faddr 3) (.n1 .nilchk (.slot 0))), (62, .n1 .lensl (.n1 .ld (.n1 (.faddr 2) (.n1 .nilchk (.slot 0)))))] none []])
    .skip))
  h56_5)
def h56_3 : HC :=
  (.seq
  (.seq
  (.reg [.need (.n2 (.bin .eql) (.slot 3) (.lit (.int .i64 0))),
    .asg 45 (.n2 (.bin .eql) (.slot 3) (.lit (.int .i64 0)))])
  (.cond (.slot 45)
    (.draw [.need (.n1 .nilchk (.slot 0)),
      .need (.n1 (.faddr 0) (.n1 .nilchk (.slot 0))),
      .need (.n1 .ld (.n1 (.faddr 0) (.n1 .nilchk (.slot 0)))),
      .need (.n1 .nilchk (.slot 0)),
      .need (.n1 (.faddr 1) (.n1 .nilchk (.slot 0))),
      .need (.n1 .ld (.n1 (.faddr 1) (.n1 .nilchk (.slot 0)))),
      .eff (some 54) (.call { callee := .value (.func 74), args := #[.tmp 49, .tmp 53], argTypes := #[51, 3] }) 26 [(49, .n1 .ld (.n1 (.faddr 0) (.n1 .nilchk (.slot 0)))), (53, .n1 .ld (.n1 (.faddr 1) (.n1 .nilchk (.slot 0))))] none [],
      .asg 3 (.slot 54)])
    .skip))
  h56_4)
def h56_2 : HC :=
  (.seq
  (.draw [.need (.n1 .nilchk (.slot 0)),
    .need (.n1 (.faddr 0) (.n1 .nilchk (.slot 0))),
    .need (.n1 .ld (.n1 (.faddr 0) (.n1 .nilchk (.slot 0)))),
    .need (.n1 .nilchk (.slot 0)),
    .need (.n1 (.faddr 1) (.n1 .nilchk (.slot 0))),
    .need (.n1 .ld (.n1 (.faddr 1) (.n1 .nilchk (.slot 0)))),
    .eff (some 27) (.call { callee := .value (.func 74), args := #[.tmp 22, .tmp 26], argTypes := #[51, 3] }) 26 [(22, .n1 .ld (.n1 (.faddr 0) (.n1 .nilchk (.slot 0)))), (26, .n1 .ld (.n1 (.faddr 1) (.n1 .nilchk (.slot 0))))] none [],
    .asg 3 (.slot 27)])
  (.seq
  (.seq
  (.reg [.need (.n2 (.bin .eql) (.slot 3) (.lit (.int .i64 0))),
    .asg 29 (.n2 (.bin .eql) (.slot 3) (.lit (.int .i64 0)))])
  (.cond (.slot 29)
    (.draw [.need (.n1 .nilchk (.slot 0)),
      .need (.n1 (.faddr 0) (.n1 .nilchk (.slot 0))),
      .need (.n1 .ld (.n1 (.faddr 0) (.n1 .nilchk (.slot 0)))),
      .asg 33 (.n1 .ld (.n1 (.faddr 0) (.n1 .nilchk (.slot 0)))),
      .need (.n1 .nilchk (.slot 0)),
      .need (.n1 (.faddr 1) (.n1 .nilchk (.slot 0))),
      .need (.n1 .ld (.n1 (.faddr 1) (.n1 .nilchk (.slot 0)))),
      .asg 37 (.n1 .ld (.n1 (.faddr 1) (.n1 .nilchk (.slot 0)))),
      .need (.n1 .nilchk (.slot 0)),
      .need (.n1 (.faddr 2) (.n1 .nilchk (.slot 0))),
      .need (.n1 .ld (.n1 (.faddr 2) (.n1 .nilchk (.slot 0)))),
      .eff (some 42) (.call { callee := .value (.func 95), args := #[.tmp 41], argTypes := #[40] }) 9 [(41, .n1 .ld (.n1 (.faddr 2) (.n1 .nilchk (.slot 0))))] none [⟨none, .ld, .n1 (.faddr 0) (.n1 .nilchk (.slot 0))⟩, ⟨none, .ld, .n1 (.faddr 1) (.n1 .nilchk (.slot 0))⟩],
      .eff (some 43) (.call { callee := .value (.func 73), args := #[.tmp 33, .tmp 37, .const (.int .i64 0), .tmp 42], argTypes := #[51, 3, 3, 9] }) 26 [(33, .slot 33), (37, .slot 37), (42, .slot 42)] none [],
      .asg 3 (.slot 43)])
    .skip))
  h56_3))
def h56 : HC :=
  (.seq
  (.reg [.asg 2 (.lit (.int .i64 0))])
  (.seq
  (.seq
  (.draw [.need (.n1 .nilchk (.slot 0)),
    .need (.n1 (.faddr 3) (.n1 .nilchk (.slot 0))),
    .need (.n1 .ld (.n1 (.faddr 3) (.n1 .nilchk (.slot 0)))),
    .need (.n1 .nilchk (.slot 0)),
    .need (.n1 (.faddr 2) (.n1 .nilchk (.slot 0))),
    .need (.n1 .ld (.n1 (.faddr 2) (.n1 .nilchk (.slot 0)))),
    .need (.n1 .lensl (.n1 .ld (.n1 (.faddr 2) (.n1 .nilchk (.slot 0))))),
    .need (.n2 (.bin .eql) (.n1 .ld (.n1 (.faddr 3) (.n1 .nilchk (.slot 0)))) (.n1 .lensl (.n1 .ld (.n1 (.faddr 2) (.n1 .nilchk (.slot 0)))))),
    .asg 13 (.n2 (.bin .eql) (.n1 .ld (.n1 (.faddr 3) (.n1 .nilchk (.slot 0)))) (.n1 .lensl (.n1 .ld (.n1 (.faddr 2) (.n1 .nilchk (.slot 0))))))])
  (.cond (.slot 13)
    (.seq
    (.seq
    (.reg [.need (.n1 .nilchk (.slot 0)),
      .need (.n1 (.faddr 0) (.n1 .nilchk (.slot 0))),
      .need (.n1 .ld (.n1 (.faddr 0) (.n1 .nilchk (.slot 0)))),
      .eff (some 18) (.call { callee := .value (.func 38), args := #[.tmp 17], argTypes := #[51] }) 4 [(17, .n1 .ld (.n1 (.faddr 0) (.n1 .nilchk (.slot 0))))] none []])
    (.cond (.slot 18)
      (.seq
      (.reg [.asg 2 (.lit (.int .i64 8))])
      .ret)
      .skip))
    h56_1)
    .skip))
  h56_2))
theorem k56 : fnOK Try.prog 90120517759279117 [⟨1, [0, 1, 3, 7, 0, 16, 48, 112, 240, 511], [(0, []), (1, []), (2, []), (3, []), (4, []), (5, []), (6, []), (7, []), (8, []), (9, [])], none⟩, ⟨5, [0, 1, 3, 7, 0, 16, 48, 112, 255, 511], [(0, []), (1, []), (2, []), (3, []), (4, []), (5, []), (6, []), (7, []), (8, []), (9, [])], none⟩, ⟨7, [0, 1, 3, 7, 0, 16, 48, 112, 0, 256, 768, 1792, 3840, 8191, 16383], [(0, []), (1, []), (2, []), (3, []), (4, []), (5, []), (6, []), (7, []), (8, []), (9, []), (10, []), (11, []), (12, [3, 7]), (13, []), (14, [])], none⟩, ⟨9, [0, 1, 3, 7, 0, 16, 48, 112, 255, 511], [(0, []), (1, []), (2, []), (3, []), (4, []), (5, []), (6, []), (7, []), (8, []), (9, [])], none⟩] [.tmp 2] 1 Try.f56 = some h56 := by kernel_rfl
theorem c56 : callable Try.prog 56 = true := by kernel_rfl
theorem q56 {args : List Value} (ha : args.length = 1) {w : World} {next : Value → World → Prop} {QP : List PanicEntry → World → Prop} (H : hw Try.prog noPanic h56 (endV [.tmp 2] next) (σ0 args) w) : callK Try.prog 56 args w next QP := fn_rule Try.func56 mixed k56 ha H
theorem r56 {args : List Value} (ha : args.length = 1) {w : World} {next : Value → World → Prop} {QP : List PanicEntry → World → Prop} (H : hw Try.prog noPanic h56 (endV [.tmp 2] next) (σ0 args) w) : callvK Try.prog (.func (.func 56) #[] #[]) args w next QP := callf c56 (q56 ha H)

/- (*missive/missiveref06.Log).Batch -/
def h57_1 : HC :=
  (.reg [.need (.n1 .nilchk (.slot 0)),
    .need (.n1 (.faddr 2) (.n1 .nilchk (.slot 0))),
    .need (.n1 .ld (.n1 (.faddr 2) (.n1 .nilchk (.slot 0)))),
    .eff (some 36) (.call { callee := .builtin .append, args := #[.tmp 34, .tmp 35], argTypes := #[40, 40] }) 40 [(34, .n1 .ld (.n1 (.faddr 2) (.n1 .nilchk (.slot 0)))), (35, .slot 1)] none [],
    .need (.n1 .nilchk (.slot 0)),
    .need (.n1 (.faddr 2) (.n1 .nilchk (.slot 0))),
    .eff none (.store 40 (.tmp 38) (.tmp 36)) 0 [(38, .n1 (.faddr 2) (.n1 .nilchk (.slot 0))), (36, .slot 36)] none []])
def h57_2 : HC :=
  (.seq
  (.reg [.eff (some 40) (.call { callee := .value (.func 56), args := #[.tmp 39], argTypes := #[74] }) 26 [(39, .slot 0)] none [],
    .asg 4 (.slot 40)])
  .ret)
def h57 : HC :=
  (.seq
  (.reg [.asg 4 (.lit (.int .i64 0))])
  (.seq
  (.seq
  (.reg [.need (.n1 .lensl (.slot 1)),
    .need (.n2 (.bin .gtr) (.n1 .lensl (.slot 1)) (.lit (.int .i64 0))),
    .asg 8 (.n2 (.bin .gtr) (.n1 .lensl (.slot 1)) (.lit (.int .i64 0)))])
  (.cond (.slot 8)
    (.seq
    (.draw [.need (.n1 .nilchk (.slot 0)),
      .need (.n1 (.faddr 0) (.n1 .nilchk (.slot 0))),
      .need (.n1 .ld (.n1 (.faddr 0) (.n1 .nilchk (.slot 0)))),
      .asg 12 (.n1 .ld (.n1 (.faddr 0) (.n1 .nilchk (.slot 0)))),
      .need (.n1 .nilchk (.slot 0)),
      .need (.n1 (.faddr 1) (.n1 .nilchk (.slot 0))),
      .need (.n1 .ld (.n1 (.faddr 1) (.n1 .nilchk (.slot 0)))),
      .asg 16 (.n1 .ld (.n1 (.faddr 1) (.n1 .nilchk (.slot 0)))),
      .need (.n1 .nilchk (.slot 0)),
      .need (.n1 (.faddr 2) (.n1 .nilchk (.slot 0))),
      .need (.n1 .ld (.n1 (.faddr 2) (.n1 .nilchk (.slot 0)))),
      .eff (some 21) (.call { callee := .value (.func 96), args := #[.tmp 20], argTypes := #[40] }) 9 [(20, .n1 .ld (.n1 (.faddr 2) (.n1 .nilchk (.slot 0))))] none [⟨none, .ld, .n1 (.faddr 0) (.n1 .nilchk (.slot 0))⟩, ⟨none, .ld, .n1 (.faddr 1) (.n1 .nilchk (.slot 0))⟩],
      .need (.n1 .lens (.slot 21)),
      .need (.n2 (.bin .add) (.lit (.int .i64 16)) (.n1 .lens (.slot 21))),
      .eff (some 25) (.call { callee := .value (.func 96), args := #[.tmp 24], argTypes := #[40] }) 9 [(24, .slot 1)] none [⟨none, .ld, .n1 (.faddr 0) (.n1 .nilchk (.slot 0))⟩, ⟨none, .ld, .n1 (.faddr 1) (.n1 .nilchk (.slot 0))⟩],
      .eff (some 26) (.call { callee := .value (.func 73), args := #[.tmp 12, .tmp 16, .tmp 23, .tmp 25], argTypes := #[51, 3, 3, 9] }) 26 [(12, .slot 12), (16, .slot 16), (23, .n2 (.bin .add) (.lit (.int .i64 16)) (.n1 .lens (.slot 21))), (25, .slot 25)] none [],
      .asg 5 (.slot 26)])
    (.seq
    (.seq
    (.reg [.need (.n2 (.bin .neq) (.slot 5) (.lit (.int .i64 0))),
      .asg 28 (.n2 (.bin .neq) (.slot 5) (.lit (.int .i64 0)))])
    (.cond (.slot 28)
      (.seq
      (.reg [.asg 4 (.slot 5)])
      .ret)
      .skip))
    h57_1))
    .skip))
  h57_2))
theorem k57 : fnOK Try.prog 1168602370355 [⟨2, [0, 1, 3, 7, 0, 16, 48, 112, 0, 256, 768, 1792, 3840, 7936, 16128, 0, 40704, 131071, 262143], [(0, []), (1, []), (2, []), (3, []), (4, []), (5, []), (6, []), (7, []), (8, []), (9, []), (10, []), (11, []), (15, []), (12, [3, 7]), (13, []), (14, []), (16, [3, 7]), (17, []), (18, [])], none⟩] [.tmp 4] 2 Try.f57 = some h57 := by kernel_rfl
theorem c57 : callable Try.prog 57 = true := by kernel_rfl
theorem q57 {args : List Value} (ha : args.length = 2) {w : World} {next : Value → World → Prop} {QP : List PanicEntry → World → Prop} (H : hw Try.prog noPanic h57 (endV [.tmp 4] next) (σ0 args) w) : callK Try.prog 57 args w next QP := fn_rule Try.func57 mixed k57 ha H
theorem r57 {args : List Value} (ha : args.length = 2) {w : World} {next : Value → World → Prop} {QP : List PanicEntry → World → Prop} (H : hw Try.prog noPanic h57 (endV [.tmp 4] next) (σ0 args) w) : callvK Try.prog (.func (.func 57) #[] #[]) args w next QP := callf c57 (q57 ha H)

/- (*missive/missiveref06.Log).Rewrite -/
def h58_4 : HC :=
  (.seq
  (.reg [.asg 4 (.slot 5)])
  .ret)
def h58_3 : HC :=
  (.seq
  (.seq
  (.reg [.need (.n2 (.bin .eql) (.slot 5) (.lit (.int .i64 0))),
    .asg 62 (.n2 (.bin .eql) (.slot 5) (.lit (.int .i64 0)))])
  (.cond (.slot 62)
    (.seq
    (.reg [.eff (some 64) (.buildSlice 40 0 #[]) 40 [] none [],
      .eff (some 66) (.call { callee := .builtin .append, args := #[.tmp 64, .tmp 65], argTypes := #[40, 40] }) 40 [(64, .slot 64), (65, .slot 1)] none [],
      .need (.n1 .nilchk (.slot 0)),
      .need (.n1 (.faddr 2) (.n1 .nilchk (.slot 0))),
      .eff none (.store 40 (.tmp 68) (.tmp 66)) 0 [(68, .n1 (.faddr 2) (.n1 .nilchk (.slot 0))), (66, .slot 66)] none []])
    (.reg [.need (.n1 .lensl (.slot 1)),
      .need (.n1 .nilchk (.slot 0)),
      .need (.n1 (.faddr 3) (.n1 .nilchk (.slot 0))),
      .eff none (.store 3 (.tmp 73) (.tmp 71)) 0 [(73, .n1 (.faddr 3) (.n1 .nilchk (.slot 0))), (71, .n1 .lensl (.slot 1))] none []]))
    .skip))
  h58_4)
def h58_2 : HC :=
  (.seq
  (.seq
  (.reg [.need (.n2 (.bin .eql) (.slot 5) (.lit (.int .i64 0))),
    .asg 46 (.n2 (.bin .eql) (.slot 5) (.lit (.int .i64 0)))])
  (.cond (.slot 46)
    (.draw [.need (.n1 .nilchk (.slot 0)),
      .need (.n1 (.faddr 0) (.n1 .nilchk (.slot 0))),
      .need (.n1 .ld (.n1 (.faddr 0) (.n1 .nilchk (.slot 0)))),
      .need (.n1 .nilchk (.slot 0)),
      .need (.n1 (.faddr 1) (.n1 .nilchk (.slot 0))),
      .need (.n1 .ld (.n1 (.faddr 1) (.n1 .nilchk (.slot 0)))),
      .need (.n1 .nilchk (.slot 0)),
      .need (.n1 (.faddr 1) (.n1 .nilchk (.slot 0))),
      .need (.n1 .ld (.n1 (.faddr 1) (.n1 .nilchk (.slot 0)))),
      .need (.n2 (.bin .add) (.n1 .ld (.n1 (.faddr 1) (.n1 .nilchk (.slot 0)))) (.lit (.int .i64 1))),
      .eff (some 60) (.call { callee := .value (.func 76), args := #[.tmp 50, .tmp 54, .tmp 59], argTypes := #[51, 3, 3] }) 26 [(50, .n1 .ld (.n1 (.faddr 0) (.n1 .nilchk (.slot 0)))), (54, .n1 .ld (.n1 (.faddr 1) (.n1 .nilchk (.slot 0)))), (59, .n2 (.bin .add) (.n1 .ld (.n1 (.faddr 1) (.n1 .nilchk (.slot 0)))) (.lit (.int .i64 1)))] none [],
      .asg 5 (.slot 60)])
    .skip))
  h58_3)
def h58_1 : HC :=
  (.seq
  (.seq
  (.reg [.need (.n2 (.bin .eql) (.slot 5) (.lit (.int .i64 0))),
    .asg 34 (.n2 (.bin .eql) (.slot 5) (.lit (.int .i64 0)))])
  (.cond (.slot 34)
    (.draw [.need (.n1 .nilchk (.slot 0)),
      .need (.n1 (.faddr 0) (.n1 .nilchk (.slot 0))),
      .need (.n1 .ld (.n1 (.faddr 0) (.n1 .nilchk (.slot 0)))),
      .need (.n1 .nilchk (.slot 0)),
      .need (.n1 (.faddr 1) (.n1 .nilchk (.slot 0))),
      .need (.n1 .ld (.n1 (.faddr 1) (.n1 .nilchk (.slot 0)))),
      .need (.n2 (.bin .add) (.n1 .ld (.n1 (.faddr 1) (.n1 .nilchk (.slot 0)))) (.lit (.int .i64 1))),
      .eff (some 44) (.call { callee := .value (.func 74), args := #[.tmp 38, .tmp 43], argTypes := #[51, 3] }) 26 [(38, .n1 .ld (.n1 (.faddr 0) (.n1 .nilchk (.slot 0)))), (43, .n2 (.bin .add) (.n1 .ld (.n1 (.faddr 1) (.n1 .nilchk (.slot 0)))) (.lit (.int .i64 1)))] none [],
      .asg 5 (.slot 44)])
    .skip))
  h58_2)
def h58 : HC :=
  (.seq
  (.reg [.asg 4 (.lit (.int .i64 0))])
  (.seq
  (.draw [.need (.n1 .nilchk (.slot 0)),
    .need (.n1 (.faddr 0) (.n1 .nilchk (.slot 0))),
    .need (.n1 .ld (.n1 (.faddr 0) (.n1 .nilchk (.slot 0)))),
    .need (.n1 .nilchk (.slot 0)),
    .need (.n1 (.faddr 1) (.n1 .nilchk (.slot 0))),
    .need (.n1 .ld (.n1 (.faddr 1) (.n1 .nilchk (.slot 0)))),
    .need (.n2 (.bin .add) (.n1 .ld (.n1 (.faddr 1) (.n1 .nilchk (.slot 0)))) (.lit (.int .i64 1))),
    .eff (some 15) (.call { callee := .value (.func 75), args := #[.tmp 9, .tmp 14, .const (.int .i64 0)], argTypes := #[51, 3, 3] }) 26 [(9, .n1 .ld (.n1 (.faddr 0) (.n1 .nilchk (.slot 0)))), (14, .n2 (.bin .add) (.n1 .ld (.n1 (.faddr 1) (.n1 .nilchk (.slot 0)))) (.lit (.int .i64 1)))] none [],
    .asg 5 (.slot 15)])
  (.seq
  (.seq
  (.reg [.need (.n2 (.bin .eql) (.slot 5) (.lit (.int .i64 0))),
    .asg 17 (.n2 (.bin .eql) (.slot 5) (.lit (.int .i64 0)))])
  (.cond (.slot 17)
    (.draw [.need (.n1 .nilchk (.slot 0)),
      .need (.n1 (.faddr 0) (.n1 .nilchk (.slot 0))),
      .need (.n1 .ld (.n1 (.faddr 0) (.n1 .nilchk (.slot 0)))),
      .asg 21 (.n1 .ld (.n1 (.faddr 0) (.n1 .nilchk (.slot 0)))),
      .need (.n1 .nilchk (.slot 0)),
      .need (.n1 (.faddr 1) (.n1 .nilchk (.slot 0))),
      .need (.n1 .ld (.n1 (.faddr 1) (.n1 .nilchk (.slot 0)))),
      .need (.n2 (.bin .add) (.n1 .ld (.n1 (.faddr 1) (.n1 .nilchk (.slot 0)))) (.lit (.int .i64 1))),
      .asg 26 (.n2 (.bin .add) (.n1 .ld (.n1 (.faddr 1) (.n1 .nilchk (.slot 0)))) (.lit (.int .i64 1))),
      .eff (some 28) (.call { callee := .value (.func 95), args := #[.tmp 27], argTypes := #[40] }) 9 [(27, .slot 1)] none [⟨none, .ld, .n1 (.faddr 0) (.n1 .nilchk (.slot 0))⟩, ⟨none, .ld, .n1 (.faddr 1) (.n1 .nilchk (.slot 0))⟩],
      .eff (some 30) (.call { callee := .value (.func 96), args := #[.tmp 29], argTypes := #[40] }) 9 [(29, .slot 1)] none [⟨none, .ld, .n1 (.faddr 0) (.n1 .nilchk (.slot 0))⟩, ⟨none, .ld, .n1 (.faddr 1) (.n1 .nilchk (.slot 0))⟩],
      .need (.n2 (.sbin .add) (.slot 28) (.slot 30)),
      .eff (some 32) (.call { callee := .value (.func 73), args := #[.tmp 21, .tmp 26, .const (.int .i64 0), .tmp 31], argTypes := #[51, 3, 3, 9] }) 26 [(21, .slot 21), (26, .slot 26), (31, .n2 (.sbin .add) (.slot 28) (.slot 30))] none [],
      .asg 5 (.slot 32)])
    .skip))
  h58_1)))
theorem k58 : fnOK Try.prog 97998415875398598707 [⟨1, [0, 1, 3, 7, 0, 16, 48, 112, 240, 511, 1023], [(0, []), (1, []), (2, []), (3, []), (4, []), (5, []), (6, []), (7, []), (8, []), (9, []), (10, [])], none⟩, ⟨3, [0, 1, 3, 7, 0, 16, 48, 112, 240, 0, 512, 0, 3584, 7680, 16383, 32767], [(0, []), (1, []), (2, []), (3, []), (4, []), (5, []), (6, []), (7, []), (8, []), (9, []), (11, []), (10, [3, 7]), (12, [3, 7]), (13, []), (14, []), (15, [])], none⟩, ⟨5, [0, 1, 3, 7, 0, 16, 48, 112, 240, 511, 1023], [(0, []), (1, []), (2, []), (3, []), (4, []), (5, []), (6, []), (7, []), (8, []), (9, []), (10, [])], none⟩, ⟨7, [0, 1, 3, 7, 0, 16, 48, 112, 0, 256, 768, 1792, 3840, 8191, 16383], [(0, []), (1, []), (2, []), (3, []), (4, []), (5, []), (6, []), (7, []), (8, []), (9, []), (10, []), (11, []), (12, []), (13, []), (14, [])], none⟩] [.tmp 4] 2 Try.f58 = some h58 := by kernel_rfl
theorem c58 : callable Try.prog 58 = true := by kernel_rfl
theorem q58 {args : List Value} (ha : args.length = 2) {w : World} {next : Value → World → Prop} {QP : List PanicEntry → World → Prop} (H : hw Try.prog noPanic h58 (endV [.tmp 4] next) (σ0 args) w) : callK Try.prog 58 args w next QP := fn_rule Try.func58 mixed k58 ha H
theorem r58 {args : List Value} (ha : args.length = 2) {w : World} {next : Value → World → Prop} {QP : List PanicEntry → World → Prop} (H : hw Try.prog noPanic h58 (endV [.tmp 4] next) (σ0 args) w) : callvK Try.prog (.func (.func 58) #[] #[]) args w next QP := callf c58 (q58 ha H)

/- (*missive/missiveref06.Log).Append -/
def t61_1 : HT :=
  (.run [.eff (some 18) (.call { callee := .value (.func 96), args := #[.tmp 17], argTypes := #[40] }) 9 [(17, .slot 17)] none [⟨none, .ld, .n1 (.faddr 0) (.n1 .nilchk (.slot 0))⟩, ⟨none, .ld, .n1 (.faddr 1) (.n1 .nilchk (.slot 0))⟩, ⟨none, .ld, .n1 (.faddr 2) (.n1 .nilchk (.slot 0))⟩],
    .need (.n1 .lens (.slot 18)),
    .need (.n2 (.bin .add) (.lit (.int .i64 16)) (.n1 .lens (.slot 18))),
    .eff (some 22) (.buildSlice 40 1 #[(0, .tmp 21)]) 40 [(21, .slot 1)] none [⟨none, .ld, .n1 (.faddr 0) (.n1 .nilchk (.slot 0))⟩, ⟨none, .ld, .n1 (.faddr 1) (.n1 .nilchk (.slot 0))⟩, ⟨none, .ld, .n1 (.faddr 2) (.n1 .nilchk (.slot 0))⟩],
    .eff (some 23) (.call { callee := .value (.func 96), args := #[.tmp 22], argTypes := #[40] }) 9 [(22, .slot 22)] none [⟨none, .ld, .n1 (.faddr 0) (.n1 .nilchk (.slot 0))⟩, ⟨none, .ld, .n1 (.faddr 1) (.n1 .nilchk (.slot 0))⟩],
    .eff (some 24) (.call { callee := .value (.func 73), args := #[.tmp 9, .tmp 13, .tmp 20, .tmp 23], argTypes := #[51, 3, 3, 9] }) 26 [(9, .slot 9), (13, .slot 13), (20, .n2 (.bin .add) (.lit (.int .i64 16)) (.n1 .lens (.slot 18))), (23, .slot 23)] none [],
    .asg 5 (.slot 24)]
  .fin)
def t61_2 : HT :=
  (.run [.eff (some 22) (.buildSlice 40 1 #[(0, .tmp 21)]) 40 [(21, .slot 1)] none [⟨none, .ld, .n1 (.faddr 0) (.n1 .nilchk (.slot 0))⟩, ⟨none, .ld, .n1 (.faddr 1) (.n1 .nilchk (.slot 0))⟩, ⟨none, .ld, .n1 (.faddr 2) (.n1 .nilchk (.slot 0))⟩],
    .eff (some 18) (.call { callee := .value (.func 96), args := #[.tmp 17], argTypes := #[40] }) 9 [(17, .slot 17)] none [⟨none, .ld, .n1 (.faddr 0) (.n1 .nilchk (.slot 0))⟩, ⟨none, .ld, .n1 (.faddr 1) (.n1 .nilchk (.slot 0))⟩],
    .need (.n1 .lens (.slot 18)),
    .need (.n2 (.bin .add) (.lit (.int .i64 16)) (.n1 .lens (.slot 18))),
    .eff (some 23) (.call { callee := .value (.func 96), args := #[.tmp 22], argTypes := #[40] }) 9 [(22, .slot 22)] none [⟨none, .ld, .n1 (.faddr 0) (.n1 .nilchk (.slot 0))⟩, ⟨none, .ld, .n1 (.faddr 1) (.n1 .nilchk (.slot 0))⟩],
    .eff (some 24) (.call { callee := .value (.func 73), args := #[.tmp 9, .tmp 13, .tmp 20, .tmp 23], argTypes := #[51, 3, 3, 9] }) 26 [(9, .slot 9), (13, .slot 13), (20, .n2 (.bin .add) (.lit (.int .i64 16)) (.n1 .lens (.slot 18))), (23, .slot 23)] none [],
    .asg 5 (.slot 24)]
  .fin)
def h61_4 : HC :=
  (.seq
  (.reg [.asg 4 (.slot 5)])
  .ret)
def h61_3 : HC :=
  (.seq
  (.seq
  (.reg [.need (.n2 (.bin .eql) (.slot 5) (.lit (.int .i64 0))),
    .asg 26 (.n2 (.bin .eql) (.slot 5) (.lit (.int .i64 0)))])
  (.cond (.slot 26)
    (.reg [.need (.n1 .nilchk (.slot 0)),
      .need (.n1 (.faddr 2) (.n1 .nilchk (.slot 0))),
      .need (.n1 .ld (.n1 (.faddr 2) (.n1 .nilchk (.slot 0)))),
      .asg 31 (.n1 .ld (.n1 (.faddr 2) (.n1 .nilchk (.slot 0)))),
      .eff (some 33) (.buildSlice 40 1 #[(0, .tmp 32)]) 40 [(32, .slot 1)] none [],
      .eff (some 34) (.call { callee := .builtin .append, args := #[.tmp 31, .tmp 33], argTypes := #[40, 40] }) 40 [(31, .slot 31), (33, .slot 33)] none [],
      .need (.n1 .nilchk (.slot 0)),
      .need (.n1 (.faddr 2) (.n1 .nilchk (.slot 0))),
      .eff none (.store 40 (.tmp 36) (.tmp 34)) 0 [(36, .n1 (.faddr 2) (.n1 .nilchk (.slot 0))), (34, .slot 34)] none []])
    .skip))
  h61_4)
def h61 : HC :=
  (.seq
  (.reg [.asg 4 (.lit (.int .i64 0))])
  (.seq
  (.drawT
    (.run [.need (.n1 .nilchk (.slot 0)),
      .need (.n1 (.faddr 0) (.n1 .nilchk (.slot 0))),
      .need (.n1 .ld (.n1 (.faddr 0) (.n1 .nilchk (.slot 0)))),
      .asg 9 (.n1 .ld (.n1 (.faddr 0) (.n1 .nilchk (.slot 0)))),
      .need (.n1 .nilchk (.slot 0)),
      .need (.n1 (.faddr 1) (.n1 .nilchk (.slot 0))),
      .need (.n1 .ld (.n1 (.faddr 1) (.n1 .nilchk (.slot 0)))),
      .asg 13 (.n1 .ld (.n1 (.faddr 1) (.n1 .nilchk (.slot 0)))),
      .need (.n1 .nilchk (.slot 0)),
      .need (.n1 (.faddr 2) (.n1 .nilchk (.slot 0))),
      .need (.n1 .ld (.n1 (.faddr 2) (.n1 .nilchk (.slot 0)))),
      .asg 17 (.n1 .ld (.n1 (.faddr 2) (.n1 .nilchk (.slot 0))))]
    (.fork
      t61_1
      t61_2)))
  h61_3))
theorem k61 : fnOK Try.prog 28014158387 [⟨1, [0, 1, 3, 7, 0, 16, 48, 112, 0, 256, 768, 1792, 3840, 7936, 16128, 0, 32768, 106240, 262143, 524287], [], (some (.op 0 [] (.op 1 [] (.op 2 [] (.op 3 [] (.op 4 [] (.op 5 [] (.op 6 [] (.op 7 [] (.op 8 [] (.op 9 [] (.op 10 [] (.op 11 [] (.op 15 [] (.fork (.op 12 [3, 7, 11] (.op 13 [] (.op 14 [] (.op 16 [3, 7, 11] (.op 17 [3, 7] (.op 18 [] (.op 19 [] .nil))))))) (.op 16 [3, 7, 11] (.op 12 [3, 7] (.op 13 [] (.op 14 [] (.op 17 [3, 7] (.op 18 [] (.op 19 [] .nil))))))))))))))))))))))⟩] [.tmp 4] 2 Try.f61 = some h61 := by kernel_rfl
theorem c61 : callable Try.prog 61 = true := by kernel_rfl
theorem q61 {args : List Value} (ha : args.length = 2) {w : World} {next : Value → World → Prop} {QP : List PanicEntry → World → Prop} (H : hw Try.prog noPanic h61 (endV [.tmp 4] next) (σ0 args) w) : callK Try.prog 61 args w next QP := fn_rule Try.func61 mixed k61 ha H
theorem r61 {args : List Value} (ha : args.length = 2) {w : World} {next : Value → World → Prop} {QP : List PanicEntry → World → Prop} (H : hw Try.prog noPanic h61 (endV [.tmp 4] next) (σ0 args) w) : callvK Try.prog (.func (.func 61) #[] #[]) args w next QP := callf c61 (q61 ha H)

/- missive/missivelaw06.found -/
def h62_3 : HC :=
  (.reg [.need (.n2 (.bin .add) (.slot 5) (.lit (.int .i64 1))),
    .asg 5 (.n2 (.bin .add) (.slot 5) (.lit (.int .i64 1)))])
def h62_2 : HC :=
  (.seq
  (.block 1
    (.seq
    (.reg [.need (.n2 (.iaddr 1) (.slot 1) (.slot 5)),
      .need (.n1 .ld (.n2 (.iaddr 1) (.slot 1) (.slot 5))),
      .eff (some 18) (.call { callee := .value (.func 46), args := #[.tmp 13, .tmp 17], argTypes := #[40, 40] }) 4 [(13, .slot 0), (17, .n1 .ld (.n2 (.iaddr 1) (.slot 1) (.slot 5)))] none [],
      .asg 6 (.slot 18)])
    (.seq
    (.reg [.asg 19 (.slot 6)])
    (.cond (.slot 19)
      (.seq
      (.reg [.asg 4 (.lit (.bool true))])
      .ret)
      .skip))))
  h62_3)
def h62_1 : HC :=
  (.seq
  (.seq
  (.reg [.need (.n1 .lensl (.slot 1)),
    .need (.n2 (.bin .lss) (.slot 5) (.n1 .lensl (.slot 1))),
    .asg 10 (.n2 (.bin .lss) (.slot 5) (.n1 .lensl (.slot 1)))])
  (.cond (.slot 10)
    .skip
    (.exit 0)))
  h62_2)
def h62_4 : HC :=
  (.seq
  (.reg [.asg 4 (.lit (.bool false))])
  .ret)
def h62 : HC :=
  (.seq
  (.reg [.asg 4 (.lit (.bool false))])
  (.seq
  (.seq
  (.reg [.asg 5 (.lit (.int .i64 0))])
  (.block 0
    (.loop
      h62_1)))
  h62_4))
theorem k62 : fnOK Try.prog 787571 [] [.tmp 4] 2 Try.f62 = some h62 := by kernel_rfl
theorem c62 : callable Try.prog 62 = true := by kernel_rfl
theorem q62 {args : List Value} (ha : args.length = 2) {w : World} {next : Value → World → Prop} {QP : List PanicEntry → World → Prop} (H : hw Try.prog noPanic h62 (endV [.tmp 4] next) (σ0 args) w) : callK Try.prog 62 args w next QP := fn_rule Try.func62 mixed k62 ha H
theorem r62 {args : List Value} (ha : args.length = 2) {w : World} {next : Value → World → Prop} {QP : List PanicEntry → World → Prop} (H : hw Try.prog noPanic h62 (endV [.tmp 4] next) (σ0 args) w) : callvK Try.prog (.func (.func 62) #[] #[]) args w next QP := callf c62 (q62 ha H)

/- missive/journal.value -/
def h80_3 : HC :=
  (.reg [.need (.n2 (.bin .sub) (.slot 4) (.lit (.int .i64 1))),
    .asg 4 (.n2 (.bin .sub) (.slot 4) (.lit (.int .i64 1)))])
def h80_2 : HC :=
  (.seq
  (.block 1
    (.reg [.need (.n2 (.bin .shl) (.slot 3) (.lit (.int .u64 8))),
      .need (.n2 .idxs (.slot 0) (.slot 4)),
      .need (.n1 (.conv .i64) (.n2 .idxs (.slot 0) (.slot 4))),
      .need (.n2 (.bin .or) (.n2 (.bin .shl) (.slot 3) (.lit (.int .u64 8))) (.n1 (.conv .i64) (.n2 .idxs (.slot 0) (.slot 4)))),
      .asg 3 (.n2 (.bin .or) (.n2 (.bin .shl) (.slot 3) (.lit (.int .u64 8))) (.n1 (.conv .i64) (.n2 .idxs (.slot 0) (.slot 4))))]))
  h80_3)
def h80_1 : HC :=
  (.seq
  (.seq
  (.reg [.need (.n2 (.bin .geq) (.slot 4) (.lit (.int .i64 0))),
    .asg 6 (.n2 (.bin .geq) (.slot 4) (.lit (.int .i64 0)))])
  (.cond (.slot 6)
    .skip
    (.exit 0)))
  h80_2)
def h80_4 : HC :=
  (.seq
  (.reg [.asg 2 (.slot 3)])
  .ret)
def h80 : HC :=
  (.seq
  (.reg [.asg 2 (.lit (.int .i64 0))])
  (.seq
  (.reg [.asg 3 (.lit (.int .i64 0))])
  (.seq
  (.seq
  (.reg [.asg 4 (.lit (.int .i64 7))])
  (.block 0
    (.loop
      h80_1)))
  h80_4)))
theorem k80 : fnOK Try.prog 93 [] [.tmp 2] 1 Try.f80 = some h80 := by kernel_rfl
theorem c80 : callable Try.prog 80 = true := by kernel_rfl
theorem q80 {args : List Value} (ha : args.length = 1) {w : World} {next : Value → World → Prop} {QP : List PanicEntry → World → Prop} (H : hw Try.prog noPanic h80 (endV [.tmp 2] next) (σ0 args) w) : callK Try.prog 80 args w next QP := fn_rule Try.func80 mixed k80 ha H
theorem r80 {args : List Value} (ha : args.length = 1) {w : World} {next : Value → World → Prop} {QP : List PanicEntry → World → Prop} (H : hw Try.prog noPanic h80 (endV [.tmp 2] next) (σ0 args) w) : callvK Try.prog (.func (.func 80) #[] #[]) args w next QP := callf c80 (q80 ha H)

/- missive/journal.split -/
def h81_4 : HC :=
  (.draw [.need (.n3 (.sls false true) (.slot 0) (.lit (.tuple #[])) (.slot 4)),
    .need (.n3 (.sls true false) (.slot 0) (.slot 4) (.lit (.tuple #[]))),
    .eff (some 39) (.buildSlice 40 1 #[(0, .tmp 38)]) 40 [(38, .n3 (.sls false true) (.slot 0) (.lit (.tuple #[])) (.slot 4))] none [],
    .eff (some 40) (.call { callee := .builtin .append, args := #[.tmp 35, .tmp 39], argTypes := #[40, 40] }) 40 [(35, .slot 2), (39, .slot 39)] none [],
    .asg 2 (.slot 40),
    .asg 0 (.n3 (.sls true false) (.slot 0) (.slot 4) (.lit (.tuple #[])))])
def h81_3 : HC :=
  (.seq
  (.draw [.need (.n3 (.sls true false) (.slot 0) (.lit (.int .i64 8)) (.lit (.tuple #[]))),
    .eff (some 13) (.call { callee := .value (.func 80), args := #[.tmp 12], argTypes := #[9] }) 3 [(12, .slot 0)] none [],
    .eff (some 16) (.call { callee := .value (.func 80), args := #[.tmp 15], argTypes := #[9] }) 3 [(15, .n3 (.sls true false) (.slot 0) (.lit (.int .i64 8)) (.lit (.tuple #[])))] none [],
    .asg 4 (.slot 13),
    .asg 5 (.slot 16)])
  (.seq
  (.reg [.need (.n3 (.sls true false) (.slot 0) (.lit (.int .i64 16)) (.lit (.tuple #[]))),
    .asg 0 (.n3 (.sls true false) (.slot 0) (.lit (.int .i64 16)) (.lit (.tuple #[])))])
  (.seq
  (.seq
  (.reg [.need (.n2 (.bin .lss) (.slot 4) (.lit (.int .i64 0))),
    .need (.gif (.n2 (.bin .lss) (.slot 4) (.lit (.int .i64 0))) false (.n1 .lens (.slot 0))),
    .need (.gif (.n2 (.bin .lss) (.slot 4) (.lit (.int .i64 0))) false (.n2 (.bin .gtr) (.slot 4) (.n1 .lens (.slot 0)))),
    .need (.n3 .pick (.n2 (.bin .lss) (.slot 4) (.lit (.int .i64 0))) (.lit (.bool true)) (.n2 (.bin .gtr) (.slot 4) (.n1 .lens (.slot 0)))),
    .need (.gif (.n3 .pick (.n2 (.bin .lss) (.slot 4) (.lit (.int .i64 0))) (.lit (.bool true)) (.n2 (.bin .gtr) (.slot 4) (.n1 .lens (.slot 0)))) false (.n3 (.sls false true) (.slot 0) (.lit (.tuple #[])) (.slot 4))),
    .eff (some 31) (.call { callee := .value (.func 106), args := #[.tmp 30], argTypes := #[9] }) 3 [(30, .n3 (.sls false true) (.slot 0) (.lit (.tuple #[])) (.slot 4))] (some (.n3 .pick (.n2 (.bin .lss) (.slot 4) (.lit (.int .i64 0))) (.lit (.bool true)) (.n2 (.bin .gtr) (.slot 4) (.n1 .lens (.slot 0))), false)) [],
    .need (.gif (.n3 .pick (.n2 (.bin .lss) (.slot 4) (.lit (.int .i64 0))) (.lit (.bool true)) (.n2 (.bin .gtr) (.slot 4) (.n1 .lens (.slot 0)))) false (.n2 (.bin .neq) (.slot 31) (.slot 5))),
    .need (.n3 .pick (.n3 .pick (.n2 (.bin .lss) (.slot 4) (.lit (.int .i64 0))) (.lit (.bool true)) (.n2 (.bin .gtr) (.slot 4) (.n1 .lens (.slot 0)))) (.lit (.bool true)) (.n2 (.bin .neq) (.slot 31) (.slot 5))),
    .asg 34 (.n3 .pick (.n3 .pick (.n2 (.bin .lss) (.slot 4) (.lit (.int .i64 0))) (.lit (.bool true)) (.n2 (.bin .gtr) (.slot 4) (.n1 .lens (.slot 0)))) (.lit (.bool true)) (.n2 (.bin .neq) (.slot 31) (.slot 5)))])
  (.cond (.slot 34)
    (.seq
    (.reg [.asg 2 (.lit (.slice none 0 0)),
      .asg 3 (.lit (.bool false))])
    .ret)
    .skip))
  h81_4)))
def h81_2 : HC :=
  (.block 1
    (.seq
    (.seq
    (.reg [.need (.n1 .lens (.slot 0)),
      .need (.n2 (.bin .lss) (.n1 .lens (.slot 0)) (.lit (.int .i64 16))),
      .asg 11 (.n2 (.bin .lss) (.n1 .lens (.slot 0)) (.lit (.int .i64 16)))])
    (.cond (.slot 11)
      (.seq
      (.reg [.asg 2 (.lit (.slice none 0 0)),
        .asg 3 (.lit (.bool false))])
      .ret)
      .skip))
    h81_3))
def h81_1 : HC :=
  (.seq
  (.seq
  (.reg [.need (.n1 .lens (.slot 0)),
    .need (.n2 (.bin .gtr) (.n1 .lens (.slot 0)) (.lit (.int .i64 0))),
    .asg 8 (.n2 (.bin .gtr) (.n1 .lens (.slot 0)) (.lit (.int .i64 0)))])
  (.cond (.slot 8)
    .skip
    (.exit 0)))
  h81_2)
def h81_5 : HC :=
  (.seq
  (.reg [.asg 2 (.slot 2),
    .asg 3 (.lit (.bool true))])
  .ret)
def h81 : HC :=
  (.seq
  (.reg [.asg 2 (.lit (.slice none 0 0)),
    .asg 3 (.lit (.bool false))])
  (.seq
  (.block 0
    (.loop
      h81_1))
  h81_5))
theorem k81 : fnOK Try.prog 1668594870589 [⟨4, [0, 1, 0, 4, 15, 31, 63], [(0, []), (2, []), (3, []), (1, []), (4, []), (5, []), (6, [])], none⟩, ⟨8, [0, 0, 0, 6, 14, 31, 0, 0, 192, 63, 1023], [(0, []), (1, []), (2, []), (3, []), (6, []), (7, []), (8, []), (4, []), (5, []), (9, []), (10, [])], none⟩] [.tmp 2, .tmp 3] 1 Try.f81 = some h81 := by kernel_rfl
theorem c81 : callable Try.prog 81 = true := by kernel_rfl
theorem q81 {args : List Value} (ha : args.length = 1) {w : World} {next : Value → World → Prop} {QP : List PanicEntry → World → Prop} (H : hw Try.prog noPanic h81 (endV [.tmp 2, .tmp 3] next) (σ0 args) w) : callK Try.prog 81 args w next QP := fn_rule Try.func81 mixed k81 ha H
theorem r81 {args : List Value} (ha : args.length = 1) {w : World} {next : Value → World → Prop} {QP : List PanicEntry → World → Prop} (H : hw Try.prog noPanic h81 (endV [.tmp 2, .tmp 3] next) (σ0 args) w) : callvK Try.prog (.func (.func 81) #[] #[]) args w next QP := callf c81 (q81 ha H)

/- missive/missiveref06.get -/
def h82_4 : HC :=
  (.reg [.need (.n2 (.bin .sub) (.slot 7) (.lit (.int .i64 1))),
    .asg 7 (.n2 (.bin .sub) (.slot 7) (.lit (.int .i64 1)))])
def h82_3 : HC :=
  (.seq
  (.block 1
    (.reg [.need (.n2 (.bin .shl) (.slot 6) (.lit (.int .u64 8))),
      .need (.n2 (.bin .add) (.slot 1) (.slot 7)),
      .need (.n2 .idxs (.slot 0) (.n2 (.bin .add) (.slot 1) (.slot 7))),
      .need (.n1 (.conv .i64) (.n2 .idxs (.slot 0) (.n2 (.bin .add) (.slot 1) (.slot 7)))),
      .need (.n2 (.bin .or) (.n2 (.bin .shl) (.slot 6) (.lit (.int .u64 8))) (.n1 (.conv .i64) (.n2 .idxs (.slot 0) (.n2 (.bin .add) (.slot 1) (.slot 7))))),
      .asg 6 (.n2 (.bin .or) (.n2 (.bin .shl) (.slot 6) (.lit (.int .u64 8))) (.n1 (.conv .i64) (.n2 .idxs (.slot 0) (.n2 (.bin .add) (.slot 1) (.slot 7)))))]))
  h82_4)
def h82_2 : HC :=
  (.seq
  (.seq
  (.reg [.need (.n2 (.bin .geq) (.slot 7) (.lit (.int .i64 0))),
    .asg 23 (.n2 (.bin .geq) (.slot 7) (.lit (.int .i64 0)))])
  (.cond (.slot 23)
    .skip
    (.exit 0)))
  h82_3)
def h82_5 : HC :=
  (.seq
  (.reg [.asg 4 (.slot 6),
    .asg 5 (.lit (.bool true))])
  .ret)
def h82_1 : HC :=
  (.seq
  (.reg [.asg 6 (.lit (.int .i64 0))])
  (.seq
  (.seq
  (.reg [.asg 7 (.lit (.int .i64 7))])
  (.block 0
    (.loop
      h82_2)))
  h82_5))
def h82 : HC :=
  (.seq
  (.reg [.asg 4 (.lit (.int .i64 0)),
    .asg 5 (.lit (.bool false))])
  (.seq
  (.seq
  (.reg [.need (.n2 (.bin .lss) (.slot 1) (.lit (.int .i64 0))),
    .need (.gif (.n2 (.bin .lss) (.slot 1) (.lit (.int .i64 0))) false (.n1 .lens (.slot 0))),
    .need (.gif (.n2 (.bin .lss) (.slot 1) (.lit (.int .i64 0))) false (.n2 (.bin .lss) (.n1 .lens (.slot 0)) (.lit (.int .i64 8)))),
    .need (.n3 .pick (.n2 (.bin .lss) (.slot 1) (.lit (.int .i64 0))) (.lit (.bool true)) (.n2 (.bin .lss) (.n1 .lens (.slot 0)) (.lit (.int .i64 8)))),
    .need (.gif (.n3 .pick (.n2 (.bin .lss) (.slot 1) (.lit (.int .i64 0))) (.lit (.bool true)) (.n2 (.bin .lss) (.n1 .lens (.slot 0)) (.lit (.int .i64 8)))) false (.n1 .lens (.slot 0))),
    .need (.gif (.n3 .pick (.n2 (.bin .lss) (.slot 1) (.lit (.int .i64 0))) (.lit (.bool true)) (.n2 (.bin .lss) (.n1 .lens (.slot 0)) (.lit (.int .i64 8)))) false (.n2 (.bin .sub) (.n1 .lens (.slot 0)) (.lit (.int .i64 8)))),
    .need (.gif (.n3 .pick (.n2 (.bin .lss) (.slot 1) (.lit (.int .i64 0))) (.lit (.bool true)) (.n2 (.bin .lss) (.n1 .lens (.slot 0)) (.lit (.int .i64 8)))) false (.n2 (.bin .gtr) (.slot 1) (.n2 (.bin .sub) (.n1 .lens (.slot 0)) (.lit (.int .i64 8))))),
    .need (.n3 .pick (.n3 .pick (.n2 (.bin .lss) (.slot 1) (.lit (.int .i64 0))) (.lit (.bool true)) (.n2 (.bin .lss) (.n1 .lens (.slot 0)) (.lit (.int .i64 8)))) (.lit (.bool true)) (.n2 (.bin .gtr) (.slot 1) (.n2 (.bin .sub) (.n1 .lens (.slot 0)) (.lit (.int .i64 8))))),
    .asg 21 (.n3 .pick (.n3 .pick (.n2 (.bin .lss) (.slot 1) (.lit (.int .i64 0))) (.lit (.bool true)) (.n2 (.bin .lss) (.n1 .lens (.slot 0)) (.lit (.int .i64 8)))) (.lit (.bool true)) (.n2 (.bin .gtr) (.slot 1) (.n2 (.bin .sub) (.n1 .lens (.slot 0)) (.lit (.int .i64 8)))))])
  (.cond (.slot 21)
    (.seq
    (.reg [.asg 4 (.lit (.int .i64 0)),
      .asg 5 (.lit (.bool false))])
    .ret)
    .skip))
  h82_1))
theorem k82 : fnOK Try.prog 10486003 [] [.tmp 4, .tmp 5] 2 Try.f82 = some h82 := by kernel_rfl
theorem c82 : callable Try.prog 82 = true := by kernel_rfl
theorem q82 {args : List Value} (ha : args.length = 2) {w : World} {next : Value → World → Prop} {QP : List PanicEntry → World → Prop} (H : hw Try.prog noPanic h82 (endV [.tmp 4, .tmp 5] next) (σ0 args) w) : callK Try.prog 82 args w next QP := fn_rule Try.func82 mixed k82 ha H
theorem r82 {args : List Value} (ha : args.length = 2) {w : World} {next : Value → World → Prop} {QP : List PanicEntry → World → Prop} (H : hw Try.prog noPanic h82 (endV [.tmp 4, .tmp 5] next) (σ0 args) w) : callvK Try.prog (.func (.func 82) #[] #[]) args w next QP := callf c82 (q82 ha H)

/- missive/missiveref03.Crc -/
def h83_5 : HC :=
  (.reg [.need (.n2 (.bin .add) (.slot 5) (.lit (.int .i64 1))),
    .asg 5 (.n2 (.bin .add) (.slot 5) (.lit (.int .i64 1)))])
def h83_4 : HC :=
  (.seq
  (.block 3
    (.seq
    (.reg [.need (.n2 (.bin .rem) (.slot 3) (.lit (.int .i64 2))),
      .need (.n2 (.bin .eql) (.n2 (.bin .rem) (.slot 3) (.lit (.int .i64 2))) (.lit (.int .i64 1))),
      .asg 24 (.n2 (.bin .eql) (.n2 (.bin .rem) (.slot 3) (.lit (.int .i64 2))) (.lit (.int .i64 1)))])
    (.cond (.slot 24)
      (.reg [.need (.n2 (.bin .quo) (.slot 3) (.lit (.int .i64 2))),
        .need (.n2 (.bin .xor) (.n2 (.bin .quo) (.slot 3) (.lit (.int .i64 2))) (.lit (.int .i64 3988292384))),
        .asg 3 (.n2 (.bin .xor) (.n2 (.bin .quo) (.slot 3) (.lit (.int .i64 2))) (.lit (.int .i64 3988292384)))])
      (.reg [.need (.n2 (.bin .quo) (.slot 3) (.lit (.int .i64 2))),
        .asg 3 (.n2 (.bin .quo) (.slot 3) (.lit (.int .i64 2)))]))))
  h83_5)
def h83_3 : HC :=
  (.seq
  (.seq
  (.reg [.need (.n2 (.bin .lss) (.slot 5) (.lit (.int .i64 8))),
    .asg 19 (.n2 (.bin .lss) (.slot 5) (.lit (.int .i64 8)))])
  (.cond (.slot 19)
    .skip
    (.exit 2)))
  h83_4)
def h83_6 : HC :=
  (.reg [.need (.n2 (.bin .add) (.slot 4) (.lit (.int .i64 1))),
    .asg 4 (.n2 (.bin .add) (.slot 4) (.lit (.int .i64 1)))])
def h83_2 : HC :=
  (.seq
  (.block 1
    (.seq
    (.reg [.need (.n2 .idxs (.slot 0) (.slot 4)),
      .need (.n1 (.conv .i64) (.n2 .idxs (.slot 0) (.slot 4))),
      .need (.n2 (.bin .xor) (.slot 3) (.n1 (.conv .i64) (.n2 .idxs (.slot 0) (.slot 4)))),
      .asg 3 (.n2 (.bin .xor) (.slot 3) (.n1 (.conv .i64) (.n2 .idxs (.slot 0) (.slot 4))))])
    (.seq
    (.reg [.asg 5 (.lit (.int .i64 0))])
    (.block 2
      (.loop
        h83_3)))))
  h83_6)
def h83_1 : HC :=
  (.seq
  (.seq
  (.reg [.need (.n1 .lens (.slot 0)),
    .need (.n2 (.bin .lss) (.slot 4) (.n1 .lens (.slot 0))),
    .asg 9 (.n2 (.bin .lss) (.slot 4) (.n1 .lens (.slot 0)))])
  (.cond (.slot 9)
    .skip
    (.exit 0)))
  h83_2)
def h83_7 : HC :=
  (.seq
  (.reg [.need (.n2 (.bin .xor) (.slot 3) (.lit (.int .i64 4294967295))),
    .asg 2 (.n2 (.bin .xor) (.slot 3) (.lit (.int .i64 4294967295)))])
  .ret)
def h83 : HC :=
  (.seq
  (.reg [.asg 2 (.lit (.int .i64 0))])
  (.seq
  (.reg [.asg 3 (.lit (.int .i64 4294967295))])
  (.seq
  (.seq
  (.reg [.asg 4 (.lit (.int .i64 0))])
  (.block 0
    (.loop
      h83_1)))
  h83_7)))
theorem k83 : fnOK Try.prog 17302077 [] [.tmp 2] 1 Try.f83 = some h83 := by kernel_rfl
theorem c83 : callable Try.prog 83 = true := by kernel_rfl
theorem q83 {args : List Value} (ha : args.length = 1) {w : World} {next : Value → World → Prop} {QP : List PanicEntry → World → Prop} (H : hw Try.prog noPanic h83 (endV [.tmp 2] next) (σ0 args) w) : callK Try.prog 83 args w next QP := fn_rule Try.func83 mixed k83 ha H
theorem r83 {args : List Value} (ha : args.length = 1) {w : World} {next : Value → World → Prop} {QP : List PanicEntry → World → Prop} (H : hw Try.prog noPanic h83 (endV [.tmp 2] next) (σ0 args) w) : callvK Try.prog (.func (.func 83) #[] #[]) args w next QP := callf c83 (q83 ha H)

/- slices.Clone(()string,string) -/
def h84_1 : HC :=
  (.seq
  (.reg [.eff (some 5) (.buildSlice 40 0 #[]) 40 [] none [],
    .eff (some 7) (.call { callee := .builtin .append, args := #[.tmp 5, .tmp 6], argTypes := #[40, 40] }) 40 [(5, .slot 5), (6, .slot 0)] none [],
    .asg 2 (.slot 7)])
  .ret)
def h84 : HC :=
  (.seq
  (.reg [.asg 2 (.lit (.slice none 0 0))])
  (.seq
  (.seq
  (.reg [.need (.n2 (.slnil false) (.slot 0) (.lit (.slice none 0 0))),
    .asg 4 (.n2 (.slnil false) (.slot 0) (.lit (.slice none 0 0)))])
  (.cond (.slot 4)
    (.seq
    (.reg [.asg 2 (.lit (.slice none 0 0))])
    .ret)
    .skip))
  h84_1))
theorem k84 : fnOK Try.prog 181 [] [.tmp 2] 1 Try.f84 = some h84 := by kernel_rfl
theorem c84 : callable Try.prog 84 = true := by kernel_rfl
theorem q84 {args : List Value} (ha : args.length = 1) {w : World} {next : Value → World → Prop} {QP : List PanicEntry → World → Prop} (H : hw Try.prog noPanic h84 (endV [.tmp 2] next) (σ0 args) w) : callK Try.prog 84 args w next QP := fn_rule Try.func84 mixed k84 ha H
theorem r84 {args : List Value} (ha : args.length = 1) {w : World} {next : Value → World → Prop} {QP : List PanicEntry → World → Prop} (H : hw Try.prog noPanic h84 (endV [.tmp 2] next) (σ0 args) w) : callvK Try.prog (.func (.func 84) #[] #[]) args w next QP := callf c84 (q84 ha H)

/- missive/journal.forms -/
def h85_3 : HC :=
  (.reg [.need (.n2 (.bin .add) (.slot 8) (.lit (.int .i64 1))),
    .asg 8 (.n2 (.bin .add) (.slot 8) (.lit (.int .i64 1)))])
def h85_2 : HC :=
  (.seq
  (.block 1
    (.seq
    (.reg [.need (.n2 (.iaddr 1) (.slot 6) (.slot 8)),
      .need (.n1 .ld (.n2 (.iaddr 1) (.slot 6) (.slot 8))),
      .asg 5 (.n1 .ld (.n2 (.iaddr 1) (.slot 6) (.slot 8)))])
    (.reg [.need (.n1 .lens (.slot 5)),
      .eff (some 14) (.call { callee := .value (.func 108), args := #[.tmp 13], argTypes := #[3] }) 9 [(13, .n1 .lens (.slot 5))] none [],
      .eff (some 16) (.call { callee := .value (.func 106), args := #[.tmp 15], argTypes := #[9] }) 3 [(15, .slot 5)] none [],
      .eff (some 17) (.call { callee := .value (.func 108), args := #[.tmp 16], argTypes := #[3] }) 9 [(16, .slot 16)] none [],
      .need (.n2 (.sbin .add) (.slot 14) (.slot 17)),
      .need (.n2 (.sbin .add) (.n2 (.sbin .add) (.slot 14) (.slot 17)) (.slot 5)),
      .eff (some 21) (.call { callee := .value (.func 107), args := #[.tmp 3, .tmp 20], argTypes := #[122, 9] }) 125 [(3, .slot 3), (20, .n2 (.sbin .add) (.n2 (.sbin .add) (.slot 14) (.slot 17)) (.slot 5))] none []])))
  h85_3)
def h85_1 : HC :=
  (.seq
  (.reg [.need (.n2 (.bin .lss) (.slot 8) (.slot 7)),
    .asg 9 (.n2 (.bin .lss) (.slot 8) (.slot 7))])
  (.seq
  (.cond (.slot 9)
    .skip
    (.exit 0))
  h85_2))
def h85_4 : HC :=
  (.seq
  (.reg [.eff (some 23) (.call { callee := .value (.func 109), args := #[.tmp 3], argTypes := #[122] }) 9 [(3, .slot 3)] none [],
    .asg 2 (.slot 23)])
  .ret)
def h85 : HC :=
  (.seq
  (.reg [.asg 2 (.lit (str []))])
  (.seq
  (.reg [.eff (some 3) (.alloc 122) 0 [] none []])
  (.seq
  (.seq
  (.reg [.asg 6 (.slot 0),
    .need (.n1 .lensl (.slot 6)),
    .asg 7 (.n1 .lensl (.slot 6)),
    .asg 8 (.lit (.int .i64 0))])
  (.block 0
    (.loop
      h85_1)))
  h85_4)))
theorem k85 : fnOK Try.prog 10699757 [] [.tmp 2] 1 Try.f85 = some h85 := by kernel_rfl
theorem c85 : callable Try.prog 85 = true := by kernel_rfl
theorem q85 {args : List Value} (ha : args.length = 1) {w : World} {next : Value → World → Prop} {QP : List PanicEntry → World → Prop} (H : hw Try.prog noPanic h85 (endV [.tmp 2] next) (σ0 args) w) : callK Try.prog 85 args w next QP := fn_rule Try.func85 mixed k85 ha H
theorem r85 {args : List Value} (ha : args.length = 1) {w : World} {next : Value → World → Prop} {QP : List PanicEntry → World → Prop} (H : hw Try.prog noPanic h85 (endV [.tmp 2] next) (σ0 args) w) : callvK Try.prog (.func (.func 85) #[] #[]) args w next QP := callf c85 (q85 ha H)

/- missive/journal.all -/
def h86_3 : HC :=
  (.reg [.need (.n2 (.bin .add) (.slot 8) (.lit (.int .i64 1))),
    .asg 8 (.n2 (.bin .add) (.slot 8) (.lit (.int .i64 1)))])
def h86_2 : HC :=
  (.seq
  (.block 1
    (.seq
    (.reg [.need (.n2 (.iaddr 1) (.slot 6) (.slot 8)),
      .need (.n1 .ld (.n2 (.iaddr 1) (.slot 6) (.slot 8))),
      .asg 4 (.n1 .ld (.n2 (.iaddr 1) (.slot 6) (.slot 8)))])
    (.seq
    (.reg [.eff (some 13) (.call { callee := .value (.tmp 12), args := #[], argTypes := #[] }) 26 [(12, .slot 4)] none [],
      .asg 5 (.slot 13)])
    (.seq
    (.reg [.need (.n2 (.bin .neq) (.slot 5) (.lit (.int .i64 0))),
      .asg 15 (.n2 (.bin .neq) (.slot 5) (.lit (.int .i64 0)))])
    (.cond (.slot 15)
      (.seq
      (.reg [.asg 2 (.slot 5)])
      .ret)
      .skip)))))
  h86_3)
def h86_1 : HC :=
  (.seq
  (.reg [.need (.n2 (.bin .lss) (.slot 8) (.slot 7)),
    .asg 9 (.n2 (.bin .lss) (.slot 8) (.slot 7))])
  (.seq
  (.cond (.slot 9)
    .skip
    (.exit 0))
  h86_2))
def h86_4 : HC :=
  (.seq
  (.reg [.asg 2 (.lit (.int .i64 0))])
  .ret)
def h86 : HC :=
  (.seq
  (.reg [.asg 2 (.lit (.int .i64 0))])
  (.seq
  (.seq
  (.reg [.asg 6 (.slot 0),
    .need (.n1 .lensl (.slot 6)),
    .asg 7 (.n1 .lensl (.slot 6)),
    .asg 8 (.lit (.int .i64 0))])
  (.block 0
    (.loop
      h86_1)))
  h86_4))
theorem k86 : fnOK Try.prog 41973 [] [.tmp 2] 1 Try.f86 = some h86 := by kernel_rfl
theorem c86 : callable Try.prog 86 = true := by kernel_rfl
theorem q86 {args : List Value} (ha : args.length = 1) {w : World} {next : Value → World → Prop} {QP : List PanicEntry → World → Prop} (H : hw Try.prog noPanic h86 (endV [.tmp 2] next) (σ0 args) w) : callK Try.prog 86 args w next QP := fn_rule Try.func86 mixed k86 ha H
theorem r86 {args : List Value} (ha : args.length = 1) {w : World} {next : Value → World → Prop} {QP : List PanicEntry → World → Prop} (H : hw Try.prog noPanic h86 (endV [.tmp 2] next) (σ0 args) w) : callvK Try.prog (.func (.func 86) #[] #[]) args w next QP := callf c86 (q86 ha H)

/- (*missive/journal.Log).Rewrite$1 -/
def h87 : HC :=
  (.seq
  (.reg [.asg 1 (.lit (.int .i64 0))])
  (.seq
  (.draw [.need (.n1 .ld (.slot 0)),
    .need (.n1 .nilchk (.n1 .ld (.slot 0))),
    .need (.n1 (.faddr 0) (.n1 .nilchk (.n1 .ld (.slot 0)))),
    .need (.n1 .ld (.n1 (.faddr 0) (.n1 .nilchk (.n1 .ld (.slot 0))))),
    .need (.n1 .ld (.slot 0)),
    .need (.n1 .nilchk (.n1 .ld (.slot 0))),
    .need (.n1 (.faddr 1) (.n1 .nilchk (.n1 .ld (.slot 0)))),
    .need (.n1 .ld (.n1 (.faddr 1) (.n1 .nilchk (.n1 .ld (.slot 0))))),
    .need (.n2 (.bin .add) (.n1 .ld (.n1 (.faddr 1) (.n1 .nilchk (.n1 .ld (.slot 0))))) (.lit (.int .i64 1))),
    .eff (some 11) (.call { callee := .value (.func 42), args := #[.tmp 5, .tmp 10, .const (.int .i64 0)], argTypes := #[24, 3, 3] }) 26 [(5, .n1 .ld (.n1 (.faddr 0) (.n1 .nilchk (.n1 .ld (.slot 0))))), (10, .n2 (.bin .add) (.n1 .ld (.n1 (.faddr 1) (.n1 .nilchk (.n1 .ld (.slot 0))))) (.lit (.int .i64 1)))] none [],
    .asg 1 (.slot 11)])
  .ret))
theorem k87 : fnOK Try.prog 2051 [⟨1, [0, 1, 3, 7, 0, 16, 48, 112, 240, 511, 1023], [(0, []), (1, []), (2, []), (3, []), (4, []), (5, []), (6, []), (7, []), (8, []), (9, []), (10, [])], none⟩] [.tmp 1] 1 Try.f87 = some h87 := by kernel_rfl
theorem c87 : callable Try.prog 87 = true := by kernel_rfl
theorem q87 {args : List Value} (ha : args.length = 1) {w : World} {next : Value → World → Prop} {QP : List PanicEntry → World → Prop} (H : hw Try.prog noPanic h87 (endV [.tmp 1] next) (σ0 args) w) : callK Try.prog 87 args w next QP := fn_rule Try.func87 mixed k87 ha H
theorem r87 {args : List Value} (ha : args.length = 1) {w : World} {next : Value → World → Prop} {QP : List PanicEntry → World → Prop} (H : hw Try.prog noPanic h87 (endV [.tmp 1] next) (σ0 args) w) : callvK Try.prog (.func (.func 87) #[] #[]) args w next QP := callf c87 (q87 ha H)

/- (*missive/journal.Log).Rewrite$2 -/
def h88 : HC :=
  (.seq
  (.reg [.asg 4 (.lit (.int .i64 0))])
  (.seq
  (.draw [.need (.n1 .ld (.slot 0)),
    .need (.n1 .nilchk (.n1 .ld (.slot 0))),
    .need (.n1 (.faddr 0) (.n1 .nilchk (.n1 .ld (.slot 0)))),
    .need (.n1 .ld (.n1 (.faddr 0) (.n1 .nilchk (.n1 .ld (.slot 0))))),
    .asg 8 (.n1 .ld (.n1 (.faddr 0) (.n1 .nilchk (.n1 .ld (.slot 0))))),
    .need (.n1 .ld (.slot 0)),
    .need (.n1 .nilchk (.n1 .ld (.slot 0))),
    .need (.n1 (.faddr 1) (.n1 .nilchk (.n1 .ld (.slot 0)))),
    .need (.n1 .ld (.n1 (.faddr 1) (.n1 .nilchk (.n1 .ld (.slot 0))))),
    .need (.n2 (.bin .add) (.n1 .ld (.n1 (.faddr 1) (.n1 .nilchk (.n1 .ld (.slot 0))))) (.lit (.int .i64 1))),
    .asg 13 (.n2 (.bin .add) (.n1 .ld (.n1 (.faddr 1) (.n1 .nilchk (.n1 .ld (.slot 0))))) (.lit (.int .i64 1))),
    .need (.n1 .ld (.slot 1)),
    .need (.n1 .ld (.slot 2)),
    .need (.n1 .lensl (.n1 .ld (.slot 2))),
    .need (.n1 .ld (.slot 3)),
    .asg 18 (.n1 .ld (.slot 3)),
    .eff (some 17) (.call { callee := .value (.func 89), args := #[.tmp 14, .tmp 16], argTypes := #[3, 3] }) 9 [(14, .n1 .ld (.slot 1)), (16, .n1 .lensl (.n1 .ld (.slot 2)))] none [⟨none, .ld, .slot 0⟩, ⟨none, .ld, .n1 (.faddr 0) (.n1 .nilchk (.n1 .ld (.slot 0)))⟩, ⟨none, .ld, .slot 0⟩, ⟨none, .ld, .n1 (.faddr 1) (.n1 .nilchk (.n1 .ld (.slot 0)))⟩, ⟨none, .ld, .slot 3⟩],
    .need (.n2 (.sbin .add) (.slot 17) (.slot 18)),
    .eff (some 20) (.call { callee := .value (.func 18), args := #[.tmp 8, .tmp 13, .const (.int .i64 0), .tmp 19], argTypes := #[24, 3, 3, 9] }) 26 [(8, .slot 8), (13, .slot 13), (19, .n2 (.sbin .add) (.slot 17) (.slot 18))] none [],
    .asg 4 (.slot 20)])
  .ret))
theorem k88 : fnOK Try.prog 1450271 [⟨1, [0, 1, 3, 7, 0, 16, 48, 112, 240, 0, 0, 1024, 3584, 0, 15872, 32767, 65535], [(0, []), (1, []), (2, []), (3, []), (4, []), (5, []), (6, []), (7, []), (8, []), (9, []), (10, []), (11, []), (13, []), (12, [0, 3, 4, 7, 13]), (14, []), (15, []), (16, [])], none⟩] [.tmp 4] 4 Try.f88 = some h88 := by kernel_rfl
theorem c88 : callable Try.prog 88 = true := by kernel_rfl
theorem q88 {args : List Value} (ha : args.length = 4) {w : World} {next : Value → World → Prop} {QP : List PanicEntry → World → Prop} (H : hw Try.prog noPanic h88 (endV [.tmp 4] next) (σ0 args) w) : callK Try.prog 88 args w next QP := fn_rule Try.func88 mixed k88 ha H
theorem r88 {args : List Value} (ha : args.length = 4) {w : World} {next : Value → World → Prop} {QP : List PanicEntry → World → Prop} (H : hw Try.prog noPanic h88 (endV [.tmp 4] next) (σ0 args) w) : callvK Try.prog (.func (.func 88) #[] #[]) args w next QP := callf c88 (q88 ha H)

/- missive/journal.header -/
def h89 : HC :=
  (.seq
  (.reg [.asg 4 (.lit (str []))])
  (.seq
  (.reg [.eff (some 6) (.call { callee := .value (.func 108), args := #[.tmp 5], argTypes := #[3] }) 9 [(5, .slot 0)] none [],
    .eff (some 8) (.call { callee := .value (.func 108), args := #[.tmp 7], argTypes := #[3] }) 9 [(7, .slot 1)] none [],
    .need (.n2 (.sbin .add) (.slot 6) (.slot 8)),
    .asg 4 (.n2 (.sbin .add) (.slot 6) (.slot 8))])
  .ret))
theorem k89 : fnOK Try.prog 339 [] [.tmp 4] 2 Try.f89 = some h89 := by kernel_rfl
theorem c89 : callable Try.prog 89 = true := by kernel_rfl
theorem q89 {args : List Value} (ha : args.length = 2) {w : World} {next : Value → World → Prop} {QP : List PanicEntry → World → Prop} (H : hw Try.prog noPanic h89 (endV [.tmp 4] next) (σ0 args) w) : callK Try.prog 89 args w next QP := fn_rule Try.func89 mixed k89 ha H
theorem r89 {args : List Value} (ha : args.length = 2) {w : World} {next : Value → World → Prop} {QP : List PanicEntry → World → Prop} (H : hw Try.prog noPanic h89 (endV [.tmp 4] next) (σ0 args) w) : callvK Try.prog (.func (.func 89) #[] #[]) args w next QP := callf c89 (q89 ha H)

/- (*missive/journal.Log).Rewrite$3 -/
def h90 : HC :=
  (.seq
  (.reg [.asg 1 (.lit (.int .i64 0))])
  (.seq
  (.draw [.need (.n1 .ld (.slot 0)),
    .need (.n1 .nilchk (.n1 .ld (.slot 0))),
    .need (.n1 (.faddr 0) (.n1 .nilchk (.n1 .ld (.slot 0)))),
    .need (.n1 .ld (.n1 (.faddr 0) (.n1 .nilchk (.n1 .ld (.slot 0))))),
    .need (.n1 .ld (.slot 0)),
    .need (.n1 .nilchk (.n1 .ld (.slot 0))),
    .need (.n1 (.faddr 1) (.n1 .nilchk (.n1 .ld (.slot 0)))),
    .need (.n1 .ld (.n1 (.faddr 1) (.n1 .nilchk (.n1 .ld (.slot 0))))),
    .need (.n2 (.bin .add) (.n1 .ld (.n1 (.faddr 1) (.n1 .nilchk (.n1 .ld (.slot 0))))) (.lit (.int .i64 1))),
    .eff (some 11) (.call { callee := .value (.func 19), args := #[.tmp 5, .tmp 10], argTypes := #[24, 3] }) 26 [(5, .n1 .ld (.n1 (.faddr 0) (.n1 .nilchk (.n1 .ld (.slot 0))))), (10, .n2 (.bin .add) (.n1 .ld (.n1 (.faddr 1) (.n1 .nilchk (.n1 .ld (.slot 0))))) (.lit (.int .i64 1)))] none [],
    .asg 1 (.slot 11)])
  .ret))
theorem k90 : fnOK Try.prog 2051 [⟨1, [0, 1, 3, 7, 0, 16, 48, 112, 240, 511, 1023], [(0, []), (1, []), (2, []), (3, []), (4, []), (5, []), (6, []), (7, []), (8, []), (9, []), (10, [])], none⟩] [.tmp 1] 1 Try.f90 = some h90 := by kernel_rfl
theorem c90 : callable Try.prog 90 = true := by kernel_rfl
theorem q90 {args : List Value} (ha : args.length = 1) {w : World} {next : Value → World → Prop} {QP : List PanicEntry → World → Prop} (H : hw Try.prog noPanic h90 (endV [.tmp 1] next) (σ0 args) w) : callK Try.prog 90 args w next QP := fn_rule Try.func90 mixed k90 ha H
theorem r90 {args : List Value} (ha : args.length = 1) {w : World} {next : Value → World → Prop} {QP : List PanicEntry → World → Prop} (H : hw Try.prog noPanic h90 (endV [.tmp 1] next) (σ0 args) w) : callvK Try.prog (.func (.func 90) #[] #[]) args w next QP := callf c90 (q90 ha H)

/- (*missive/journal.Log).Rewrite$4 -/
def h91 : HC :=
  (.seq
  (.reg [.asg 1 (.lit (.int .i64 0))])
  (.seq
  (.draw [.need (.n1 .ld (.slot 0)),
    .need (.n1 .nilchk (.n1 .ld (.slot 0))),
    .need (.n1 (.faddr 0) (.n1 .nilchk (.n1 .ld (.slot 0)))),
    .need (.n1 .ld (.n1 (.faddr 0) (.n1 .nilchk (.n1 .ld (.slot 0))))),
    .need (.n1 .ld (.slot 0)),
    .need (.n1 .nilchk (.n1 .ld (.slot 0))),
    .need (.n1 (.faddr 1) (.n1 .nilchk (.n1 .ld (.slot 0)))),
    .need (.n1 .ld (.n1 (.faddr 1) (.n1 .nilchk (.n1 .ld (.slot 0))))),
    .need (.n1 .ld (.slot 0)),
    .need (.n1 .nilchk (.n1 .ld (.slot 0))),
    .need (.n1 (.faddr 1) (.n1 .nilchk (.n1 .ld (.slot 0)))),
    .need (.n1 .ld (.n1 (.faddr 1) (.n1 .nilchk (.n1 .ld (.slot 0))))),
    .need (.n2 (.bin .add) (.n1 .ld (.n1 (.faddr 1) (.n1 .nilchk (.n1 .ld (.slot 0))))) (.lit (.int .i64 1))),
    .eff (some 15) (.call { callee := .value (.func 20), args := #[.tmp 5, .tmp 9, .tmp 14], argTypes := #[24, 3, 3] }) 26 [(5, .n1 .ld (.n1 (.faddr 0) (.n1 .nilchk (.n1 .ld (.slot 0))))), (9, .n1 .ld (.n1 (.faddr 1) (.n1 .nilchk (.n1 .ld (.slot 0))))), (14, .n2 (.bin .add) (.n1 .ld (.n1 (.faddr 1) (.n1 .nilchk (.n1 .ld (.slot 0))))) (.lit (.int .i64 1)))] none [],
    .asg 1 (.slot 15)])
  .ret))
theorem k91 : fnOK Try.prog 32771 [⟨1, [0, 1, 3, 7, 0, 16, 48, 112, 0, 256, 768, 1792, 3840, 8191, 16383], [(0, []), (1, []), (2, []), (3, []), (4, []), (5, []), (6, []), (7, []), (8, []), (9, []), (10, []), (11, []), (12, []), (13, []), (14, [])], none⟩] [.tmp 1] 1 Try.f91 = some h91 := by kernel_rfl
theorem c91 : callable Try.prog 91 = true := by kernel_rfl
theorem q91 {args : List Value} (ha : args.length = 1) {w : World} {next : Value → World → Prop} {QP : List PanicEntry → World → Prop} (H : hw Try.prog noPanic h91 (endV [.tmp 1] next) (σ0 args) w) : callK Try.prog 91 args w next QP := fn_rule Try.func91 mixed k91 ha H
theorem r91 {args : List Value} (ha : args.length = 1) {w : World} {next : Value → World → Prop} {QP : List PanicEntry → World → Prop} (H : hw Try.prog noPanic h91 (endV [.tmp 1] next) (σ0 args) w) : callvK Try.prog (.func (.func 91) #[] #[]) args w next QP := callf c91 (q91 ha H)

/- (*missive/journal.Log).flush -/
def h92 : HC :=
  (.seq
  (.reg [.asg 2 (.lit (.int .i64 0))])
  (.seq
  (.draw [.need (.n1 .nilchk (.slot 0)),
    .need (.n1 (.faddr 0) (.n1 .nilchk (.slot 0))),
    .need (.n1 .ld (.n1 (.faddr 0) (.n1 .nilchk (.slot 0)))),
    .need (.n1 .nilchk (.slot 0)),
    .need (.n1 (.faddr 1) (.n1 .nilchk (.slot 0))),
    .need (.n1 .ld (.n1 (.faddr 1) (.n1 .nilchk (.slot 0)))),
    .eff (some 11) (.call { callee := .value (.func 19), args := #[.tmp 6, .tmp 10], argTypes := #[24, 3] }) 26 [(6, .n1 .ld (.n1 (.faddr 0) (.n1 .nilchk (.slot 0)))), (10, .n1 .ld (.n1 (.faddr 1) (.n1 .nilchk (.slot 0))))] none [],
    .asg 2 (.slot 11)])
  .ret))
theorem k92 : fnOK Try.prog 2053 [⟨1, [0, 1, 3, 7, 0, 16, 48, 112, 255, 511], [(0, []), (1, []), (2, []), (3, []), (4, []), (5, []), (6, []), (7, []), (8, []), (9, [])], none⟩] [.tmp 2] 1 Try.f92 = some h92 := by kernel_rfl
theorem c92 : callable Try.prog 92 = true := by kernel_rfl
theorem q92 {args : List Value} (ha : args.length = 1) {w : World} {next : Value → World → Prop} {QP : List PanicEntry → World → Prop} (H : hw Try.prog noPanic h92 (endV [.tmp 2] next) (σ0 args) w) : callK Try.prog 92 args w next QP := fn_rule Try.func92 mixed k92 ha H
theorem r92 {args : List Value} (ha : args.length = 1) {w : World} {next : Value → World → Prop} {QP : List PanicEntry → World → Prop} (H : hw Try.prog noPanic h92 (endV [.tmp 2] next) (σ0 args) w) : callvK Try.prog (.func (.func 92) #[] #[]) args w next QP := callf c92 (q92 ha H)

/- (*missive/journal.Log).Flush$1 -/
def h93 : HC :=
  (.seq
  (.reg [.asg 1 (.lit (.int .i64 0))])
  (.seq
  (.draw [.need (.n1 .ld (.slot 0)),
    .need (.n1 .nilchk (.n1 .ld (.slot 0))),
    .need (.n1 (.faddr 0) (.n1 .nilchk (.n1 .ld (.slot 0)))),
    .need (.n1 .ld (.n1 (.faddr 0) (.n1 .nilchk (.n1 .ld (.slot 0))))),
    .asg 5 (.n1 .ld (.n1 (.faddr 0) (.n1 .nilchk (.n1 .ld (.slot 0))))),
    .need (.n1 .ld (.slot 0)),
    .need (.n1 .nilchk (.n1 .ld (.slot 0))),
    .need (.n1 (.faddr 1) (.n1 .nilchk (.n1 .ld (.slot 0)))),
    .need (.n1 .ld (.n1 (.faddr 1) (.n1 .nilchk (.n1 .ld (.slot 0))))),
    .asg 9 (.n1 .ld (.n1 (.faddr 1) (.n1 .nilchk (.n1 .ld (.slot 0))))),
    .need (.n1 .ld (.slot 0)),
    .need (.n1 .nilchk (.n1 .ld (.slot 0))),
    .need (.n1 (.faddr 4) (.n1 .nilchk (.n1 .ld (.slot 0)))),
    .need (.n1 .ld (.n1 (.faddr 4) (.n1 .nilchk (.n1 .ld (.slot 0))))),
    .need (.n1 .ld (.slot 0)),
    .need (.n1 .nilchk (.n1 .ld (.slot 0))),
    .need (.n1 (.faddr 2) (.n1 .nilchk (.n1 .ld (.slot 0)))),
    .need (.n1 .ld (.n1 (.faddr 2) (.n1 .nilchk (.n1 .ld (.slot 0))))),
    .need (.n1 .lensl (.n1 .ld (.n1 (.faddr 2) (.n1 .nilchk (.n1 .ld (.slot 0)))))),
    .eff (some 19) (.call { callee := .value (.func 89), args := #[.tmp 13, .tmp 18], argTypes := #[3, 3] }) 9 [(13, .n1 .ld (.n1 (.faddr 4) (.n1 .nilchk (.n1 .ld (.slot 0))))), (18, .n1 .lensl (.n1 .ld (.n1 (.faddr 2) (.n1 .nilchk (.n1 .ld (.slot 0))))))] none [⟨none, .ld, .slot 0⟩, ⟨none, .ld, .n1 (.faddr 0) (.n1 .nilchk (.n1 .ld (.slot 0)))⟩, ⟨none, .ld, .slot 0⟩, ⟨none, .ld, .n1 (.faddr 1) (.n1 .nilchk (.n1 .ld (.slot 0)))⟩],
    .eff (some 20) (.call { callee := .value (.func 18), args := #[.tmp 5, .tmp 9, .const (.int .i64 0), .tmp 19], argTypes := #[24, 3, 3, 9] }) 26 [(5, .slot 5), (9, .slot 9), (19, .slot 19)] none [],
    .asg 1 (.slot 20)])
  .ret))
theorem k93 : fnOK Try.prog 1573411 [⟨1, [0, 1, 3, 7, 0, 16, 48, 112, 0, 256, 768, 1792, 0, 4096, 12288, 28672, 61440, 130816, 262143, 524287], [(0, []), (1, []), (2, []), (3, []), (4, []), (5, []), (6, []), (7, []), (8, []), (9, []), (10, []), (11, []), (12, []), (13, []), (14, []), (15, []), (16, []), (17, [0, 3, 4, 7]), (18, []), (19, [])], none⟩] [.tmp 1] 1 Try.f93 = some h93 := by kernel_rfl
theorem c93 : callable Try.prog 93 = true := by kernel_rfl
theorem q93 {args : List Value} (ha : args.length = 1) {w : World} {next : Value → World → Prop} {QP : List PanicEntry → World → Prop} (H : hw Try.prog noPanic h93 (endV [.tmp 1] next) (σ0 args) w) : callK Try.prog 93 args w next QP := fn_rule Try.func93 mixed k93 ha H
theorem r93 {args : List Value} (ha : args.length = 1) {w : World} {next : Value → World → Prop} {QP : List PanicEntry → World → Prop} (H : hw Try.prog noPanic h93 (endV [.tmp 1] next) (σ0 args) w) : callvK Try.prog (.func (.func 93) #[] #[]) args w next QP := callf c93 (q93 ha H)

/- (*missive/journal.Log).add -/
def h94_1 : HC :=
  (.seq
  (.reg [.need (.n1 .nilchk (.slot 0)),
    .need (.n1 (.faddr 2) (.n1 .nilchk (.slot 0))),
    .need (.n1 .ld (.n1 (.faddr 2) (.n1 .nilchk (.slot 0)))),
    .eff (some 32) (.call { callee := .builtin .append, args := #[.tmp 30, .tmp 31], argTypes := #[40, 40] }) 40 [(30, .n1 .ld (.n1 (.faddr 2) (.n1 .nilchk (.slot 0)))), (31, .slot 1)] none [],
    .need (.n1 .nilchk (.slot 0)),
    .need (.n1 (.faddr 2) (.n1 .nilchk (.slot 0))),
    .eff none (.store 40 (.tmp 34) (.tmp 32)) 0 [(34, .n1 (.faddr 2) (.n1 .nilchk (.slot 0))), (32, .slot 32)] none []])
  (.seq
  (.reg [.need (.n1 .nilchk (.slot 0)),
    .need (.n1 (.faddr 4) (.n1 .nilchk (.slot 0))),
    .need (.n1 .ld (.n1 (.faddr 4) (.n1 .nilchk (.slot 0)))),
    .need (.n1 .lens (.slot 5)),
    .need (.n2 (.bin .add) (.n1 .ld (.n1 (.faddr 4) (.n1 .nilchk (.slot 0)))) (.n1 .lens (.slot 5))),
    .need (.n1 .nilchk (.slot 0)),
    .need (.n1 (.faddr 4) (.n1 .nilchk (.slot 0))),
    .eff none (.store 3 (.tmp 43) (.tmp 41)) 0 [(43, .n1 (.faddr 4) (.n1 .nilchk (.slot 0))), (41, .n2 (.bin .add) (.n1 .ld (.n1 (.faddr 4) (.n1 .nilchk (.slot 0)))) (.n1 .lens (.slot 5)))] none []])
  (.seq
  (.reg [.asg 4 (.lit (.int .i64 0))])
  .ret)))
def h94 : HC :=
  (.seq
  (.reg [.asg 4 (.lit (.int .i64 0))])
  (.seq
  (.reg [.eff (some 8) (.call { callee := .value (.func 85), args := #[.tmp 7], argTypes := #[40] }) 9 [(7, .slot 1)] none [],
    .asg 5 (.slot 8)])
  (.seq
  (.seq
  (.draw [.need (.n1 .nilchk (.slot 0)),
    .need (.n1 (.faddr 0) (.n1 .nilchk (.slot 0))),
    .need (.n1 .ld (.n1 (.faddr 0) (.n1 .nilchk (.slot 0)))),
    .need (.n1 .nilchk (.slot 0)),
    .need (.n1 (.faddr 1) (.n1 .nilchk (.slot 0))),
    .need (.n1 .ld (.n1 (.faddr 1) (.n1 .nilchk (.slot 0)))),
    .need (.n1 .nilchk (.slot 0)),
    .need (.n1 (.faddr 4) (.n1 .nilchk (.slot 0))),
    .need (.n1 .ld (.n1 (.faddr 4) (.n1 .nilchk (.slot 0)))),
    .eff (some 22) (.call { callee := .value (.func 18), args := #[.tmp 12, .tmp 16, .tmp 20, .tmp 21], argTypes := #[24, 3, 3, 9] }) 26 [(12, .n1 .ld (.n1 (.faddr 0) (.n1 .nilchk (.slot 0)))), (16, .n1 .ld (.n1 (.faddr 1) (.n1 .nilchk (.slot 0)))), (20, .n1 .ld (.n1 (.faddr 4) (.n1 .nilchk (.slot 0)))), (21, .slot 5)] none [],
    .asg 6 (.slot 22)])
  (.seq
  (.reg [.need (.n2 (.bin .neq) (.slot 6) (.lit (.int .i64 0))),
    .asg 24 (.n2 (.bin .neq) (.slot 6) (.lit (.int .i64 0)))])
  (.cond (.slot 24)
    (.seq
    (.reg [.asg 4 (.slot 6)])
    .ret)
    .skip)))
  h94_1)))
theorem k94 : fnOK Try.prog 4315939187 [⟨2, [0, 1, 3, 7, 0, 16, 48, 112, 0, 256, 768, 1792, 0, 8191, 16383], [(0, []), (1, []), (2, []), (3, []), (4, []), (5, []), (6, []), (7, []), (8, []), (9, []), (10, []), (11, []), (12, []), (13, []), (14, [])], none⟩] [.tmp 4] 2 Try.f94 = some h94 := by kernel_rfl
theorem c94 : callable Try.prog 94 = true := by kernel_rfl
theorem q94 {args : List Value} (ha : args.length = 2) {w : World} {next : Value → World → Prop} {QP : List PanicEntry → World → Prop} (H : hw Try.prog noPanic h94 (endV [.tmp 4] next) (σ0 args) w) : callK Try.prog 94 args w next QP := fn_rule Try.func94 mixed k94 ha H
theorem r94 {args : List Value} (ha : args.length = 2) {w : World} {next : Value → World → Prop} {QP : List PanicEntry → World → Prop} (H : hw Try.prog noPanic h94 (endV [.tmp 4] next) (σ0 args) w) : callvK Try.prog (.func (.func 94) #[] #[]) args w next QP := callf c94 (q94 ha H)

/- missive/missiveref06.Header -/
def h95 : HC :=
  (.seq
  (.reg [.asg 2 (.lit (str []))])
  (.seq
  (.reg [.eff (some 4) (.call { callee := .value (.func 96), args := #[.tmp 3], argTypes := #[40] }) 9 [(3, .slot 0)] none [],
    .need (.n1 .lens (.slot 4)),
    .need (.n2 (.bin .add) (.lit (.int .i64 16)) (.n1 .lens (.slot 4))),
    .eff (some 7) (.call { callee := .value (.func 110), args := #[.tmp 6], argTypes := #[3] }) 9 [(6, .n2 (.bin .add) (.lit (.int .i64 16)) (.n1 .lens (.slot 4)))] none [],
    .need (.n1 .lensl (.slot 0)),
    .eff (some 10) (.call { callee := .value (.func 110), args := #[.tmp 9], argTypes := #[3] }) 9 [(9, .n1 .lensl (.slot 0))] none [],
    .need (.n2 (.sbin .add) (.slot 7) (.slot 10)),
    .asg 2 (.n2 (.sbin .add) (.slot 7) (.slot 10))])
  .ret))
theorem k95 : fnOK Try.prog 1173 [] [.tmp 2] 1 Try.f95 = some h95 := by kernel_rfl
theorem c95 : callable Try.prog 95 = true := by kernel_rfl
theorem q95 {args : List Value} (ha : args.length = 1) {w : World} {next : Value → World → Prop} {QP : List PanicEntry → World → Prop} (H : hw Try.prog noPanic h95 (endV [.tmp 2] next) (σ0 args) w) : callK Try.prog 95 args w next QP := fn_rule Try.func95 mixed k95 ha H
theorem r95 {args : List Value} (ha : args.length = 1) {w : World} {next : Value → World → Prop} {QP : List PanicEntry → World → Prop} (H : hw Try.prog noPanic h95 (endV [.tmp 2] next) (σ0 args) w) : callvK Try.prog (.func (.func 95) #[] #[]) args w next QP := callf c95 (q95 ha H)

/- missive/missiveref06.Forms -/
def h96_3 : HC :=
  (.reg [.need (.n2 (.bin .add) (.slot 4) (.lit (.int .i64 1))),
    .asg 4 (.n2 (.bin .add) (.slot 4) (.lit (.int .i64 1)))])
def h96_2 : HC :=
  (.seq
  (.block 1
    (.draw [.need (.n2 (.iaddr 1) (.slot 0) (.slot 4)),
      .need (.n1 .ld (.n2 (.iaddr 1) (.slot 0) (.slot 4))),
      .need (.n1 .lens (.n1 .ld (.n2 (.iaddr 1) (.slot 0) (.slot 4)))),
      .need (.n2 (.iaddr 1) (.slot 0) (.slot 4)),
      .need (.n1 .ld (.n2 (.iaddr 1) (.slot 0) (.slot 4))),
      .asg 22 (.n1 .ld (.n2 (.iaddr 1) (.slot 0) (.slot 4))),
      .need (.n2 (.iaddr 1) (.slot 0) (.slot 4)),
      .need (.n1 .ld (.n2 (.iaddr 1) (.slot 0) (.slot 4))),
      .asg 29 (.n1 .ld (.n2 (.iaddr 1) (.slot 0) (.slot 4))),
      .eff (some 17) (.call { callee := .value (.func 110), args := #[.tmp 16], argTypes := #[3] }) 9 [(16, .n1 .lens (.n1 .ld (.n2 (.iaddr 1) (.slot 0) (.slot 4))))] none [⟨none, .ld, .n2 (.iaddr 1) (.slot 0) (.slot 4)⟩, ⟨none, .ld, .n2 (.iaddr 1) (.slot 0) (.slot 4)⟩],
      .need (.n2 (.sbin .add) (.slot 3) (.slot 17)),
      .eff (some 23) (.call { callee := .value (.func 83), args := #[.tmp 22], argTypes := #[9] }) 3 [(22, .slot 22)] none [⟨none, .ld, .n2 (.iaddr 1) (.slot 0) (.slot 4)⟩],
      .eff (some 24) (.call { callee := .value (.func 110), args := #[.tmp 23], argTypes := #[3] }) 9 [(23, .slot 23)] none [⟨none, .ld, .n2 (.iaddr 1) (.slot 0) (.slot 4)⟩],
      .need (.n2 (.sbin .add) (.n2 (.sbin .add) (.slot 3) (.slot 17)) (.slot 24)),
      .need (.n2 (.sbin .add) (.n2 (.sbin .add) (.n2 (.sbin .add) (.slot 3) (.slot 17)) (.slot 24)) (.slot 29)),
      .asg 3 (.n2 (.sbin .add) (.n2 (.sbin .add) (.n2 (.sbin .add) (.slot 3) (.slot 17)) (.slot 24)) (.slot 29))]))
  h96_3)
def h96_1 : HC :=
  (.seq
  (.seq
  (.reg [.need (.n1 .lensl (.slot 0)),
    .need (.n2 (.bin .lss) (.slot 4) (.n1 .lensl (.slot 0))),
    .asg 8 (.n2 (.bin .lss) (.slot 4) (.n1 .lensl (.slot 0)))])
  (.cond (.slot 8)
    .skip
    (.exit 0)))
  h96_2)
def h96_4 : HC :=
  (.seq
  (.reg [.asg 2 (.slot 3)])
  .ret)
def h96 : HC :=
  (.seq
  (.reg [.asg 2 (.lit (str []))])
  (.seq
  (.reg [.asg 3 (.lit (str []))])
  (.seq
  (.seq
  (.reg [.asg 4 (.lit (.int .i64 0))])
  (.block 0
    (.loop
      h96_1)))
  h96_4)))
theorem k96 : fnOK Try.prog 566362397 [⟨5, [0, 0, 0, 6, 14, 30, 62, 127, 0, 0, 768, 1792, 3966, 8062, 16383, 0, 0, 98304, 229376, 524287, 1048575], [(0, []), (1, []), (2, []), (3, []), (4, []), (5, []), (8, []), (9, []), (10, []), (11, []), (15, []), (16, []), (17, []), (18, []), (6, [11, 18]), (7, []), (12, [18]), (13, [18]), (14, []), (19, []), (20, [])], none⟩] [.tmp 2] 1 Try.f96 = some h96 := by kernel_rfl
theorem c96 : callable Try.prog 96 = true := by kernel_rfl
theorem q96 {args : List Value} (ha : args.length = 1) {w : World} {next : Value → World → Prop} {QP : List PanicEntry → World → Prop} (H : hw Try.prog noPanic h96 (endV [.tmp 2] next) (σ0 args) w) : callK Try.prog 96 args w next QP := fn_rule Try.func96 mixed k96 ha H
theorem r96 {args : List Value} (ha : args.length = 1) {w : World} {next : Value → World → Prop} {QP : List PanicEntry → World → Prop} (H : hw Try.prog noPanic h96 (endV [.tmp 2] next) (σ0 args) w) : callvK Try.prog (.func (.func 96) #[] #[]) args w next QP := callf c96 (q96 ha H)

/- missive/digest.Crc -/
def h106_5 : HC :=
  (.reg [.need (.n2 (.bin .add) (.slot 17) (.lit (.int .i64 1))),
    .asg 17 (.n2 (.bin .add) (.slot 17) (.lit (.int .i64 1)))])
def h106_4 : HC :=
  (.seq
  (.block 3
    (.seq
    (.reg [.need (.n2 (.bin .and) (.slot 3) (.lit (.int .u32 1))),
      .need (.n2 (.bin .eql) (.n2 (.bin .and) (.slot 3) (.lit (.int .u32 1))) (.lit (.int .u32 1))),
      .asg 5 (.n2 (.bin .eql) (.n2 (.bin .and) (.slot 3) (.lit (.int .u32 1))) (.lit (.int .u32 1)))])
    (.seq
    (.reg [.need (.n2 (.bin .shr) (.slot 3) (.lit (.int .u64 1))),
      .asg 3 (.n2 (.bin .shr) (.slot 3) (.lit (.int .u64 1)))])
    (.seq
    (.reg [.asg 24 (.slot 5)])
    (.cond (.slot 24)
      (.reg [.need (.n2 (.bin .xor) (.slot 3) (.lit (.int .u32 3988292384))),
        .asg 3 (.n2 (.bin .xor) (.slot 3) (.lit (.int .u32 3988292384)))])
      .skip)))))
  h106_5)
def h106_3 : HC :=
  (.seq
  (.reg [.need (.n2 (.bin .lss) (.slot 17) (.lit (.int .i64 8))),
    .asg 18 (.n2 (.bin .lss) (.slot 17) (.lit (.int .i64 8)))])
  (.seq
  (.cond (.slot 18)
    .skip
    (.exit 2))
  h106_4))
def h106_6 : HC :=
  (.reg [.need (.n2 (.bin .add) (.slot 8) (.lit (.int .i64 1))),
    .asg 8 (.n2 (.bin .add) (.slot 8) (.lit (.int .i64 1)))])
def h106_2 : HC :=
  (.seq
  (.block 1
    (.seq
    (.reg [.asg 4 (.slot 8)])
    (.seq
    (.reg [.need (.n2 .idxs (.slot 0) (.slot 4)),
      .need (.n1 (.conv .u32) (.n2 .idxs (.slot 0) (.slot 4))),
      .need (.n2 (.bin .xor) (.slot 3) (.n1 (.conv .u32) (.n2 .idxs (.slot 0) (.slot 4)))),
      .asg 3 (.n2 (.bin .xor) (.slot 3) (.n1 (.conv .u32) (.n2 .idxs (.slot 0) (.slot 4))))])
    (.seq
    (.reg [.asg 17 (.lit (.int .i64 0))])
    (.block 2
      (.loop
        h106_3))))))
  h106_6)
def h106_1 : HC :=
  (.seq
  (.reg [.need (.n2 (.bin .lss) (.slot 8) (.slot 7)),
    .asg 9 (.n2 (.bin .lss) (.slot 8) (.slot 7))])
  (.seq
  (.cond (.slot 9)
    .skip
    (.exit 0))
  h106_2))
def h106_7 : HC :=
  (.seq
  (.reg [.need (.n1 .xor (.slot 3)),
    .need (.n1 (.conv .i64) (.n1 .xor (.slot 3))),
    .asg 2 (.n1 (.conv .i64) (.n1 .xor (.slot 3)))])
  .ret)
def h106 : HC :=
  (.seq
  (.reg [.asg 2 (.lit (.int .i64 0))])
  (.seq
  (.reg [.asg 3 (.lit (.int .u32 4294967295))])
  (.seq
  (.seq
  (.reg [.need (.n1 .lens (.slot 0)),
    .asg 7 (.n1 .lens (.slot 0)),
    .asg 8 (.lit (.int .i64 0))])
  (.block 0
    (.loop
      h106_1)))
  h106_7)))
theorem k106 : fnOK Try.prog 17171389 [] [.tmp 2] 1 Try.f106 = some h106 := by kernel_rfl
theorem c106 : callable Try.prog 106 = true := by kernel_rfl
theorem q106 {args : List Value} (ha : args.length = 1) {w : World} {next : Value → World → Prop} {QP : List PanicEntry → World → Prop} (H : hw Try.prog noPanic h106 (endV [.tmp 2] next) (σ0 args) w) : callK Try.prog 106 args w next QP := fn_rule Try.func106 mixed k106 ha H
theorem r106 {args : List Value} (ha : args.length = 1) {w : World} {next : Value → World → Prop} {QP : List PanicEntry → World → Prop} (H : hw Try.prog noPanic h106 (endV [.tmp 2] next) (σ0 args) w) : callvK Try.prog (.func (.func 106) #[] #[]) args w next QP := callf c106 (q106 ha H)

/- (*strings.Builder).WriteString -/
def h107 : HC :=
  (.seq
  (.reg [.asg 4 (.lit (.int .i64 0)),
    .asg 5 (.lit .nilIface)])
  (.seq
  (.reg [.eff (some 7) (.call { callee := .value (.func 111), args := #[.tmp 6], argTypes := #[120] }) 0 [(6, .slot 0)] none []])
  (.seq
  (.reg [.need (.n1 .nilchk (.slot 0)),
    .need (.n1 (.faddr 1) (.n1 .nilchk (.slot 0))),
    .need (.n1 .ld (.n1 (.faddr 1) (.n1 .nilchk (.slot 0)))),
    .eff (some 14) (.call { callee := .builtin .append, args := #[.tmp 12, .tmp 13], argTypes := #[36, 9] }) 36 [(12, .n1 .ld (.n1 (.faddr 1) (.n1 .nilchk (.slot 0)))), (13, .slot 1)] none [],
    .need (.n1 .nilchk (.slot 0)),
    .need (.n1 (.faddr 1) (.n1 .nilchk (.slot 0))),
    .eff none (.store 36 (.tmp 16) (.tmp 14)) 0 [(16, .n1 (.faddr 1) (.n1 .nilchk (.slot 0))), (14, .slot 14)] none []])
  (.seq
  (.reg [.need (.n1 .lens (.slot 1)),
    .asg 4 (.n1 .lens (.slot 1)),
    .asg 5 (.lit .nilIface)])
  .ret))))
theorem k107 : fnOK Try.prog 16563 [] [.tmp 4, .tmp 5] 2 Try.f107 = some h107 := by kernel_rfl
theorem c107 : callable Try.prog 107 = true := by kernel_rfl
theorem q107 {args : List Value} (ha : args.length = 2) {w : World} {next : Value → World → Prop} {QP : List PanicEntry → World → Prop} (H : hw Try.prog noPanic h107 (endV [.tmp 4, .tmp 5] next) (σ0 args) w) : callK Try.prog 107 args w next QP := fn_rule Try.func107 mixed k107 ha H
theorem r107 {args : List Value} (ha : args.length = 2) {w : World} {next : Value → World → Prop} {QP : List PanicEntry → World → Prop} (H : hw Try.prog noPanic h107 (endV [.tmp 4, .tmp 5] next) (σ0 args) w) : callvK Try.prog (.func (.func 107) #[] #[]) args w next QP := callf c107 (q107 ha H)

/- missive/journal.number -/
def h108_3 : HC :=
  (.reg [.need (.n2 (.bin .add) (.slot 8) (.lit (.int .i64 1))),
    .asg 8 (.n2 (.bin .add) (.slot 8) (.lit (.int .i64 1)))])
def h108_2 : HC :=
  (.seq
  (.block 1
    (.seq
    (.reg [.asg 4 (.slot 8)])
    (.reg [.need (.n2 (.bin .mul) (.lit (.int .i64 8)) (.slot 4)),
      .need (.n2 (.bin .shr) (.slot 0) (.n2 (.bin .mul) (.lit (.int .i64 8)) (.slot 4))),
      .need (.n1 (.conv .u8) (.n2 (.bin .shr) (.slot 0) (.n2 (.bin .mul) (.lit (.int .i64 8)) (.slot 4)))),
      .need (.n2 (.iaddr 1) (.slot 3) (.slot 4)),
      .eff none (.store 5 (.tmp 18) (.tmp 17)) 0 [(18, .n2 (.iaddr 1) (.slot 3) (.slot 4)), (17, .n1 (.conv .u8) (.n2 (.bin .shr) (.slot 0) (.n2 (.bin .mul) (.lit (.int .i64 8)) (.slot 4))))] none []])))
  h108_3)
def h108_1 : HC :=
  (.seq
  (.reg [.need (.n2 (.bin .lss) (.slot 8) (.slot 7)),
    .asg 9 (.n2 (.bin .lss) (.slot 8) (.slot 7))])
  (.seq
  (.cond (.slot 9)
    .skip
    (.exit 0))
  h108_2))
def h108_4 : HC :=
  (.seq
  (.reg [.eff (some 21) (.convert 36 9 (.tmp 20)) 9 [(20, .slot 3)] none [],
    .asg 2 (.slot 21)])
  .ret)
def h108 : HC :=
  (.seq
  (.reg [.asg 2 (.lit (str []))])
  (.seq
  (.reg [.eff (some 5) (.makeSlice 36 (.const (.int .i64 8)) (.const (.int .i64 8))) 36 [] none [],
    .asg 3 (.slot 5)])
  (.seq
  (.seq
  (.reg [.need (.n1 .lensl (.slot 3)),
    .asg 7 (.n1 .lensl (.slot 3)),
    .asg 8 (.lit (.int .i64 0))])
  (.block 0
    (.loop
      h108_1)))
  h108_4)))
theorem k108 : fnOK Try.prog 2098109 [] [.tmp 2] 1 Try.f108 = some h108 := by kernel_rfl
theorem c108 : callable Try.prog 108 = true := by kernel_rfl
theorem q108 {args : List Value} (ha : args.length = 1) {w : World} {next : Value → World → Prop} {QP : List PanicEntry → World → Prop} (H : hw Try.prog noPanic h108 (endV [.tmp 2] next) (σ0 args) w) : callK Try.prog 108 args w next QP := fn_rule Try.func108 mixed k108 ha H
theorem r108 {args : List Value} (ha : args.length = 1) {w : World} {next : Value → World → Prop} {QP : List PanicEntry → World → Prop} (H : hw Try.prog noPanic h108 (endV [.tmp 2] next) (σ0 args) w) : callvK Try.prog (.func (.func 108) #[] #[]) args w next QP := callf c108 (q108 ha H)

/- (*strings.Builder).String -/
def h109 : HC :=
  (.seq
  (.reg [.asg 2 (.lit (str []))])
  (.seq
  (.draw [.need (.n1 .nilchk (.slot 0)),
    .need (.n1 (.faddr 1) (.n1 .nilchk (.slot 0))),
    .need (.n1 .ld (.n1 (.faddr 1) (.n1 .nilchk (.slot 0)))),
    .need (.n1 .nilchk (.slot 0)),
    .need (.n1 (.faddr 1) (.n1 .nilchk (.slot 0))),
    .need (.n1 .ld (.n1 (.faddr 1) (.n1 .nilchk (.slot 0)))),
    .need (.n1 .lensl (.n1 .ld (.n1 (.faddr 1) (.n1 .nilchk (.slot 0))))),
    .asg 12 (.n1 .lensl (.n1 .ld (.n1 (.faddr 1) (.n1 .nilchk (.slot 0))))),
    .eff (some 7) (.call { callee := .builtin .unsafeSliceData, args := #[.tmp 6], argTypes := #[36] }) 130 [(6, .n1 .ld (.n1 (.faddr 1) (.n1 .nilchk (.slot 0))))] none [⟨none, .ld, .n1 (.faddr 1) (.n1 .nilchk (.slot 0))⟩],
    .eff (some 13) (.call { callee := .builtin .unsafeString, args := #[.tmp 7, .tmp 12], argTypes := #[130, 3] }) 9 [(7, .slot 7), (12, .slot 12)] none [],
    .asg 2 (.slot 13)])
  .ret))
theorem k109 : fnOK Try.prog 12421 [⟨1, [0, 1, 3, 7, 15, 0, 32, 96, 224, 480, 1023, 2047], [(0, []), (1, []), (2, []), (3, []), (5, []), (6, []), (7, []), (8, []), (9, []), (4, [8]), (10, []), (11, [])], none⟩] [.tmp 2] 1 Try.f109 = some h109 := by kernel_rfl
theorem c109 : callable Try.prog 109 = true := by kernel_rfl
theorem q109 {args : List Value} (ha : args.length = 1) {w : World} {next : Value → World → Prop} {QP : List PanicEntry → World → Prop} (H : hw Try.prog noPanic h109 (endV [.tmp 2] next) (σ0 args) w) : callK Try.prog 109 args w next QP := fn_rule Try.func109 mixed k109 ha H
theorem r109 {args : List Value} (ha : args.length = 1) {w : World} {next : Value → World → Prop} {QP : List PanicEntry → World → Prop} (H : hw Try.prog noPanic h109 (endV [.tmp 2] next) (σ0 args) w) : callvK Try.prog (.func (.func 109) #[] #[]) args w next QP := callf c109 (q109 ha H)

/- missive/missiveref06.Number -/
def h110_3 : HC :=
  (.reg [.need (.n2 (.bin .add) (.slot 4) (.lit (.int .i64 1))),
    .asg 4 (.n2 (.bin .add) (.slot 4) (.lit (.int .i64 1)))])
def h110_2 : HC :=
  (.seq
  (.block 1
    (.reg [.need (.n2 (.bin .mul) (.lit (.int .i64 8)) (.slot 4)),
      .need (.n2 (.bin .shr) (.slot 0) (.n2 (.bin .mul) (.lit (.int .i64 8)) (.slot 4))),
      .need (.n2 (.bin .and) (.n2 (.bin .shr) (.slot 0) (.n2 (.bin .mul) (.lit (.int .i64 8)) (.slot 4))) (.lit (.int .i64 255))),
      .need (.n1 (.conv .u8) (.n2 (.bin .and) (.n2 (.bin .shr) (.slot 0) (.n2 (.bin .mul) (.lit (.int .i64 8)) (.slot 4))) (.lit (.int .i64 255)))),
      .eff (some 16) (.buildSlice 36 1 #[(0, .tmp 15)]) 36 [(15, .n1 (.conv .u8) (.n2 (.bin .and) (.n2 (.bin .shr) (.slot 0) (.n2 (.bin .mul) (.lit (.int .i64 8)) (.slot 4))) (.lit (.int .i64 255))))] none [],
      .eff (some 17) (.call { callee := .builtin .append, args := #[.tmp 9, .tmp 16], argTypes := #[36, 36] }) 36 [(9, .slot 3), (16, .slot 16)] none [],
      .asg 3 (.slot 17)]))
  h110_3)
def h110_1 : HC :=
  (.seq
  (.seq
  (.reg [.need (.n2 (.bin .lss) (.slot 4) (.lit (.int .i64 8))),
    .asg 6 (.n2 (.bin .lss) (.slot 4) (.lit (.int .i64 8)))])
  (.cond (.slot 6)
    .skip
    (.exit 0)))
  h110_2)
def h110_4 : HC :=
  (.seq
  (.reg [.eff (some 19) (.convert 36 9 (.tmp 18)) 9 [(18, .slot 3)] none [],
    .asg 2 (.slot 19)])
  .ret)
def h110 : HC :=
  (.seq
  (.reg [.asg 2 (.lit (str []))])
  (.seq
  (.reg [.asg 3 (.lit (.slice none 0 0))])
  (.seq
  (.seq
  (.reg [.asg 4 (.lit (.int .i64 0))])
  (.block 0
    (.loop
      h110_1)))
  h110_4)))
theorem k110 : fnOK Try.prog 720989 [] [.tmp 2] 1 Try.f110 = some h110 := by kernel_rfl
theorem c110 : callable Try.prog 110 = true := by kernel_rfl
theorem q110 {args : List Value} (ha : args.length = 1) {w : World} {next : Value → World → Prop} {QP : List PanicEntry → World → Prop} (H : hw Try.prog noPanic h110 (endV [.tmp 2] next) (σ0 args) w) : callK Try.prog 110 args w next QP := fn_rule Try.func110 mixed k110 ha H
theorem r110 {args : List Value} (ha : args.length = 1) {w : World} {next : Value → World → Prop} {QP : List PanicEntry → World → Prop} (H : hw Try.prog noPanic h110 (endV [.tmp 2] next) (σ0 args) w) : callvK Try.prog (.func (.func 110) #[] #[]) args w next QP := callf c110 (q110 ha H)

/- (*strings.Builder).copyCheck -/
def h111 : HC :=
  (.seq
  (.reg [.need (.n1 .nilchk (.slot 0)),
    .need (.n1 (.faddr 0) (.n1 .nilchk (.slot 0))),
    .need (.n1 .ld (.n1 (.faddr 0) (.n1 .nilchk (.slot 0)))),
    .need (.n2 (.pnil false) (.n1 .ld (.n1 (.faddr 0) (.n1 .nilchk (.slot 0)))) (.lit (.pointer none))),
    .asg 6 (.n2 (.pnil false) (.n1 .ld (.n1 (.faddr 0) (.n1 .nilchk (.slot 0)))) (.lit (.pointer none)))])
  (.cond (.slot 6)
    (.reg [.eff (some 9) (.convert 120 131 (.tmp 8)) 131 [(8, .slot 0)] none [],
      .eff (some 10) (.call { callee := .value (.func 112), args := #[.tmp 9], argTypes := #[131] }) 131 [(9, .slot 9)] none [],
      .eff (some 11) (.convert 131 120 (.tmp 10)) 120 [(10, .slot 10)] none [],
      .need (.n1 .nilchk (.slot 0)),
      .need (.n1 (.faddr 0) (.n1 .nilchk (.slot 0))),
      .eff none (.store 120 (.tmp 13) (.tmp 11)) 0 [(13, .n1 (.faddr 0) (.n1 .nilchk (.slot 0))), (11, .slot 11)] none []])
    (.seq
    (.reg [.need (.n1 .nilchk (.slot 0)),
      .need (.n1 (.faddr 0) (.n1 .nilchk (.slot 0))),
      .need (.n1 .ld (.n1 (.faddr 0) (.n1 .nilchk (.slot 0)))),
      .need (.n2 (.pnil true) (.n1 .ld (.n1 (.faddr 0) (.n1 .nilchk (.slot 0)))) (.slot 0)),
      .asg 19 (.n2 (.pnil true) (.n1 .ld (.n1 (.faddr 0) (.n1 .nilchk (.slot 0)))) (.slot 0))])
    (.cond (.slot 19)
      .never
      .skip))))
theorem k111 : fnOK Try.prog 527937 [] [] 1 Try.f111 = some h111 := by kernel_rfl
theorem c111 : callable Try.prog 111 = true := by kernel_rfl
theorem q111 {args : List Value} (ha : args.length = 1) {w : World} {next : Value → World → Prop} {QP : List PanicEntry → World → Prop} (H : hw Try.prog noPanic h111 (endV [] next) (σ0 args) w) : callK Try.prog 111 args w next QP := fn_rule Try.func111 mixed k111 ha H
theorem r111 {args : List Value} (ha : args.length = 1) {w : World} {next : Value → World → Prop} {QP : List PanicEntry → World → Prop} (H : hw Try.prog noPanic h111 (endV [] next) (σ0 args) w) : callvK Try.prog (.func (.func 111) #[] #[]) args w next QP := callf c111 (q111 ha H)

end Go.Proofs.Y
