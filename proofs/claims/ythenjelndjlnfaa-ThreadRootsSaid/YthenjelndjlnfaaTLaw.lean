/- the functions of the program as code over named slots, printed by hl.py -/
import Derived.Test.YthenjelndjlnfaaTCode
import Derived.Test.YthenjelndjlnfaaTR
import Derived.Laws.StructEq
set_option linter.unusedSimpArgs false
set_option linter.unusedVariables false
set_option maxRecDepth 100000
set_option maxRecDepth 100000
namespace Go.Proofs.Y
open Go Go.HL Go.Proofs
/- missive/missivelaw21.ThreadForms -/
def h3_11 : HC :=
  (.reg [.need (.n2 (.bin .add) (.slot 9) (.lit (.int .i64 1))),
    .asg 9 (.n2 (.bin .add) (.slot 9) (.lit (.int .i64 1)))])
def h3_10 : HC :=
  (.seq
  (.block 3
    (.seq
    (.reg [.need (.n2 (.iaddr 4) (.slot 4) (.slot 9)),
      .need (.n1 (.faddr 3) (.n2 (.iaddr 4) (.slot 4) (.slot 9))),
      .need (.n1 .ld (.n1 (.faddr 3) (.n2 (.iaddr 4) (.slot 4) (.slot 9)))),
      .need (.n2 (.bin .lss) (.n1 .ld (.n1 (.faddr 3) (.n2 (.iaddr 4) (.slot 4) (.slot 9)))) (.slot 8)),
      .asg 161 (.n2 (.bin .lss) (.n1 .ld (.n1 (.faddr 3) (.n2 (.iaddr 4) (.slot 4) (.slot 9)))) (.slot 8))])
    (.cond (.slot 161)
      (.seq
      (.reg [.asg 2 (.lit (.bool false))])
      .ret)
      .skip)))
  h3_11)
def h3_9 : HC :=
  (.seq
  (.seq
  (.reg [.need (.n2 (.bin .lss) (.slot 9) (.slot 6)),
    .need (.gif (.n2 (.bin .lss) (.slot 9) (.slot 6)) true (.n2 (.iaddr 4) (.slot 4) (.slot 6))),
    .need (.gif (.n2 (.bin .lss) (.slot 9) (.slot 6)) true (.n1 (.faddr 2) (.n2 (.iaddr 4) (.slot 4) (.slot 6)))),
    .need (.gif (.n2 (.bin .lss) (.slot 9) (.slot 6)) true (.n1 .ld (.n1 (.faddr 2) (.n2 (.iaddr 4) (.slot 4) (.slot 6))))),
    .need (.gif (.n2 (.bin .lss) (.slot 9) (.slot 6)) true (.n2 (.bin .geq) (.n1 .ld (.n1 (.faddr 2) (.n2 (.iaddr 4) (.slot 4) (.slot 6)))) (.lit (.int .i64 0)))),
    .need (.n3 .pick (.n2 (.bin .lss) (.slot 9) (.slot 6)) (.n2 (.bin .geq) (.n1 .ld (.n1 (.faddr 2) (.n2 (.iaddr 4) (.slot 4) (.slot 6)))) (.lit (.int .i64 0))) (.lit (.bool false))),
    .asg 152 (.n3 .pick (.n2 (.bin .lss) (.slot 9) (.slot 6)) (.n2 (.bin .geq) (.n1 .ld (.n1 (.faddr 2) (.n2 (.iaddr 4) (.slot 4) (.slot 6)))) (.lit (.int .i64 0))) (.lit (.bool false)))])
  (.cond (.slot 152)
    .skip
    (.exit 2)))
  h3_10)
def h3_15 : HC :=
  (.reg [.need (.n2 (.bin .add) (.slot 10) (.lit (.int .i64 1))),
    .asg 10 (.n2 (.bin .add) (.slot 10) (.lit (.int .i64 1)))])
def h3_14 : HC :=
  (.seq
  (.block 5
    (.seq
    (.reg [.need (.n2 (.iaddr 4) (.slot 4) (.slot 10)),
      .need (.n1 (.faddr 0) (.n2 (.iaddr 4) (.slot 4) (.slot 10))),
      .need (.n1 .ld (.n1 (.faddr 0) (.n2 (.iaddr 4) (.slot 4) (.slot 10)))),
      .eff (some 173) (.call { callee := .value (.func 12), args := #[.tmp 167, .tmp 172], argTypes := #[22, 9] }) 3 [(167, .slot 0), (172, .n1 .ld (.n1 (.faddr 0) (.n2 (.iaddr 4) (.slot 4) (.slot 10))))] none [],
      .asg 11 (.slot 173)])
    (.seq
    (.draw [.need (.n2 (.bin .geq) (.slot 7) (.lit (.int .i64 0))),
      .need (.gif (.n2 (.bin .geq) (.slot 7) (.lit (.int .i64 0))) true (.n2 (.bin .geq) (.slot 11) (.lit (.int .i64 0)))),
      .need (.n3 .pick (.n2 (.bin .geq) (.slot 7) (.lit (.int .i64 0))) (.n2 (.bin .geq) (.slot 11) (.lit (.int .i64 0))) (.lit (.bool false))),
      .need (.gif (.n3 .pick (.n2 (.bin .geq) (.slot 7) (.lit (.int .i64 0))) (.n2 (.bin .geq) (.slot 11) (.lit (.int .i64 0))) (.lit (.bool false))) true (.n2 (.iaddr 4) (.slot 4) (.slot 10))),
      .need (.gif (.n3 .pick (.n2 (.bin .geq) (.slot 7) (.lit (.int .i64 0))) (.n2 (.bin .geq) (.slot 11) (.lit (.int .i64 0))) (.lit (.bool false))) true (.n1 (.faddr 2) (.n2 (.iaddr 4) (.slot 4) (.slot 10)))),
      .need (.gif (.n3 .pick (.n2 (.bin .geq) (.slot 7) (.lit (.int .i64 0))) (.n2 (.bin .geq) (.slot 11) (.lit (.int .i64 0))) (.lit (.bool false))) true (.n1 .ld (.n1 (.faddr 2) (.n2 (.iaddr 4) (.slot 4) (.slot 10))))),
      .need (.gif (.n3 .pick (.n2 (.bin .geq) (.slot 7) (.lit (.int .i64 0))) (.n2 (.bin .geq) (.slot 11) (.lit (.int .i64 0))) (.lit (.bool false))) true (.n2 (.iaddr 4) (.slot 4) (.slot 6))),
      .need (.gif (.n3 .pick (.n2 (.bin .geq) (.slot 7) (.lit (.int .i64 0))) (.n2 (.bin .geq) (.slot 11) (.lit (.int .i64 0))) (.lit (.bool false))) true (.n1 (.faddr 2) (.n2 (.iaddr 4) (.slot 4) (.slot 6)))),
      .need (.gif (.n3 .pick (.n2 (.bin .geq) (.slot 7) (.lit (.int .i64 0))) (.n2 (.bin .geq) (.slot 11) (.lit (.int .i64 0))) (.lit (.bool false))) true (.n1 .ld (.n1 (.faddr 2) (.n2 (.iaddr 4) (.slot 4) (.slot 6))))),
      .need (.gif (.n3 .pick (.n2 (.bin .geq) (.slot 7) (.lit (.int .i64 0))) (.n2 (.bin .geq) (.slot 11) (.lit (.int .i64 0))) (.lit (.bool false))) true (.n2 (.bin .eql) (.n1 .ld (.n1 (.faddr 2) (.n2 (.iaddr 4) (.slot 4) (.slot 10)))) (.n1 .ld (.n1 (.faddr 2) (.n2 (.iaddr 4) (.slot 4) (.slot 6)))))),
      .need (.n3 .pick (.n3 .pick (.n2 (.bin .geq) (.slot 7) (.lit (.int .i64 0))) (.n2 (.bin .geq) (.slot 11) (.lit (.int .i64 0))) (.lit (.bool false))) (.n2 (.bin .eql) (.n1 .ld (.n1 (.faddr 2) (.n2 (.iaddr 4) (.slot 4) (.slot 10)))) (.n1 .ld (.n1 (.faddr 2) (.n2 (.iaddr 4) (.slot 4) (.slot 6))))) (.lit (.bool false))),
      .asg 193 (.n3 .pick (.n3 .pick (.n2 (.bin .geq) (.slot 7) (.lit (.int .i64 0))) (.n2 (.bin .geq) (.slot 11) (.lit (.int .i64 0))) (.lit (.bool false))) (.n2 (.bin .eql) (.n1 .ld (.n1 (.faddr 2) (.n2 (.iaddr 4) (.slot 4) (.slot 10)))) (.n1 .ld (.n1 (.faddr 2) (.n2 (.iaddr 4) (.slot 4) (.slot 6))))) (.lit (.bool false))),
      .need (.gif (.slot 193) true (.n2 (.iaddr 5) (.slot 0) (.slot 11))),
      .need (.gif (.slot 193) true (.n1 (.faddr 1) (.n2 (.iaddr 5) (.slot 0) (.slot 11)))),
      .need (.gif (.slot 193) true (.n1 .ld (.n1 (.faddr 1) (.n2 (.iaddr 5) (.slot 0) (.slot 11))))),
      .need (.gif (.slot 193) true (.n2 (.iaddr 5) (.slot 0) (.slot 11))),
      .need (.gif (.slot 193) true (.n1 (.faddr 0) (.n2 (.iaddr 5) (.slot 0) (.slot 11)))),
      .need (.gif (.slot 193) true (.n1 .ld (.n1 (.faddr 0) (.n2 (.iaddr 5) (.slot 0) (.slot 11))))),
      .need (.gif (.slot 193) true (.n2 (.iaddr 5) (.slot 0) (.slot 7))),
      .need (.gif (.slot 193) true (.n1 (.faddr 1) (.n2 (.iaddr 5) (.slot 0) (.slot 7)))),
      .need (.gif (.slot 193) true (.n1 .ld (.n1 (.faddr 1) (.n2 (.iaddr 5) (.slot 0) (.slot 7))))),
      .need (.gif (.slot 193) true (.n2 (.iaddr 5) (.slot 0) (.slot 7))),
      .need (.gif (.slot 193) true (.n1 (.faddr 0) (.n2 (.iaddr 5) (.slot 0) (.slot 7)))),
      .need (.gif (.slot 193) true (.n1 .ld (.n1 (.faddr 0) (.n2 (.iaddr 5) (.slot 0) (.slot 7))))),
      .eff (some 214) (.call { callee := .value (.func 14), args := #[.tmp 198, .tmp 203, .tmp 208, .tmp 213], argTypes := #[3, 9, 3, 9] }) 4 [(198, .n1 .ld (.n1 (.faddr 1) (.n2 (.iaddr 5) (.slot 0) (.slot 11)))), (203, .n1 .ld (.n1 (.faddr 0) (.n2 (.iaddr 5) (.slot 0) (.slot 11)))), (208, .n1 .ld (.n1 (.faddr 1) (.n2 (.iaddr 5) (.slot 0) (.slot 7)))), (213, .n1 .ld (.n1 (.faddr 0) (.n2 (.iaddr 5) (.slot 0) (.slot 7))))] (some (.slot 193, true)) [],
      .need (.gif (.slot 193) true (.n1 .bnot (.slot 214))),
      .need (.n3 .pick (.slot 193) (.n1 .bnot (.slot 214)) (.lit (.bool false))),
      .asg 216 (.n3 .pick (.slot 193) (.n1 .bnot (.slot 214)) (.lit (.bool false)))])
    (.cond (.slot 216)
      (.seq
      (.reg [.asg 2 (.lit (.bool false))])
      .ret)
      .skip))))
  h3_15)
def h3_13 : HC :=
  (.seq
  (.seq
  (.reg [.need (.n2 (.bin .lss) (.slot 10) (.slot 6)),
    .asg 164 (.n2 (.bin .lss) (.slot 10) (.slot 6))])
  (.cond (.slot 164)
    .skip
    (.exit 4)))
  h3_14)
def h3_12 : HC :=
  (.seq
  (.reg [.asg 10 (.lit (.int .i64 0))])
  (.block 4
    (.loop
      h3_13)))
def h3_8 : HC :=
  (.seq
  (.seq
  (.reg [.need (.n2 (.iaddr 4) (.slot 4) (.slot 6)),
    .need (.n1 (.faddr 2) (.n2 (.iaddr 4) (.slot 4) (.slot 6))),
    .need (.n1 .ld (.n1 (.faddr 2) (.n2 (.iaddr 4) (.slot 4) (.slot 6)))),
    .need (.n2 (.bin .add) (.n1 .ld (.n1 (.faddr 2) (.n2 (.iaddr 4) (.slot 4) (.slot 6)))) (.lit (.int .i64 1))),
    .asg 9 (.n2 (.bin .add) (.n1 .ld (.n1 (.faddr 2) (.n2 (.iaddr 4) (.slot 4) (.slot 6)))) (.lit (.int .i64 1)))])
  (.block 2
    (.loop
      h3_9)))
  h3_12)
def h3_7 : HC :=
  (.seq
  (.seq
  (.reg [.need (.n2 (.iaddr 4) (.slot 4) (.slot 6)),
    .need (.n1 (.faddr 1) (.n2 (.iaddr 4) (.slot 4) (.slot 6))),
    .need (.n1 .ld (.n1 (.faddr 1) (.n2 (.iaddr 4) (.slot 4) (.slot 6)))),
    .need (.gif (.n1 .ld (.n1 (.faddr 1) (.n2 (.iaddr 4) (.slot 4) (.slot 6)))) true (.n2 (.bin .add) (.slot 6) (.lit (.int .i64 1)))),
    .need (.gif (.n1 .ld (.n1 (.faddr 1) (.n2 (.iaddr 4) (.slot 4) (.slot 6)))) true (.n1 .lensl (.slot 4))),
    .need (.gif (.n1 .ld (.n1 (.faddr 1) (.n2 (.iaddr 4) (.slot 4) (.slot 6)))) true (.n2 (.bin .sub) (.n1 .lensl (.slot 4)) (.lit (.int .i64 1)))),
    .need (.gif (.n1 .ld (.n1 (.faddr 1) (.n2 (.iaddr 4) (.slot 4) (.slot 6)))) true (.n2 .mn (.n2 (.bin .add) (.slot 6) (.lit (.int .i64 1))) (.n2 (.bin .sub) (.n1 .lensl (.slot 4)) (.lit (.int .i64 1))))),
    .need (.gif (.n1 .ld (.n1 (.faddr 1) (.n2 (.iaddr 4) (.slot 4) (.slot 6)))) true (.n2 (.iaddr 4) (.slot 4) (.n2 .mn (.n2 (.bin .add) (.slot 6) (.lit (.int .i64 1))) (.n2 (.bin .sub) (.n1 .lensl (.slot 4)) (.lit (.int .i64 1)))))),
    .need (.gif (.n1 .ld (.n1 (.faddr 1) (.n2 (.iaddr 4) (.slot 4) (.slot 6)))) true (.n1 (.faddr 2) (.n2 (.iaddr 4) (.slot 4) (.n2 .mn (.n2 (.bin .add) (.slot 6) (.lit (.int .i64 1))) (.n2 (.bin .sub) (.n1 .lensl (.slot 4)) (.lit (.int .i64 1))))))),
    .need (.gif (.n1 .ld (.n1 (.faddr 1) (.n2 (.iaddr 4) (.slot 4) (.slot 6)))) true (.n1 .ld (.n1 (.faddr 2) (.n2 (.iaddr 4) (.slot 4) (.n2 .mn (.n2 (.bin .add) (.slot 6) (.lit (.int .i64 1))) (.n2 (.bin .sub) (.n1 .lensl (.slot 4)) (.lit (.int .i64 1)))))))),
    .need (.gif (.n1 .ld (.n1 (.faddr 1) (.n2 (.iaddr 4) (.slot 4) (.slot 6)))) true (.n2 (.bin .neq) (.n1 .ld (.n1 (.faddr 2) (.n2 (.iaddr 4) (.slot 4) (.n2 .mn (.n2 (.bin .add) (.slot 6) (.lit (.int .i64 1))) (.n2 (.bin .sub) (.n1 .lensl (.slot 4)) (.lit (.int .i64 1))))))) (.slot 6))),
    .need (.n3 .pick (.n1 .ld (.n1 (.faddr 1) (.n2 (.iaddr 4) (.slot 4) (.slot 6)))) (.n2 (.bin .neq) (.n1 .ld (.n1 (.faddr 2) (.n2 (.iaddr 4) (.slot 4) (.n2 .mn (.n2 (.bin .add) (.slot 6) (.lit (.int .i64 1))) (.n2 (.bin .sub) (.n1 .lensl (.slot 4)) (.lit (.int .i64 1))))))) (.slot 6)) (.lit (.bool false))),
    .asg 135 (.n3 .pick (.n1 .ld (.n1 (.faddr 1) (.n2 (.iaddr 4) (.slot 4) (.slot 6)))) (.n2 (.bin .neq) (.n1 .ld (.n1 (.faddr 2) (.n2 (.iaddr 4) (.slot 4) (.n2 .mn (.n2 (.bin .add) (.slot 6) (.lit (.int .i64 1))) (.n2 (.bin .sub) (.n1 .lensl (.slot 4)) (.lit (.int .i64 1))))))) (.slot 6)) (.lit (.bool false)))])
  (.cond (.slot 135)
    (.seq
    (.reg [.asg 2 (.lit (.bool false))])
    .ret)
    .skip))
  h3_8)
def h3_6 : HC :=
  (.seq
  (.seq
  (.reg [.need (.n2 (.iaddr 4) (.slot 4) (.slot 6)),
    .need (.n1 (.faddr 3) (.n2 (.iaddr 4) (.slot 4) (.slot 6))),
    .need (.n1 .ld (.n1 (.faddr 3) (.n2 (.iaddr 4) (.slot 4) (.slot 6)))),
    .need (.n2 (.bin .neq) (.n1 .ld (.n1 (.faddr 3) (.n2 (.iaddr 4) (.slot 4) (.slot 6)))) (.slot 8)),
    .need (.gif (.n2 (.bin .neq) (.n1 .ld (.n1 (.faddr 3) (.n2 (.iaddr 4) (.slot 4) (.slot 6)))) (.slot 8)) false (.n2 (.iaddr 4) (.slot 4) (.slot 6))),
    .need (.gif (.n2 (.bin .neq) (.n1 .ld (.n1 (.faddr 3) (.n2 (.iaddr 4) (.slot 4) (.slot 6)))) (.slot 8)) false (.n1 (.faddr 1) (.n2 (.iaddr 4) (.slot 4) (.slot 6)))),
    .need (.gif (.n2 (.bin .neq) (.n1 .ld (.n1 (.faddr 3) (.n2 (.iaddr 4) (.slot 4) (.slot 6)))) (.slot 8)) false (.n1 .ld (.n1 (.faddr 1) (.n2 (.iaddr 4) (.slot 4) (.slot 6))))),
    .need (.gif (.gif (.n2 (.bin .neq) (.n1 .ld (.n1 (.faddr 3) (.n2 (.iaddr 4) (.slot 4) (.slot 6)))) (.slot 8)) false (.n1 .ld (.n1 (.faddr 1) (.n2 (.iaddr 4) (.slot 4) (.slot 6))))) true (.n2 (.iaddr 4) (.slot 4) (.slot 6))),
    .need (.gif (.gif (.n2 (.bin .neq) (.n1 .ld (.n1 (.faddr 3) (.n2 (.iaddr 4) (.slot 4) (.slot 6)))) (.slot 8)) false (.n1 .ld (.n1 (.faddr 1) (.n2 (.iaddr 4) (.slot 4) (.slot 6))))) true (.n1 (.faddr 2) (.n2 (.iaddr 4) (.slot 4) (.slot 6)))),
    .need (.gif (.gif (.n2 (.bin .neq) (.n1 .ld (.n1 (.faddr 3) (.n2 (.iaddr 4) (.slot 4) (.slot 6)))) (.slot 8)) false (.n1 .ld (.n1 (.faddr 1) (.n2 (.iaddr 4) (.slot 4) (.slot 6))))) true (.n1 .ld (.n1 (.faddr 2) (.n2 (.iaddr 4) (.slot 4) (.slot 6))))),
    .need (.gif (.gif (.n2 (.bin .neq) (.n1 .ld (.n1 (.faddr 3) (.n2 (.iaddr 4) (.slot 4) (.slot 6)))) (.slot 8)) false (.n1 .ld (.n1 (.faddr 1) (.n2 (.iaddr 4) (.slot 4) (.slot 6))))) true (.n2 (.bin .neq) (.n1 .ld (.n1 (.faddr 2) (.n2 (.iaddr 4) (.slot 4) (.slot 6)))) (.lit (.int .i64 (-1))))),
    .need (.gif (.gif (.gif (.n2 (.bin .neq) (.n1 .ld (.n1 (.faddr 3) (.n2 (.iaddr 4) (.slot 4) (.slot 6)))) (.slot 8)) false (.n1 .ld (.n1 (.faddr 1) (.n2 (.iaddr 4) (.slot 4) (.slot 6))))) true (.n2 (.bin .neq) (.n1 .ld (.n1 (.faddr 2) (.n2 (.iaddr 4) (.slot 4) (.slot 6)))) (.lit (.int .i64 (-1))))) false (.n2 (.bin .add) (.slot 6) (.lit (.int .i64 1)))),
    .need (.gif (.gif (.gif (.n2 (.bin .neq) (.n1 .ld (.n1 (.faddr 3) (.n2 (.iaddr 4) (.slot 4) (.slot 6)))) (.slot 8)) false (.n1 .ld (.n1 (.faddr 1) (.n2 (.iaddr 4) (.slot 4) (.slot 6))))) true (.n2 (.bin .neq) (.n1 .ld (.n1 (.faddr 2) (.n2 (.iaddr 4) (.slot 4) (.slot 6)))) (.lit (.int .i64 (-1))))) false (.n1 .lensl (.slot 4))),
    .need (.gif (.gif (.gif (.n2 (.bin .neq) (.n1 .ld (.n1 (.faddr 3) (.n2 (.iaddr 4) (.slot 4) (.slot 6)))) (.slot 8)) false (.n1 .ld (.n1 (.faddr 1) (.n2 (.iaddr 4) (.slot 4) (.slot 6))))) true (.n2 (.bin .neq) (.n1 .ld (.n1 (.faddr 2) (.n2 (.iaddr 4) (.slot 4) (.slot 6)))) (.lit (.int .i64 (-1))))) false (.n2 (.bin .eql) (.n2 (.bin .add) (.slot 6) (.lit (.int .i64 1))) (.n1 .lensl (.slot 4)))),
    .need (.gif (.gif (.n2 (.bin .neq) (.n1 .ld (.n1 (.faddr 3) (.n2 (.iaddr 4) (.slot 4) (.slot 6)))) (.slot 8)) false (.n1 .ld (.n1 (.faddr 1) (.n2 (.iaddr 4) (.slot 4) (.slot 6))))) true (.n3 .pick (.n2 (.bin .neq) (.n1 .ld (.n1 (.faddr 2) (.n2 (.iaddr 4) (.slot 4) (.slot 6)))) (.lit (.int .i64 (-1)))) (.lit (.bool true)) (.n2 (.bin .eql) (.n2 (.bin .add) (.slot 6) (.lit (.int .i64 1))) (.n1 .lensl (.slot 4))))),
    .need (.gif (.n2 (.bin .neq) (.n1 .ld (.n1 (.faddr 3) (.n2 (.iaddr 4) (.slot 4) (.slot 6)))) (.slot 8)) false (.n3 .pick (.n1 .ld (.n1 (.faddr 1) (.n2 (.iaddr 4) (.slot 4) (.slot 6)))) (.n3 .pick (.n2 (.bin .neq) (.n1 .ld (.n1 (.faddr 2) (.n2 (.iaddr 4) (.slot 4) (.slot 6)))) (.lit (.int .i64 (-1)))) (.lit (.bool true)) (.n2 (.bin .eql) (.n2 (.bin .add) (.slot 6) (.lit (.int .i64 1))) (.n1 .lensl (.slot 4)))) (.lit (.bool false)))),
    .need (.n3 .pick (.n2 (.bin .neq) (.n1 .ld (.n1 (.faddr 3) (.n2 (.iaddr 4) (.slot 4) (.slot 6)))) (.slot 8)) (.lit (.bool true)) (.n3 .pick (.n1 .ld (.n1 (.faddr 1) (.n2 (.iaddr 4) (.slot 4) (.slot 6)))) (.n3 .pick (.n2 (.bin .neq) (.n1 .ld (.n1 (.faddr 2) (.n2 (.iaddr 4) (.slot 4) (.slot 6)))) (.lit (.int .i64 (-1)))) (.lit (.bool true)) (.n2 (.bin .eql) (.n2 (.bin .add) (.slot 6) (.lit (.int .i64 1))) (.n1 .lensl (.slot 4)))) (.lit (.bool false)))),
    .asg 116 (.n3 .pick (.n2 (.bin .neq) (.n1 .ld (.n1 (.faddr 3) (.n2 (.iaddr 4) (.slot 4) (.slot 6)))) (.slot 8)) (.lit (.bool true)) (.n3 .pick (.n1 .ld (.n1 (.faddr 1) (.n2 (.iaddr 4) (.slot 4) (.slot 6)))) (.n3 .pick (.n2 (.bin .neq) (.n1 .ld (.n1 (.faddr 2) (.n2 (.iaddr 4) (.slot 4) (.slot 6)))) (.lit (.int .i64 (-1)))) (.lit (.bool true)) (.n2 (.bin .eql) (.n2 (.bin .add) (.slot 6) (.lit (.int .i64 1))) (.n1 .lensl (.slot 4)))) (.lit (.bool false))))])
  (.cond (.slot 116)
    (.seq
    (.reg [.asg 2 (.lit (.bool false))])
    .ret)
    .skip))
  h3_7)
def h3_5 : HC :=
  (.seq
  (.reg [.asg 8 (.lit (.int .i64 0))])
  (.seq
  (.seq
  (.reg [.need (.n2 (.iaddr 4) (.slot 4) (.slot 6)),
    .need (.n1 (.faddr 2) (.n2 (.iaddr 4) (.slot 4) (.slot 6))),
    .need (.n1 .ld (.n1 (.faddr 2) (.n2 (.iaddr 4) (.slot 4) (.slot 6)))),
    .need (.n2 (.bin .geq) (.n1 .ld (.n1 (.faddr 2) (.n2 (.iaddr 4) (.slot 4) (.slot 6)))) (.lit (.int .i64 0))),
    .asg 77 (.n2 (.bin .geq) (.n1 .ld (.n1 (.faddr 2) (.n2 (.iaddr 4) (.slot 4) (.slot 6)))) (.lit (.int .i64 0)))])
  (.cond (.slot 77)
    (.reg [.need (.n2 (.iaddr 4) (.slot 4) (.slot 6)),
      .need (.n1 (.faddr 2) (.n2 (.iaddr 4) (.slot 4) (.slot 6))),
      .need (.n1 .ld (.n1 (.faddr 2) (.n2 (.iaddr 4) (.slot 4) (.slot 6)))),
      .need (.n2 (.iaddr 4) (.slot 4) (.n1 .ld (.n1 (.faddr 2) (.n2 (.iaddr 4) (.slot 4) (.slot 6))))),
      .need (.n1 (.faddr 3) (.n2 (.iaddr 4) (.slot 4) (.n1 .ld (.n1 (.faddr 2) (.n2 (.iaddr 4) (.slot 4) (.slot 6)))))),
      .need (.n1 .ld (.n1 (.faddr 3) (.n2 (.iaddr 4) (.slot 4) (.n1 .ld (.n1 (.faddr 2) (.n2 (.iaddr 4) (.slot 4) (.slot 6))))))),
      .need (.n2 (.bin .add) (.n1 .ld (.n1 (.faddr 3) (.n2 (.iaddr 4) (.slot 4) (.n1 .ld (.n1 (.faddr 2) (.n2 (.iaddr 4) (.slot 4) (.slot 6))))))) (.lit (.int .i64 1))),
      .asg 8 (.n2 (.bin .add) (.n1 .ld (.n1 (.faddr 3) (.n2 (.iaddr 4) (.slot 4) (.n1 .ld (.n1 (.faddr 2) (.n2 (.iaddr 4) (.slot 4) (.slot 6))))))) (.lit (.int .i64 1)))])
    .skip))
  h3_6))
def h3_4 : HC :=
  (.seq
  (.seq
  (.reg [.need (.n2 (.bin .geq) (.slot 7) (.lit (.int .i64 0))),
    .asg 69 (.n2 (.bin .geq) (.slot 7) (.lit (.int .i64 0)))])
  (.cond (.slot 69)
    (.reg [.need (.n2 (.bin .add) (.slot 5) (.lit (.int .i64 1))),
      .asg 5 (.n2 (.bin .add) (.slot 5) (.lit (.int .i64 1)))])
    .skip))
  h3_5)
def h3_16 : HC :=
  (.reg [.need (.n2 (.bin .add) (.slot 6) (.lit (.int .i64 1))),
    .asg 6 (.n2 (.bin .add) (.slot 6) (.lit (.int .i64 1)))])
def h3_3 : HC :=
  (.seq
  (.block 1
    (.seq
    (.reg [.need (.n2 (.iaddr 4) (.slot 4) (.slot 6)),
      .need (.n1 (.faddr 0) (.n2 (.iaddr 4) (.slot 4) (.slot 6))),
      .need (.n1 .ld (.n1 (.faddr 0) (.n2 (.iaddr 4) (.slot 4) (.slot 6)))),
      .eff (some 31) (.call { callee := .value (.func 12), args := #[.tmp 25, .tmp 30], argTypes := #[22, 9] }) 3 [(25, .slot 0), (30, .n1 .ld (.n1 (.faddr 0) (.n2 (.iaddr 4) (.slot 4) (.slot 6))))] none [],
      .asg 7 (.slot 31)])
    (.seq
    (.seq
    (.reg [.need (.n2 (.iaddr 4) (.slot 4) (.slot 6)),
      .need (.n1 (.faddr 0) (.n2 (.iaddr 4) (.slot 4) (.slot 6))),
      .need (.n1 .ld (.n1 (.faddr 0) (.n2 (.iaddr 4) (.slot 4) (.slot 6)))),
      .eff (some 38) (.call { callee := .value (.func 13), args := #[.tmp 32, .tmp 37], argTypes := #[25, 9] }) 3 [(32, .slot 4), (37, .n1 .ld (.n1 (.faddr 0) (.n2 (.iaddr 4) (.slot 4) (.slot 6))))] none [],
      .need (.n2 (.bin .neq) (.slot 38) (.slot 6)),
      .need (.gif (.n2 (.bin .neq) (.slot 38) (.slot 6)) false (.n2 (.iaddr 4) (.slot 4) (.slot 6))),
      .need (.gif (.n2 (.bin .neq) (.slot 38) (.slot 6)) false (.n1 (.faddr 1) (.n2 (.iaddr 4) (.slot 4) (.slot 6)))),
      .need (.gif (.n2 (.bin .neq) (.slot 38) (.slot 6)) false (.n1 .ld (.n1 (.faddr 1) (.n2 (.iaddr 4) (.slot 4) (.slot 6))))),
      .need (.gif (.n2 (.bin .neq) (.slot 38) (.slot 6)) false (.n2 (.bin .lss) (.slot 7) (.lit (.int .i64 0)))),
      .need (.gif (.n2 (.bin .neq) (.slot 38) (.slot 6)) false (.n2 (.beq true) (.n1 .ld (.n1 (.faddr 1) (.n2 (.iaddr 4) (.slot 4) (.slot 6)))) (.n2 (.bin .lss) (.slot 7) (.lit (.int .i64 0))))),
      .need (.n3 .pick (.n2 (.bin .neq) (.slot 38) (.slot 6)) (.lit (.bool true)) (.n2 (.beq true) (.n1 .ld (.n1 (.faddr 1) (.n2 (.iaddr 4) (.slot 4) (.slot 6)))) (.n2 (.bin .lss) (.slot 7) (.lit (.int .i64 0))))),
      .need (.gif (.n3 .pick (.n2 (.bin .neq) (.slot 38) (.slot 6)) (.lit (.bool true)) (.n2 (.beq true) (.n1 .ld (.n1 (.faddr 1) (.n2 (.iaddr 4) (.slot 4) (.slot 6)))) (.n2 (.bin .lss) (.slot 7) (.lit (.int .i64 0))))) false (.n2 (.iaddr 4) (.slot 4) (.slot 6))),
      .need (.gif (.n3 .pick (.n2 (.bin .neq) (.slot 38) (.slot 6)) (.lit (.bool true)) (.n2 (.beq true) (.n1 .ld (.n1 (.faddr 1) (.n2 (.iaddr 4) (.slot 4) (.slot 6)))) (.n2 (.bin .lss) (.slot 7) (.lit (.int .i64 0))))) false (.n1 (.faddr 2) (.n2 (.iaddr 4) (.slot 4) (.slot 6)))),
      .need (.gif (.n3 .pick (.n2 (.bin .neq) (.slot 38) (.slot 6)) (.lit (.bool true)) (.n2 (.beq true) (.n1 .ld (.n1 (.faddr 1) (.n2 (.iaddr 4) (.slot 4) (.slot 6)))) (.n2 (.bin .lss) (.slot 7) (.lit (.int .i64 0))))) false (.n1 .ld (.n1 (.faddr 2) (.n2 (.iaddr 4) (.slot 4) (.slot 6))))),
      .need (.gif (.n3 .pick (.n2 (.bin .neq) (.slot 38) (.slot 6)) (.lit (.bool true)) (.n2 (.beq true) (.n1 .ld (.n1 (.faddr 1) (.n2 (.iaddr 4) (.slot 4) (.slot 6)))) (.n2 (.bin .lss) (.slot 7) (.lit (.int .i64 0))))) false (.n2 (.bin .geq) (.n1 .ld (.n1 (.faddr 2) (.n2 (.iaddr 4) (.slot 4) (.slot 6)))) (.slot 6))),
      .need (.n3 .pick (.n3 .pick (.n2 (.bin .neq) (.slot 38) (.slot 6)) (.lit (.bool true)) (.n2 (.beq true) (.n1 .ld (.n1 (.faddr 1) (.n2 (.iaddr 4) (.slot 4) (.slot 6)))) (.n2 (.bin .lss) (.slot 7) (.lit (.int .i64 0))))) (.lit (.bool true)) (.n2 (.bin .geq) (.n1 .ld (.n1 (.faddr 2) (.n2 (.iaddr 4) (.slot 4) (.slot 6)))) (.slot 6))),
      .need (.gif (.n3 .pick (.n3 .pick (.n2 (.bin .neq) (.slot 38) (.slot 6)) (.lit (.bool true)) (.n2 (.beq true) (.n1 .ld (.n1 (.faddr 1) (.n2 (.iaddr 4) (.slot 4) (.slot 6)))) (.n2 (.bin .lss) (.slot 7) (.lit (.int .i64 0))))) (.lit (.bool true)) (.n2 (.bin .geq) (.n1 .ld (.n1 (.faddr 2) (.n2 (.iaddr 4) (.slot 4) (.slot 6)))) (.slot 6))) false (.n2 (.iaddr 4) (.slot 4) (.slot 6))),
      .need (.gif (.n3 .pick (.n3 .pick (.n2 (.bin .neq) (.slot 38) (.slot 6)) (.lit (.bool true)) (.n2 (.beq true) (.n1 .ld (.n1 (.faddr 1) (.n2 (.iaddr 4) (.slot 4) (.slot 6)))) (.n2 (.bin .lss) (.slot 7) (.lit (.int .i64 0))))) (.lit (.bool true)) (.n2 (.bin .geq) (.n1 .ld (.n1 (.faddr 2) (.n2 (.iaddr 4) (.slot 4) (.slot 6)))) (.slot 6))) false (.n1 (.faddr 2) (.n2 (.iaddr 4) (.slot 4) (.slot 6)))),
      .need (.gif (.n3 .pick (.n3 .pick (.n2 (.bin .neq) (.slot 38) (.slot 6)) (.lit (.bool true)) (.n2 (.beq true) (.n1 .ld (.n1 (.faddr 1) (.n2 (.iaddr 4) (.slot 4) (.slot 6)))) (.n2 (.bin .lss) (.slot 7) (.lit (.int .i64 0))))) (.lit (.bool true)) (.n2 (.bin .geq) (.n1 .ld (.n1 (.faddr 2) (.n2 (.iaddr 4) (.slot 4) (.slot 6)))) (.slot 6))) false (.n1 .ld (.n1 (.faddr 2) (.n2 (.iaddr 4) (.slot 4) (.slot 6))))),
      .need (.gif (.n3 .pick (.n3 .pick (.n2 (.bin .neq) (.slot 38) (.slot 6)) (.lit (.bool true)) (.n2 (.beq true) (.n1 .ld (.n1 (.faddr 1) (.n2 (.iaddr 4) (.slot 4) (.slot 6)))) (.n2 (.bin .lss) (.slot 7) (.lit (.int .i64 0))))) (.lit (.bool true)) (.n2 (.bin .geq) (.n1 .ld (.n1 (.faddr 2) (.n2 (.iaddr 4) (.slot 4) (.slot 6)))) (.slot 6))) false (.n2 (.bin .lss) (.n1 .ld (.n1 (.faddr 2) (.n2 (.iaddr 4) (.slot 4) (.slot 6)))) (.lit (.int .i64 (-1))))),
      .need (.n3 .pick (.n3 .pick (.n3 .pick (.n2 (.bin .neq) (.slot 38) (.slot 6)) (.lit (.bool true)) (.n2 (.beq true) (.n1 .ld (.n1 (.faddr 1) (.n2 (.iaddr 4) (.slot 4) (.slot 6)))) (.n2 (.bin .lss) (.slot 7) (.lit (.int .i64 0))))) (.lit (.bool true)) (.n2 (.bin .geq) (.n1 .ld (.n1 (.faddr 2) (.n2 (.iaddr 4) (.slot 4) (.slot 6)))) (.slot 6))) (.lit (.bool true)) (.n2 (.bin .lss) (.n1 .ld (.n1 (.faddr 2) (.n2 (.iaddr 4) (.slot 4) (.slot 6)))) (.lit (.int .i64 (-1))))),
      .asg 67 (.n3 .pick (.n3 .pick (.n3 .pick (.n2 (.bin .neq) (.slot 38) (.slot 6)) (.lit (.bool true)) (.n2 (.beq true) (.n1 .ld (.n1 (.faddr 1) (.n2 (.iaddr 4) (.slot 4) (.slot 6)))) (.n2 (.bin .lss) (.slot 7) (.lit (.int .i64 0))))) (.lit (.bool true)) (.n2 (.bin .geq) (.n1 .ld (.n1 (.faddr 2) (.n2 (.iaddr 4) (.slot 4) (.slot 6)))) (.slot 6))) (.lit (.bool true)) (.n2 (.bin .lss) (.n1 .ld (.n1 (.faddr 2) (.n2 (.iaddr 4) (.slot 4) (.slot 6)))) (.lit (.int .i64 (-1)))))])
    (.cond (.slot 67)
      (.seq
      (.reg [.asg 2 (.lit (.bool false))])
      .ret)
      .skip))
    h3_4)))
  h3_16)
def h3_2 : HC :=
  (.seq
  (.seq
  (.reg [.need (.n1 .lensl (.slot 4)),
    .need (.n2 (.bin .lss) (.slot 6) (.n1 .lensl (.slot 4))),
    .asg 22 (.n2 (.bin .lss) (.slot 6) (.n1 .lensl (.slot 4)))])
  (.cond (.slot 22)
    .skip
    (.exit 0)))
  h3_3)
def h3_17 : HC :=
  (.seq
  (.reg [.need (.gif (.slot 3) true (.n1 .lensl (.slot 0))),
    .need (.gif (.slot 3) true (.n2 (.bin .eql) (.slot 5) (.n1 .lensl (.slot 0)))),
    .need (.n3 .pick (.slot 3) (.n2 (.bin .eql) (.slot 5) (.n1 .lensl (.slot 0))) (.lit (.bool false))),
    .asg 2 (.n3 .pick (.slot 3) (.n2 (.bin .eql) (.slot 5) (.n1 .lensl (.slot 0))) (.lit (.bool false)))])
  .ret)
def h3_1 : HC :=
  (.seq
  (.reg [.eff (some 18) (.call { callee := .value (.func 11), args := #[.tmp 17], argTypes := #[22] }) 25 [(17, .slot 0)] none [],
    .asg 4 (.slot 18)])
  (.seq
  (.reg [.asg 5 (.lit (.int .i64 0))])
  (.seq
  (.seq
  (.reg [.asg 6 (.lit (.int .i64 0))])
  (.block 0
    (.loop
      h3_2)))
  h3_17)))
def h3 : HC :=
  (.seq
  (.reg [.asg 2 (.lit (.bool false))])
  (.seq
  (.reg [.eff (some 12) (.call { callee := .value (.func 9), args := #[], argTypes := #[] }) 4 [] none [],
    .asg 3 (.slot 12)])
  (.seq
  (.seq
  (.reg [.eff (some 14) (.call { callee := .value (.func 10), args := #[.tmp 13], argTypes := #[22] }) 4 [(13, .slot 0)] none [],
    .need (.n1 .bnot (.slot 14)),
    .asg 15 (.n1 .bnot (.slot 14))])
  (.cond (.slot 15)
    (.seq
    (.reg [.asg 2 (.slot 3)])
    .ret)
    .skip))
  h3_1)))
theorem k3 : fnOK Try.prog 131640377139911953079910583316175221220521478424390088009323962365 [⟨30, [0, 1, 3, 7, 15, 31, 63, 127, 127, 511, 1023, 2047, 127, 127, 12415, 28799, 61567, 131071, 262143, 524287, 1048575, 1048575, 4194303, 8388607, 16777215, 1048575, 1048575, 101711871, 235929599, 504365055, 1048575, 1048575, 3222274047, 7517241343, 16107175935, 1048575, 1048575, 103080263679, 240519217151, 515397124095, 1099511627775, 2199023255551, 4398046511103], [(0, []), (1, []), (2, []), (3, []), (4, []), (5, []), (6, []), (7, []), (8, []), (9, []), (10, []), (11, []), (12, []), (13, []), (14, []), (15, []), (16, []), (17, []), (18, []), (19, []), (20, []), (21, []), (22, []), (23, []), (24, []), (25, []), (26, []), (27, []), (28, []), (29, []), (30, []), (31, []), (32, []), (33, []), (34, []), (35, []), (36, []), (37, []), (38, []), (39, []), (40, []), (41, []), (42, [])], none⟩] [.tmp 2] 1 Try.f3 = some h3 := by kernel_rfl
theorem c3 : callable Try.prog 3 = true := by kernel_rfl
theorem q3 {args : List Value} (ha : args.length = 1) {w : World} {next : Value → World → Prop} {QP : List PanicEntry → World → Prop} (H : hw Try.prog noPanic h3 (endV [.tmp 2] next) (σ0 args) w) : callK Try.prog 3 args w next QP := fn_rule Try.func3 mixed k3 ha H
theorem r3 {args : List Value} (ha : args.length = 1) {w : World} {next : Value → World → Prop} {QP : List PanicEntry → World → Prop} (H : hw Try.prog noPanic h3 (endV [.tmp 2] next) (σ0 args) w) : callvK Try.prog (.func (.func 3) #[] #[]) args w next QP := callf c3 (q3 ha H)

/- missive/missivelaw21.ThreadParents -/
def h4_7 : HC :=
  (.seq
  (.seq
  (.draw [.need (.n1 .lensl (.slot 10)),
    .need (.n2 (.bin .sub) (.n1 .lensl (.slot 10)) (.lit (.int .i64 1))),
    .need (.n2 (.iaddr 1) (.slot 10) (.n2 (.bin .sub) (.n1 .lensl (.slot 10)) (.lit (.int .i64 1)))),
    .need (.n1 .ld (.n2 (.iaddr 1) (.slot 10) (.n2 (.bin .sub) (.n1 .lensl (.slot 10)) (.lit (.int .i64 1))))),
    .need (.n1 (.faddr 0) (.slot 12)),
    .need (.n1 .ld (.n1 (.faddr 0) (.slot 12))),
    .need (.n2 (.sbin .neq) (.n1 .ld (.n2 (.iaddr 1) (.slot 10) (.n2 (.bin .sub) (.n1 .lensl (.slot 10)) (.lit (.int .i64 1))))) (.n1 .ld (.n1 (.faddr 0) (.slot 12)))),
    .asg 115 (.n2 (.sbin .neq) (.n1 .ld (.n2 (.iaddr 1) (.slot 10) (.n2 (.bin .sub) (.n1 .lensl (.slot 10)) (.lit (.int .i64 1))))) (.n1 .ld (.n1 (.faddr 0) (.slot 12))))])
  (.cond (.slot 115)
    (.seq
    (.reg [.asg 2 (.lit (.bool false))])
    .ret)
    .skip))
  (.exit 1))
def l4_10 : List HS :=
  .need (.n3 .pick (.n3 .pick (.slot 149) (.n2 (.bin .eql) (.n1 .lensl (.slot 151)) (.lit (.int .i64 0))) (.lit (.bool false))) (.slot 160) (.lit (.bool false))) ::
  .need (.gif (.n3 .pick (.n3 .pick (.slot 149) (.n2 (.bin .eql) (.n1 .lensl (.slot 151)) (.lit (.int .i64 0))) (.lit (.bool false))) (.slot 160) (.lit (.bool false))) true (.n1 (.faddr 1) (.slot 13))) ::
  .need (.gif (.n3 .pick (.n3 .pick (.slot 149) (.n2 (.bin .eql) (.n1 .lensl (.slot 151)) (.lit (.int .i64 0))) (.lit (.bool false))) (.slot 160) (.lit (.bool false))) true (.n1 .ld (.n1 (.faddr 1) (.slot 13)))) ::
  .need (.gif (.n3 .pick (.n3 .pick (.slot 149) (.n2 (.bin .eql) (.n1 .lensl (.slot 151)) (.lit (.int .i64 0))) (.lit (.bool false))) (.slot 160) (.lit (.bool false))) true (.n1 (.faddr 1) (.slot 6))) ::
  .need (.gif (.n3 .pick (.n3 .pick (.slot 149) (.n2 (.bin .eql) (.n1 .lensl (.slot 151)) (.lit (.int .i64 0))) (.lit (.bool false))) (.slot 160) (.lit (.bool false))) true (.n1 .ld (.n1 (.faddr 1) (.slot 6)))) ::
  .need (.gif (.n3 .pick (.n3 .pick (.slot 149) (.n2 (.bin .eql) (.n1 .lensl (.slot 151)) (.lit (.int .i64 0))) (.lit (.bool false))) (.slot 160) (.lit (.bool false))) true (.n2 (.bin .leq) (.n1 .ld (.n1 (.faddr 1) (.slot 13))) (.n1 .ld (.n1 (.faddr 1) (.slot 6))))) ::
  .need (.n3 .pick (.n3 .pick (.n3 .pick (.slot 149) (.n2 (.bin .eql) (.n1 .lensl (.slot 151)) (.lit (.int .i64 0))) (.lit (.bool false))) (.slot 160) (.lit (.bool false))) (.n2 (.bin .leq) (.n1 .ld (.n1 (.faddr 1) (.slot 13))) (.n1 .ld (.n1 (.faddr 1) (.slot 6)))) (.lit (.bool false))) ::
  .asg 14 (.n3 .pick (.n3 .pick (.n3 .pick (.slot 149) (.n2 (.bin .eql) (.n1 .lensl (.slot 151)) (.lit (.int .i64 0))) (.lit (.bool false))) (.slot 160) (.lit (.bool false))) (.n2 (.bin .leq) (.n1 .ld (.n1 (.faddr 1) (.slot 13))) (.n1 .ld (.n1 (.faddr 1) (.slot 6)))) (.lit (.bool false))) ::
  []
def l4_11 : List HS :=
  .need (.gif (.slot 149) true (.n1 .lensl (.slot 151))) ::
  .need (.gif (.slot 149) true (.n2 (.bin .eql) (.n1 .lensl (.slot 151)) (.lit (.int .i64 0)))) ::
  .need (.n3 .pick (.slot 149) (.n2 (.bin .eql) (.n1 .lensl (.slot 151)) (.lit (.int .i64 0))) (.lit (.bool false))) ::
  .need (.gif (.n3 .pick (.slot 149) (.n2 (.bin .eql) (.n1 .lensl (.slot 151)) (.lit (.int .i64 0))) (.lit (.bool false))) true (.n1 (.faddr 3) (.slot 6))) ::
  .need (.gif (.n3 .pick (.slot 149) (.n2 (.bin .eql) (.n1 .lensl (.slot 151)) (.lit (.int .i64 0))) (.lit (.bool false))) true (.n1 .ld (.n1 (.faddr 3) (.slot 6)))) ::
  .need (.gif (.n3 .pick (.slot 149) (.n2 (.bin .eql) (.n1 .lensl (.slot 151)) (.lit (.int .i64 0))) (.lit (.bool false))) true (.n1 (.faddr 3) (.slot 13))) ::
  .need (.gif (.n3 .pick (.slot 149) (.n2 (.bin .eql) (.n1 .lensl (.slot 151)) (.lit (.int .i64 0))) (.lit (.bool false))) true (.n1 .ld (.n1 (.faddr 3) (.slot 13)))) ::
  .eff (some 160) (.call { callee := .value (.func 19), args := #[.tmp 157, .tmp 159], argTypes := #[9, 9] }) 4 [(157, .n1 .ld (.n1 (.faddr 3) (.slot 6))), (159, .n1 .ld (.n1 (.faddr 3) (.slot 13)))] (some (.n3 .pick (.slot 149) (.n2 (.bin .eql) (.n1 .lensl (.slot 151)) (.lit (.int .i64 0))) (.lit (.bool false)), true)) [] ::
  l4_10
def h4_12 : HC :=
  (.seq
  (.reg [.need (.n1 (.faddr 0) (.slot 13)),
    .need (.n1 .ld (.n1 (.faddr 0) (.slot 13))),
    .need (.n1 (.faddr 0) (.slot 12)),
    .need (.n1 .ld (.n1 (.faddr 0) (.slot 12))),
    .need (.n2 (.sbin .neq) (.n1 .ld (.n1 (.faddr 0) (.slot 13))) (.n1 .ld (.n1 (.faddr 0) (.slot 12)))),
    .need (.gif (.n2 (.sbin .neq) (.n1 .ld (.n1 (.faddr 0) (.slot 13))) (.n1 .ld (.n1 (.faddr 0) (.slot 12)))) false (.n2 (.bin .geq) (.slot 11) (.lit (.int .i64 0)))),
    .need (.gif (.gif (.n2 (.sbin .neq) (.n1 .ld (.n1 (.faddr 0) (.slot 13))) (.n1 .ld (.n1 (.faddr 0) (.slot 12)))) false (.n2 (.bin .geq) (.slot 11) (.lit (.int .i64 0)))) true (.n2 (.bin .neq) (.slot 11) (.slot 8))),
    .need (.gif (.n2 (.sbin .neq) (.n1 .ld (.n1 (.faddr 0) (.slot 13))) (.n1 .ld (.n1 (.faddr 0) (.slot 12)))) false (.n3 .pick (.n2 (.bin .geq) (.slot 11) (.lit (.int .i64 0))) (.n2 (.bin .neq) (.slot 11) (.slot 8)) (.lit (.bool false)))),
    .need (.n3 .pick (.n2 (.sbin .neq) (.n1 .ld (.n1 (.faddr 0) (.slot 13))) (.n1 .ld (.n1 (.faddr 0) (.slot 12)))) (.lit (.bool true)) (.n3 .pick (.n2 (.bin .geq) (.slot 11) (.lit (.int .i64 0))) (.n2 (.bin .neq) (.slot 11) (.slot 8)) (.lit (.bool false)))),
    .need (.gif (.n3 .pick (.n2 (.sbin .neq) (.n1 .ld (.n1 (.faddr 0) (.slot 13))) (.n1 .ld (.n1 (.faddr 0) (.slot 12)))) (.lit (.bool true)) (.n3 .pick (.n2 (.bin .geq) (.slot 11) (.lit (.int .i64 0))) (.n2 (.bin .neq) (.slot 11) (.slot 8)) (.lit (.bool false)))) false (.n2 (.bin .lss) (.slot 11) (.lit (.int .i64 0)))),
    .need (.gif (.gif (.n3 .pick (.n2 (.sbin .neq) (.n1 .ld (.n1 (.faddr 0) (.slot 13))) (.n1 .ld (.n1 (.faddr 0) (.slot 12)))) (.lit (.bool true)) (.n3 .pick (.n2 (.bin .geq) (.slot 11) (.lit (.int .i64 0))) (.n2 (.bin .neq) (.slot 11) (.slot 8)) (.lit (.bool false)))) false (.n2 (.bin .lss) (.slot 11) (.lit (.int .i64 0)))) true (.n1 .bnot (.slot 14))),
    .need (.gif (.n3 .pick (.n2 (.sbin .neq) (.n1 .ld (.n1 (.faddr 0) (.slot 13))) (.n1 .ld (.n1 (.faddr 0) (.slot 12)))) (.lit (.bool true)) (.n3 .pick (.n2 (.bin .geq) (.slot 11) (.lit (.int .i64 0))) (.n2 (.bin .neq) (.slot 11) (.slot 8)) (.lit (.bool false)))) false (.n3 .pick (.n2 (.bin .lss) (.slot 11) (.lit (.int .i64 0))) (.n1 .bnot (.slot 14)) (.lit (.bool false)))),
    .need (.n3 .pick (.n3 .pick (.n2 (.sbin .neq) (.n1 .ld (.n1 (.faddr 0) (.slot 13))) (.n1 .ld (.n1 (.faddr 0) (.slot 12)))) (.lit (.bool true)) (.n3 .pick (.n2 (.bin .geq) (.slot 11) (.lit (.int .i64 0))) (.n2 (.bin .neq) (.slot 11) (.slot 8)) (.lit (.bool false)))) (.lit (.bool true)) (.n3 .pick (.n2 (.bin .lss) (.slot 11) (.lit (.int .i64 0))) (.n1 .bnot (.slot 14)) (.lit (.bool false)))),
    .asg 190 (.n3 .pick (.n3 .pick (.n2 (.sbin .neq) (.n1 .ld (.n1 (.faddr 0) (.slot 13))) (.n1 .ld (.n1 (.faddr 0) (.slot 12)))) (.lit (.bool true)) (.n3 .pick (.n2 (.bin .geq) (.slot 11) (.lit (.int .i64 0))) (.n2 (.bin .neq) (.slot 11) (.slot 8)) (.lit (.bool false)))) (.lit (.bool true)) (.n3 .pick (.n2 (.bin .lss) (.slot 11) (.lit (.int .i64 0))) (.n1 .bnot (.slot 14)) (.lit (.bool false))))])
  (.cond (.slot 190)
    (.seq
    (.reg [.asg 2 (.lit (.bool false))])
    .ret)
    .skip))
def h4_9 : HC :=
  (.seq
  (.reg [.need (.n2 (.iaddr 5) (.slot 0) (.slot 8)),
    .need (.n1 (.ldn 5) (.n2 (.iaddr 5) (.slot 0) (.slot 8))),
    .asg 131 (.n1 (.ldn 5) (.n2 (.iaddr 5) (.slot 0) (.slot 8))),
    .eff (some 13) (.alloc 34) 0 [] none [],
    .eff none (.store 34 (.tmp 13) (.tmp 131)) 0 [(13, .slot 13), (131, .slot 131)] none []])
  (.seq
  (.reg (.need (.n1 .lensl (.slot 10)) ::
    .need (.n2 (.bin .eql) (.n1 .lensl (.slot 10)) (.lit (.int .i64 0))) ::
    .need (.gif (.n2 (.bin .eql) (.n1 .lensl (.slot 10)) (.lit (.int .i64 0))) true (.n1 (.faddr 4) (.slot 6))) ::
    .need (.gif (.n2 (.bin .eql) (.n1 .lensl (.slot 10)) (.lit (.int .i64 0))) true (.n1 .ld (.n1 (.faddr 4) (.slot 6)))) ::
    .need (.n3 .pick (.n2 (.bin .eql) (.n1 .lensl (.slot 10)) (.lit (.int .i64 0))) (.n1 .ld (.n1 (.faddr 4) (.slot 6))) (.lit (.bool false))) ::
    .need (.gif (.n3 .pick (.n2 (.bin .eql) (.n1 .lensl (.slot 10)) (.lit (.int .i64 0))) (.n1 .ld (.n1 (.faddr 4) (.slot 6))) (.lit (.bool false))) true (.n1 (.faddr 3) (.slot 6))) ::
    .need (.gif (.n3 .pick (.n2 (.bin .eql) (.n1 .lensl (.slot 10)) (.lit (.int .i64 0))) (.n1 .ld (.n1 (.faddr 4) (.slot 6))) (.lit (.bool false))) true (.n1 .ld (.n1 (.faddr 3) (.slot 6)))) ::
    .need (.gif (.n3 .pick (.n2 (.bin .eql) (.n1 .lensl (.slot 10)) (.lit (.int .i64 0))) (.n1 .ld (.n1 (.faddr 4) (.slot 6))) (.lit (.bool false))) true (.n2 (.sbin .neq) (.n1 .ld (.n1 (.faddr 3) (.slot 6))) (.lit (str [])))) ::
    .need (.n3 .pick (.n3 .pick (.n2 (.bin .eql) (.n1 .lensl (.slot 10)) (.lit (.int .i64 0))) (.n1 .ld (.n1 (.faddr 4) (.slot 6))) (.lit (.bool false))) (.n2 (.sbin .neq) (.n1 .ld (.n1 (.faddr 3) (.slot 6))) (.lit (str []))) (.lit (.bool false))) ::
    .need (.gif (.n3 .pick (.n3 .pick (.n2 (.bin .eql) (.n1 .lensl (.slot 10)) (.lit (.int .i64 0))) (.n1 .ld (.n1 (.faddr 4) (.slot 6))) (.lit (.bool false))) (.n2 (.sbin .neq) (.n1 .ld (.n1 (.faddr 3) (.slot 6))) (.lit (str []))) (.lit (.bool false))) true (.n1 (.faddr 4) (.slot 13))) ::
    .need (.gif (.n3 .pick (.n3 .pick (.n2 (.bin .eql) (.n1 .lensl (.slot 10)) (.lit (.int .i64 0))) (.n1 .ld (.n1 (.faddr 4) (.slot 6))) (.lit (.bool false))) (.n2 (.sbin .neq) (.n1 .ld (.n1 (.faddr 3) (.slot 6))) (.lit (str []))) (.lit (.bool false))) true (.n1 .ld (.n1 (.faddr 4) (.slot 13)))) ::
    .need (.gif (.n3 .pick (.n3 .pick (.n2 (.bin .eql) (.n1 .lensl (.slot 10)) (.lit (.int .i64 0))) (.n1 .ld (.n1 (.faddr 4) (.slot 6))) (.lit (.bool false))) (.n2 (.sbin .neq) (.n1 .ld (.n1 (.faddr 3) (.slot 6))) (.lit (str []))) (.lit (.bool false))) true (.n1 .bnot (.n1 .ld (.n1 (.faddr 4) (.slot 13))))) ::
    .need (.n3 .pick (.n3 .pick (.n3 .pick (.n2 (.bin .eql) (.n1 .lensl (.slot 10)) (.lit (.int .i64 0))) (.n1 .ld (.n1 (.faddr 4) (.slot 6))) (.lit (.bool false))) (.n2 (.sbin .neq) (.n1 .ld (.n1 (.faddr 3) (.slot 6))) (.lit (str []))) (.lit (.bool false))) (.n1 .bnot (.n1 .ld (.n1 (.faddr 4) (.slot 13)))) (.lit (.bool false))) ::
    .asg 149 (.n3 .pick (.n3 .pick (.n3 .pick (.n2 (.bin .eql) (.n1 .lensl (.slot 10)) (.lit (.int .i64 0))) (.n1 .ld (.n1 (.faddr 4) (.slot 6))) (.lit (.bool false))) (.n2 (.sbin .neq) (.n1 .ld (.n1 (.faddr 3) (.slot 6))) (.lit (str []))) (.lit (.bool false))) (.n1 .bnot (.n1 .ld (.n1 (.faddr 4) (.slot 13)))) (.lit (.bool false))) ::
    .need (.gif (.slot 149) true (.n1 (.ldn 5) (.slot 13))) ::
    .eff (some 151) (.call { callee := .value (.func 16), args := #[.tmp 150], argTypes := #[34] }) 32 [(150, .n1 (.ldn 5) (.slot 13))] (some (.slot 149, true)) [] ::
    l4_11))
  h4_12))
def h4_8 : HC :=
  (.seq
  (.seq
  (.reg [.need (.n2 (.bin .lss) (.slot 8) (.lit (.int .i64 0))),
    .need (.gif (.n2 (.bin .lss) (.slot 8) (.lit (.int .i64 0))) false (.n1 .lensl (.slot 0))),
    .need (.gif (.n2 (.bin .lss) (.slot 8) (.lit (.int .i64 0))) false (.n2 (.bin .geq) (.slot 8) (.n1 .lensl (.slot 0)))),
    .need (.n3 .pick (.n2 (.bin .lss) (.slot 8) (.lit (.int .i64 0))) (.lit (.bool true)) (.n2 (.bin .geq) (.slot 8) (.n1 .lensl (.slot 0)))),
    .need (.gif (.n3 .pick (.n2 (.bin .lss) (.slot 8) (.lit (.int .i64 0))) (.lit (.bool true)) (.n2 (.bin .geq) (.slot 8) (.n1 .lensl (.slot 0)))) false (.n2 (.sbin .neq) (.slot 9) (.lit (str [])))),
    .need (.n3 .pick (.n3 .pick (.n2 (.bin .lss) (.slot 8) (.lit (.int .i64 0))) (.lit (.bool true)) (.n2 (.bin .geq) (.slot 8) (.n1 .lensl (.slot 0)))) (.lit (.bool true)) (.n2 (.sbin .neq) (.slot 9) (.lit (str [])))),
    .asg 127 (.n3 .pick (.n3 .pick (.n2 (.bin .lss) (.slot 8) (.lit (.int .i64 0))) (.lit (.bool true)) (.n2 (.bin .geq) (.slot 8) (.n1 .lensl (.slot 0)))) (.lit (.bool true)) (.n2 (.sbin .neq) (.slot 9) (.lit (str []))))])
  (.cond (.slot 127)
    (.seq
    (.reg [.asg 2 (.lit (.bool false))])
    .ret)
    .skip))
  h4_9)
def h4_6 : HC :=
  (.seq
  (.reg [.need (.n2 (.iaddr 4) (.slot 4) (.slot 7)),
    .need (.n1 (.faddr 2) (.n2 (.iaddr 4) (.slot 4) (.slot 7))),
    .need (.n1 .ld (.n1 (.faddr 2) (.n2 (.iaddr 4) (.slot 4) (.slot 7)))),
    .need (.n2 (.iaddr 4) (.slot 4) (.n1 .ld (.n1 (.faddr 2) (.n2 (.iaddr 4) (.slot 4) (.slot 7))))),
    .need (.n1 (.ldn 4) (.n2 (.iaddr 4) (.slot 4) (.n1 .ld (.n1 (.faddr 2) (.n2 (.iaddr 4) (.slot 4) (.slot 7)))))),
    .asg 87 (.n1 (.ldn 4) (.n2 (.iaddr 4) (.slot 4) (.n1 .ld (.n1 (.faddr 2) (.n2 (.iaddr 4) (.slot 4) (.slot 7)))))),
    .eff (some 12) (.alloc 29) 0 [] none [],
    .eff none (.store 29 (.tmp 12) (.tmp 87)) 0 [(12, .slot 12), (87, .slot 87)] none []])
  (.seq
  (.seq
  (.reg [.need (.n1 (.faddr 1) (.slot 12)),
    .need (.n1 .ld (.n1 (.faddr 1) (.slot 12))),
    .asg 89 (.n1 .ld (.n1 (.faddr 1) (.slot 12)))])
  (.cond (.slot 89)
    (.seq
    (.seq
    (.reg [.need (.n2 (.bin .neq) (.slot 8) (.lit (.int .i64 (-1)))),
      .need (.gif (.n2 (.bin .neq) (.slot 8) (.lit (.int .i64 (-1)))) false (.n1 (.faddr 0) (.slot 12))),
      .need (.gif (.n2 (.bin .neq) (.slot 8) (.lit (.int .i64 (-1)))) false (.n1 .ld (.n1 (.faddr 0) (.slot 12)))),
      .need (.gif (.n2 (.bin .neq) (.slot 8) (.lit (.int .i64 (-1)))) false (.n2 (.sbin .neq) (.slot 9) (.n1 .ld (.n1 (.faddr 0) (.slot 12))))),
      .need (.n3 .pick (.n2 (.bin .neq) (.slot 8) (.lit (.int .i64 (-1)))) (.lit (.bool true)) (.n2 (.sbin .neq) (.slot 9) (.n1 .ld (.n1 (.faddr 0) (.slot 12))))),
      .need (.gif (.n3 .pick (.n2 (.bin .neq) (.slot 8) (.lit (.int .i64 (-1)))) (.lit (.bool true)) (.n2 (.sbin .neq) (.slot 9) (.n1 .ld (.n1 (.faddr 0) (.slot 12))))) false (.n2 (.bin .geq) (.slot 11) (.lit (.int .i64 0)))),
      .need (.n3 .pick (.n3 .pick (.n2 (.bin .neq) (.slot 8) (.lit (.int .i64 (-1)))) (.lit (.bool true)) (.n2 (.sbin .neq) (.slot 9) (.n1 .ld (.n1 (.faddr 0) (.slot 12))))) (.lit (.bool true)) (.n2 (.bin .geq) (.slot 11) (.lit (.int .i64 0)))),
      .need (.gif (.n3 .pick (.n3 .pick (.n2 (.bin .neq) (.slot 8) (.lit (.int .i64 (-1)))) (.lit (.bool true)) (.n2 (.sbin .neq) (.slot 9) (.n1 .ld (.n1 (.faddr 0) (.slot 12))))) (.lit (.bool true)) (.n2 (.bin .geq) (.slot 11) (.lit (.int .i64 0)))) false (.n1 .lensl (.slot 10))),
      .need (.gif (.n3 .pick (.n3 .pick (.n2 (.bin .neq) (.slot 8) (.lit (.int .i64 (-1)))) (.lit (.bool true)) (.n2 (.sbin .neq) (.slot 9) (.n1 .ld (.n1 (.faddr 0) (.slot 12))))) (.lit (.bool true)) (.n2 (.bin .geq) (.slot 11) (.lit (.int .i64 0)))) false (.n2 (.bin .eql) (.n1 .lensl (.slot 10)) (.lit (.int .i64 0)))),
      .need (.n3 .pick (.n3 .pick (.n3 .pick (.n2 (.bin .neq) (.slot 8) (.lit (.int .i64 (-1)))) (.lit (.bool true)) (.n2 (.sbin .neq) (.slot 9) (.n1 .ld (.n1 (.faddr 0) (.slot 12))))) (.lit (.bool true)) (.n2 (.bin .geq) (.slot 11) (.lit (.int .i64 0)))) (.lit (.bool true)) (.n2 (.bin .eql) (.n1 .lensl (.slot 10)) (.lit (.int .i64 0)))),
      .asg 106 (.n3 .pick (.n3 .pick (.n3 .pick (.n2 (.bin .neq) (.slot 8) (.lit (.int .i64 (-1)))) (.lit (.bool true)) (.n2 (.sbin .neq) (.slot 9) (.n1 .ld (.n1 (.faddr 0) (.slot 12))))) (.lit (.bool true)) (.n2 (.bin .geq) (.slot 11) (.lit (.int .i64 0)))) (.lit (.bool true)) (.n2 (.bin .eql) (.n1 .lensl (.slot 10)) (.lit (.int .i64 0))))])
    (.cond (.slot 106)
      (.seq
      (.reg [.asg 2 (.lit (.bool false))])
      .ret)
      .skip))
    h4_7)
    .skip))
  h4_8))
def h4_5 : HC :=
  (.seq
  (.reg [.need (.n1 (.ldn 5) (.slot 6)),
    .eff (some 45) (.call { callee := .value (.func 16), args := #[.tmp 44], argTypes := #[34] }) 32 [(44, .n1 (.ldn 5) (.slot 6))] none [],
    .asg 10 (.slot 45)])
  (.seq
  (.reg [.eff (some 48) (.call { callee := .value (.func 17), args := #[.tmp 46, .tmp 47], argTypes := #[22, 3] }) 3 [(46, .slot 0), (47, .slot 5)] none [],
    .asg 11 (.slot 48)])
  (.seq
  (.seq
  (.reg [.need (.n2 (.iaddr 4) (.slot 4) (.slot 7)),
    .need (.n1 (.faddr 2) (.n2 (.iaddr 4) (.slot 4) (.slot 7))),
    .need (.n1 .ld (.n1 (.faddr 2) (.n2 (.iaddr 4) (.slot 4) (.slot 7)))),
    .need (.n2 (.bin .lss) (.n1 .ld (.n1 (.faddr 2) (.n2 (.iaddr 4) (.slot 4) (.slot 7)))) (.lit (.int .i64 0))),
    .asg 54 (.n2 (.bin .lss) (.n1 .ld (.n1 (.faddr 2) (.n2 (.iaddr 4) (.slot 4) (.slot 7)))) (.lit (.int .i64 0)))])
  (.cond (.slot 54)
    (.seq
    (.seq
    (.reg [.need (.n2 (.bin .neq) (.slot 8) (.lit (.int .i64 (-1)))),
      .need (.gif (.n2 (.bin .neq) (.slot 8) (.lit (.int .i64 (-1)))) false (.n2 (.sbin .neq) (.slot 9) (.lit (str [])))),
      .need (.n3 .pick (.n2 (.bin .neq) (.slot 8) (.lit (.int .i64 (-1)))) (.lit (.bool true)) (.n2 (.sbin .neq) (.slot 9) (.lit (str [])))),
      .need (.gif (.n3 .pick (.n2 (.bin .neq) (.slot 8) (.lit (.int .i64 (-1)))) (.lit (.bool true)) (.n2 (.sbin .neq) (.slot 9) (.lit (str [])))) false (.n2 (.bin .lss) (.slot 11) (.lit (.int .i64 0)))),
      .need (.gif (.gif (.n3 .pick (.n2 (.bin .neq) (.slot 8) (.lit (.int .i64 (-1)))) (.lit (.bool true)) (.n2 (.sbin .neq) (.slot 9) (.lit (str [])))) false (.n2 (.bin .lss) (.slot 11) (.lit (.int .i64 0)))) true (.n1 .lensl (.slot 10))),
      .need (.gif (.gif (.n3 .pick (.n2 (.bin .neq) (.slot 8) (.lit (.int .i64 (-1)))) (.lit (.bool true)) (.n2 (.sbin .neq) (.slot 9) (.lit (str [])))) false (.n2 (.bin .lss) (.slot 11) (.lit (.int .i64 0)))) true (.n2 (.bin .gtr) (.n1 .lensl (.slot 10)) (.lit (.int .i64 0)))),
      .need (.gif (.n3 .pick (.n2 (.bin .neq) (.slot 8) (.lit (.int .i64 (-1)))) (.lit (.bool true)) (.n2 (.sbin .neq) (.slot 9) (.lit (str [])))) false (.n3 .pick (.n2 (.bin .lss) (.slot 11) (.lit (.int .i64 0))) (.n2 (.bin .gtr) (.n1 .lensl (.slot 10)) (.lit (.int .i64 0))) (.lit (.bool false)))),
      .need (.n3 .pick (.n3 .pick (.n2 (.bin .neq) (.slot 8) (.lit (.int .i64 (-1)))) (.lit (.bool true)) (.n2 (.sbin .neq) (.slot 9) (.lit (str [])))) (.lit (.bool true)) (.n3 .pick (.n2 (.bin .lss) (.slot 11) (.lit (.int .i64 0))) (.n2 (.bin .gtr) (.n1 .lensl (.slot 10)) (.lit (.int .i64 0))) (.lit (.bool false)))),
      .need (.gif (.n3 .pick (.n3 .pick (.n2 (.bin .neq) (.slot 8) (.lit (.int .i64 (-1)))) (.lit (.bool true)) (.n2 (.sbin .neq) (.slot 9) (.lit (str [])))) (.lit (.bool true)) (.n3 .pick (.n2 (.bin .lss) (.slot 11) (.lit (.int .i64 0))) (.n2 (.bin .gtr) (.n1 .lensl (.slot 10)) (.lit (.int .i64 0))) (.lit (.bool false)))) false (.n2 (.bin .geq) (.slot 11) (.lit (.int .i64 0)))),
      .eff (some 76) (.call { callee := .value (.func 18), args := #[.tmp 74, .tmp 75], argTypes := #[22, 3] }) 4 [(74, .slot 0), (75, .slot 5)] (some (.gif (.n3 .pick (.n3 .pick (.n2 (.bin .neq) (.slot 8) (.lit (.int .i64 (-1)))) (.lit (.bool true)) (.n2 (.sbin .neq) (.slot 9) (.lit (str [])))) (.lit (.bool true)) (.n3 .pick (.n2 (.bin .lss) (.slot 11) (.lit (.int .i64 0))) (.n2 (.bin .gtr) (.n1 .lensl (.slot 10)) (.lit (.int .i64 0))) (.lit (.bool false)))) false (.n2 (.bin .geq) (.slot 11) (.lit (.int .i64 0))), true)) [],
      .need (.gif (.gif (.n3 .pick (.n3 .pick (.n2 (.bin .neq) (.slot 8) (.lit (.int .i64 (-1)))) (.lit (.bool true)) (.n2 (.sbin .neq) (.slot 9) (.lit (str [])))) (.lit (.bool true)) (.n3 .pick (.n2 (.bin .lss) (.slot 11) (.lit (.int .i64 0))) (.n2 (.bin .gtr) (.n1 .lensl (.slot 10)) (.lit (.int .i64 0))) (.lit (.bool false)))) false (.n2 (.bin .geq) (.slot 11) (.lit (.int .i64 0)))) true (.n1 .bnot (.slot 76))),
      .need (.gif (.n3 .pick (.n3 .pick (.n2 (.bin .neq) (.slot 8) (.lit (.int .i64 (-1)))) (.lit (.bool true)) (.n2 (.sbin .neq) (.slot 9) (.lit (str [])))) (.lit (.bool true)) (.n3 .pick (.n2 (.bin .lss) (.slot 11) (.lit (.int .i64 0))) (.n2 (.bin .gtr) (.n1 .lensl (.slot 10)) (.lit (.int .i64 0))) (.lit (.bool false)))) false (.n3 .pick (.n2 (.bin .geq) (.slot 11) (.lit (.int .i64 0))) (.n1 .bnot (.slot 76)) (.lit (.bool false)))),
      .need (.n3 .pick (.n3 .pick (.n3 .pick (.n2 (.bin .neq) (.slot 8) (.lit (.int .i64 (-1)))) (.lit (.bool true)) (.n2 (.sbin .neq) (.slot 9) (.lit (str [])))) (.lit (.bool true)) (.n3 .pick (.n2 (.bin .lss) (.slot 11) (.lit (.int .i64 0))) (.n2 (.bin .gtr) (.n1 .lensl (.slot 10)) (.lit (.int .i64 0))) (.lit (.bool false)))) (.lit (.bool true)) (.n3 .pick (.n2 (.bin .geq) (.slot 11) (.lit (.int .i64 0))) (.n1 .bnot (.slot 76)) (.lit (.bool false)))),
      .asg 79 (.n3 .pick (.n3 .pick (.n3 .pick (.n2 (.bin .neq) (.slot 8) (.lit (.int .i64 (-1)))) (.lit (.bool true)) (.n2 (.sbin .neq) (.slot 9) (.lit (str [])))) (.lit (.bool true)) (.n3 .pick (.n2 (.bin .lss) (.slot 11) (.lit (.int .i64 0))) (.n2 (.bin .gtr) (.n1 .lensl (.slot 10)) (.lit (.int .i64 0))) (.lit (.bool false)))) (.lit (.bool true)) (.n3 .pick (.n2 (.bin .geq) (.slot 11) (.lit (.int .i64 0))) (.n1 .bnot (.slot 76)) (.lit (.bool false))))])
    (.cond (.slot 79)
      (.seq
      (.reg [.asg 2 (.lit (.bool false))])
      .ret)
      .skip))
    (.exit 1))
    .skip))
  h4_6)))
def h4_4 : HC :=
  (.seq
  (.seq
  (.reg [.need (.n2 (.bin .lss) (.slot 7) (.lit (.int .i64 0))),
    .asg 43 (.n2 (.bin .lss) (.slot 7) (.lit (.int .i64 0)))])
  (.cond (.slot 43)
    (.seq
    (.reg [.asg 2 (.lit (.bool false))])
    .ret)
    .skip))
  h4_5)
def h4_13 : HC :=
  (.reg [.need (.n2 (.bin .add) (.slot 5) (.lit (.int .i64 1))),
    .asg 5 (.n2 (.bin .add) (.slot 5) (.lit (.int .i64 1)))])
def h4_3 : HC :=
  (.seq
  (.block 1
    (.seq
    (.reg [.need (.n2 (.iaddr 5) (.slot 0) (.slot 5)),
      .need (.n1 (.ldn 5) (.n2 (.iaddr 5) (.slot 0) (.slot 5))),
      .asg 31 (.n1 (.ldn 5) (.n2 (.iaddr 5) (.slot 0) (.slot 5))),
      .eff (some 6) (.alloc 34) 0 [] none [],
      .eff none (.store 34 (.tmp 6) (.tmp 31)) 0 [(6, .slot 6), (31, .slot 31)] none []])
    (.seq
    (.reg [.need (.n1 (.faddr 0) (.slot 6)),
      .need (.n1 .ld (.n1 (.faddr 0) (.slot 6))),
      .eff (some 35) (.call { callee := .value (.func 13), args := #[.tmp 32, .tmp 34], argTypes := #[25, 9] }) 3 [(32, .slot 4), (34, .n1 .ld (.n1 (.faddr 0) (.slot 6)))] none [],
      .asg 7 (.slot 35)])
    (.seq
    (.reg [.eff (some 39) (.call { callee := .value (.func 15), args := #[.tmp 37, .tmp 38], argTypes := #[22, 3] }) 35 [(37, .slot 0), (38, .slot 5)] none [],
      .need (.n1 (.ext 0) (.slot 39)),
      .need (.n1 (.ext 1) (.slot 39)),
      .asg 8 (.n1 (.ext 0) (.slot 39)),
      .asg 9 (.n1 (.ext 1) (.slot 39))])
    h4_4))))
  h4_13)
def h4_2 : HC :=
  (.seq
  (.seq
  (.reg [.need (.n1 .lensl (.slot 0)),
    .need (.n2 (.bin .lss) (.slot 5) (.n1 .lensl (.slot 0))),
    .asg 25 (.n2 (.bin .lss) (.slot 5) (.n1 .lensl (.slot 0)))])
  (.cond (.slot 25)
    .skip
    (.exit 0)))
  h4_3)
def h4_14 : HC :=
  (.seq
  (.reg [.asg 2 (.slot 3)])
  .ret)
def h4_1 : HC :=
  (.seq
  (.reg [.eff (some 21) (.call { callee := .value (.func 11), args := #[.tmp 20], argTypes := #[22] }) 25 [(20, .slot 0)] none [],
    .asg 4 (.slot 21)])
  (.seq
  (.seq
  (.reg [.asg 5 (.lit (.int .i64 0))])
  (.block 0
    (.loop
      h4_2)))
  h4_14))
def h4 : HC :=
  (.seq
  (.reg [.asg 2 (.lit (.bool false))])
  (.seq
  (.reg [.eff (some 15) (.call { callee := .value (.func 9), args := #[], argTypes := #[] }) 4 [] none [],
    .asg 3 (.slot 15)])
  (.seq
  (.seq
  (.reg [.eff (some 17) (.call { callee := .value (.func 10), args := #[.tmp 16], argTypes := #[22] }) 4 [(16, .slot 0)] none [],
    .need (.n1 .bnot (.slot 17)),
    .asg 18 (.n1 .bnot (.slot 17))])
  (.cond (.slot 18)
    (.seq
    (.reg [.asg 2 (.slot 3)])
    .ret)
    .skip))
  h4_1)))
theorem k4 : fnOK Try.prog 1569275435311739950414056912041505176877234957883539914749 [⟨22, [0, 0, 2, 6, 15, 31, 0, 64, 255], [(0, []), (1, []), (2, []), (3, []), (4, []), (5, []), (6, []), (7, []), (8, [])], none⟩] [.tmp 2] 1 Try.f4 = some h4 := by kernel_rfl
theorem c4 : callable Try.prog 4 = true := by kernel_rfl
theorem q4 {args : List Value} (ha : args.length = 1) {w : World} {next : Value → World → Prop} {QP : List PanicEntry → World → Prop} (H : hw Try.prog noPanic h4 (endV [.tmp 2] next) (σ0 args) w) : callK Try.prog 4 args w next QP := fn_rule Try.func4 mixed k4 ha H
theorem r4 {args : List Value} (ha : args.length = 1) {w : World} {next : Value → World → Prop} {QP : List PanicEntry → World → Prop} (H : hw Try.prog noPanic h4 (endV [.tmp 2] next) (σ0 args) w) : callvK Try.prog (.func (.func 4) #[] #[]) args w next QP := callf c4 (q4 ha H)

/- missive/missivelaw21.ThreadAdds -/
def t5_2 : HT :=
  (.run [.eff (some 20) (.call { callee := .builtin .append, args := #[.tmp 18, .tmp 19], argTypes := #[22, 22] }) 22 [(18, .slot 18), (19, .slot 0)] none [⟨none, (.ldn 5), .slot 3⟩],
    .eff (some 22) (.buildSlice 22 1 #[(0, .tmp 21)]) 22 [(21, .slot 21)] none [],
    .eff (some 23) (.call { callee := .builtin .append, args := #[.tmp 20, .tmp 22], argTypes := #[22, 22] }) 22 [(20, .slot 20), (22, .slot 22)] none [],
    .asg 6 (.slot 23)]
  .fin)
def t5_3 : HT :=
  (.run [.eff (some 22) (.buildSlice 22 1 #[(0, .tmp 21)]) 22 [(21, .slot 21)] none [⟨none, (.ldn 5), .slot 3⟩],
    .eff (some 20) (.call { callee := .builtin .append, args := #[.tmp 18, .tmp 19], argTypes := #[22, 22] }) 22 [(18, .slot 18), (19, .slot 0)] none [⟨none, (.ldn 5), .slot 3⟩],
    .eff (some 23) (.call { callee := .builtin .append, args := #[.tmp 20, .tmp 22], argTypes := #[22, 22] }) 22 [(20, .slot 20), (22, .slot 22)] none [],
    .asg 6 (.slot 23)]
  .fin)
def t5_1 : HT :=
  (.run [.eff (some 18) (.buildSlice 22 0 #[]) 22 [] none [⟨none, (.ldn 5), .slot 3⟩]]
  (.fork
    t5_2
    t5_3))
def t5_4 : HT :=
  (.run [.eff (some 22) (.buildSlice 22 1 #[(0, .tmp 21)]) 22 [(21, .slot 21)] none [⟨none, (.ldn 5), .slot 3⟩],
    .eff (some 18) (.buildSlice 22 0 #[]) 22 [] none [⟨none, (.ldn 5), .slot 3⟩],
    .eff (some 20) (.call { callee := .builtin .append, args := #[.tmp 18, .tmp 19], argTypes := #[22, 22] }) 22 [(18, .slot 18), (19, .slot 0)] none [⟨none, (.ldn 5), .slot 3⟩],
    .eff (some 23) (.call { callee := .builtin .append, args := #[.tmp 20, .tmp 22], argTypes := #[22, 22] }) 22 [(20, .slot 20), (22, .slot 22)] none [],
    .asg 6 (.slot 23)]
  .fin)
def l5_6 : List HS :=
  .need (.n3 .pick (.n3 .pick (.n1 .bnot (.slot 25)) (.lit (.bool true)) (.slot 29)) (.lit (.bool true)) (.slot 33)) ::
  .asg 34 (.n3 .pick (.n3 .pick (.n1 .bnot (.slot 25)) (.lit (.bool true)) (.slot 29)) (.lit (.bool true)) (.slot 33)) ::
  []
def l5_7 : List HS :=
  .need (.n3 .pick (.n1 .bnot (.slot 25)) (.lit (.bool true)) (.slot 29)) ::
  .eff (some 33) (.call { callee := .value (.func 20), args := #[.tmp 32], argTypes := #[22] }) 4 [(32, .slot 6)] (some (.n3 .pick (.n1 .bnot (.slot 25)) (.lit (.bool true)) (.slot 29), false)) [] ::
  l5_6
def h5_14 : HC :=
  (.reg [.need (.n2 (.bin .add) (.slot 15) (.lit (.int .i64 1))),
    .asg 15 (.n2 (.bin .add) (.slot 15) (.lit (.int .i64 1)))])
def h5_13 : HC :=
  (.seq
  (.block 3
    (.draw [.need (.gif (.slot 13) false (.n2 (.iaddr 1) (.slot 14) (.slot 15))),
      .need (.gif (.slot 13) false (.n1 .ld (.n2 (.iaddr 1) (.slot 14) (.slot 15)))),
      .need (.gif (.slot 13) false (.n1 (.faddr 0) (.slot 3))),
      .need (.gif (.slot 13) false (.n1 .ld (.n1 (.faddr 0) (.slot 3)))),
      .need (.gif (.slot 13) false (.n2 (.sbin .eql) (.n1 .ld (.n2 (.iaddr 1) (.slot 14) (.slot 15))) (.n1 .ld (.n1 (.faddr 0) (.slot 3))))),
      .need (.n3 .pick (.slot 13) (.lit (.bool true)) (.n2 (.sbin .eql) (.n1 .ld (.n2 (.iaddr 1) (.slot 14) (.slot 15))) (.n1 .ld (.n1 (.faddr 0) (.slot 3))))),
      .asg 13 (.n3 .pick (.slot 13) (.lit (.bool true)) (.n2 (.sbin .eql) (.n1 .ld (.n2 (.iaddr 1) (.slot 14) (.slot 15))) (.n1 .ld (.n1 (.faddr 0) (.slot 3)))))]))
  h5_14)
def h5_12 : HC :=
  (.seq
  (.seq
  (.reg [.need (.n1 .lensl (.slot 14)),
    .need (.n2 (.bin .lss) (.slot 15) (.n1 .lensl (.slot 14))),
    .asg 63 (.n2 (.bin .lss) (.slot 15) (.n1 .lensl (.slot 14)))])
  (.cond (.slot 63)
    .skip
    (.exit 2)))
  h5_13)
def h5_15 : HC :=
  (.seq
  (.reg [.need (.n1 .lensl (.slot 14)),
    .need (.n2 (.bin .eql) (.n1 .lensl (.slot 14)) (.lit (.int .i64 0))),
    .need (.gif (.n2 (.bin .eql) (.n1 .lensl (.slot 14)) (.lit (.int .i64 0))) true (.n1 (.faddr 4) (.slot 8))),
    .need (.gif (.n2 (.bin .eql) (.n1 .lensl (.slot 14)) (.lit (.int .i64 0))) true (.n1 .ld (.n1 (.faddr 4) (.slot 8)))),
    .need (.n3 .pick (.n2 (.bin .eql) (.n1 .lensl (.slot 14)) (.lit (.int .i64 0))) (.n1 .ld (.n1 (.faddr 4) (.slot 8))) (.lit (.bool false))),
    .asg 83 (.n3 .pick (.n2 (.bin .eql) (.n1 .lensl (.slot 14)) (.lit (.int .i64 0))) (.n1 .ld (.n1 (.faddr 4) (.slot 8))) (.lit (.bool false))),
    .need (.gif (.slot 83) true (.n1 (.faddr 3) (.slot 8))),
    .need (.gif (.slot 83) true (.n1 .ld (.n1 (.faddr 3) (.slot 8)))),
    .need (.gif (.slot 83) true (.n1 (.faddr 3) (.slot 3))),
    .need (.gif (.slot 83) true (.n1 .ld (.n1 (.faddr 3) (.slot 3)))),
    .eff (some 88) (.call { callee := .value (.func 19), args := #[.tmp 85, .tmp 87], argTypes := #[9, 9] }) 4 [(85, .n1 .ld (.n1 (.faddr 3) (.slot 8))), (87, .n1 .ld (.n1 (.faddr 3) (.slot 3)))] (some (.slot 83, true)) [],
    .need (.n3 .pick (.slot 83) (.slot 88) (.lit (.bool false))),
    .need (.gif (.n3 .pick (.slot 83) (.slot 88) (.lit (.bool false))) true (.n1 (.faddr 4) (.slot 3))),
    .need (.gif (.n3 .pick (.slot 83) (.slot 88) (.lit (.bool false))) true (.n1 .ld (.n1 (.faddr 4) (.slot 3)))),
    .need (.gif (.n3 .pick (.slot 83) (.slot 88) (.lit (.bool false))) true (.n1 .bnot (.n1 .ld (.n1 (.faddr 4) (.slot 3))))),
    .need (.n3 .pick (.n3 .pick (.slot 83) (.slot 88) (.lit (.bool false))) (.n1 .bnot (.n1 .ld (.n1 (.faddr 4) (.slot 3)))) (.lit (.bool false))),
    .asg 16 (.n3 .pick (.n3 .pick (.slot 83) (.slot 88) (.lit (.bool false))) (.n1 .bnot (.n1 .ld (.n1 (.faddr 4) (.slot 3)))) (.lit (.bool false)))])
  (.seq
  (.reg [.need (.n2 (.bin .neq) (.slot 9) (.slot 11)),
    .need (.gif (.n2 (.bin .neq) (.slot 9) (.slot 11)) false (.n2 (.sbin .neq) (.slot 10) (.slot 12))),
    .need (.n3 .pick (.n2 (.bin .neq) (.slot 9) (.slot 11)) (.lit (.bool true)) (.n2 (.sbin .neq) (.slot 10) (.slot 12))),
    .need (.gif (.n3 .pick (.n2 (.bin .neq) (.slot 9) (.slot 11)) (.lit (.bool true)) (.n2 (.sbin .neq) (.slot 10) (.slot 12))) true (.n1 .bnot (.slot 13))),
    .need (.n3 .pick (.n3 .pick (.n2 (.bin .neq) (.slot 9) (.slot 11)) (.lit (.bool true)) (.n2 (.sbin .neq) (.slot 10) (.slot 12))) (.n1 .bnot (.slot 13)) (.lit (.bool false))),
    .need (.gif (.n3 .pick (.n3 .pick (.n2 (.bin .neq) (.slot 9) (.slot 11)) (.lit (.bool true)) (.n2 (.sbin .neq) (.slot 10) (.slot 12))) (.n1 .bnot (.slot 13)) (.lit (.bool false))) true (.n1 .bnot (.slot 16))),
    .need (.n3 .pick (.n3 .pick (.n3 .pick (.n2 (.bin .neq) (.slot 9) (.slot 11)) (.lit (.bool true)) (.n2 (.sbin .neq) (.slot 10) (.slot 12))) (.n1 .bnot (.slot 13)) (.lit (.bool false))) (.n1 .bnot (.slot 16)) (.lit (.bool false))),
    .asg 110 (.n3 .pick (.n3 .pick (.n3 .pick (.n2 (.bin .neq) (.slot 9) (.slot 11)) (.lit (.bool true)) (.n2 (.sbin .neq) (.slot 10) (.slot 12))) (.n1 .bnot (.slot 13)) (.lit (.bool false))) (.n1 .bnot (.slot 16)) (.lit (.bool false)))])
  (.cond (.slot 110)
    (.seq
    (.reg [.asg 4 (.lit (.bool false))])
    .ret)
    .skip)))
def h5_11 : HC :=
  (.seq
  (.reg [.asg 13 (.lit (.bool false))])
  (.seq
  (.reg [.need (.n1 (.ldn 5) (.slot 8)),
    .eff (some 59) (.call { callee := .value (.func 16), args := #[.tmp 58], argTypes := #[34] }) 32 [(58, .n1 (.ldn 5) (.slot 8))] none [],
    .asg 14 (.slot 59)])
  (.seq
  (.seq
  (.reg [.asg 15 (.lit (.int .i64 0))])
  (.block 2
    (.loop
      h5_12)))
  h5_15)))
def h5_16 : HC :=
  (.reg [.need (.n2 (.bin .add) (.slot 7) (.lit (.int .i64 1))),
    .asg 7 (.n2 (.bin .add) (.slot 7) (.lit (.int .i64 1)))])
def h5_10 : HC :=
  (.seq
  (.block 1
    (.seq
    (.reg [.need (.n2 (.iaddr 5) (.slot 0) (.slot 7)),
      .need (.n1 (.ldn 5) (.n2 (.iaddr 5) (.slot 0) (.slot 7))),
      .asg 45 (.n1 (.ldn 5) (.n2 (.iaddr 5) (.slot 0) (.slot 7))),
      .eff (some 8) (.alloc 34) 0 [] none [],
      .eff none (.store 34 (.tmp 8) (.tmp 45)) 0 [(8, .slot 8), (45, .slot 45)] none []])
    (.seq
    (.reg [.eff (some 49) (.call { callee := .value (.func 15), args := #[.tmp 47, .tmp 48], argTypes := #[22, 3] }) 35 [(47, .slot 0), (48, .slot 7)] none [],
      .need (.n1 (.ext 0) (.slot 49)),
      .need (.n1 (.ext 1) (.slot 49)),
      .asg 9 (.n1 (.ext 0) (.slot 49)),
      .asg 10 (.n1 (.ext 1) (.slot 49))])
    (.seq
    (.reg [.eff (some 55) (.call { callee := .value (.func 15), args := #[.tmp 53, .tmp 54], argTypes := #[22, 3] }) 35 [(53, .slot 6), (54, .slot 7)] none [],
      .need (.n1 (.ext 0) (.slot 55)),
      .need (.n1 (.ext 1) (.slot 55)),
      .asg 11 (.n1 (.ext 0) (.slot 55)),
      .asg 12 (.n1 (.ext 1) (.slot 55))])
    h5_11))))
  h5_16)
def h5_9 : HC :=
  (.seq
  (.seq
  (.reg [.need (.n1 .lensl (.slot 0)),
    .need (.n2 (.bin .lss) (.slot 7) (.n1 .lensl (.slot 0))),
    .asg 39 (.n2 (.bin .lss) (.slot 7) (.n1 .lensl (.slot 0)))])
  (.cond (.slot 39)
    .skip
    (.exit 0)))
  h5_10)
def h5_17 : HC :=
  (.seq
  (.reg [.asg 4 (.slot 5)])
  .ret)
def h5_8 : HC :=
  (.seq
  (.seq
  (.reg [.asg 7 (.lit (.int .i64 0))])
  (.block 0
    (.loop
      h5_9)))
  h5_17)
def h5_5 : HC :=
  (.seq
  (.seq
  (.reg (.eff (some 25) (.call { callee := .value (.func 10), args := #[.tmp 24], argTypes := #[22] }) 4 [(24, .slot 6)] none [] ::
    .need (.n1 .bnot (.slot 25)) ::
    .eff (some 29) (.call { callee := .value (.func 20), args := #[.tmp 28], argTypes := #[22] }) 4 [(28, .slot 0)] (some (.n1 .bnot (.slot 25), false)) [] ::
    l5_7))
  (.cond (.slot 34)
    (.seq
    (.reg [.asg 4 (.slot 5)])
    .ret)
    .skip))
  h5_8)
def h5 : HC :=
  (.seq
  (.reg [.eff (some 3) (.box 34 (.tmp 1)) 0 [(1, .slot 1)] none [],
    .asg 4 (.lit (.bool false))])
  (.seq
  (.reg [.eff (some 17) (.call { callee := .value (.func 9), args := #[], argTypes := #[] }) 4 [] none [],
    .asg 5 (.slot 17)])
  (.seq
  (.drawT
    (.run [.need (.n1 (.ldn 5) (.slot 3)),
      .asg 21 (.n1 (.ldn 5) (.slot 3))]
    (.fork
      t5_1
      t5_4)))
  h5_5)))
theorem k5 : fnOK Try.prog 1298074533790133121855022819704827 [⟨2, [0, 0, 3, 0, 8, 31, 63], [], (some (.op 1 [] (.op 3 [] (.fork (.op 0 [3] (.fork (.op 2 [3] (.op 4 [] (.op 5 [] (.op 6 [] .nil)))) (.op 4 [3] (.op 2 [3] (.op 5 [] (.op 6 [] .nil)))))) (.op 4 [3] (.op 0 [3] (.op 2 [3] (.op 5 [] (.op 6 [] .nil)))))))))⟩, ⟨16, [0, 1, 3, 3, 15, 31, 3, 67, 255, 511, 1023], [(0, []), (1, []), (2, []), (3, []), (4, []), (5, []), (6, []), (7, []), (8, []), (9, []), (10, [])], none⟩] [.tmp 4] 2 Try.f5 = some h5 := by kernel_rfl
theorem c5 : callable Try.prog 5 = true := by kernel_rfl
theorem q5 {args : List Value} (ha : args.length = 2) {w : World} {next : Value → World → Prop} {QP : List PanicEntry → World → Prop} (H : hw Try.prog noPanic h5 (endV [.tmp 4] next) (σ0 args) w) : callK Try.prog 5 args w next QP := fn_rule Try.func5 mixed k5 ha H
theorem r5 {args : List Value} (ha : args.length = 2) {w : World} {next : Value → World → Prop} {QP : List PanicEntry → World → Prop} (H : hw Try.prog noPanic h5 (endV [.tmp 4] next) (σ0 args) w) : callvK Try.prog (.func (.func 5) #[] #[]) args w next QP := callf c5 (q5 ha H)

/- missive/missivelaw21.ThreadShuffles -/
def h6_4 : HC :=
  (.reg [.need (.n2 (.bin .sub) (.slot 11) (.lit (.int .i64 1))),
    .asg 11 (.n2 (.bin .sub) (.slot 11) (.lit (.int .i64 1)))])
def h6_3 : HC :=
  (.seq
  (.block 1
    (.reg [.need (.n2 (.iaddr 5) (.slot 9) (.slot 11)),
      .need (.n1 (.ldn 5) (.n2 (.iaddr 5) (.slot 9) (.slot 11))),
      .eff (some 49) (.buildSlice 22 1 #[(0, .tmp 48)]) 22 [(48, .n1 (.ldn 5) (.n2 (.iaddr 5) (.slot 9) (.slot 11)))] none [],
      .eff (some 50) (.call { callee := .builtin .append, args := #[.tmp 44, .tmp 49], argTypes := #[22, 22] }) 22 [(44, .slot 10), (49, .slot 49)] none [],
      .asg 10 (.slot 50)]))
  h6_4)
def h6_2 : HC :=
  (.seq
  (.seq
  (.reg [.need (.n2 (.bin .geq) (.slot 11) (.lit (.int .i64 0))),
    .asg 41 (.n2 (.bin .geq) (.slot 11) (.lit (.int .i64 0)))])
  (.cond (.slot 41)
    .skip
    (.exit 0)))
  h6_3)
def l6_6 : List HS :=
  .need (.gif (.n3 .pick (.n3 .pick (.slot 7) (.slot 58) (.lit (.bool false))) (.slot 64) (.lit (.bool false))) true (.n2 (.sbin .eql) (.slot 69) (.slot 72))) ::
  .need (.n3 .pick (.n3 .pick (.n3 .pick (.slot 7) (.slot 58) (.lit (.bool false))) (.slot 64) (.lit (.bool false))) (.n2 (.sbin .eql) (.slot 69) (.slot 72)) (.lit (.bool false))) ::
  .asg 6 (.n3 .pick (.n3 .pick (.n3 .pick (.slot 7) (.slot 58) (.lit (.bool false))) (.slot 64) (.lit (.bool false))) (.n2 (.sbin .eql) (.slot 69) (.slot 72)) (.lit (.bool false))) ::
  []
def l6_7 : List HS :=
  .eff (some 72) (.call { callee := .value (.func 22), args := #[.tmp 70, .tmp 71], argTypes := #[22, 9] }) 9 [(70, .slot 0), (71, .slot 2)] (some (.n3 .pick (.n3 .pick (.slot 7) (.slot 58) (.lit (.bool false))) (.slot 64) (.lit (.bool false)), true)) [] ::
  l6_6
def l6_8 : List HS :=
  .need (.n3 .pick (.n3 .pick (.slot 7) (.slot 58) (.lit (.bool false))) (.slot 64) (.lit (.bool false))) ::
  .eff (some 69) (.call { callee := .value (.func 22), args := #[.tmp 67, .tmp 68], argTypes := #[22, 9] }) 9 [(67, .slot 10), (68, .slot 2)] (some (.n3 .pick (.n3 .pick (.slot 7) (.slot 58) (.lit (.bool false))) (.slot 64) (.lit (.bool false)), true)) [] ::
  l6_7
def l6_9 : List HS :=
  .eff (some 64) (.call { callee := .value (.func 21), args := #[.tmp 62, .tmp 63], argTypes := #[25, 25] }) 4 [(62, .slot 62), (63, .slot 12)] (some (.n3 .pick (.slot 7) (.slot 58) (.lit (.bool false)), true)) [] ::
  l6_8
def l6_10 : List HS :=
  .need (.n3 .pick (.slot 7) (.slot 58) (.lit (.bool false))) ::
  .eff (some 62) (.call { callee := .value (.func 11), args := #[.tmp 61], argTypes := #[22] }) 25 [(61, .slot 10)] (some (.n3 .pick (.slot 7) (.slot 58) (.lit (.bool false)), true)) [] ::
  l6_9
def l6_11 : List HS :=
  .eff (some 58) (.call { callee := .value (.func 21), args := #[.tmp 56, .tmp 57], argTypes := #[25, 25] }) 4 [(56, .slot 56), (57, .slot 12)] (some (.slot 7, true)) [] ::
  l6_10
def h6_5 : HC :=
  (.seq
  (.reg [.eff (some 52) (.call { callee := .value (.func 11), args := #[.tmp 51], argTypes := #[22] }) 25 [(51, .slot 0)] none [],
    .asg 12 (.slot 52)])
  (.seq
  (.reg (.eff (some 56) (.call { callee := .value (.func 11), args := #[.tmp 55], argTypes := #[22] }) 25 [(55, .slot 9)] (some (.slot 7, true)) [] ::
    l6_11))
  .ret))
def h6_1 : HC :=
  (.seq
  (.reg [.need (.n2 (.bin .and) (.slot 1) (.lit (.int .i64 1048575))),
    .need (.n1 .lensl (.slot 0)),
    .need (.n2 (.bin .rem) (.n2 (.bin .and) (.slot 1) (.lit (.int .i64 1048575))) (.n1 .lensl (.slot 0))),
    .asg 8 (.n2 (.bin .rem) (.n2 (.bin .and) (.slot 1) (.lit (.int .i64 1048575))) (.n1 .lensl (.slot 0)))])
  (.seq
  (.draw [.need (.n3 (.slv 5 true false) (.slot 0) (.slot 8) (.lit (.tuple #[]))),
    .need (.n3 (.slv 5 false true) (.slot 0) (.lit (.tuple #[])) (.slot 8)),
    .eff (some 28) (.buildSlice 22 0 #[]) 22 [] none [],
    .eff (some 32) (.call { callee := .builtin .append, args := #[.tmp 28, .tmp 31], argTypes := #[22, 22] }) 22 [(28, .slot 28), (31, .n3 (.slv 5 true false) (.slot 0) (.slot 8) (.lit (.tuple #[])))] none [],
    .eff (some 36) (.call { callee := .builtin .append, args := #[.tmp 32, .tmp 35], argTypes := #[22, 22] }) 22 [(32, .slot 32), (35, .n3 (.slv 5 false true) (.slot 0) (.lit (.tuple #[])) (.slot 8))] none [],
    .asg 9 (.slot 36)])
  (.seq
  (.reg [.asg 10 (.lit (.slice none 0 0))])
  (.seq
  (.seq
  (.reg [.need (.n1 .lensl (.slot 9)),
    .need (.n2 (.bin .sub) (.n1 .lensl (.slot 9)) (.lit (.int .i64 1))),
    .asg 11 (.n2 (.bin .sub) (.n1 .lensl (.slot 9)) (.lit (.int .i64 1)))])
  (.block 0
    (.loop
      h6_2)))
  h6_5))))
def h6 : HC :=
  (.seq
  (.reg [.asg 6 (.lit (.bool false))])
  (.seq
  (.reg [.eff (some 13) (.call { callee := .value (.func 9), args := #[], argTypes := #[] }) 4 [] none [],
    .asg 7 (.slot 13)])
  (.seq
  (.seq
  (.reg [.eff (some 15) (.call { callee := .value (.func 10), args := #[.tmp 14], argTypes := #[22] }) 4 [(14, .slot 0)] none [],
    .need (.n1 .bnot (.slot 15)),
    .need (.gif (.n1 .bnot (.slot 15)) false (.n1 .lensl (.slot 0))),
    .need (.gif (.n1 .bnot (.slot 15)) false (.n2 (.bin .eql) (.n1 .lensl (.slot 0)) (.lit (.int .i64 0)))),
    .need (.n3 .pick (.n1 .bnot (.slot 15)) (.lit (.bool true)) (.n2 (.bin .eql) (.n1 .lensl (.slot 0)) (.lit (.int .i64 0)))),
    .asg 21 (.n3 .pick (.n1 .bnot (.slot 15)) (.lit (.bool true)) (.n2 (.bin .eql) (.n1 .lensl (.slot 0)) (.lit (.int .i64 0))))])
  (.cond (.slot 21)
    (.seq
    (.reg [.asg 6 (.slot 7)])
    .ret)
    .skip))
  h6_1)))
theorem k6 : fnOK Try.prog 5336087206012473360327 [⟨5, [0, 0, 0, 6, 15, 0, 0, 96, 255, 511], [(1, []), (2, []), (3, []), (5, []), (6, []), (7, []), (0, []), (4, []), (8, []), (9, [])], none⟩] [.tmp 6] 3 Try.f6 = some h6 := by kernel_rfl
theorem c6 : callable Try.prog 6 = true := by kernel_rfl
theorem q6 {args : List Value} (ha : args.length = 3) {w : World} {next : Value → World → Prop} {QP : List PanicEntry → World → Prop} (H : hw Try.prog noPanic h6 (endV [.tmp 6] next) (σ0 args) w) : callK Try.prog 6 args w next QP := fn_rule Try.func6 mixed k6 ha H
theorem r6 {args : List Value} (ha : args.length = 3) {w : World} {next : Value → World → Prop} {QP : List PanicEntry → World → Prop} (H : hw Try.prog noPanic h6 (endV [.tmp 6] next) (σ0 args) w) : callvK Try.prog (.func (.func 6) #[] #[]) args w next QP := callf c6 (q6 ha H)

/- missive/missivelaw21.ThreadRoots -/
def h7_5 : HC :=
  (.block 3
    (.reg [.need (.n2 (.iaddr 4) (.slot 6) (.slot 8)),
      .need (.n1 (.faddr 2) (.n2 (.iaddr 4) (.slot 6) (.slot 8))),
      .need (.n1 .ld (.n1 (.faddr 2) (.n2 (.iaddr 4) (.slot 6) (.slot 8)))),
      .asg 8 (.n1 .ld (.n1 (.faddr 2) (.n2 (.iaddr 4) (.slot 6) (.slot 8))))]))
def h7_4 : HC :=
  (.seq
  (.seq
  (.reg [.need (.n2 (.iaddr 4) (.slot 6) (.slot 8)),
    .need (.n1 (.faddr 2) (.n2 (.iaddr 4) (.slot 6) (.slot 8))),
    .need (.n1 .ld (.n1 (.faddr 2) (.n2 (.iaddr 4) (.slot 6) (.slot 8)))),
    .need (.n2 (.bin .geq) (.n1 .ld (.n1 (.faddr 2) (.n2 (.iaddr 4) (.slot 6) (.slot 8)))) (.lit (.int .i64 0))),
    .need (.gif (.n2 (.bin .geq) (.n1 .ld (.n1 (.faddr 2) (.n2 (.iaddr 4) (.slot 6) (.slot 8)))) (.lit (.int .i64 0))) true (.n2 (.iaddr 4) (.slot 6) (.slot 8))),
    .need (.gif (.n2 (.bin .geq) (.n1 .ld (.n1 (.faddr 2) (.n2 (.iaddr 4) (.slot 6) (.slot 8)))) (.lit (.int .i64 0))) true (.n1 (.faddr 2) (.n2 (.iaddr 4) (.slot 6) (.slot 8)))),
    .need (.gif (.n2 (.bin .geq) (.n1 .ld (.n1 (.faddr 2) (.n2 (.iaddr 4) (.slot 6) (.slot 8)))) (.lit (.int .i64 0))) true (.n1 .ld (.n1 (.faddr 2) (.n2 (.iaddr 4) (.slot 6) (.slot 8))))),
    .need (.gif (.n2 (.bin .geq) (.n1 .ld (.n1 (.faddr 2) (.n2 (.iaddr 4) (.slot 6) (.slot 8)))) (.lit (.int .i64 0))) true (.n2 (.bin .lss) (.n1 .ld (.n1 (.faddr 2) (.n2 (.iaddr 4) (.slot 6) (.slot 8)))) (.slot 8))),
    .need (.n3 .pick (.n2 (.bin .geq) (.n1 .ld (.n1 (.faddr 2) (.n2 (.iaddr 4) (.slot 6) (.slot 8)))) (.lit (.int .i64 0))) (.n2 (.bin .lss) (.n1 .ld (.n1 (.faddr 2) (.n2 (.iaddr 4) (.slot 6) (.slot 8)))) (.slot 8)) (.lit (.bool false))),
    .asg 37 (.n3 .pick (.n2 (.bin .geq) (.n1 .ld (.n1 (.faddr 2) (.n2 (.iaddr 4) (.slot 6) (.slot 8)))) (.lit (.int .i64 0))) (.n2 (.bin .lss) (.n1 .ld (.n1 (.faddr 2) (.n2 (.iaddr 4) (.slot 6) (.slot 8)))) (.slot 8)) (.lit (.bool false)))])
  (.cond (.slot 37)
    .skip
    (.exit 2)))
  h7_5)
def h7_6 : HC :=
  (.seq
  (.draw [.need (.n2 (.iaddr 4) (.slot 6) (.slot 7)),
    .need (.n1 (.faddr 0) (.n2 (.iaddr 4) (.slot 6) (.slot 7))),
    .need (.n1 .ld (.n1 (.faddr 0) (.n2 (.iaddr 4) (.slot 6) (.slot 7)))),
    .need (.n2 (.iaddr 4) (.slot 6) (.slot 8)),
    .need (.n1 (.faddr 0) (.n2 (.iaddr 4) (.slot 6) (.slot 8))),
    .need (.n1 .ld (.n1 (.faddr 0) (.n2 (.iaddr 4) (.slot 6) (.slot 8)))),
    .asg 54 (.n1 .ld (.n1 (.faddr 0) (.n2 (.iaddr 4) (.slot 6) (.slot 8)))),
    .eff (some 49) (.call { callee := .value (.func 22), args := #[.tmp 43, .tmp 48], argTypes := #[22, 9] }) 9 [(43, .slot 0), (48, .n1 .ld (.n1 (.faddr 0) (.n2 (.iaddr 4) (.slot 6) (.slot 7))))] none [⟨none, .ld, .n1 (.faddr 0) (.n2 (.iaddr 4) (.slot 6) (.slot 8))⟩],
    .need (.n2 (.sbin .neq) (.slot 49) (.slot 54)),
    .asg 55 (.n2 (.sbin .neq) (.slot 49) (.slot 54))])
  (.cond (.slot 55)
    (.seq
    (.reg [.asg 4 (.lit (.bool false))])
    .ret)
    .skip))
def h7_7 : HC :=
  (.reg [.need (.n2 (.bin .add) (.slot 7) (.lit (.int .i64 1))),
    .asg 7 (.n2 (.bin .add) (.slot 7) (.lit (.int .i64 1)))])
def h7_3 : HC :=
  (.seq
  (.block 1
    (.seq
    (.reg [.asg 8 (.slot 7)])
    (.seq
    (.block 2
      (.loop
        h7_4))
    h7_6)))
  h7_7)
def h7_2 : HC :=
  (.seq
  (.seq
  (.reg [.need (.n1 .lensl (.slot 6)),
    .need (.n2 (.bin .lss) (.slot 7) (.n1 .lensl (.slot 6))),
    .asg 19 (.n2 (.bin .lss) (.slot 7) (.n1 .lensl (.slot 6)))])
  (.cond (.slot 19)
    .skip
    (.exit 0)))
  h7_3)
def l7_9 : List HS :=
  .need (.gif (.gif (.slot 5) true (.n2 (.bin .geq) (.slot 60) (.lit (.int .i64 0)))) false (.n2 (.sbin .eql) (.slot 65) (.lit (str [])))) ::
  .need (.gif (.slot 5) true (.n3 .pick (.n2 (.bin .geq) (.slot 60) (.lit (.int .i64 0))) (.lit (.bool true)) (.n2 (.sbin .eql) (.slot 65) (.lit (str []))))) ::
  .need (.n3 .pick (.slot 5) (.n3 .pick (.n2 (.bin .geq) (.slot 60) (.lit (.int .i64 0))) (.lit (.bool true)) (.n2 (.sbin .eql) (.slot 65) (.lit (str [])))) (.lit (.bool false))) ::
  .asg 4 (.n3 .pick (.slot 5) (.n3 .pick (.n2 (.bin .geq) (.slot 60) (.lit (.int .i64 0))) (.lit (.bool true)) (.n2 (.sbin .eql) (.slot 65) (.lit (str [])))) (.lit (.bool false))) ::
  []
def l7_10 : List HS :=
  .need (.gif (.slot 5) true (.n2 (.bin .geq) (.slot 60) (.lit (.int .i64 0)))) ::
  .eff (some 65) (.call { callee := .value (.func 22), args := #[.tmp 63, .tmp 64], argTypes := #[22, 9] }) 9 [(63, .slot 0), (64, .slot 1)] (some (.gif (.slot 5) true (.n2 (.bin .geq) (.slot 60) (.lit (.int .i64 0))), false)) [] ::
  l7_9
def h7_8 : HC :=
  (.seq
  (.reg (.eff (some 60) (.call { callee := .value (.func 13), args := #[.tmp 58, .tmp 59], argTypes := #[25, 9] }) 3 [(58, .slot 6), (59, .slot 1)] (some (.slot 5, true)) [] ::
    l7_10))
  .ret)
def h7_1 : HC :=
  (.seq
  (.reg [.eff (some 15) (.call { callee := .value (.func 11), args := #[.tmp 14], argTypes := #[22] }) 25 [(14, .slot 0)] none [],
    .asg 6 (.slot 15)])
  (.seq
  (.seq
  (.reg [.asg 7 (.lit (.int .i64 0))])
  (.block 0
    (.loop
      h7_2)))
  h7_8))
def h7 : HC :=
  (.seq
  (.reg [.asg 4 (.lit (.bool false))])
  (.seq
  (.reg [.eff (some 9) (.call { callee := .value (.func 9), args := #[], argTypes := #[] }) 4 [] none [],
    .asg 5 (.slot 9)])
  (.seq
  (.seq
  (.reg [.eff (some 11) (.call { callee := .value (.func 10), args := #[.tmp 10], argTypes := #[22] }) 4 [(10, .slot 0)] none [],
    .need (.n1 .bnot (.slot 11)),
    .asg 12 (.n1 .bnot (.slot 11))])
  (.cond (.slot 12)
    (.seq
    (.reg [.asg 4 (.slot 5)])
    .ret)
    .skip))
  h7_1)))
theorem k7 : fnOK Try.prog 38101015934947335155 [⟨11, [0, 0, 0, 6, 14, 30, 63, 0, 0, 384, 896, 1920, 4095], [(0, []), (1, []), (2, []), (3, []), (4, []), (5, []), (7, []), (8, []), (9, []), (10, []), (11, []), (6, [11]), (12, [])], none⟩] [.tmp 4] 2 Try.f7 = some h7 := by kernel_rfl
theorem c7 : callable Try.prog 7 = true := by kernel_rfl
theorem q7 {args : List Value} (ha : args.length = 2) {w : World} {next : Value → World → Prop} {QP : List PanicEntry → World → Prop} (H : hw Try.prog noPanic h7 (endV [.tmp 4] next) (σ0 args) w) : callK Try.prog 7 args w next QP := fn_rule Try.func7 mixed k7 ha H
theorem r7 {args : List Value} (ha : args.length = 2) {w : World} {next : Value → World → Prop} {QP : List PanicEntry → World → Prop} (H : hw Try.prog noPanic h7 (endV [.tmp 4] next) (σ0 args) w) : callvK Try.prog (.func (.func 7) #[] #[]) args w next QP := callf c7 (q7 ha H)

/- missive/missivelaw21.ThreadTells -/
def l8_2 : List HS :=
  .need (.n3 .pick (.n3 .pick (.n3 .pick (.n3 .pick (.slot 7) (.n2 (.bin .eql) (.slot 8) (.slot 10)) (.lit (.bool false))) (.n2 (.sbin .eql) (.slot 9) (.slot 11)) (.lit (.bool false))) (.n2 (.sbin .eql) (.slot 43) (.slot 46)) (.lit (.bool false))) (.slot 54) (.lit (.bool false))) ::
  .asg 6 (.n3 .pick (.n3 .pick (.n3 .pick (.n3 .pick (.slot 7) (.n2 (.bin .eql) (.slot 8) (.slot 10)) (.lit (.bool false))) (.n2 (.sbin .eql) (.slot 9) (.slot 11)) (.lit (.bool false))) (.n2 (.sbin .eql) (.slot 43) (.slot 46)) (.lit (.bool false))) (.slot 54) (.lit (.bool false))) ::
  []
def l8_3 : List HS :=
  .eff (some 54) (.call { callee := .value (.func 21), args := #[.tmp 51, .tmp 53], argTypes := #[25, 25] }) 4 [(51, .slot 51), (53, .slot 53)] (some (.n3 .pick (.n3 .pick (.n3 .pick (.slot 7) (.n2 (.bin .eql) (.slot 8) (.slot 10)) (.lit (.bool false))) (.n2 (.sbin .eql) (.slot 9) (.slot 11)) (.lit (.bool false))) (.n2 (.sbin .eql) (.slot 43) (.slot 46)) (.lit (.bool false)), true)) [] ::
  l8_2
def l8_4 : List HS :=
  .eff (some 53) (.call { callee := .value (.func 25), args := #[.tmp 52], argTypes := #[22] }) 25 [(52, .slot 0)] (some (.n3 .pick (.n3 .pick (.n3 .pick (.slot 7) (.n2 (.bin .eql) (.slot 8) (.slot 10)) (.lit (.bool false))) (.n2 (.sbin .eql) (.slot 9) (.slot 11)) (.lit (.bool false))) (.n2 (.sbin .eql) (.slot 43) (.slot 46)) (.lit (.bool false)), true)) [] ::
  l8_3
def l8_5 : List HS :=
  .need (.gif (.n3 .pick (.n3 .pick (.slot 7) (.n2 (.bin .eql) (.slot 8) (.slot 10)) (.lit (.bool false))) (.n2 (.sbin .eql) (.slot 9) (.slot 11)) (.lit (.bool false))) true (.n2 (.sbin .eql) (.slot 43) (.slot 46))) ::
  .need (.n3 .pick (.n3 .pick (.n3 .pick (.slot 7) (.n2 (.bin .eql) (.slot 8) (.slot 10)) (.lit (.bool false))) (.n2 (.sbin .eql) (.slot 9) (.slot 11)) (.lit (.bool false))) (.n2 (.sbin .eql) (.slot 43) (.slot 46)) (.lit (.bool false))) ::
  .eff (some 51) (.call { callee := .value (.func 11), args := #[.tmp 50], argTypes := #[22] }) 25 [(50, .slot 0)] (some (.n3 .pick (.n3 .pick (.n3 .pick (.slot 7) (.n2 (.bin .eql) (.slot 8) (.slot 10)) (.lit (.bool false))) (.n2 (.sbin .eql) (.slot 9) (.slot 11)) (.lit (.bool false))) (.n2 (.sbin .eql) (.slot 43) (.slot 46)) (.lit (.bool false)), true)) [] ::
  l8_4
def l8_6 : List HS :=
  .eff (some 46) (.call { callee := .value (.func 24), args := #[.tmp 44, .tmp 45], argTypes := #[22, 9] }) 9 [(44, .slot 0), (45, .slot 2)] (some (.n3 .pick (.n3 .pick (.slot 7) (.n2 (.bin .eql) (.slot 8) (.slot 10)) (.lit (.bool false))) (.n2 (.sbin .eql) (.slot 9) (.slot 11)) (.lit (.bool false)), true)) [] ::
  l8_5
def h8_1 : HC :=
  (.seq
  (.reg [.eff (some 20) (.call { callee := .value (.func 15), args := #[.tmp 18, .tmp 19], argTypes := #[22, 3] }) 35 [(18, .slot 0), (19, .slot 1)] none [],
    .need (.n1 (.ext 0) (.slot 20)),
    .need (.n1 (.ext 1) (.slot 20)),
    .asg 8 (.n1 (.ext 0) (.slot 20)),
    .asg 9 (.n1 (.ext 1) (.slot 20))])
  (.seq
  (.reg [.eff (some 26) (.call { callee := .value (.func 23), args := #[.tmp 24, .tmp 25], argTypes := #[22, 3] }) 35 [(24, .slot 0), (25, .slot 1)] none [],
    .need (.n1 (.ext 0) (.slot 26)),
    .need (.n1 (.ext 1) (.slot 26)),
    .asg 10 (.n1 (.ext 0) (.slot 26)),
    .asg 11 (.n1 (.ext 1) (.slot 26))])
  (.seq
  (.reg (.need (.gif (.slot 7) true (.n2 (.bin .eql) (.slot 8) (.slot 10))) ::
    .need (.n3 .pick (.slot 7) (.n2 (.bin .eql) (.slot 8) (.slot 10)) (.lit (.bool false))) ::
    .need (.gif (.n3 .pick (.slot 7) (.n2 (.bin .eql) (.slot 8) (.slot 10)) (.lit (.bool false))) true (.n2 (.sbin .eql) (.slot 9) (.slot 11))) ::
    .need (.n3 .pick (.n3 .pick (.slot 7) (.n2 (.bin .eql) (.slot 8) (.slot 10)) (.lit (.bool false))) (.n2 (.sbin .eql) (.slot 9) (.slot 11)) (.lit (.bool false))) ::
    .eff (some 43) (.call { callee := .value (.func 22), args := #[.tmp 41, .tmp 42], argTypes := #[22, 9] }) 9 [(41, .slot 0), (42, .slot 2)] (some (.n3 .pick (.n3 .pick (.slot 7) (.n2 (.bin .eql) (.slot 8) (.slot 10)) (.lit (.bool false))) (.n2 (.sbin .eql) (.slot 9) (.slot 11)) (.lit (.bool false)), true)) [] ::
    l8_6))
  .ret)))
def h8 : HC :=
  (.seq
  (.reg [.asg 6 (.lit (.bool false))])
  (.seq
  (.reg [.eff (some 12) (.call { callee := .value (.func 9), args := #[], argTypes := #[] }) 4 [] none [],
    .asg 7 (.slot 12)])
  (.seq
  (.seq
  (.reg [.eff (some 14) (.call { callee := .value (.func 10), args := #[.tmp 13], argTypes := #[22] }) 4 [(13, .slot 0)] none [],
    .need (.n1 .bnot (.slot 14)),
    .asg 15 (.n1 .bnot (.slot 14))])
  (.cond (.slot 15)
    (.seq
    (.reg [.asg 6 (.slot 7)])
    .ret)
    .skip))
  h8_1)))
theorem k8 : fnOK Try.prog 29352562483322823 [] [.tmp 6] 3 Try.f8 = some h8 := by kernel_rfl
theorem c8 : callable Try.prog 8 = true := by kernel_rfl
theorem q8 {args : List Value} (ha : args.length = 3) {w : World} {next : Value → World → Prop} {QP : List PanicEntry → World → Prop} (H : hw Try.prog noPanic h8 (endV [.tmp 6] next) (σ0 args) w) : callK Try.prog 8 args w next QP := fn_rule Try.func8 mixed k8 ha H
theorem r8 {args : List Value} (ha : args.length = 3) {w : World} {next : Value → World → Prop} {QP : List PanicEntry → World → Prop} (H : hw Try.prog noPanic h8 (endV [.tmp 6] next) (σ0 args) w) : callvK Try.prog (.func (.func 8) #[] #[]) args w next QP := callf c8 (q8 ha H)

/- missive/missivelaw21.small -/
def l9_4 : List HS :=
  .need (.n3 .pick (.slot 36) (.slot 44) (.lit (.bool false))) ::
  .asg 5 (.n3 .pick (.slot 36) (.slot 44) (.lit (.bool false))) ::
  []
def l9_5 : List HS :=
  .eff (some 44) (.call { callee := .value (.func 21), args := #[.tmp 38, .tmp 43], argTypes := #[25, 25] }) 4 [(38, .slot 2), (43, .slot 43)] (some (.slot 36, true)) [] ::
  l9_4
def l9_7 : List HS :=
  .need (.n3 .pick (.n3 .pick (.slot 5) (.slot 52) (.lit (.bool false))) (.slot 60) (.lit (.bool false))) ::
  .asg 0 (.n3 .pick (.n3 .pick (.slot 5) (.slot 52) (.lit (.bool false))) (.slot 60) (.lit (.bool false))) ::
  []
def l9_8 : List HS :=
  .eff (some 60) (.call { callee := .value (.func 21), args := #[.tmp 55, .tmp 59], argTypes := #[25, 25] }) 4 [(55, .slot 4), (59, .slot 59)] (some (.n3 .pick (.slot 5) (.slot 52) (.lit (.bool false)), true)) [] ::
  l9_7
def l9_9 : List HS :=
  .need (.n3 .pick (.slot 5) (.slot 52) (.lit (.bool false))) ::
  .need (.gif (.n3 .pick (.slot 5) (.slot 52) (.lit (.bool false))) true (.n2 (.put 0 1) (.lit (.agg #[(str []), (.bool false), (.int .i64 0), (.int .i64 0)])) (.lit (str [99])))) ::
  .need (.gif (.n3 .pick (.slot 5) (.slot 52) (.lit (.bool false))) true (.n2 (.put 2 1) (.n2 (.put 0 1) (.lit (.agg #[(str []), (.bool false), (.int .i64 0), (.int .i64 0)])) (.lit (str [99]))) (.lit (.int .i64 (-1))))) ::
  .need (.gif (.n3 .pick (.slot 5) (.slot 52) (.lit (.bool false))) true (.n2 (.put 0 1) (.lit (.agg #[(str []), (.bool false), (.int .i64 0), (.int .i64 0)])) (.lit (str [97])))) ::
  .need (.gif (.n3 .pick (.slot 5) (.slot 52) (.lit (.bool false))) true (.n2 (.put 2 1) (.n2 (.put 0 1) (.lit (.agg #[(str []), (.bool false), (.int .i64 0), (.int .i64 0)])) (.lit (str [97]))) (.lit (.int .i64 (-1))))) ::
  .need (.gif (.n3 .pick (.slot 5) (.slot 52) (.lit (.bool false))) true (.n2 (.put 0 1) (.lit (.agg #[(str []), (.bool false), (.int .i64 0), (.int .i64 0)])) (.lit (str [98])))) ::
  .need (.gif (.n3 .pick (.slot 5) (.slot 52) (.lit (.bool false))) true (.n2 (.put 2 1) (.n2 (.put 0 1) (.lit (.agg #[(str []), (.bool false), (.int .i64 0), (.int .i64 0)])) (.lit (str [98]))) (.lit (.int .i64 1)))) ::
  .need (.gif (.n3 .pick (.slot 5) (.slot 52) (.lit (.bool false))) true (.n2 (.put 3 1) (.n2 (.put 2 1) (.n2 (.put 0 1) (.lit (.agg #[(str []), (.bool false), (.int .i64 0), (.int .i64 0)])) (.lit (str [98]))) (.lit (.int .i64 1))) (.lit (.int .i64 1)))) ::
  .eff (some 59) (.buildSlice 25 3 #[(0, .tmp 56), (1, .tmp 57), (2, .tmp 58)]) 25 [(56, .n2 (.put 2 1) (.n2 (.put 0 1) (.lit (.agg #[(str []), (.bool false), (.int .i64 0), (.int .i64 0)])) (.lit (str [99]))) (.lit (.int .i64 (-1)))), (57, .n2 (.put 2 1) (.n2 (.put 0 1) (.lit (.agg #[(str []), (.bool false), (.int .i64 0), (.int .i64 0)])) (.lit (str [97]))) (.lit (.int .i64 (-1)))), (58, .n2 (.put 3 1) (.n2 (.put 2 1) (.n2 (.put 0 1) (.lit (.agg #[(str []), (.bool false), (.int .i64 0), (.int .i64 0)])) (.lit (str [98]))) (.lit (.int .i64 1))) (.lit (.int .i64 1)))] (some (.n3 .pick (.slot 5) (.slot 52) (.lit (.bool false)), true)) [] ::
  l9_8
def l9_10 : List HS :=
  .eff (some 52) (.call { callee := .value (.func 21), args := #[.tmp 48, .tmp 51], argTypes := #[25, 25] }) 4 [(48, .slot 3), (51, .slot 51)] (some (.slot 5, true)) [] ::
  l9_9
def h9_6 : HC :=
  (.seq
  (.reg (.need (.gif (.slot 5) true (.n2 (.put 0 1) (.lit (.agg #[(str []), (.bool false), (.int .i64 0), (.int .i64 0)])) (.lit (str [97])))) ::
    .need (.gif (.slot 5) true (.n2 (.put 2 1) (.n2 (.put 0 1) (.lit (.agg #[(str []), (.bool false), (.int .i64 0), (.int .i64 0)])) (.lit (str [97]))) (.lit (.int .i64 (-1))))) ::
    .need (.gif (.slot 5) true (.n2 (.put 0 1) (.lit (.agg #[(str []), (.bool false), (.int .i64 0), (.int .i64 0)])) (.lit (str [98])))) ::
    .need (.gif (.slot 5) true (.n2 (.put 3 1) (.n2 (.put 0 1) (.lit (.agg #[(str []), (.bool false), (.int .i64 0), (.int .i64 0)])) (.lit (str [98]))) (.lit (.int .i64 1)))) ::
    .eff (some 51) (.buildSlice 25 2 #[(0, .tmp 49), (1, .tmp 50)]) 25 [(49, .n2 (.put 2 1) (.n2 (.put 0 1) (.lit (.agg #[(str []), (.bool false), (.int .i64 0), (.int .i64 0)])) (.lit (str [97]))) (.lit (.int .i64 (-1)))), (50, .n2 (.put 3 1) (.n2 (.put 0 1) (.lit (.agg #[(str []), (.bool false), (.int .i64 0), (.int .i64 0)])) (.lit (str [98]))) (.lit (.int .i64 1)))] (some (.slot 5, true)) [] ::
    l9_10))
  .ret)
def h9_3 : HC :=
  (.seq
  (.reg [.need (.n2 (.put 0 1) (.lit (.agg #[(str []), (.int .i64 0), (.slice none 0 0), (str []), (.bool false)])) (.lit (str [97]))),
    .need (.n2 (.put 1 1) (.n2 (.put 0 1) (.lit (.agg #[(str []), (.int .i64 0), (.slice none 0 0), (str []), (.bool false)])) (.lit (str [97]))) (.lit (.int .i64 1))),
    .need (.n2 (.put 3 1) (.n2 (.put 1 1) (.n2 (.put 0 1) (.lit (.agg #[(str []), (.int .i64 0), (.slice none 0 0), (str []), (.bool false)])) (.lit (str [97]))) (.lit (.int .i64 1))) (.lit (str [88]))),
    .need (.n2 (.put 0 1) (.lit (.agg #[(str []), (.int .i64 0), (.slice none 0 0), (str []), (.bool false)])) (.lit (str [98]))),
    .need (.n2 (.put 1 1) (.n2 (.put 0 1) (.lit (.agg #[(str []), (.int .i64 0), (.slice none 0 0), (str []), (.bool false)])) (.lit (str [98]))) (.lit (.int .i64 2))),
    .need (.n2 (.put 3 1) (.n2 (.put 1 1) (.n2 (.put 0 1) (.lit (.agg #[(str []), (.int .i64 0), (.slice none 0 0), (str []), (.bool false)])) (.lit (str [98]))) (.lit (.int .i64 2))) (.lit (str [120]))),
    .need (.n2 (.put 4 1) (.n2 (.put 3 1) (.n2 (.put 1 1) (.n2 (.put 0 1) (.lit (.agg #[(str []), (.int .i64 0), (.slice none 0 0), (str []), (.bool false)])) (.lit (str [98]))) (.lit (.int .i64 2))) (.lit (str [120]))) (.lit (.bool true))),
    .need (.n2 (.put 0 1) (.lit (.agg #[(str []), (.int .i64 0), (.slice none 0 0), (str []), (.bool false)])) (.lit (str [99]))),
    .need (.n2 (.put 3 1) (.n2 (.put 0 1) (.lit (.agg #[(str []), (.int .i64 0), (.slice none 0 0), (str []), (.bool false)])) (.lit (str [99]))) (.lit (str [120]))),
    .need (.n2 (.put 4 1) (.n2 (.put 3 1) (.n2 (.put 0 1) (.lit (.agg #[(str []), (.int .i64 0), (.slice none 0 0), (str []), (.bool false)])) (.lit (str [99]))) (.lit (str [120]))) (.lit (.bool true))),
    .eff (some 29) (.buildSlice 22 3 #[(0, .tmp 26), (1, .tmp 27), (2, .tmp 28)]) 22 [(26, .n2 (.put 3 1) (.n2 (.put 1 1) (.n2 (.put 0 1) (.lit (.agg #[(str []), (.int .i64 0), (.slice none 0 0), (str []), (.bool false)])) (.lit (str [97]))) (.lit (.int .i64 1))) (.lit (str [88]))), (27, .n2 (.put 4 1) (.n2 (.put 3 1) (.n2 (.put 1 1) (.n2 (.put 0 1) (.lit (.agg #[(str []), (.int .i64 0), (.slice none 0 0), (str []), (.bool false)])) (.lit (str [98]))) (.lit (.int .i64 2))) (.lit (str [120]))) (.lit (.bool true))), (28, .n2 (.put 4 1) (.n2 (.put 3 1) (.n2 (.put 0 1) (.lit (.agg #[(str []), (.int .i64 0), (.slice none 0 0), (str []), (.bool false)])) (.lit (str [99]))) (.lit (str [120]))) (.lit (.bool true)))] none [],
    .eff (some 30) (.call { callee := .value (.func 11), args := #[.tmp 29], argTypes := #[22] }) 25 [(29, .slot 29)] none [],
    .asg 4 (.slot 30)])
  (.seq
  (.reg (.need (.n2 (.put 0 1) (.lit (.agg #[(str []), (.bool false), (.int .i64 0), (.int .i64 0)])) (.lit (str [97]))) ::
    .need (.n2 (.put 2 1) (.n2 (.put 0 1) (.lit (.agg #[(str []), (.bool false), (.int .i64 0), (.int .i64 0)])) (.lit (str [97]))) (.lit (.int .i64 (-1)))) ::
    .need (.n2 (.put 0 1) (.lit (.agg #[(str []), (.bool false), (.int .i64 0), (.int .i64 0)])) (.lit (str [98]))) ::
    .need (.n2 (.put 3 1) (.n2 (.put 0 1) (.lit (.agg #[(str []), (.bool false), (.int .i64 0), (.int .i64 0)])) (.lit (str [98]))) (.lit (.int .i64 1))) ::
    .need (.n2 (.put 0 1) (.lit (.agg #[(str []), (.bool false), (.int .i64 0), (.int .i64 0)])) (.lit (str [99]))) ::
    .need (.n2 (.put 2 1) (.n2 (.put 0 1) (.lit (.agg #[(str []), (.bool false), (.int .i64 0), (.int .i64 0)])) (.lit (str [99]))) (.lit (.int .i64 1))) ::
    .need (.n2 (.put 3 1) (.n2 (.put 2 1) (.n2 (.put 0 1) (.lit (.agg #[(str []), (.bool false), (.int .i64 0), (.int .i64 0)])) (.lit (str [99]))) (.lit (.int .i64 1))) (.lit (.int .i64 2))) ::
    .eff (some 35) (.buildSlice 25 3 #[(0, .tmp 32), (1, .tmp 33), (2, .tmp 34)]) 25 [(32, .n2 (.put 2 1) (.n2 (.put 0 1) (.lit (.agg #[(str []), (.bool false), (.int .i64 0), (.int .i64 0)])) (.lit (str [97]))) (.lit (.int .i64 (-1)))), (33, .n2 (.put 3 1) (.n2 (.put 0 1) (.lit (.agg #[(str []), (.bool false), (.int .i64 0), (.int .i64 0)])) (.lit (str [98]))) (.lit (.int .i64 1))), (34, .n2 (.put 3 1) (.n2 (.put 2 1) (.n2 (.put 0 1) (.lit (.agg #[(str []), (.bool false), (.int .i64 0), (.int .i64 0)])) (.lit (str [99]))) (.lit (.int .i64 1))) (.lit (.int .i64 2)))] none [] ::
    .eff (some 36) (.call { callee := .value (.func 21), args := #[.tmp 31, .tmp 35], argTypes := #[25, 25] }) 4 [(31, .slot 1), (35, .slot 35)] none [] ::
    .need (.gif (.slot 36) true (.n2 (.put 0 1) (.lit (.agg #[(str []), (.bool false), (.int .i64 0), (.int .i64 0)])) (.lit (str [100])))) ::
    .need (.gif (.slot 36) true (.n2 (.put 2 1) (.n2 (.put 0 1) (.lit (.agg #[(str []), (.bool false), (.int .i64 0), (.int .i64 0)])) (.lit (str [100]))) (.lit (.int .i64 (-1))))) ::
    .need (.gif (.slot 36) true (.n2 (.put 0 1) (.lit (.agg #[(str []), (.bool false), (.int .i64 0), (.int .i64 0)])) (.lit (str [97])))) ::
    .need (.gif (.slot 36) true (.n2 (.put 1 1) (.n2 (.put 0 1) (.lit (.agg #[(str []), (.bool false), (.int .i64 0), (.int .i64 0)])) (.lit (str [97]))) (.lit (.bool true)))) ::
    .need (.gif (.slot 36) true (.n2 (.put 2 1) (.n2 (.put 1 1) (.n2 (.put 0 1) (.lit (.agg #[(str []), (.bool false), (.int .i64 0), (.int .i64 0)])) (.lit (str [97]))) (.lit (.bool true))) (.lit (.int .i64 (-1))))) ::
    .need (.gif (.slot 36) true (.n2 (.put 0 1) (.lit (.agg #[(str []), (.bool false), (.int .i64 0), (.int .i64 0)])) (.lit (str [98])))) ::
    .need (.gif (.slot 36) true (.n2 (.put 2 1) (.n2 (.put 0 1) (.lit (.agg #[(str []), (.bool false), (.int .i64 0), (.int .i64 0)])) (.lit (str [98]))) (.lit (.int .i64 1)))) ::
    .need (.gif (.slot 36) true (.n2 (.put 3 1) (.n2 (.put 2 1) (.n2 (.put 0 1) (.lit (.agg #[(str []), (.bool false), (.int .i64 0), (.int .i64 0)])) (.lit (str [98]))) (.lit (.int .i64 1))) (.lit (.int .i64 1)))) ::
    .need (.gif (.slot 36) true (.n2 (.put 0 1) (.lit (.agg #[(str []), (.bool false), (.int .i64 0), (.int .i64 0)])) (.lit (str [99])))) ::
    .need (.gif (.slot 36) true (.n2 (.put 2 1) (.n2 (.put 0 1) (.lit (.agg #[(str []), (.bool false), (.int .i64 0), (.int .i64 0)])) (.lit (str [99]))) (.lit (.int .i64 1)))) ::
    .need (.gif (.slot 36) true (.n2 (.put 3 1) (.n2 (.put 2 1) (.n2 (.put 0 1) (.lit (.agg #[(str []), (.bool false), (.int .i64 0), (.int .i64 0)])) (.lit (str [99]))) (.lit (.int .i64 1))) (.lit (.int .i64 1)))) ::
    .eff (some 43) (.buildSlice 25 4 #[(0, .tmp 39), (1, .tmp 40), (2, .tmp 41), (3, .tmp 42)]) 25 [(39, .n2 (.put 2 1) (.n2 (.put 0 1) (.lit (.agg #[(str []), (.bool false), (.int .i64 0), (.int .i64 0)])) (.lit (str [100]))) (.lit (.int .i64 (-1)))), (40, .n2 (.put 2 1) (.n2 (.put 1 1) (.n2 (.put 0 1) (.lit (.agg #[(str []), (.bool false), (.int .i64 0), (.int .i64 0)])) (.lit (str [97]))) (.lit (.bool true))) (.lit (.int .i64 (-1)))), (41, .n2 (.put 3 1) (.n2 (.put 2 1) (.n2 (.put 0 1) (.lit (.agg #[(str []), (.bool false), (.int .i64 0), (.int .i64 0)])) (.lit (str [98]))) (.lit (.int .i64 1))) (.lit (.int .i64 1))), (42, .n2 (.put 3 1) (.n2 (.put 2 1) (.n2 (.put 0 1) (.lit (.agg #[(str []), (.bool false), (.int .i64 0), (.int .i64 0)])) (.lit (str [99]))) (.lit (.int .i64 1))) (.lit (.int .i64 1)))] (some (.slot 36, true)) [] ::
    l9_5))
  h9_6))
def h9_2 : HC :=
  (.seq
  (.reg [.eff (some 20) (.buildSlice 32 1 #[(0, .const (str [98]))]) 32 [] none [],
    .need (.n2 (.put 0 1) (.lit (.agg #[(str []), (.int .i64 0), (.slice none 0 0), (str []), (.bool false)])) (.lit (str [97]))),
    .need (.n2 (.put 1 1) (.n2 (.put 0 1) (.lit (.agg #[(str []), (.int .i64 0), (.slice none 0 0), (str []), (.bool false)])) (.lit (str [97]))) (.lit (.int .i64 1))),
    .need (.n2 (.put 2 1) (.n2 (.put 1 1) (.n2 (.put 0 1) (.lit (.agg #[(str []), (.int .i64 0), (.slice none 0 0), (str []), (.bool false)])) (.lit (str [97]))) (.lit (.int .i64 1))) (.slot 20)),
    .need (.n2 (.put 3 1) (.n2 (.put 2 1) (.n2 (.put 1 1) (.n2 (.put 0 1) (.lit (.agg #[(str []), (.int .i64 0), (.slice none 0 0), (str []), (.bool false)])) (.lit (str [97]))) (.lit (.int .i64 1))) (.slot 20)) (.lit (str [120]))),
    .eff (some 22) (.buildSlice 32 1 #[(0, .const (str [97]))]) 32 [] none [],
    .need (.n2 (.put 0 1) (.lit (.agg #[(str []), (.int .i64 0), (.slice none 0 0), (str []), (.bool false)])) (.lit (str [98]))),
    .need (.n2 (.put 1 1) (.n2 (.put 0 1) (.lit (.agg #[(str []), (.int .i64 0), (.slice none 0 0), (str []), (.bool false)])) (.lit (str [98]))) (.lit (.int .i64 2))),
    .need (.n2 (.put 2 1) (.n2 (.put 1 1) (.n2 (.put 0 1) (.lit (.agg #[(str []), (.int .i64 0), (.slice none 0 0), (str []), (.bool false)])) (.lit (str [98]))) (.lit (.int .i64 2))) (.slot 22)),
    .need (.n2 (.put 3 1) (.n2 (.put 2 1) (.n2 (.put 1 1) (.n2 (.put 0 1) (.lit (.agg #[(str []), (.int .i64 0), (.slice none 0 0), (str []), (.bool false)])) (.lit (str [98]))) (.lit (.int .i64 2))) (.slot 22)) (.lit (str [120]))),
    .eff (some 24) (.buildSlice 22 2 #[(0, .tmp 21), (1, .tmp 23)]) 22 [(21, .n2 (.put 3 1) (.n2 (.put 2 1) (.n2 (.put 1 1) (.n2 (.put 0 1) (.lit (.agg #[(str []), (.int .i64 0), (.slice none 0 0), (str []), (.bool false)])) (.lit (str [97]))) (.lit (.int .i64 1))) (.slot 20)) (.lit (str [120]))), (23, .n2 (.put 3 1) (.n2 (.put 2 1) (.n2 (.put 1 1) (.n2 (.put 0 1) (.lit (.agg #[(str []), (.int .i64 0), (.slice none 0 0), (str []), (.bool false)])) (.lit (str [98]))) (.lit (.int .i64 2))) (.slot 22)) (.lit (str [120])))] none [],
    .eff (some 25) (.call { callee := .value (.func 11), args := #[.tmp 24], argTypes := #[22] }) 25 [(24, .slot 24)] none [],
    .asg 3 (.slot 25)])
  h9_3)
def h9_1 : HC :=
  (.seq
  (.reg [.eff (some 13) (.buildSlice 32 1 #[(0, .const (str [97]))]) 32 [] none [],
    .need (.n2 (.put 0 1) (.lit (.agg #[(str []), (.int .i64 0), (.slice none 0 0), (str []), (.bool false)])) (.lit (str [98]))),
    .need (.n2 (.put 1 1) (.n2 (.put 0 1) (.lit (.agg #[(str []), (.int .i64 0), (.slice none 0 0), (str []), (.bool false)])) (.lit (str [98]))) (.lit (.int .i64 2))),
    .need (.n2 (.put 2 1) (.n2 (.put 1 1) (.n2 (.put 0 1) (.lit (.agg #[(str []), (.int .i64 0), (.slice none 0 0), (str []), (.bool false)])) (.lit (str [98]))) (.lit (.int .i64 2))) (.slot 13)),
    .need (.n2 (.put 3 1) (.n2 (.put 2 1) (.n2 (.put 1 1) (.n2 (.put 0 1) (.lit (.agg #[(str []), (.int .i64 0), (.slice none 0 0), (str []), (.bool false)])) (.lit (str [98]))) (.lit (.int .i64 2))) (.slot 13)) (.lit (str [120]))),
    .need (.n2 (.put 4 1) (.n2 (.put 3 1) (.n2 (.put 2 1) (.n2 (.put 1 1) (.n2 (.put 0 1) (.lit (.agg #[(str []), (.int .i64 0), (.slice none 0 0), (str []), (.bool false)])) (.lit (str [98]))) (.lit (.int .i64 2))) (.slot 13)) (.lit (str [120]))) (.lit (.bool true))),
    .eff (some 15) (.buildSlice 32 1 #[(0, .const (str [97]))]) 32 [] none [],
    .need (.n2 (.put 0 1) (.lit (.agg #[(str []), (.int .i64 0), (.slice none 0 0), (str []), (.bool false)])) (.lit (str [99]))),
    .need (.n2 (.put 1 1) (.n2 (.put 0 1) (.lit (.agg #[(str []), (.int .i64 0), (.slice none 0 0), (str []), (.bool false)])) (.lit (str [99]))) (.lit (.int .i64 3))),
    .need (.n2 (.put 2 1) (.n2 (.put 1 1) (.n2 (.put 0 1) (.lit (.agg #[(str []), (.int .i64 0), (.slice none 0 0), (str []), (.bool false)])) (.lit (str [99]))) (.lit (.int .i64 3))) (.slot 15)),
    .need (.n2 (.put 3 1) (.n2 (.put 2 1) (.n2 (.put 1 1) (.n2 (.put 0 1) (.lit (.agg #[(str []), (.int .i64 0), (.slice none 0 0), (str []), (.bool false)])) (.lit (str [99]))) (.lit (.int .i64 3))) (.slot 15)) (.lit (str [120]))),
    .need (.n2 (.put 4 1) (.n2 (.put 3 1) (.n2 (.put 2 1) (.n2 (.put 1 1) (.n2 (.put 0 1) (.lit (.agg #[(str []), (.int .i64 0), (.slice none 0 0), (str []), (.bool false)])) (.lit (str [99]))) (.lit (.int .i64 3))) (.slot 15)) (.lit (str [120]))) (.lit (.bool true))),
    .need (.n2 (.put 0 1) (.lit (.agg #[(str []), (.int .i64 0), (.slice none 0 0), (str []), (.bool false)])) (.lit (str [100]))),
    .need (.n2 (.put 1 1) (.n2 (.put 0 1) (.lit (.agg #[(str []), (.int .i64 0), (.slice none 0 0), (str []), (.bool false)])) (.lit (str [100]))) (.lit (.int .i64 1))),
    .need (.n2 (.put 3 1) (.n2 (.put 1 1) (.n2 (.put 0 1) (.lit (.agg #[(str []), (.int .i64 0), (.slice none 0 0), (str []), (.bool false)])) (.lit (str [100]))) (.lit (.int .i64 1))) (.lit (str [121]))),
    .eff (some 18) (.buildSlice 22 3 #[(0, .tmp 14), (1, .tmp 16), (2, .tmp 17)]) 22 [(14, .n2 (.put 4 1) (.n2 (.put 3 1) (.n2 (.put 2 1) (.n2 (.put 1 1) (.n2 (.put 0 1) (.lit (.agg #[(str []), (.int .i64 0), (.slice none 0 0), (str []), (.bool false)])) (.lit (str [98]))) (.lit (.int .i64 2))) (.slot 13)) (.lit (str [120]))) (.lit (.bool true))), (16, .n2 (.put 4 1) (.n2 (.put 3 1) (.n2 (.put 2 1) (.n2 (.put 1 1) (.n2 (.put 0 1) (.lit (.agg #[(str []), (.int .i64 0), (.slice none 0 0), (str []), (.bool false)])) (.lit (str [99]))) (.lit (.int .i64 3))) (.slot 15)) (.lit (str [120]))) (.lit (.bool true))), (17, .n2 (.put 3 1) (.n2 (.put 1 1) (.n2 (.put 0 1) (.lit (.agg #[(str []), (.int .i64 0), (.slice none 0 0), (str []), (.bool false)])) (.lit (str [100]))) (.lit (.int .i64 1))) (.lit (str [121])))] none [],
    .eff (some 19) (.call { callee := .value (.func 11), args := #[.tmp 18], argTypes := #[22] }) 25 [(18, .slot 18)] none [],
    .asg 2 (.slot 19)])
  h9_2)
def h9 : HC :=
  (.seq
  (.reg [.asg 0 (.lit (.bool false))])
  (.seq
  (.reg [.eff (some 6) (.buildSlice 32 2 #[(0, .const (str [97])), (1, .const (str [98]))]) 32 [] none [],
    .need (.n2 (.put 0 1) (.lit (.agg #[(str []), (.int .i64 0), (.slice none 0 0), (str []), (.bool false)])) (.lit (str [99]))),
    .need (.n2 (.put 1 1) (.n2 (.put 0 1) (.lit (.agg #[(str []), (.int .i64 0), (.slice none 0 0), (str []), (.bool false)])) (.lit (str [99]))) (.lit (.int .i64 3))),
    .need (.n2 (.put 2 1) (.n2 (.put 1 1) (.n2 (.put 0 1) (.lit (.agg #[(str []), (.int .i64 0), (.slice none 0 0), (str []), (.bool false)])) (.lit (str [99]))) (.lit (.int .i64 3))) (.slot 6)),
    .need (.n2 (.put 3 1) (.n2 (.put 2 1) (.n2 (.put 1 1) (.n2 (.put 0 1) (.lit (.agg #[(str []), (.int .i64 0), (.slice none 0 0), (str []), (.bool false)])) (.lit (str [99]))) (.lit (.int .i64 3))) (.slot 6)) (.lit (str [120]))),
    .need (.n2 (.put 4 1) (.n2 (.put 3 1) (.n2 (.put 2 1) (.n2 (.put 1 1) (.n2 (.put 0 1) (.lit (.agg #[(str []), (.int .i64 0), (.slice none 0 0), (str []), (.bool false)])) (.lit (str [99]))) (.lit (.int .i64 3))) (.slot 6)) (.lit (str [120]))) (.lit (.bool true))),
    .need (.n2 (.put 0 1) (.lit (.agg #[(str []), (.int .i64 0), (.slice none 0 0), (str []), (.bool false)])) (.lit (str [97]))),
    .need (.n2 (.put 1 1) (.n2 (.put 0 1) (.lit (.agg #[(str []), (.int .i64 0), (.slice none 0 0), (str []), (.bool false)])) (.lit (str [97]))) (.lit (.int .i64 1))),
    .need (.n2 (.put 3 1) (.n2 (.put 1 1) (.n2 (.put 0 1) (.lit (.agg #[(str []), (.int .i64 0), (.slice none 0 0), (str []), (.bool false)])) (.lit (str [97]))) (.lit (.int .i64 1))) (.lit (str [120]))),
    .eff (some 9) (.buildSlice 32 1 #[(0, .const (str [97]))]) 32 [] none [],
    .need (.n2 (.put 0 1) (.lit (.agg #[(str []), (.int .i64 0), (.slice none 0 0), (str []), (.bool false)])) (.lit (str [98]))),
    .need (.n2 (.put 1 1) (.n2 (.put 0 1) (.lit (.agg #[(str []), (.int .i64 0), (.slice none 0 0), (str []), (.bool false)])) (.lit (str [98]))) (.lit (.int .i64 2))),
    .need (.n2 (.put 2 1) (.n2 (.put 1 1) (.n2 (.put 0 1) (.lit (.agg #[(str []), (.int .i64 0), (.slice none 0 0), (str []), (.bool false)])) (.lit (str [98]))) (.lit (.int .i64 2))) (.slot 9)),
    .need (.n2 (.put 3 1) (.n2 (.put 2 1) (.n2 (.put 1 1) (.n2 (.put 0 1) (.lit (.agg #[(str []), (.int .i64 0), (.slice none 0 0), (str []), (.bool false)])) (.lit (str [98]))) (.lit (.int .i64 2))) (.slot 9)) (.lit (str [120]))),
    .need (.n2 (.put 4 1) (.n2 (.put 3 1) (.n2 (.put 2 1) (.n2 (.put 1 1) (.n2 (.put 0 1) (.lit (.agg #[(str []), (.int .i64 0), (.slice none 0 0), (str []), (.bool false)])) (.lit (str [98]))) (.lit (.int .i64 2))) (.slot 9)) (.lit (str [120]))) (.lit (.bool true))),
    .eff (some 11) (.buildSlice 22 3 #[(0, .tmp 7), (1, .tmp 8), (2, .tmp 10)]) 22 [(7, .n2 (.put 4 1) (.n2 (.put 3 1) (.n2 (.put 2 1) (.n2 (.put 1 1) (.n2 (.put 0 1) (.lit (.agg #[(str []), (.int .i64 0), (.slice none 0 0), (str []), (.bool false)])) (.lit (str [99]))) (.lit (.int .i64 3))) (.slot 6)) (.lit (str [120]))) (.lit (.bool true))), (8, .n2 (.put 3 1) (.n2 (.put 1 1) (.n2 (.put 0 1) (.lit (.agg #[(str []), (.int .i64 0), (.slice none 0 0), (str []), (.bool false)])) (.lit (str [97]))) (.lit (.int .i64 1))) (.lit (str [120]))), (10, .n2 (.put 4 1) (.n2 (.put 3 1) (.n2 (.put 2 1) (.n2 (.put 1 1) (.n2 (.put 0 1) (.lit (.agg #[(str []), (.int .i64 0), (.slice none 0 0), (str []), (.bool false)])) (.lit (str [98]))) (.lit (.int .i64 2))) (.slot 9)) (.lit (str [120]))) (.lit (.bool true)))] none [],
    .eff (some 12) (.call { callee := .value (.func 11), args := #[.tmp 11], argTypes := #[22] }) 25 [(11, .slot 11)] none [],
    .asg 1 (.slot 12)])
  h9_1))
theorem k9 : fnOK Try.prog 1736164149376629375 [] [.tmp 0] 0 Try.f9 = some h9 := by kernel_rfl
theorem c9 : callable Try.prog 9 = true := by kernel_rfl
theorem q9 {args : List Value} (ha : args.length = 0) {w : World} {next : Value → World → Prop} {QP : List PanicEntry → World → Prop} (H : hw Try.prog noPanic h9 (endV [.tmp 0] next) (σ0 args) w) : callK Try.prog 9 args w next QP := fn_rule Try.func9 mixed k9 ha H
theorem r9 {args : List Value} (ha : args.length = 0) {w : World} {next : Value → World → Prop} {QP : List PanicEntry → World → Prop} (H : hw Try.prog noPanic h9 (endV [.tmp 0] next) (σ0 args) w) : callvK Try.prog (.func (.func 9) #[] #[]) args w next QP := callf c9 (q9 ha H)

/- missive/missivelaw21.few -/
def h10_4 : HC :=
  (.reg [.need (.n2 (.bin .add) (.slot 3) (.lit (.int .i64 1))),
    .asg 3 (.n2 (.bin .add) (.slot 3) (.lit (.int .i64 1)))])
def h10_3 : HC :=
  (.seq
  (.block 1
    (.seq
    (.reg [.need (.n2 (.iaddr 5) (.slot 0) (.slot 3)),
      .need (.n1 (.faddr 2) (.n2 (.iaddr 5) (.slot 0) (.slot 3))),
      .need (.n1 .ld (.n1 (.faddr 2) (.n2 (.iaddr 5) (.slot 0) (.slot 3)))),
      .need (.n1 .lensl (.n1 .ld (.n1 (.faddr 2) (.n2 (.iaddr 5) (.slot 0) (.slot 3))))),
      .need (.n2 (.bin .gtr) (.n1 .lensl (.n1 .ld (.n1 (.faddr 2) (.n2 (.iaddr 5) (.slot 0) (.slot 3))))) (.lit (.int .i64 20))),
      .need (.gif (.n2 (.bin .gtr) (.n1 .lensl (.n1 .ld (.n1 (.faddr 2) (.n2 (.iaddr 5) (.slot 0) (.slot 3))))) (.lit (.int .i64 20))) false (.n2 (.iaddr 5) (.slot 0) (.slot 3))),
      .need (.gif (.n2 (.bin .gtr) (.n1 .lensl (.n1 .ld (.n1 (.faddr 2) (.n2 (.iaddr 5) (.slot 0) (.slot 3))))) (.lit (.int .i64 20))) false (.n1 (.faddr 3) (.n2 (.iaddr 5) (.slot 0) (.slot 3)))),
      .need (.gif (.n2 (.bin .gtr) (.n1 .lensl (.n1 .ld (.n1 (.faddr 2) (.n2 (.iaddr 5) (.slot 0) (.slot 3))))) (.lit (.int .i64 20))) false (.n1 .ld (.n1 (.faddr 3) (.n2 (.iaddr 5) (.slot 0) (.slot 3))))),
      .need (.gif (.n2 (.bin .gtr) (.n1 .lensl (.n1 .ld (.n1 (.faddr 2) (.n2 (.iaddr 5) (.slot 0) (.slot 3))))) (.lit (.int .i64 20))) false (.n1 .lens (.n1 .ld (.n1 (.faddr 3) (.n2 (.iaddr 5) (.slot 0) (.slot 3)))))),
      .need (.gif (.n2 (.bin .gtr) (.n1 .lensl (.n1 .ld (.n1 (.faddr 2) (.n2 (.iaddr 5) (.slot 0) (.slot 3))))) (.lit (.int .i64 20))) false (.n2 (.bin .gtr) (.n1 .lens (.n1 .ld (.n1 (.faddr 3) (.n2 (.iaddr 5) (.slot 0) (.slot 3))))) (.lit (.int .i64 200)))),
      .need (.n3 .pick (.n2 (.bin .gtr) (.n1 .lensl (.n1 .ld (.n1 (.faddr 2) (.n2 (.iaddr 5) (.slot 0) (.slot 3))))) (.lit (.int .i64 20))) (.lit (.bool true)) (.n2 (.bin .gtr) (.n1 .lens (.n1 .ld (.n1 (.faddr 3) (.n2 (.iaddr 5) (.slot 0) (.slot 3))))) (.lit (.int .i64 200)))),
      .asg 33 (.n3 .pick (.n2 (.bin .gtr) (.n1 .lensl (.n1 .ld (.n1 (.faddr 2) (.n2 (.iaddr 5) (.slot 0) (.slot 3))))) (.lit (.int .i64 20))) (.lit (.bool true)) (.n2 (.bin .gtr) (.n1 .lens (.n1 .ld (.n1 (.faddr 3) (.n2 (.iaddr 5) (.slot 0) (.slot 3))))) (.lit (.int .i64 200))))])
    (.cond (.slot 33)
      (.seq
      (.reg [.asg 2 (.lit (.bool false))])
      .ret)
      .skip)))
  h10_4)
def h10_2 : HC :=
  (.seq
  (.seq
  (.reg [.need (.n1 .lensl (.slot 0)),
    .need (.n2 (.bin .lss) (.slot 3) (.n1 .lensl (.slot 0))),
    .asg 15 (.n2 (.bin .lss) (.slot 3) (.n1 .lensl (.slot 0)))])
  (.cond (.slot 15)
    .skip
    (.exit 0)))
  h10_3)
def h10_5 : HC :=
  (.seq
  (.reg [.asg 2 (.lit (.bool true))])
  .ret)
def h10_1 : HC :=
  (.seq
  (.seq
  (.reg [.asg 3 (.lit (.int .i64 0))])
  (.block 0
    (.loop
      h10_2)))
  h10_5)
def h10 : HC :=
  (.seq
  (.reg [.asg 2 (.lit (.bool false))])
  (.seq
  (.seq
  (.reg [.need (.n1 .lensl (.slot 0)),
    .need (.n2 (.bin .gtr) (.n1 .lensl (.slot 0)) (.lit (.int .i64 40))),
    .eff (some 9) (.call { callee := .value (.func 26), args := #[.tmp 8], argTypes := #[22] }) 4 [(8, .slot 0)] (some (.n2 (.bin .gtr) (.n1 .lensl (.slot 0)) (.lit (.int .i64 40)), false)) [],
    .need (.gif (.n2 (.bin .gtr) (.n1 .lensl (.slot 0)) (.lit (.int .i64 40))) false (.n1 .bnot (.slot 9))),
    .need (.n3 .pick (.n2 (.bin .gtr) (.n1 .lensl (.slot 0)) (.lit (.int .i64 40))) (.lit (.bool true)) (.n1 .bnot (.slot 9))),
    .asg 11 (.n3 .pick (.n2 (.bin .gtr) (.n1 .lensl (.slot 0)) (.lit (.int .i64 40))) (.lit (.bool true)) (.n1 .bnot (.slot 9)))])
  (.cond (.slot 11)
    (.seq
    (.reg [.asg 2 (.lit (.bool false))])
    .ret)
    .skip))
  h10_1))
theorem k10 : fnOK Try.prog 8589969933 [] [.tmp 2] 1 Try.f10 = some h10 := by kernel_rfl
theorem c10 : callable Try.prog 10 = true := by kernel_rfl
theorem q10 {args : List Value} (ha : args.length = 1) {w : World} {next : Value → World → Prop} {QP : List PanicEntry → World → Prop} (H : hw Try.prog noPanic h10 (endV [.tmp 2] next) (σ0 args) w) : callK Try.prog 10 args w next QP := fn_rule Try.func10 mixed k10 ha H
theorem r10 {args : List Value} (ha : args.length = 1) {w : World} {next : Value → World → Prop} {QP : List PanicEntry → World → Prop} (H : hw Try.prog noPanic h10 (endV [.tmp 2] next) (σ0 args) w) : callvK Try.prog (.func (.func 10) #[] #[]) args w next QP := callf c10 (q10 ha H)

/- missive/missivelaw21.find -/
def h13_3 : HC :=
  (.reg [.need (.n2 (.bin .add) (.slot 5) (.lit (.int .i64 1))),
    .asg 5 (.n2 (.bin .add) (.slot 5) (.lit (.int .i64 1)))])
def h13_2 : HC :=
  (.seq
  (.block 1
    (.seq
    (.reg [.need (.n2 (.iaddr 4) (.slot 0) (.slot 5)),
      .need (.n1 (.faddr 0) (.n2 (.iaddr 4) (.slot 0) (.slot 5))),
      .need (.n1 .ld (.n1 (.faddr 0) (.n2 (.iaddr 4) (.slot 0) (.slot 5)))),
      .need (.n2 (.sbin .eql) (.n1 .ld (.n1 (.faddr 0) (.n2 (.iaddr 4) (.slot 0) (.slot 5)))) (.slot 1)),
      .asg 18 (.n2 (.sbin .eql) (.n1 .ld (.n1 (.faddr 0) (.n2 (.iaddr 4) (.slot 0) (.slot 5)))) (.slot 1))])
    (.cond (.slot 18)
      (.seq
      (.reg [.asg 4 (.slot 5)])
      .ret)
      .skip)))
  h13_3)
def h13_1 : HC :=
  (.seq
  (.seq
  (.reg [.need (.n1 .lensl (.slot 0)),
    .need (.n2 (.bin .lss) (.slot 5) (.n1 .lensl (.slot 0))),
    .asg 9 (.n2 (.bin .lss) (.slot 5) (.n1 .lensl (.slot 0)))])
  (.cond (.slot 9)
    .skip
    (.exit 0)))
  h13_2)
def h13_4 : HC :=
  (.seq
  (.reg [.asg 4 (.lit (.int .i64 (-1)))])
  .ret)
def h13 : HC :=
  (.seq
  (.reg [.asg 4 (.lit (.int .i64 0))])
  (.seq
  (.seq
  (.reg [.asg 5 (.lit (.int .i64 0))])
  (.block 0
    (.loop
      h13_1)))
  h13_4))
theorem k13 : fnOK Try.prog 262707 [] [.tmp 4] 2 Try.f13 = some h13 := by kernel_rfl
theorem c13 : callable Try.prog 13 = true := by kernel_rfl
theorem q13 {args : List Value} (ha : args.length = 2) {w : World} {next : Value → World → Prop} {QP : List PanicEntry → World → Prop} (H : hw Try.prog noPanic h13 (endV [.tmp 4] next) (σ0 args) w) : callK Try.prog 13 args w next QP := fn_rule Try.func13 mixed k13 ha H
theorem r13 {args : List Value} (ha : args.length = 2) {w : World} {next : Value → World → Prop} {QP : List PanicEntry → World → Prop} (H : hw Try.prog noPanic h13 (endV [.tmp 4] next) (σ0 args) w) : callvK Try.prog (.func (.func 13) #[] #[]) args w next QP := callf c13 (q13 ha H)

/- missive/missivelaw21.circle -/
def h18_3 : HC :=
  (.reg [.eff (some 38) (.call { callee := .value (.func 17), args := #[.tmp 36, .tmp 37], argTypes := #[22, 3] }) 3 [(36, .slot 0), (37, .slot 5)] none [],
    .asg 5 (.slot 38)])
def h18_4 : HC :=
  (.reg [.need (.n2 (.bin .add) (.slot 6) (.lit (.int .i64 1))),
    .asg 6 (.n2 (.bin .add) (.slot 6) (.lit (.int .i64 1)))])
def h18_2 : HC :=
  (.seq
  (.block 1
    (.seq
    (.seq
    (.draw [.need (.n2 (.iaddr 5) (.slot 0) (.slot 5)),
      .need (.n1 (.faddr 0) (.n2 (.iaddr 5) (.slot 0) (.slot 5))),
      .need (.n1 .ld (.n1 (.faddr 0) (.n2 (.iaddr 5) (.slot 0) (.slot 5)))),
      .need (.n2 (.iaddr 5) (.slot 0) (.slot 1)),
      .need (.n1 (.faddr 0) (.n2 (.iaddr 5) (.slot 0) (.slot 1))),
      .need (.n1 .ld (.n1 (.faddr 0) (.n2 (.iaddr 5) (.slot 0) (.slot 1)))),
      .need (.n2 (.sbin .lss) (.n1 .ld (.n1 (.faddr 0) (.n2 (.iaddr 5) (.slot 0) (.slot 5)))) (.n1 .ld (.n1 (.faddr 0) (.n2 (.iaddr 5) (.slot 0) (.slot 1))))),
      .asg 35 (.n2 (.sbin .lss) (.n1 .ld (.n1 (.faddr 0) (.n2 (.iaddr 5) (.slot 0) (.slot 5)))) (.n1 .ld (.n1 (.faddr 0) (.n2 (.iaddr 5) (.slot 0) (.slot 1)))))])
    (.cond (.slot 35)
      (.seq
      (.reg [.asg 4 (.lit (.bool false))])
      .ret)
      .skip))
    h18_3))
  h18_4)
def h18_1 : HC :=
  (.seq
  (.seq
  (.reg [.need (.n1 .lensl (.slot 0)),
    .need (.n2 (.bin .lss) (.slot 6) (.n1 .lensl (.slot 0))),
    .need (.gif (.n2 (.bin .lss) (.slot 6) (.n1 .lensl (.slot 0))) true (.n2 (.bin .geq) (.slot 5) (.lit (.int .i64 0)))),
    .need (.n3 .pick (.n2 (.bin .lss) (.slot 6) (.n1 .lensl (.slot 0))) (.n2 (.bin .geq) (.slot 5) (.lit (.int .i64 0))) (.lit (.bool false))),
    .need (.gif (.n3 .pick (.n2 (.bin .lss) (.slot 6) (.n1 .lensl (.slot 0))) (.n2 (.bin .geq) (.slot 5) (.lit (.int .i64 0))) (.lit (.bool false))) true (.n2 (.bin .neq) (.slot 5) (.slot 1))),
    .need (.n3 .pick (.n3 .pick (.n2 (.bin .lss) (.slot 6) (.n1 .lensl (.slot 0))) (.n2 (.bin .geq) (.slot 5) (.lit (.int .i64 0))) (.lit (.bool false))) (.n2 (.bin .neq) (.slot 5) (.slot 1)) (.lit (.bool false))),
    .asg 22 (.n3 .pick (.n3 .pick (.n2 (.bin .lss) (.slot 6) (.n1 .lensl (.slot 0))) (.n2 (.bin .geq) (.slot 5) (.lit (.int .i64 0))) (.lit (.bool false))) (.n2 (.bin .neq) (.slot 5) (.slot 1)) (.lit (.bool false)))])
  (.cond (.slot 22)
    .skip
    (.exit 0)))
  h18_2)
def h18_5 : HC :=
  (.seq
  (.reg [.need (.n2 (.bin .eql) (.slot 5) (.slot 1)),
    .asg 4 (.n2 (.bin .eql) (.slot 5) (.slot 1))])
  .ret)
def h18 : HC :=
  (.seq
  (.reg [.asg 4 (.lit (.bool false))])
  (.seq
  (.reg [.eff (some 9) (.call { callee := .value (.func 17), args := #[.tmp 7, .tmp 8], argTypes := #[22, 3] }) 3 [(7, .slot 0), (8, .slot 1)] none [],
    .asg 5 (.slot 9)])
  (.seq
  (.seq
  (.reg [.asg 6 (.lit (.int .i64 0))])
  (.block 0
    (.loop
      h18_1)))
  h18_5)))
theorem k18 : fnOK Try.prog 309241840243 [⟨5, [0, 0, 3, 7, 15, 0, 0, 96, 224, 480, 1023], [(0, []), (1, []), (2, []), (3, []), (4, []), (5, []), (6, []), (7, []), (8, []), (9, []), (10, [])], none⟩] [.tmp 4] 2 Try.f18 = some h18 := by kernel_rfl
theorem c18 : callable Try.prog 18 = true := by kernel_rfl
theorem q18 {args : List Value} (ha : args.length = 2) {w : World} {next : Value → World → Prop} {QP : List PanicEntry → World → Prop} (H : hw Try.prog noPanic h18 (endV [.tmp 4] next) (σ0 args) w) : callK Try.prog 18 args w next QP := fn_rule Try.func18 mixed k18 ha H
theorem r18 {args : List Value} (ha : args.length = 2) {w : World} {next : Value → World → Prop} {QP : List PanicEntry → World → Prop} (H : hw Try.prog noPanic h18 (endV [.tmp 4] next) (σ0 args) w) : callvK Try.prog (.func (.func 18) #[] #[]) args w next QP := callf c18 (q18 ha H)

/- missive/missivelaw21.circles -/
def h20_5 : HC :=
  (.reg [.eff (some 30) (.call { callee := .value (.func 17), args := #[.tmp 28, .tmp 29], argTypes := #[22, 3] }) 3 [(28, .slot 0), (29, .slot 4)] none [],
    .asg 4 (.slot 30)])
def h20_6 : HC :=
  (.reg [.need (.n2 (.bin .add) (.slot 5) (.lit (.int .i64 1))),
    .asg 5 (.n2 (.bin .add) (.slot 5) (.lit (.int .i64 1)))])
def h20_4 : HC :=
  (.seq
  (.block 3
    (.seq
    (.seq
    (.reg [.need (.n2 (.bin .eql) (.slot 4) (.slot 3)),
      .asg 27 (.n2 (.bin .eql) (.slot 4) (.slot 3))])
    (.cond (.slot 27)
      (.seq
      (.reg [.asg 2 (.lit (.bool true))])
      .ret)
      .skip))
    h20_5))
  h20_6)
def h20_3 : HC :=
  (.seq
  (.seq
  (.reg [.need (.n1 .lensl (.slot 0)),
    .need (.n2 (.bin .lss) (.slot 5) (.n1 .lensl (.slot 0))),
    .need (.gif (.n2 (.bin .lss) (.slot 5) (.n1 .lensl (.slot 0))) true (.n2 (.bin .geq) (.slot 4) (.lit (.int .i64 0)))),
    .need (.n3 .pick (.n2 (.bin .lss) (.slot 5) (.n1 .lensl (.slot 0))) (.n2 (.bin .geq) (.slot 4) (.lit (.int .i64 0))) (.lit (.bool false))),
    .asg 22 (.n3 .pick (.n2 (.bin .lss) (.slot 5) (.n1 .lensl (.slot 0))) (.n2 (.bin .geq) (.slot 4) (.lit (.int .i64 0))) (.lit (.bool false)))])
  (.cond (.slot 22)
    .skip
    (.exit 2)))
  h20_4)
def h20_7 : HC :=
  (.reg [.need (.n2 (.bin .add) (.slot 3) (.lit (.int .i64 1))),
    .asg 3 (.n2 (.bin .add) (.slot 3) (.lit (.int .i64 1)))])
def h20_2 : HC :=
  (.seq
  (.block 1
    (.seq
    (.reg [.eff (some 14) (.call { callee := .value (.func 17), args := #[.tmp 12, .tmp 13], argTypes := #[22, 3] }) 3 [(12, .slot 0), (13, .slot 3)] none [],
      .asg 4 (.slot 14)])
    (.seq
    (.reg [.asg 5 (.lit (.int .i64 0))])
    (.block 2
      (.loop
        h20_3)))))
  h20_7)
def h20_1 : HC :=
  (.seq
  (.seq
  (.reg [.need (.n1 .lensl (.slot 0)),
    .need (.n2 (.bin .lss) (.slot 3) (.n1 .lensl (.slot 0))),
    .asg 9 (.n2 (.bin .lss) (.slot 3) (.n1 .lensl (.slot 0)))])
  (.cond (.slot 9)
    .skip
    (.exit 0)))
  h20_2)
def h20_8 : HC :=
  (.seq
  (.reg [.asg 2 (.lit (.bool false))])
  .ret)
def h20 : HC :=
  (.seq
  (.reg [.asg 2 (.lit (.bool false))])
  (.seq
  (.seq
  (.reg [.asg 3 (.lit (.int .i64 0))])
  (.block 0
    (.loop
      h20_1)))
  h20_8))
theorem k20 : fnOK Try.prog 1212170813 [] [.tmp 2] 1 Try.f20 = some h20 := by kernel_rfl
theorem c20 : callable Try.prog 20 = true := by kernel_rfl
theorem q20 {args : List Value} (ha : args.length = 1) {w : World} {next : Value → World → Prop} {QP : List PanicEntry → World → Prop} (H : hw Try.prog noPanic h20 (endV [.tmp 2] next) (σ0 args) w) : callK Try.prog 20 args w next QP := fn_rule Try.func20 mixed k20 ha H
theorem r20 {args : List Value} (ha : args.length = 1) {w : World} {next : Value → World → Prop} {QP : List PanicEntry → World → Prop} (H : hw Try.prog noPanic h20 (endV [.tmp 2] next) (σ0 args) w) : callvK Try.prog (.func (.func 20) #[] #[]) args w next QP := callf c20 (q20 ha H)

end Go.Proofs.Y

/- TLa: thread: nodes compared; few; finding. -/
namespace Go.Proofs.Y
open Go Go.HL Go.Proofs

section
variable {w w' : World} {its : List It} {rvs : List Value} {next : Value → World → Prop} {QP : List PanicEntry → World → Prop}
/-! ### nodes compared -/
def nneqK (op : BinOp) (t : TypeId) (x y : Operand) (a b : Value) (w : World) (next : Value → World → Prop) (QP : List PanicEntry → World → Prop) : Prop := effUpon Try.prog next QP ((runV (do eqGuard op t x y a b; binOp op t a b)).run Try.prog w)
theorem f_nneq {op : BinOp} {t d ty : TypeId} {x y : Operand} {ρ : Operand → Value} : heff Try.prog (.binOp op t x y d) ty ρ w next QP = nneqK op t x y (ρ x) (ρ y) w next QP := rfl
attribute [local go_sem] f_nneq
theorem u29 : Try.prog.underlying 29 = some (.struct (Try.prog.fieldsOf 29)) := by kernel_rfl
theorem fields29 : (Try.prog.fieldsOf 29).toList.map (fun f => (f.name != "_", f.type, f.offset)) = [(true, 9, 0), (true, 4, 1), (true, 3, 2), (true, 3, 3)] := by kernel_rfl
theorem held29 : Try.prog.stoodInHeld 29 = false := by kernel_rfl
theorem guard29 : Try.prog.eqGuardType Try.prog.depth 29 = false := by kernel_rfl
theorem part1 {t off : Nat} {cs : Array Value} {v : Value} (ht : ∀ w, (isAgg t).run Try.prog w = .ok false w) (h : cs[off]? = some v) : (part t cs off).run Try.prog w = .ok v w := by
  simp [part, ht, h]
theorem ag9 : ∀ w : World, (isAgg 9).run Try.prog w = .ok false w := fun w => by unfold isAgg; simp [run_underlying u9]
theorem u4 : Try.prog.underlying 4 = some .bool := by kernel_rfl
theorem ag4 : ∀ w : World, (isAgg 4).run Try.prog w = .ok false w := fun w => by unfold isAgg; simp [run_underlying u4]
theorem ag3 : ∀ w : World, (isAgg 3).run Try.prog w = .ok false w := fun w => by unfold isAgg; simp [run_underlying u3]
theorem strEq (a b : Bytes) : ((ByteArray.mk a.toArray).toList == (ByteArray.mk b.toArray).toList) = decide (a = b) := by
  rw [ByteArray.toList_eq, ByteArray.toList_eq]
  show (a == b) = decide (a = b)
  cases h : a == b
  · have : a ≠ b := by simpa using h
    simp [this]
  · have : a = b := by simpa using h
    simp [this]
theorem nneq_ {x y : Operand} (a b : Nd) (k : next (.bool (!decide (a = b))) w) : nneqK .neq 29 x y (.agg a.cells.toArray) (.agg b.cells.toArray) w next QP := by
  refine eff_value (v := .bool (!decide (a = b))) (w' := w) ?_ k
  rw [Sem.run_bind, run_eqGuard_agg w _ _ _ _ _ _ guard29]
  simp only [Result.andThen_ok]
  rw [run_neq_struct, run_equalIn_struct w 9999 29 _ _ u29 held29]
  have hf := fields29
  generalize (Try.prog.fieldsOf 29).toList = fs at hf
  have hl := congrArg List.length hf
  rcases fs with _ | ⟨f1, _ | ⟨f2, _ | ⟨f3, _ | ⟨f4, _ | ⟨f5, r⟩⟩⟩⟩⟩ <;> first | (exfalso; simp at hl; done) | skip
  · skip
    simp only [List.map_cons, List.map_nil, List.cons.injEq, Prod.mk.injEq, and_true, bne_iff_ne, ne_eq] at hf
    obtain ⟨⟨n1, t1, o1⟩, ⟨n2, t2, o2⟩, ⟨n3, t3, o3⟩, n4, t4, o4⟩ := hf
    have e1 : ∀ w : World, (Op.eqFields 9999 a.cells.toArray b.cells.toArray [f1, f2, f3, f4]).run Try.prog w = .ok (decide (a = b)) w := by
      intro w
      simp only [Op.eqFields, ne_eq, n1, n2, n3, n4, not_false_eq_true, if_true, Sem.run_bind, t1, t2, t3, t4, o1, o2, o3, o4]
      rw [part1 ag9 (show a.cells.toArray[0]? = some (str a.id) from rfl)]
      simp only [Result.andThen_ok]
      rw [part1 ag9 (show b.cells.toArray[0]? = some (str b.id) from rfl)]
      simp only [Result.andThen_ok, str]
      rw [run_equalIn_string w 9998 9 _ _ u9, strEq]
      simp only [Result.andThen_ok]
      obtain ⟨i1, g1, p1, d1⟩ := a
      obtain ⟨i2, g2, p2, d2⟩ := b
      by_cases hi : i1 = i2
      · subst hi
        simp only [decide_true, Bool.not_true, Bool.false_eq_true, if_false, Sem.run_bind]
        rw [part1 ag4 (show _ = some (Value.bool g1) from rfl)]
        simp only [Result.andThen_ok]
        rw [part1 ag4 (show _ = some (Value.bool g2) from rfl)]
        simp only [Result.andThen_ok]
        rw [run_equalIn_bool' w 9998 4 _ _ u4]
        simp only [Result.andThen_ok]
        by_cases hg : g1 = g2
        · subst hg
          simp only [beq_self_eq_true, Bool.not_true, Bool.false_eq_true, if_false, Sem.run_bind]
          rw [part1 ag3 (show _ = some (Value.int .i64 p1) from rfl)]
          simp only [Result.andThen_ok]
          rw [part1 ag3 (show _ = some (Value.int .i64 p2) from rfl)]
          simp only [Result.andThen_ok]
          rw [run_equalIn_int w 9998 3 .i64 .i64 _ _ u3]
          simp only [Result.andThen_ok]
          by_cases hp : p1 = p2
          · subst hp
            simp only [beq_self_eq_true, Bool.not_true, Bool.false_eq_true, if_false, Sem.run_bind]
            rw [part1 ag3 (show _ = some (Value.int .i64 d1) from rfl)]
            simp only [Result.andThen_ok]
            rw [part1 ag3 (show _ = some (Value.int .i64 d2) from rfl)]
            simp only [Result.andThen_ok]
            rw [run_equalIn_int w 9998 3 .i64 .i64 _ _ u3]
            simp only [Result.andThen_ok]
            by_cases hdd : d1 = d2
            · subst hdd; simp
            · simp [hdd]
          · simp [hp]
        · have : (g1 == g2) = false := by simpa using hg
          simp [this, hg]
      · simp [hi]
    rw [e1 w]
    simp
/-- lists of nodes compared -/
theorem same_ {va vb : Value} {a b : List Nd} (ha : Sl w va 4 a.length (rows Nd.cells a)) (hb : Sl w vb 4 b.length (rows Nd.cells b)) (hn : a.length ≤ 1000000) (k : ∀ w', Mod none' w w' → next (.bool (decide (a = b))) w') :
    callvK Try.prog (.func (.func 21) #[] #[]) [va, vb] w next QP := by
  refine r21 rfl ?_
  obtain ⟨aa, ac, rfl, -, -⟩ := ha.form
  obtain ⟨ba, bc, rfl, -, -⟩ := hb.form
  unfold h21
  try simp only [go_sem]
  by_cases hl : a.length = b.length
  · have e1 : (!decide ((a.length : Int) = (b.length : Int))) = false := by simp [hl]
    try simp only [go_sem, e1]
    unfold h21_1
    try simp only [go_sem]
    refine loopN a.length (fun i τ w' => τ 0 = .slice aa a.length ac ∧ τ 1 = .slice ba b.length bc ∧ τ 5 = .int .i64 i ∧ (∀ j, j < i → a[j]? = b[j]?) ∧ Mod none' w w') ⟨0, by omega, rfl, rfl, rfl, fun j hj => by omega, Mod.refl _ _⟩ ?_
    rintro i τ w1 hi ⟨t0, t1, t5, hsm, m1⟩
    unfold h21_2
    try simp only [go_sem, t0, t1, t5]
    refine ⟨fun hlt => ?_, fun hge => ?_⟩
    · have hil : i < a.length := by
        have := of_decide_eq_true hlt
        omega
      obtain ⟨ga, oa, ca, ea, -, hca⟩ := (ha.mod m1 fun _ _ h => h).get Nd.len rfl (by omega)
      obtain ⟨gb, ob, cb, eb, -, hcb⟩ := (hb.mod m1 fun _ _ h => h).get Nd.len rfl (by omega)
      simp only [Value.slice.injEq] at ea eb
      obtain ⟨rfl, -, rfl⟩ := ea
      obtain ⟨rfl, -, rfl⟩ := eb
      have y1 : loadN w1 ⟨ga, oa + i * 4, none⟩ 4 = a[i].cells.toArray := loadN_of rfl fun j hj => by rw [e_add]; exact hca i j hil hj
      have y2 : (∀ j, j < 4 → (w1.cell? ⟨ga, oa + i * 4 + j, none⟩).isSome = true) = True := eq_true fun j hj => by rw [hca i j hil hj]; simp [Nd.cells, hj]
      have z1 : loadN w1 ⟨gb, ob + i * 4, none⟩ 4 = b[i].cells.toArray := loadN_of rfl fun j hj => by rw [e_add]; exact hcb i j (by omega) hj
      have z2 : (∀ j, j < 4 → (w1.cell? ⟨gb, ob + i * 4 + j, none⟩).isSome = true) = True := eq_true fun j hj => by rw [hcb i j (by omega) hj]; simp [Nd.cells, hj]
      unfold h21_3
      try simp only [go_sem, t0, t1, t5, y1, y2, z1, z2]
      repeat refine ⟨⟨by omega, by omega⟩, ?_⟩
      refine nneq_ a[i] b[i] ?_
      try simp only [go_sem, t0, t1, t5]
      refine ⟨fun hne => ?_, fun heq => ?_⟩
      · have hne : a[i] ≠ b[i] := by simpa using hne
        have := k w1.drew (m1.trans' (Mod.drew _ _))
        rw [show decide (a = b) = false from decide_eq_false fun e => hne (by simp [e])] at this
        exact this
      · have heq : a[i] = b[i] := by simpa using heq
        unfold h21_4
        try simp only [go_sem, t0, t1, t5]
        rw [w64 (by omega) (by omega)]
        have m2 := m1.trans' (Mod.drew none' w1)
        have hsm2 : ∀ j, j < i + 1 → a[j]? = b[j]? := by
          intro j hj
          by_cases e : j = i
          · subst e
            rw [List.getElem?_eq_getElem hil, List.getElem?_eq_getElem (by omega), heq]
          · exact hsm j (by omega)
        refine ⟨i + 1, by omega, by omega, ?_⟩
        (repeat' first | assumption | rfl | omega | apply And.intro)
    · have hil : i = a.length := by
        have := of_decide_eq_false hge
        omega
      subst hil
      have e : a = b := by
        apply List.ext_getElem?
        intro j
        by_cases hj : j < a.length
        · exact hsm j hj
        · rw [List.getElem?_eq_none (by omega), List.getElem?_eq_none (by omega)]
      have := k w1 m1
      rw [show decide (a = b) = true from decide_eq_true e] at this
      unfold h21_5
      try simp only [go_sem]
      exact this
  · have e1 : (!decide ((a.length : Int) = (b.length : Int))) = true := by
      have : ¬ ((a.length : Int) = (b.length : Int)) := by omega
      simp [this]
    try simp only [go_sem, e1]
    have := k w (Mod.refl _ _)
    rw [show decide (a = b) = false from decide_eq_false fun e => hl (by rw [e])] at this
    exact this
end
end Go.Proofs.Y
