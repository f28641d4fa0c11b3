/- the functions of the program as code over named slots, printed by hl.py -/
import Derived.Test.YtgalileklafbbaaYCode
set_option linter.unusedSimpArgs false
set_option linter.unusedVariables false
set_option maxRecDepth 100000
set_option maxRecDepth 100000
namespace Go.Proofs.Y
open Go Go.HL Go.Proofs
/- missive/missivelaw05.DiskTells -/
def h8_4 : HC :=
  (.seq
  (.reg [.eff (some 50) (.call { callee := .value (.func 18), args := #[.tmp 49, .const (.int .i64 0), .const (.int .i64 0), .const (str [103, 111, 110, 101])], argTypes := #[24, 3, 3, 9] }) 26 [(49, .slot 4)] none []])
  (.seq
  (.reg [.eff (some 52) (.call { callee := .value (.func 21), args := #[.tmp 51, .const (.slice none 0 0)], argTypes := #[24, 22] }) 0 [(51, .slot 4)] none []])
  (.seq
  (.reg [.asg 4 (.slot 7)])
  (.reg [.eff (some 55) (.call { callee := .value (.func 36), args := #[.tmp 54], argTypes := #[51] }) 51 [(54, .slot 5)] none [],
    .asg 5 (.slot 55)]))))
def l8_6 : List HS :=
  .need (.gif (.n3 .pick (.n3 .pick (.n2 (.sbin .neq) (.slot 8) (.slot 10)) (.lit (.bool true)) (.n2 (.bin .neq) (.slot 9) (.slot 11))) (.lit (.bool true)) (.n2 (.beq true) (.slot 84) (.slot 86))) false (.n2 (.bin .neq) (.slot 96) (.slot 103))) ::
  .need (.n3 .pick (.n3 .pick (.n3 .pick (.n2 (.sbin .neq) (.slot 8) (.slot 10)) (.lit (.bool true)) (.n2 (.bin .neq) (.slot 9) (.slot 11))) (.lit (.bool true)) (.n2 (.beq true) (.slot 84) (.slot 86))) (.lit (.bool true)) (.n2 (.bin .neq) (.slot 96) (.slot 103))) ::
  .asg 105 (.n3 .pick (.n3 .pick (.n3 .pick (.n2 (.sbin .neq) (.slot 8) (.slot 10)) (.lit (.bool true)) (.n2 (.bin .neq) (.slot 9) (.slot 11))) (.lit (.bool true)) (.n2 (.beq true) (.slot 84) (.slot 86))) (.lit (.bool true)) (.n2 (.bin .neq) (.slot 96) (.slot 103))) ::
  []
def l8_7 : List HS :=
  .eff (some 103) (.call { callee := .value (.func 39), args := #[.tmp 97, .tmp 102], argTypes := #[51, 3] }) 3 [(97, .slot 5), (102, .slot 102)] (some (.n3 .pick (.n3 .pick (.n2 (.sbin .neq) (.slot 8) (.slot 10)) (.lit (.bool true)) (.n2 (.bin .neq) (.slot 9) (.slot 11))) (.lit (.bool true)) (.n2 (.beq true) (.slot 84) (.slot 86)), false)) [] ::
  l8_6
def l8_8 : List HS :=
  .need (.gif (.n3 .pick (.n2 (.sbin .neq) (.slot 8) (.slot 10)) (.lit (.bool true)) (.n2 (.bin .neq) (.slot 9) (.slot 11))) false (.n2 (.beq true) (.slot 84) (.slot 86))) ::
  .need (.n3 .pick (.n3 .pick (.n2 (.sbin .neq) (.slot 8) (.slot 10)) (.lit (.bool true)) (.n2 (.bin .neq) (.slot 9) (.slot 11))) (.lit (.bool true)) (.n2 (.beq true) (.slot 84) (.slot 86))) ::
  .need (.gif (.n3 .pick (.n3 .pick (.n2 (.sbin .neq) (.slot 8) (.slot 10)) (.lit (.bool true)) (.n2 (.bin .neq) (.slot 9) (.slot 11))) (.lit (.bool true)) (.n2 (.beq true) (.slot 84) (.slot 86))) false (.n2 (.iaddr 6) (.slot 0) (.slot 6))) ::
  .need (.gif (.n3 .pick (.n3 .pick (.n2 (.sbin .neq) (.slot 8) (.slot 10)) (.lit (.bool true)) (.n2 (.bin .neq) (.slot 9) (.slot 11))) (.lit (.bool true)) (.n2 (.beq true) (.slot 84) (.slot 86))) false (.n1 (.faddr 1) (.n2 (.iaddr 6) (.slot 0) (.slot 6)))) ::
  .need (.gif (.n3 .pick (.n3 .pick (.n2 (.sbin .neq) (.slot 8) (.slot 10)) (.lit (.bool true)) (.n2 (.bin .neq) (.slot 9) (.slot 11))) (.lit (.bool true)) (.n2 (.beq true) (.slot 84) (.slot 86))) false (.n1 .ld (.n1 (.faddr 1) (.n2 (.iaddr 6) (.slot 0) (.slot 6))))) ::
  .need (.gif (.n3 .pick (.n3 .pick (.n2 (.sbin .neq) (.slot 8) (.slot 10)) (.lit (.bool true)) (.n2 (.bin .neq) (.slot 9) (.slot 11))) (.lit (.bool true)) (.n2 (.beq true) (.slot 84) (.slot 86))) false (.n2 (.iaddr 6) (.slot 0) (.slot 6))) ::
  .need (.gif (.n3 .pick (.n3 .pick (.n2 (.sbin .neq) (.slot 8) (.slot 10)) (.lit (.bool true)) (.n2 (.bin .neq) (.slot 9) (.slot 11))) (.lit (.bool true)) (.n2 (.beq true) (.slot 84) (.slot 86))) false (.n1 (.faddr 1) (.n2 (.iaddr 6) (.slot 0) (.slot 6)))) ::
  .need (.gif (.n3 .pick (.n3 .pick (.n2 (.sbin .neq) (.slot 8) (.slot 10)) (.lit (.bool true)) (.n2 (.bin .neq) (.slot 9) (.slot 11))) (.lit (.bool true)) (.n2 (.beq true) (.slot 84) (.slot 86))) false (.n1 .ld (.n1 (.faddr 1) (.n2 (.iaddr 6) (.slot 0) (.slot 6))))) ::
  .asg 102 (.gif (.n3 .pick (.n3 .pick (.n2 (.sbin .neq) (.slot 8) (.slot 10)) (.lit (.bool true)) (.n2 (.bin .neq) (.slot 9) (.slot 11))) (.lit (.bool true)) (.n2 (.beq true) (.slot 84) (.slot 86))) false (.n1 .ld (.n1 (.faddr 1) (.n2 (.iaddr 6) (.slot 0) (.slot 6))))) ::
  .eff (some 96) (.call { callee := .value (.func 24), args := #[.tmp 90, .tmp 95], argTypes := #[24, 3] }) 3 [(90, .slot 4), (95, .n1 .ld (.n1 (.faddr 1) (.n2 (.iaddr 6) (.slot 0) (.slot 6))))] (some (.n3 .pick (.n3 .pick (.n2 (.sbin .neq) (.slot 8) (.slot 10)) (.lit (.bool true)) (.n2 (.bin .neq) (.slot 9) (.slot 11))) (.lit (.bool true)) (.n2 (.beq true) (.slot 84) (.slot 86)), false)) [⟨(some (.n3 .pick (.n3 .pick (.n2 (.sbin .neq) (.slot 8) (.slot 10)) (.lit (.bool true)) (.n2 (.bin .neq) (.slot 9) (.slot 11))) (.lit (.bool true)) (.n2 (.beq true) (.slot 84) (.slot 86)), false)), .ld, .n1 (.faddr 1) (.n2 (.iaddr 6) (.slot 0) (.slot 6))⟩] ::
  l8_7
def l8_9 : List HS :=
  .eff (some 86) (.call { callee := .value (.func 38), args := #[.tmp 85], argTypes := #[51] }) 4 [(85, .slot 5)] (some (.n3 .pick (.n2 (.sbin .neq) (.slot 8) (.slot 10)) (.lit (.bool true)) (.n2 (.bin .neq) (.slot 9) (.slot 11)), false)) [] ::
  l8_8
def h8_10 : HC :=
  (.cond (.slot 105)
    (.seq
    (.reg [.asg 2 (.lit (.bool false))])
    .ret)
    .skip)
def h8_5 : HC :=
  (.seq
  (.reg [.need (.n2 (.iaddr 6) (.slot 0) (.slot 6)),
    .need (.n1 (.ldn 6) (.n2 (.iaddr 6) (.slot 0) (.slot 6))),
    .eff (some 62) (.call { callee := .value (.func 29), args := #[.tmp 57, .tmp 61], argTypes := #[24, 42] }) 31 [(57, .slot 4), (61, .n1 (.ldn 6) (.n2 (.iaddr 6) (.slot 0) (.slot 6)))] none [],
    .need (.n1 (.ext 0) (.slot 62)),
    .need (.n1 (.ext 1) (.slot 62)),
    .asg 8 (.n1 (.ext 0) (.slot 62)),
    .asg 9 (.n1 (.ext 1) (.slot 62))])
  (.seq
  (.reg [.need (.n2 (.iaddr 6) (.slot 0) (.slot 6)),
    .need (.n1 (.ldn 6) (.n2 (.iaddr 6) (.slot 0) (.slot 6))),
    .eff (some 71) (.call { callee := .value (.func 37), args := #[.tmp 66, .tmp 70], argTypes := #[51, 42] }) 31 [(66, .slot 5), (70, .n1 (.ldn 6) (.n2 (.iaddr 6) (.slot 0) (.slot 6)))] none [],
    .need (.n1 (.ext 0) (.slot 71)),
    .need (.n1 (.ext 1) (.slot 71)),
    .asg 10 (.n1 (.ext 0) (.slot 71)),
    .asg 11 (.n1 (.ext 1) (.slot 71))])
  (.seq
  (.draw (.need (.n2 (.sbin .neq) (.slot 8) (.slot 10)) ::
    .need (.gif (.n2 (.sbin .neq) (.slot 8) (.slot 10)) false (.n2 (.bin .neq) (.slot 9) (.slot 11))) ::
    .need (.n3 .pick (.n2 (.sbin .neq) (.slot 8) (.slot 10)) (.lit (.bool true)) (.n2 (.bin .neq) (.slot 9) (.slot 11))) ::
    .eff (some 84) (.call { callee := .value (.func 27), args := #[.tmp 83], argTypes := #[24] }) 4 [(83, .slot 4)] (some (.n3 .pick (.n2 (.sbin .neq) (.slot 8) (.slot 10)) (.lit (.bool true)) (.n2 (.bin .neq) (.slot 9) (.slot 11)), false)) [] ::
    l8_9))
  h8_10)))
def h8_11 : HC :=
  (.reg [.need (.n2 (.bin .add) (.slot 6) (.lit (.int .i64 1))),
    .asg 6 (.n2 (.bin .add) (.slot 6) (.lit (.int .i64 1)))])
def h8_3 : HC :=
  (.seq
  (.block 1
    (.seq
    (.seq
    (.reg [.need (.n2 (.iaddr 6) (.slot 0) (.slot 6)),
      .need (.n1 (.faddr 0) (.n2 (.iaddr 6) (.slot 0) (.slot 6))),
      .need (.n1 .ld (.n1 (.faddr 0) (.n2 (.iaddr 6) (.slot 0) (.slot 6)))),
      .eff (some 43) (.call { callee := .value (.func 28), args := #[.tmp 42], argTypes := #[3] }) 3 [(42, .n1 .ld (.n1 (.faddr 0) (.n2 (.iaddr 6) (.slot 0) (.slot 6))))] none [],
      .need (.n2 (.bin .eql) (.slot 43) (.lit (.int .i64 9))),
      .asg 44 (.n2 (.bin .eql) (.slot 43) (.lit (.int .i64 9)))])
    (.cond (.slot 44)
      (.seq
      (.reg [.eff (some 46) (.call { callee := .value (.func 34), args := #[.tmp 45], argTypes := #[24] }) 24 [(45, .slot 4)] none [],
        .asg 7 (.slot 46)])
      (.seq
      (.seq
      (.reg [.need (.n2 (.pnil false) (.slot 7) (.lit (.pointer none))),
        .asg 48 (.n2 (.pnil false) (.slot 7) (.lit (.pointer none)))])
      (.cond (.slot 48)
        (.seq
        (.reg [.asg 2 (.lit (.bool false))])
        .ret)
        .skip))
      h8_4))
      .skip))
    h8_5))
  h8_11)
def h8_2 : HC :=
  (.seq
  (.seq
  (.reg [.need (.n1 .lensl (.slot 0)),
    .need (.n2 (.bin .lss) (.slot 6) (.n1 .lensl (.slot 0))),
    .asg 35 (.n2 (.bin .lss) (.slot 6) (.n1 .lensl (.slot 0)))])
  (.cond (.slot 35)
    .skip
    (.exit 0)))
  h8_3)
def h8_15 : HC :=
  (.reg [.need (.n2 (.bin .add) (.slot 12) (.lit (.int .i64 1))),
    .asg 12 (.n2 (.bin .add) (.slot 12) (.lit (.int .i64 1)))])
def h8_14 : HC :=
  (.seq
  (.block 3
    (.seq
    (.reg [.eff (some 117) (.call { callee := .value (.func 23), args := #[.tmp 115, .tmp 116], argTypes := #[24, 3] }) 31 [(115, .slot 4), (116, .slot 12)] none [],
      .need (.n1 (.ext 0) (.slot 117)),
      .need (.n1 (.ext 1) (.slot 117)),
      .asg 13 (.n1 (.ext 0) (.slot 117)),
      .asg 14 (.n1 (.ext 1) (.slot 117))])
    (.seq
    (.reg [.eff (some 123) (.call { callee := .value (.func 41), args := #[.tmp 121, .tmp 122], argTypes := #[51, 3] }) 31 [(121, .slot 5), (122, .slot 12)] none [],
      .need (.n1 (.ext 0) (.slot 123)),
      .need (.n1 (.ext 1) (.slot 123)),
      .asg 15 (.n1 (.ext 0) (.slot 123))])
    (.seq
    (.reg [.need (.n2 (.sbin .neq) (.slot 13) (.slot 15)),
      .need (.gif (.n2 (.sbin .neq) (.slot 13) (.slot 15)) false (.n2 (.bin .neq) (.slot 14) (.lit (.int .i64 0)))),
      .need (.n3 .pick (.n2 (.sbin .neq) (.slot 13) (.slot 15)) (.lit (.bool true)) (.n2 (.bin .neq) (.slot 14) (.lit (.int .i64 0)))),
      .asg 132 (.n3 .pick (.n2 (.sbin .neq) (.slot 13) (.slot 15)) (.lit (.bool true)) (.n2 (.bin .neq) (.slot 14) (.lit (.int .i64 0))))])
    (.cond (.slot 132)
      (.seq
      (.reg [.asg 2 (.lit (.bool false))])
      .ret)
      .skip)))))
  h8_15)
def h8_13 : HC :=
  (.seq
  (.seq
  (.reg [.need (.n2 (.bin .lss) (.slot 12) (.lit (.int .i64 12))),
    .asg 111 (.n2 (.bin .lss) (.slot 12) (.lit (.int .i64 12)))])
  (.cond (.slot 111)
    .skip
    (.exit 2)))
  h8_14)
def h8_16 : HC :=
  (.seq
  (.reg [.asg 2 (.slot 3)])
  .ret)
def h8_12 : HC :=
  (.seq
  (.reg [.eff (some 107) (.call { callee := .value (.func 22), args := #[.tmp 106], argTypes := #[24] }) 0 [(106, .slot 4)] none []])
  (.seq
  (.reg [.eff (some 109) (.call { callee := .value (.func 40), args := #[.tmp 108], argTypes := #[51] }) 0 [(108, .slot 5)] none []])
  (.seq
  (.seq
  (.reg [.asg 12 (.lit (.int .i64 0))])
  (.block 2
    (.loop
      h8_13)))
  h8_16)))
def h8_1 : HC :=
  (.seq
  (.reg [.eff (some 31) (.call { callee := .value (.func 35), args := #[], argTypes := #[] }) 51 [] none [],
    .asg 5 (.slot 31)])
  (.seq
  (.seq
  (.reg [.asg 6 (.lit (.int .i64 0))])
  (.block 0
    (.loop
      h8_2)))
  h8_12))
def h8 : HC :=
  (.seq
  (.reg [.asg 2 (.lit (.bool false))])
  (.seq
  (.reg [.eff (some 17) (.call { callee := .value (.func 16), args := #[], argTypes := #[] }) 4 [] none [],
    .asg 3 (.slot 17)])
  (.seq
  (.reg [.eff (some 18) (.call { callee := .value (.func 17), args := #[], argTypes := #[] }) 24 [] none [],
    .asg 4 (.slot 18)])
  (.seq
  (.seq
  (.reg [.eff (some 20) (.call { callee := .value (.func 26), args := #[.tmp 19], argTypes := #[38] }) 4 [(19, .slot 0)] none [],
    .need (.n1 .bnot (.slot 20)),
    .need (.gif (.n1 .bnot (.slot 20)) false (.n2 (.pnil false) (.slot 4) (.lit (.pointer none)))),
    .need (.n3 .pick (.n1 .bnot (.slot 20)) (.lit (.bool true)) (.n2 (.pnil false) (.slot 4) (.lit (.pointer none)))),
    .asg 25 (.n3 .pick (.n1 .bnot (.slot 20)) (.lit (.bool true)) (.n2 (.pnil false) (.slot 4) (.lit (.pointer none))))])
  (.cond (.slot 25)
    (.seq
    (.reg [.need (.gif (.slot 3) true (.n2 (.pnil true) (.slot 4) (.lit (.pointer none)))),
      .need (.n3 .pick (.slot 3) (.n2 (.pnil true) (.slot 4) (.lit (.pointer none))) (.lit (.bool false))),
      .asg 2 (.n3 .pick (.slot 3) (.n2 (.pnil true) (.slot 4) (.lit (.pointer none))) (.lit (.bool false)))])
    .ret)
    .skip))
  h8_1))))
theorem k8 : fnOK Try.prog 5455321311501532559349732512212092125181 [⟨19, [0, 0, 3, 7, 15, 15, 63, 127, 255, 511, 1023, 511, 4095, 8191, 16383, 32767, 65535, 65535, 65535, 458751, 983039, 2031615, 4194303, 65535, 65535, 65535, 50397183, 117506047, 251723775, 536870911, 1073741823, 2147483647], [(0, []), (1, []), (2, []), (3, []), (4, []), (5, []), (6, []), (7, []), (8, []), (9, []), (11, []), (10, []), (12, []), (13, []), (14, []), (15, []), (16, []), (17, []), (18, []), (19, []), (20, []), (21, []), (23, []), (24, []), (25, []), (26, []), (27, []), (28, []), (22, [28]), (29, []), (30, []), (31, [])], none⟩] [.tmp 2] 1 Try.f8 = some h8 := by kernel_rfl
theorem c8 : callable Try.prog 8 = true := by kernel_rfl
theorem q8 {args : List Value} (ha : args.length = 1) {w : World} {next : Value → World → Prop} {QP : List PanicEntry → World → Prop} (H : hw Try.prog noPanic h8 (endV [.tmp 2] next) (σ0 args) w) : callK Try.prog 8 args w next QP := fn_rule Try.func8 mixed k8 ha H
theorem r8 {args : List Value} (ha : args.length = 1) {w : World} {next : Value → World → Prop} {QP : List PanicEntry → World → Prop} (H : hw Try.prog noPanic h8 (endV [.tmp 2] next) (σ0 args) w) : callvK Try.prog (.func (.func 8) #[] #[]) args w next QP := callf c8 (q8 ha H)

/- missive/missiveref05.New -/
def h35 : HC :=
  (.seq
  (.reg [.asg 0 (.lit (.pointer none))])
  (.seq
  (.reg [.eff (some 1) (.makeSlice 40 (.const (.int .i64 12)) (.const (.int .i64 12))) 40 [] none [],
    .need (.n2 (.put 0 1) (.lit (.agg #[(.slice none 0 0), (.slice none 0 0), (.int .i64 0), (.bool false), (.int .i64 0), (.slice none 0 0)])) (.slot 1)),
    .eff (some 3) (.box 99 (.tmp 2)) 51 [(2, .n2 (.put 0 1) (.lit (.agg #[(.slice none 0 0), (.slice none 0 0), (.int .i64 0), (.bool false), (.int .i64 0), (.slice none 0 0)])) (.slot 1))] none [],
    .asg 0 (.slot 3)])
  .ret))
theorem k35 : fnOK Try.prog 11 [] [.tmp 0] 0 Try.f35 = some h35 := by kernel_rfl
theorem c35 : callable Try.prog 35 = true := by kernel_rfl
theorem q35 {args : List Value} (ha : args.length = 0) {w : World} {next : Value → World → Prop} {QP : List PanicEntry → World → Prop} (H : hw Try.prog noPanic h35 (endV [.tmp 0] next) (σ0 args) w) : callK Try.prog 35 args w next QP := fn_rule Try.func35 mixed k35 ha H
theorem r35 {args : List Value} (ha : args.length = 0) {w : World} {next : Value → World → Prop} {QP : List PanicEntry → World → Prop} (H : hw Try.prog noPanic h35 (endV [.tmp 0] next) (σ0 args) w) : callvK Try.prog (.func (.func 35) #[] #[]) args w next QP := callf c35 (q35 ha H)

/- (*missive/missiveref05.Disk).Copy -/
def t36_4 : HT :=
  (.run [.eff (some 14) (.call { callee := .builtin .append, args := #[.tmp 9, .tmp 13], argTypes := #[97, 97] }) 97 [(9, .slot 9), (13, .slot 13)] none [⟨none, .ld, .n1 (.faddr 0) (.n1 .nilchk (.slot 0))⟩, ⟨none, .ld, .n1 (.faddr 1) (.n1 .nilchk (.slot 0))⟩, ⟨none, .ld, .n1 (.faddr 2) (.n1 .nilchk (.slot 0))⟩, ⟨none, .ld, .n1 (.faddr 3) (.n1 .nilchk (.slot 0))⟩, ⟨none, .ld, .n1 (.faddr 4) (.n1 .nilchk (.slot 0))⟩, ⟨none, .ld, .n1 (.faddr 5) (.n1 .nilchk (.slot 0))⟩],
    .eff (some 27) (.buildSlice 22 0 #[]) 22 [] none [⟨none, .ld, .n1 (.faddr 0) (.n1 .nilchk (.slot 0))⟩, ⟨none, .ld, .n1 (.faddr 1) (.n1 .nilchk (.slot 0))⟩, ⟨none, .ld, .n1 (.faddr 2) (.n1 .nilchk (.slot 0))⟩, ⟨none, .ld, .n1 (.faddr 3) (.n1 .nilchk (.slot 0))⟩, ⟨none, .ld, .n1 (.faddr 4) (.n1 .nilchk (.slot 0))⟩, ⟨none, .ld, .n1 (.faddr 5) (.n1 .nilchk (.slot 0))⟩],
    .eff (some 32) (.call { callee := .builtin .append, args := #[.tmp 27, .tmp 31], argTypes := #[22, 22] }) 22 [(27, .slot 27), (31, .slot 31)] none [⟨none, .ld, .n1 (.faddr 2) (.n1 .nilchk (.slot 0))⟩, ⟨none, .ld, .n1 (.faddr 3) (.n1 .nilchk (.slot 0))⟩, ⟨none, .ld, .n1 (.faddr 4) (.n1 .nilchk (.slot 0))⟩],
    .need (.n2 (.put 0 1) (.lit (.agg #[(.slice none 0 0), (.slice none 0 0), (.int .i64 0), (.bool false), (.int .i64 0), (.slice none 0 0)])) (.slot 8)),
    .need (.n2 (.put 1 1) (.n2 (.put 0 1) (.lit (.agg #[(.slice none 0 0), (.slice none 0 0), (.int .i64 0), (.bool false), (.int .i64 0), (.slice none 0 0)])) (.slot 8)) (.slot 14)),
    .need (.n2 (.put 2 1) (.n2 (.put 1 1) (.n2 (.put 0 1) (.lit (.agg #[(.slice none 0 0), (.slice none 0 0), (.int .i64 0), (.bool false), (.int .i64 0), (.slice none 0 0)])) (.slot 8)) (.slot 14)) (.slot 18)),
    .need (.n2 (.put 3 1) (.n2 (.put 2 1) (.n2 (.put 1 1) (.n2 (.put 0 1) (.lit (.agg #[(.slice none 0 0), (.slice none 0 0), (.int .i64 0), (.bool false), (.int .i64 0), (.slice none 0 0)])) (.slot 8)) (.slot 14)) (.slot 18)) (.slot 22)),
    .need (.n2 (.put 4 1) (.n2 (.put 3 1) (.n2 (.put 2 1) (.n2 (.put 1 1) (.n2 (.put 0 1) (.lit (.agg #[(.slice none 0 0), (.slice none 0 0), (.int .i64 0), (.bool false), (.int .i64 0), (.slice none 0 0)])) (.slot 8)) (.slot 14)) (.slot 18)) (.slot 22)) (.slot 26)),
    .need (.n2 (.put 5 1) (.n2 (.put 4 1) (.n2 (.put 3 1) (.n2 (.put 2 1) (.n2 (.put 1 1) (.n2 (.put 0 1) (.lit (.agg #[(.slice none 0 0), (.slice none 0 0), (.int .i64 0), (.bool false), (.int .i64 0), (.slice none 0 0)])) (.slot 8)) (.slot 14)) (.slot 18)) (.slot 22)) (.slot 26)) (.slot 32)),
    .eff (some 34) (.box 99 (.tmp 33)) 51 [(33, .n2 (.put 5 1) (.n2 (.put 4 1) (.n2 (.put 3 1) (.n2 (.put 2 1) (.n2 (.put 1 1) (.n2 (.put 0 1) (.lit (.agg #[(.slice none 0 0), (.slice none 0 0), (.int .i64 0), (.bool false), (.int .i64 0), (.slice none 0 0)])) (.slot 8)) (.slot 14)) (.slot 18)) (.slot 22)) (.slot 26)) (.slot 32))] none [],
    .asg 2 (.slot 34)]
  .fin)
def t36_5 : HT :=
  (.run [.eff (some 27) (.buildSlice 22 0 #[]) 22 [] none [⟨none, .ld, .n1 (.faddr 0) (.n1 .nilchk (.slot 0))⟩, ⟨none, .ld, .n1 (.faddr 1) (.n1 .nilchk (.slot 0))⟩, ⟨none, .ld, .n1 (.faddr 2) (.n1 .nilchk (.slot 0))⟩, ⟨none, .ld, .n1 (.faddr 3) (.n1 .nilchk (.slot 0))⟩, ⟨none, .ld, .n1 (.faddr 4) (.n1 .nilchk (.slot 0))⟩, ⟨none, .ld, .n1 (.faddr 5) (.n1 .nilchk (.slot 0))⟩],
    .eff (some 14) (.call { callee := .builtin .append, args := #[.tmp 9, .tmp 13], argTypes := #[97, 97] }) 97 [(9, .slot 9), (13, .slot 13)] none [⟨none, .ld, .n1 (.faddr 2) (.n1 .nilchk (.slot 0))⟩, ⟨none, .ld, .n1 (.faddr 3) (.n1 .nilchk (.slot 0))⟩, ⟨none, .ld, .n1 (.faddr 4) (.n1 .nilchk (.slot 0))⟩, ⟨none, .ld, .n1 (.faddr 5) (.n1 .nilchk (.slot 0))⟩],
    .eff (some 32) (.call { callee := .builtin .append, args := #[.tmp 27, .tmp 31], argTypes := #[22, 22] }) 22 [(27, .slot 27), (31, .slot 31)] none [⟨none, .ld, .n1 (.faddr 2) (.n1 .nilchk (.slot 0))⟩, ⟨none, .ld, .n1 (.faddr 3) (.n1 .nilchk (.slot 0))⟩, ⟨none, .ld, .n1 (.faddr 4) (.n1 .nilchk (.slot 0))⟩],
    .need (.n2 (.put 0 1) (.lit (.agg #[(.slice none 0 0), (.slice none 0 0), (.int .i64 0), (.bool false), (.int .i64 0), (.slice none 0 0)])) (.slot 8)),
    .need (.n2 (.put 1 1) (.n2 (.put 0 1) (.lit (.agg #[(.slice none 0 0), (.slice none 0 0), (.int .i64 0), (.bool false), (.int .i64 0), (.slice none 0 0)])) (.slot 8)) (.slot 14)),
    .need (.n2 (.put 2 1) (.n2 (.put 1 1) (.n2 (.put 0 1) (.lit (.agg #[(.slice none 0 0), (.slice none 0 0), (.int .i64 0), (.bool false), (.int .i64 0), (.slice none 0 0)])) (.slot 8)) (.slot 14)) (.slot 18)),
    .need (.n2 (.put 3 1) (.n2 (.put 2 1) (.n2 (.put 1 1) (.n2 (.put 0 1) (.lit (.agg #[(.slice none 0 0), (.slice none 0 0), (.int .i64 0), (.bool false), (.int .i64 0), (.slice none 0 0)])) (.slot 8)) (.slot 14)) (.slot 18)) (.slot 22)),
    .need (.n2 (.put 4 1) (.n2 (.put 3 1) (.n2 (.put 2 1) (.n2 (.put 1 1) (.n2 (.put 0 1) (.lit (.agg #[(.slice none 0 0), (.slice none 0 0), (.int .i64 0), (.bool false), (.int .i64 0), (.slice none 0 0)])) (.slot 8)) (.slot 14)) (.slot 18)) (.slot 22)) (.slot 26)),
    .need (.n2 (.put 5 1) (.n2 (.put 4 1) (.n2 (.put 3 1) (.n2 (.put 2 1) (.n2 (.put 1 1) (.n2 (.put 0 1) (.lit (.agg #[(.slice none 0 0), (.slice none 0 0), (.int .i64 0), (.bool false), (.int .i64 0), (.slice none 0 0)])) (.slot 8)) (.slot 14)) (.slot 18)) (.slot 22)) (.slot 26)) (.slot 32)),
    .eff (some 34) (.box 99 (.tmp 33)) 51 [(33, .n2 (.put 5 1) (.n2 (.put 4 1) (.n2 (.put 3 1) (.n2 (.put 2 1) (.n2 (.put 1 1) (.n2 (.put 0 1) (.lit (.agg #[(.slice none 0 0), (.slice none 0 0), (.int .i64 0), (.bool false), (.int .i64 0), (.slice none 0 0)])) (.slot 8)) (.slot 14)) (.slot 18)) (.slot 22)) (.slot 26)) (.slot 32))] none [],
    .asg 2 (.slot 34)]
  .fin)
def t36_3 : HT :=
  (.run [.eff (some 9) (.buildSlice 97 0 #[]) 97 [] none [⟨none, .ld, .n1 (.faddr 0) (.n1 .nilchk (.slot 0))⟩, ⟨none, .ld, .n1 (.faddr 1) (.n1 .nilchk (.slot 0))⟩, ⟨none, .ld, .n1 (.faddr 2) (.n1 .nilchk (.slot 0))⟩, ⟨none, .ld, .n1 (.faddr 3) (.n1 .nilchk (.slot 0))⟩, ⟨none, .ld, .n1 (.faddr 4) (.n1 .nilchk (.slot 0))⟩, ⟨none, .ld, .n1 (.faddr 5) (.n1 .nilchk (.slot 0))⟩]]
  (.fork
    t36_4
    t36_5))
def t36_6 : HT :=
  (.run [.eff (some 27) (.buildSlice 22 0 #[]) 22 [] none [⟨none, .ld, .n1 (.faddr 0) (.n1 .nilchk (.slot 0))⟩, ⟨none, .ld, .n1 (.faddr 1) (.n1 .nilchk (.slot 0))⟩, ⟨none, .ld, .n1 (.faddr 2) (.n1 .nilchk (.slot 0))⟩, ⟨none, .ld, .n1 (.faddr 3) (.n1 .nilchk (.slot 0))⟩, ⟨none, .ld, .n1 (.faddr 4) (.n1 .nilchk (.slot 0))⟩, ⟨none, .ld, .n1 (.faddr 5) (.n1 .nilchk (.slot 0))⟩],
    .eff (some 9) (.buildSlice 97 0 #[]) 97 [] none [⟨none, .ld, .n1 (.faddr 0) (.n1 .nilchk (.slot 0))⟩, ⟨none, .ld, .n1 (.faddr 1) (.n1 .nilchk (.slot 0))⟩, ⟨none, .ld, .n1 (.faddr 2) (.n1 .nilchk (.slot 0))⟩, ⟨none, .ld, .n1 (.faddr 3) (.n1 .nilchk (.slot 0))⟩, ⟨none, .ld, .n1 (.faddr 4) (.n1 .nilchk (.slot 0))⟩, ⟨none, .ld, .n1 (.faddr 5) (.n1 .nilchk (.slot 0))⟩],
    .eff (some 14) (.call { callee := .builtin .append, args := #[.tmp 9, .tmp 13], argTypes := #[97, 97] }) 97 [(9, .slot 9), (13, .slot 13)] none [⟨none, .ld, .n1 (.faddr 2) (.n1 .nilchk (.slot 0))⟩, ⟨none, .ld, .n1 (.faddr 3) (.n1 .nilchk (.slot 0))⟩, ⟨none, .ld, .n1 (.faddr 4) (.n1 .nilchk (.slot 0))⟩, ⟨none, .ld, .n1 (.faddr 5) (.n1 .nilchk (.slot 0))⟩],
    .eff (some 32) (.call { callee := .builtin .append, args := #[.tmp 27, .tmp 31], argTypes := #[22, 22] }) 22 [(27, .slot 27), (31, .slot 31)] none [⟨none, .ld, .n1 (.faddr 2) (.n1 .nilchk (.slot 0))⟩, ⟨none, .ld, .n1 (.faddr 3) (.n1 .nilchk (.slot 0))⟩, ⟨none, .ld, .n1 (.faddr 4) (.n1 .nilchk (.slot 0))⟩],
    .need (.n2 (.put 0 1) (.lit (.agg #[(.slice none 0 0), (.slice none 0 0), (.int .i64 0), (.bool false), (.int .i64 0), (.slice none 0 0)])) (.slot 8)),
    .need (.n2 (.put 1 1) (.n2 (.put 0 1) (.lit (.agg #[(.slice none 0 0), (.slice none 0 0), (.int .i64 0), (.bool false), (.int .i64 0), (.slice none 0 0)])) (.slot 8)) (.slot 14)),
    .need (.n2 (.put 2 1) (.n2 (.put 1 1) (.n2 (.put 0 1) (.lit (.agg #[(.slice none 0 0), (.slice none 0 0), (.int .i64 0), (.bool false), (.int .i64 0), (.slice none 0 0)])) (.slot 8)) (.slot 14)) (.slot 18)),
    .need (.n2 (.put 3 1) (.n2 (.put 2 1) (.n2 (.put 1 1) (.n2 (.put 0 1) (.lit (.agg #[(.slice none 0 0), (.slice none 0 0), (.int .i64 0), (.bool false), (.int .i64 0), (.slice none 0 0)])) (.slot 8)) (.slot 14)) (.slot 18)) (.slot 22)),
    .need (.n2 (.put 4 1) (.n2 (.put 3 1) (.n2 (.put 2 1) (.n2 (.put 1 1) (.n2 (.put 0 1) (.lit (.agg #[(.slice none 0 0), (.slice none 0 0), (.int .i64 0), (.bool false), (.int .i64 0), (.slice none 0 0)])) (.slot 8)) (.slot 14)) (.slot 18)) (.slot 22)) (.slot 26)),
    .need (.n2 (.put 5 1) (.n2 (.put 4 1) (.n2 (.put 3 1) (.n2 (.put 2 1) (.n2 (.put 1 1) (.n2 (.put 0 1) (.lit (.agg #[(.slice none 0 0), (.slice none 0 0), (.int .i64 0), (.bool false), (.int .i64 0), (.slice none 0 0)])) (.slot 8)) (.slot 14)) (.slot 18)) (.slot 22)) (.slot 26)) (.slot 32)),
    .eff (some 34) (.box 99 (.tmp 33)) 51 [(33, .n2 (.put 5 1) (.n2 (.put 4 1) (.n2 (.put 3 1) (.n2 (.put 2 1) (.n2 (.put 1 1) (.n2 (.put 0 1) (.lit (.agg #[(.slice none 0 0), (.slice none 0 0), (.int .i64 0), (.bool false), (.int .i64 0), (.slice none 0 0)])) (.slot 8)) (.slot 14)) (.slot 18)) (.slot 22)) (.slot 26)) (.slot 32))] none [],
    .asg 2 (.slot 34)]
  .fin)
def t36_2 : HT :=
  (.run [.eff (some 8) (.call { callee := .builtin .append, args := #[.tmp 3, .tmp 7], argTypes := #[40, 40] }) 40 [(3, .slot 3), (7, .slot 7)] none [⟨none, .ld, .n1 (.faddr 0) (.n1 .nilchk (.slot 0))⟩, ⟨none, .ld, .n1 (.faddr 1) (.n1 .nilchk (.slot 0))⟩, ⟨none, .ld, .n1 (.faddr 2) (.n1 .nilchk (.slot 0))⟩, ⟨none, .ld, .n1 (.faddr 3) (.n1 .nilchk (.slot 0))⟩, ⟨none, .ld, .n1 (.faddr 4) (.n1 .nilchk (.slot 0))⟩, ⟨none, .ld, .n1 (.faddr 5) (.n1 .nilchk (.slot 0))⟩]]
  (.fork
    t36_3
    t36_6))
def t36_10 : HT :=
  (.run [.eff (some 14) (.call { callee := .builtin .append, args := #[.tmp 9, .tmp 13], argTypes := #[97, 97] }) 97 [(9, .slot 9), (13, .slot 13)] none [⟨none, .ld, .n1 (.faddr 0) (.n1 .nilchk (.slot 0))⟩, ⟨none, .ld, .n1 (.faddr 1) (.n1 .nilchk (.slot 0))⟩, ⟨none, .ld, .n1 (.faddr 2) (.n1 .nilchk (.slot 0))⟩, ⟨none, .ld, .n1 (.faddr 3) (.n1 .nilchk (.slot 0))⟩, ⟨none, .ld, .n1 (.faddr 4) (.n1 .nilchk (.slot 0))⟩, ⟨none, .ld, .n1 (.faddr 5) (.n1 .nilchk (.slot 0))⟩],
    .eff (some 27) (.buildSlice 22 0 #[]) 22 [] none [⟨none, .ld, .n1 (.faddr 0) (.n1 .nilchk (.slot 0))⟩, ⟨none, .ld, .n1 (.faddr 1) (.n1 .nilchk (.slot 0))⟩, ⟨none, .ld, .n1 (.faddr 2) (.n1 .nilchk (.slot 0))⟩, ⟨none, .ld, .n1 (.faddr 3) (.n1 .nilchk (.slot 0))⟩, ⟨none, .ld, .n1 (.faddr 4) (.n1 .nilchk (.slot 0))⟩, ⟨none, .ld, .n1 (.faddr 5) (.n1 .nilchk (.slot 0))⟩],
    .eff (some 32) (.call { callee := .builtin .append, args := #[.tmp 27, .tmp 31], argTypes := #[22, 22] }) 22 [(27, .slot 27), (31, .slot 31)] none [⟨none, .ld, .n1 (.faddr 2) (.n1 .nilchk (.slot 0))⟩, ⟨none, .ld, .n1 (.faddr 3) (.n1 .nilchk (.slot 0))⟩, ⟨none, .ld, .n1 (.faddr 4) (.n1 .nilchk (.slot 0))⟩],
    .need (.n2 (.put 0 1) (.lit (.agg #[(.slice none 0 0), (.slice none 0 0), (.int .i64 0), (.bool false), (.int .i64 0), (.slice none 0 0)])) (.slot 8)),
    .need (.n2 (.put 1 1) (.n2 (.put 0 1) (.lit (.agg #[(.slice none 0 0), (.slice none 0 0), (.int .i64 0), (.bool false), (.int .i64 0), (.slice none 0 0)])) (.slot 8)) (.slot 14)),
    .need (.n2 (.put 2 1) (.n2 (.put 1 1) (.n2 (.put 0 1) (.lit (.agg #[(.slice none 0 0), (.slice none 0 0), (.int .i64 0), (.bool false), (.int .i64 0), (.slice none 0 0)])) (.slot 8)) (.slot 14)) (.slot 18)),
    .need (.n2 (.put 3 1) (.n2 (.put 2 1) (.n2 (.put 1 1) (.n2 (.put 0 1) (.lit (.agg #[(.slice none 0 0), (.slice none 0 0), (.int .i64 0), (.bool false), (.int .i64 0), (.slice none 0 0)])) (.slot 8)) (.slot 14)) (.slot 18)) (.slot 22)),
    .need (.n2 (.put 4 1) (.n2 (.put 3 1) (.n2 (.put 2 1) (.n2 (.put 1 1) (.n2 (.put 0 1) (.lit (.agg #[(.slice none 0 0), (.slice none 0 0), (.int .i64 0), (.bool false), (.int .i64 0), (.slice none 0 0)])) (.slot 8)) (.slot 14)) (.slot 18)) (.slot 22)) (.slot 26)),
    .need (.n2 (.put 5 1) (.n2 (.put 4 1) (.n2 (.put 3 1) (.n2 (.put 2 1) (.n2 (.put 1 1) (.n2 (.put 0 1) (.lit (.agg #[(.slice none 0 0), (.slice none 0 0), (.int .i64 0), (.bool false), (.int .i64 0), (.slice none 0 0)])) (.slot 8)) (.slot 14)) (.slot 18)) (.slot 22)) (.slot 26)) (.slot 32)),
    .eff (some 34) (.box 99 (.tmp 33)) 51 [(33, .n2 (.put 5 1) (.n2 (.put 4 1) (.n2 (.put 3 1) (.n2 (.put 2 1) (.n2 (.put 1 1) (.n2 (.put 0 1) (.lit (.agg #[(.slice none 0 0), (.slice none 0 0), (.int .i64 0), (.bool false), (.int .i64 0), (.slice none 0 0)])) (.slot 8)) (.slot 14)) (.slot 18)) (.slot 22)) (.slot 26)) (.slot 32))] none [],
    .asg 2 (.slot 34)]
  .fin)
def t36_11 : HT :=
  (.run [.eff (some 27) (.buildSlice 22 0 #[]) 22 [] none [⟨none, .ld, .n1 (.faddr 0) (.n1 .nilchk (.slot 0))⟩, ⟨none, .ld, .n1 (.faddr 1) (.n1 .nilchk (.slot 0))⟩, ⟨none, .ld, .n1 (.faddr 2) (.n1 .nilchk (.slot 0))⟩, ⟨none, .ld, .n1 (.faddr 3) (.n1 .nilchk (.slot 0))⟩, ⟨none, .ld, .n1 (.faddr 4) (.n1 .nilchk (.slot 0))⟩, ⟨none, .ld, .n1 (.faddr 5) (.n1 .nilchk (.slot 0))⟩],
    .eff (some 14) (.call { callee := .builtin .append, args := #[.tmp 9, .tmp 13], argTypes := #[97, 97] }) 97 [(9, .slot 9), (13, .slot 13)] none [⟨none, .ld, .n1 (.faddr 2) (.n1 .nilchk (.slot 0))⟩, ⟨none, .ld, .n1 (.faddr 3) (.n1 .nilchk (.slot 0))⟩, ⟨none, .ld, .n1 (.faddr 4) (.n1 .nilchk (.slot 0))⟩, ⟨none, .ld, .n1 (.faddr 5) (.n1 .nilchk (.slot 0))⟩],
    .eff (some 32) (.call { callee := .builtin .append, args := #[.tmp 27, .tmp 31], argTypes := #[22, 22] }) 22 [(27, .slot 27), (31, .slot 31)] none [⟨none, .ld, .n1 (.faddr 2) (.n1 .nilchk (.slot 0))⟩, ⟨none, .ld, .n1 (.faddr 3) (.n1 .nilchk (.slot 0))⟩, ⟨none, .ld, .n1 (.faddr 4) (.n1 .nilchk (.slot 0))⟩],
    .need (.n2 (.put 0 1) (.lit (.agg #[(.slice none 0 0), (.slice none 0 0), (.int .i64 0), (.bool false), (.int .i64 0), (.slice none 0 0)])) (.slot 8)),
    .need (.n2 (.put 1 1) (.n2 (.put 0 1) (.lit (.agg #[(.slice none 0 0), (.slice none 0 0), (.int .i64 0), (.bool false), (.int .i64 0), (.slice none 0 0)])) (.slot 8)) (.slot 14)),
    .need (.n2 (.put 2 1) (.n2 (.put 1 1) (.n2 (.put 0 1) (.lit (.agg #[(.slice none 0 0), (.slice none 0 0), (.int .i64 0), (.bool false), (.int .i64 0), (.slice none 0 0)])) (.slot 8)) (.slot 14)) (.slot 18)),
    .need (.n2 (.put 3 1) (.n2 (.put 2 1) (.n2 (.put 1 1) (.n2 (.put 0 1) (.lit (.agg #[(.slice none 0 0), (.slice none 0 0), (.int .i64 0), (.bool false), (.int .i64 0), (.slice none 0 0)])) (.slot 8)) (.slot 14)) (.slot 18)) (.slot 22)),
    .need (.n2 (.put 4 1) (.n2 (.put 3 1) (.n2 (.put 2 1) (.n2 (.put 1 1) (.n2 (.put 0 1) (.lit (.agg #[(.slice none 0 0), (.slice none 0 0), (.int .i64 0), (.bool false), (.int .i64 0), (.slice none 0 0)])) (.slot 8)) (.slot 14)) (.slot 18)) (.slot 22)) (.slot 26)),
    .need (.n2 (.put 5 1) (.n2 (.put 4 1) (.n2 (.put 3 1) (.n2 (.put 2 1) (.n2 (.put 1 1) (.n2 (.put 0 1) (.lit (.agg #[(.slice none 0 0), (.slice none 0 0), (.int .i64 0), (.bool false), (.int .i64 0), (.slice none 0 0)])) (.slot 8)) (.slot 14)) (.slot 18)) (.slot 22)) (.slot 26)) (.slot 32)),
    .eff (some 34) (.box 99 (.tmp 33)) 51 [(33, .n2 (.put 5 1) (.n2 (.put 4 1) (.n2 (.put 3 1) (.n2 (.put 2 1) (.n2 (.put 1 1) (.n2 (.put 0 1) (.lit (.agg #[(.slice none 0 0), (.slice none 0 0), (.int .i64 0), (.bool false), (.int .i64 0), (.slice none 0 0)])) (.slot 8)) (.slot 14)) (.slot 18)) (.slot 22)) (.slot 26)) (.slot 32))] none [],
    .asg 2 (.slot 34)]
  .fin)
def t36_9 : HT :=
  (.run [.eff (some 8) (.call { callee := .builtin .append, args := #[.tmp 3, .tmp 7], argTypes := #[40, 40] }) 40 [(3, .slot 3), (7, .slot 7)] none [⟨none, .ld, .n1 (.faddr 0) (.n1 .nilchk (.slot 0))⟩, ⟨none, .ld, .n1 (.faddr 1) (.n1 .nilchk (.slot 0))⟩, ⟨none, .ld, .n1 (.faddr 2) (.n1 .nilchk (.slot 0))⟩, ⟨none, .ld, .n1 (.faddr 3) (.n1 .nilchk (.slot 0))⟩, ⟨none, .ld, .n1 (.faddr 4) (.n1 .nilchk (.slot 0))⟩, ⟨none, .ld, .n1 (.faddr 5) (.n1 .nilchk (.slot 0))⟩]]
  (.fork
    t36_10
    t36_11))
def t36_12 : HT :=
  (.run [.eff (some 27) (.buildSlice 22 0 #[]) 22 [] none [⟨none, .ld, .n1 (.faddr 0) (.n1 .nilchk (.slot 0))⟩, ⟨none, .ld, .n1 (.faddr 1) (.n1 .nilchk (.slot 0))⟩, ⟨none, .ld, .n1 (.faddr 2) (.n1 .nilchk (.slot 0))⟩, ⟨none, .ld, .n1 (.faddr 3) (.n1 .nilchk (.slot 0))⟩, ⟨none, .ld, .n1 (.faddr 4) (.n1 .nilchk (.slot 0))⟩, ⟨none, .ld, .n1 (.faddr 5) (.n1 .nilchk (.slot 0))⟩],
    .eff (some 8) (.call { callee := .builtin .append, args := #[.tmp 3, .tmp 7], argTypes := #[40, 40] }) 40 [(3, .slot 3), (7, .slot 7)] none [⟨none, .ld, .n1 (.faddr 1) (.n1 .nilchk (.slot 0))⟩, ⟨none, .ld, .n1 (.faddr 2) (.n1 .nilchk (.slot 0))⟩, ⟨none, .ld, .n1 (.faddr 3) (.n1 .nilchk (.slot 0))⟩, ⟨none, .ld, .n1 (.faddr 4) (.n1 .nilchk (.slot 0))⟩, ⟨none, .ld, .n1 (.faddr 5) (.n1 .nilchk (.slot 0))⟩],
    .eff (some 14) (.call { callee := .builtin .append, args := #[.tmp 9, .tmp 13], argTypes := #[97, 97] }) 97 [(9, .slot 9), (13, .slot 13)] none [⟨none, .ld, .n1 (.faddr 2) (.n1 .nilchk (.slot 0))⟩, ⟨none, .ld, .n1 (.faddr 3) (.n1 .nilchk (.slot 0))⟩, ⟨none, .ld, .n1 (.faddr 4) (.n1 .nilchk (.slot 0))⟩, ⟨none, .ld, .n1 (.faddr 5) (.n1 .nilchk (.slot 0))⟩],
    .eff (some 32) (.call { callee := .builtin .append, args := #[.tmp 27, .tmp 31], argTypes := #[22, 22] }) 22 [(27, .slot 27), (31, .slot 31)] none [⟨none, .ld, .n1 (.faddr 2) (.n1 .nilchk (.slot 0))⟩, ⟨none, .ld, .n1 (.faddr 3) (.n1 .nilchk (.slot 0))⟩, ⟨none, .ld, .n1 (.faddr 4) (.n1 .nilchk (.slot 0))⟩],
    .need (.n2 (.put 0 1) (.lit (.agg #[(.slice none 0 0), (.slice none 0 0), (.int .i64 0), (.bool false), (.int .i64 0), (.slice none 0 0)])) (.slot 8)),
    .need (.n2 (.put 1 1) (.n2 (.put 0 1) (.lit (.agg #[(.slice none 0 0), (.slice none 0 0), (.int .i64 0), (.bool false), (.int .i64 0), (.slice none 0 0)])) (.slot 8)) (.slot 14)),
    .need (.n2 (.put 2 1) (.n2 (.put 1 1) (.n2 (.put 0 1) (.lit (.agg #[(.slice none 0 0), (.slice none 0 0), (.int .i64 0), (.bool false), (.int .i64 0), (.slice none 0 0)])) (.slot 8)) (.slot 14)) (.slot 18)),
    .need (.n2 (.put 3 1) (.n2 (.put 2 1) (.n2 (.put 1 1) (.n2 (.put 0 1) (.lit (.agg #[(.slice none 0 0), (.slice none 0 0), (.int .i64 0), (.bool false), (.int .i64 0), (.slice none 0 0)])) (.slot 8)) (.slot 14)) (.slot 18)) (.slot 22)),
    .need (.n2 (.put 4 1) (.n2 (.put 3 1) (.n2 (.put 2 1) (.n2 (.put 1 1) (.n2 (.put 0 1) (.lit (.agg #[(.slice none 0 0), (.slice none 0 0), (.int .i64 0), (.bool false), (.int .i64 0), (.slice none 0 0)])) (.slot 8)) (.slot 14)) (.slot 18)) (.slot 22)) (.slot 26)),
    .need (.n2 (.put 5 1) (.n2 (.put 4 1) (.n2 (.put 3 1) (.n2 (.put 2 1) (.n2 (.put 1 1) (.n2 (.put 0 1) (.lit (.agg #[(.slice none 0 0), (.slice none 0 0), (.int .i64 0), (.bool false), (.int .i64 0), (.slice none 0 0)])) (.slot 8)) (.slot 14)) (.slot 18)) (.slot 22)) (.slot 26)) (.slot 32)),
    .eff (some 34) (.box 99 (.tmp 33)) 51 [(33, .n2 (.put 5 1) (.n2 (.put 4 1) (.n2 (.put 3 1) (.n2 (.put 2 1) (.n2 (.put 1 1) (.n2 (.put 0 1) (.lit (.agg #[(.slice none 0 0), (.slice none 0 0), (.int .i64 0), (.bool false), (.int .i64 0), (.slice none 0 0)])) (.slot 8)) (.slot 14)) (.slot 18)) (.slot 22)) (.slot 26)) (.slot 32))] none [],
    .asg 2 (.slot 34)]
  .fin)
def t36_8 : HT :=
  (.run [.eff (some 9) (.buildSlice 97 0 #[]) 97 [] none [⟨none, .ld, .n1 (.faddr 0) (.n1 .nilchk (.slot 0))⟩, ⟨none, .ld, .n1 (.faddr 1) (.n1 .nilchk (.slot 0))⟩, ⟨none, .ld, .n1 (.faddr 2) (.n1 .nilchk (.slot 0))⟩, ⟨none, .ld, .n1 (.faddr 3) (.n1 .nilchk (.slot 0))⟩, ⟨none, .ld, .n1 (.faddr 4) (.n1 .nilchk (.slot 0))⟩, ⟨none, .ld, .n1 (.faddr 5) (.n1 .nilchk (.slot 0))⟩]]
  (.fork
    t36_9
    t36_12))
def t36_14 : HT :=
  (.run [.eff (some 8) (.call { callee := .builtin .append, args := #[.tmp 3, .tmp 7], argTypes := #[40, 40] }) 40 [(3, .slot 3), (7, .slot 7)] none [⟨none, .ld, .n1 (.faddr 0) (.n1 .nilchk (.slot 0))⟩, ⟨none, .ld, .n1 (.faddr 1) (.n1 .nilchk (.slot 0))⟩, ⟨none, .ld, .n1 (.faddr 2) (.n1 .nilchk (.slot 0))⟩, ⟨none, .ld, .n1 (.faddr 3) (.n1 .nilchk (.slot 0))⟩, ⟨none, .ld, .n1 (.faddr 4) (.n1 .nilchk (.slot 0))⟩, ⟨none, .ld, .n1 (.faddr 5) (.n1 .nilchk (.slot 0))⟩],
    .eff (some 9) (.buildSlice 97 0 #[]) 97 [] none [⟨none, .ld, .n1 (.faddr 0) (.n1 .nilchk (.slot 0))⟩, ⟨none, .ld, .n1 (.faddr 1) (.n1 .nilchk (.slot 0))⟩, ⟨none, .ld, .n1 (.faddr 2) (.n1 .nilchk (.slot 0))⟩, ⟨none, .ld, .n1 (.faddr 3) (.n1 .nilchk (.slot 0))⟩, ⟨none, .ld, .n1 (.faddr 4) (.n1 .nilchk (.slot 0))⟩, ⟨none, .ld, .n1 (.faddr 5) (.n1 .nilchk (.slot 0))⟩],
    .eff (some 14) (.call { callee := .builtin .append, args := #[.tmp 9, .tmp 13], argTypes := #[97, 97] }) 97 [(9, .slot 9), (13, .slot 13)] none [⟨none, .ld, .n1 (.faddr 2) (.n1 .nilchk (.slot 0))⟩, ⟨none, .ld, .n1 (.faddr 3) (.n1 .nilchk (.slot 0))⟩, ⟨none, .ld, .n1 (.faddr 4) (.n1 .nilchk (.slot 0))⟩, ⟨none, .ld, .n1 (.faddr 5) (.n1 .nilchk (.slot 0))⟩],
    .eff (some 32) (.call { callee := .builtin .append, args := #[.tmp 27, .tmp 31], argTypes := #[22, 22] }) 22 [(27, .slot 27), (31, .slot 31)] none [⟨none, .ld, .n1 (.faddr 2) (.n1 .nilchk (.slot 0))⟩, ⟨none, .ld, .n1 (.faddr 3) (.n1 .nilchk (.slot 0))⟩, ⟨none, .ld, .n1 (.faddr 4) (.n1 .nilchk (.slot 0))⟩],
    .need (.n2 (.put 0 1) (.lit (.agg #[(.slice none 0 0), (.slice none 0 0), (.int .i64 0), (.bool false), (.int .i64 0), (.slice none 0 0)])) (.slot 8)),
    .need (.n2 (.put 1 1) (.n2 (.put 0 1) (.lit (.agg #[(.slice none 0 0), (.slice none 0 0), (.int .i64 0), (.bool false), (.int .i64 0), (.slice none 0 0)])) (.slot 8)) (.slot 14)),
    .need (.n2 (.put 2 1) (.n2 (.put 1 1) (.n2 (.put 0 1) (.lit (.agg #[(.slice none 0 0), (.slice none 0 0), (.int .i64 0), (.bool false), (.int .i64 0), (.slice none 0 0)])) (.slot 8)) (.slot 14)) (.slot 18)),
    .need (.n2 (.put 3 1) (.n2 (.put 2 1) (.n2 (.put 1 1) (.n2 (.put 0 1) (.lit (.agg #[(.slice none 0 0), (.slice none 0 0), (.int .i64 0), (.bool false), (.int .i64 0), (.slice none 0 0)])) (.slot 8)) (.slot 14)) (.slot 18)) (.slot 22)),
    .need (.n2 (.put 4 1) (.n2 (.put 3 1) (.n2 (.put 2 1) (.n2 (.put 1 1) (.n2 (.put 0 1) (.lit (.agg #[(.slice none 0 0), (.slice none 0 0), (.int .i64 0), (.bool false), (.int .i64 0), (.slice none 0 0)])) (.slot 8)) (.slot 14)) (.slot 18)) (.slot 22)) (.slot 26)),
    .need (.n2 (.put 5 1) (.n2 (.put 4 1) (.n2 (.put 3 1) (.n2 (.put 2 1) (.n2 (.put 1 1) (.n2 (.put 0 1) (.lit (.agg #[(.slice none 0 0), (.slice none 0 0), (.int .i64 0), (.bool false), (.int .i64 0), (.slice none 0 0)])) (.slot 8)) (.slot 14)) (.slot 18)) (.slot 22)) (.slot 26)) (.slot 32)),
    .eff (some 34) (.box 99 (.tmp 33)) 51 [(33, .n2 (.put 5 1) (.n2 (.put 4 1) (.n2 (.put 3 1) (.n2 (.put 2 1) (.n2 (.put 1 1) (.n2 (.put 0 1) (.lit (.agg #[(.slice none 0 0), (.slice none 0 0), (.int .i64 0), (.bool false), (.int .i64 0), (.slice none 0 0)])) (.slot 8)) (.slot 14)) (.slot 18)) (.slot 22)) (.slot 26)) (.slot 32))] none [],
    .asg 2 (.slot 34)]
  .fin)
def t36_15 : HT :=
  (.run [.eff (some 9) (.buildSlice 97 0 #[]) 97 [] none [⟨none, .ld, .n1 (.faddr 0) (.n1 .nilchk (.slot 0))⟩, ⟨none, .ld, .n1 (.faddr 1) (.n1 .nilchk (.slot 0))⟩, ⟨none, .ld, .n1 (.faddr 2) (.n1 .nilchk (.slot 0))⟩, ⟨none, .ld, .n1 (.faddr 3) (.n1 .nilchk (.slot 0))⟩, ⟨none, .ld, .n1 (.faddr 4) (.n1 .nilchk (.slot 0))⟩, ⟨none, .ld, .n1 (.faddr 5) (.n1 .nilchk (.slot 0))⟩],
    .eff (some 8) (.call { callee := .builtin .append, args := #[.tmp 3, .tmp 7], argTypes := #[40, 40] }) 40 [(3, .slot 3), (7, .slot 7)] none [⟨none, .ld, .n1 (.faddr 1) (.n1 .nilchk (.slot 0))⟩, ⟨none, .ld, .n1 (.faddr 2) (.n1 .nilchk (.slot 0))⟩, ⟨none, .ld, .n1 (.faddr 3) (.n1 .nilchk (.slot 0))⟩, ⟨none, .ld, .n1 (.faddr 4) (.n1 .nilchk (.slot 0))⟩, ⟨none, .ld, .n1 (.faddr 5) (.n1 .nilchk (.slot 0))⟩],
    .eff (some 14) (.call { callee := .builtin .append, args := #[.tmp 9, .tmp 13], argTypes := #[97, 97] }) 97 [(9, .slot 9), (13, .slot 13)] none [⟨none, .ld, .n1 (.faddr 2) (.n1 .nilchk (.slot 0))⟩, ⟨none, .ld, .n1 (.faddr 3) (.n1 .nilchk (.slot 0))⟩, ⟨none, .ld, .n1 (.faddr 4) (.n1 .nilchk (.slot 0))⟩, ⟨none, .ld, .n1 (.faddr 5) (.n1 .nilchk (.slot 0))⟩],
    .eff (some 32) (.call { callee := .builtin .append, args := #[.tmp 27, .tmp 31], argTypes := #[22, 22] }) 22 [(27, .slot 27), (31, .slot 31)] none [⟨none, .ld, .n1 (.faddr 2) (.n1 .nilchk (.slot 0))⟩, ⟨none, .ld, .n1 (.faddr 3) (.n1 .nilchk (.slot 0))⟩, ⟨none, .ld, .n1 (.faddr 4) (.n1 .nilchk (.slot 0))⟩],
    .need (.n2 (.put 0 1) (.lit (.agg #[(.slice none 0 0), (.slice none 0 0), (.int .i64 0), (.bool false), (.int .i64 0), (.slice none 0 0)])) (.slot 8)),
    .need (.n2 (.put 1 1) (.n2 (.put 0 1) (.lit (.agg #[(.slice none 0 0), (.slice none 0 0), (.int .i64 0), (.bool false), (.int .i64 0), (.slice none 0 0)])) (.slot 8)) (.slot 14)),
    .need (.n2 (.put 2 1) (.n2 (.put 1 1) (.n2 (.put 0 1) (.lit (.agg #[(.slice none 0 0), (.slice none 0 0), (.int .i64 0), (.bool false), (.int .i64 0), (.slice none 0 0)])) (.slot 8)) (.slot 14)) (.slot 18)),
    .need (.n2 (.put 3 1) (.n2 (.put 2 1) (.n2 (.put 1 1) (.n2 (.put 0 1) (.lit (.agg #[(.slice none 0 0), (.slice none 0 0), (.int .i64 0), (.bool false), (.int .i64 0), (.slice none 0 0)])) (.slot 8)) (.slot 14)) (.slot 18)) (.slot 22)),
    .need (.n2 (.put 4 1) (.n2 (.put 3 1) (.n2 (.put 2 1) (.n2 (.put 1 1) (.n2 (.put 0 1) (.lit (.agg #[(.slice none 0 0), (.slice none 0 0), (.int .i64 0), (.bool false), (.int .i64 0), (.slice none 0 0)])) (.slot 8)) (.slot 14)) (.slot 18)) (.slot 22)) (.slot 26)),
    .need (.n2 (.put 5 1) (.n2 (.put 4 1) (.n2 (.put 3 1) (.n2 (.put 2 1) (.n2 (.put 1 1) (.n2 (.put 0 1) (.lit (.agg #[(.slice none 0 0), (.slice none 0 0), (.int .i64 0), (.bool false), (.int .i64 0), (.slice none 0 0)])) (.slot 8)) (.slot 14)) (.slot 18)) (.slot 22)) (.slot 26)) (.slot 32)),
    .eff (some 34) (.box 99 (.tmp 33)) 51 [(33, .n2 (.put 5 1) (.n2 (.put 4 1) (.n2 (.put 3 1) (.n2 (.put 2 1) (.n2 (.put 1 1) (.n2 (.put 0 1) (.lit (.agg #[(.slice none 0 0), (.slice none 0 0), (.int .i64 0), (.bool false), (.int .i64 0), (.slice none 0 0)])) (.slot 8)) (.slot 14)) (.slot 18)) (.slot 22)) (.slot 26)) (.slot 32))] none [],
    .asg 2 (.slot 34)]
  .fin)
def t36_13 : HT :=
  (.run [.eff (some 27) (.buildSlice 22 0 #[]) 22 [] none [⟨none, .ld, .n1 (.faddr 0) (.n1 .nilchk (.slot 0))⟩, ⟨none, .ld, .n1 (.faddr 1) (.n1 .nilchk (.slot 0))⟩, ⟨none, .ld, .n1 (.faddr 2) (.n1 .nilchk (.slot 0))⟩, ⟨none, .ld, .n1 (.faddr 3) (.n1 .nilchk (.slot 0))⟩, ⟨none, .ld, .n1 (.faddr 4) (.n1 .nilchk (.slot 0))⟩, ⟨none, .ld, .n1 (.faddr 5) (.n1 .nilchk (.slot 0))⟩]]
  (.fork
    t36_14
    t36_15))
def t36_7 : HT :=
  (.fork
    t36_8
    t36_13)
def t36_1 : HT :=
  (.run [.eff (some 3) (.buildSlice 40 0 #[]) 40 [] none [⟨none, .ld, .n1 (.faddr 0) (.n1 .nilchk (.slot 0))⟩, ⟨none, .ld, .n1 (.faddr 1) (.n1 .nilchk (.slot 0))⟩, ⟨none, .ld, .n1 (.faddr 2) (.n1 .nilchk (.slot 0))⟩, ⟨none, .ld, .n1 (.faddr 3) (.n1 .nilchk (.slot 0))⟩, ⟨none, .ld, .n1 (.faddr 4) (.n1 .nilchk (.slot 0))⟩, ⟨none, .ld, .n1 (.faddr 5) (.n1 .nilchk (.slot 0))⟩]]
  (.fork
    t36_2
    t36_7))
def t36_20 : HT :=
  (.run [.eff (some 14) (.call { callee := .builtin .append, args := #[.tmp 9, .tmp 13], argTypes := #[97, 97] }) 97 [(9, .slot 9), (13, .slot 13)] none [⟨none, .ld, .n1 (.faddr 0) (.n1 .nilchk (.slot 0))⟩, ⟨none, .ld, .n1 (.faddr 1) (.n1 .nilchk (.slot 0))⟩, ⟨none, .ld, .n1 (.faddr 2) (.n1 .nilchk (.slot 0))⟩, ⟨none, .ld, .n1 (.faddr 3) (.n1 .nilchk (.slot 0))⟩, ⟨none, .ld, .n1 (.faddr 4) (.n1 .nilchk (.slot 0))⟩, ⟨none, .ld, .n1 (.faddr 5) (.n1 .nilchk (.slot 0))⟩],
    .eff (some 27) (.buildSlice 22 0 #[]) 22 [] none [⟨none, .ld, .n1 (.faddr 0) (.n1 .nilchk (.slot 0))⟩, ⟨none, .ld, .n1 (.faddr 1) (.n1 .nilchk (.slot 0))⟩, ⟨none, .ld, .n1 (.faddr 2) (.n1 .nilchk (.slot 0))⟩, ⟨none, .ld, .n1 (.faddr 3) (.n1 .nilchk (.slot 0))⟩, ⟨none, .ld, .n1 (.faddr 4) (.n1 .nilchk (.slot 0))⟩, ⟨none, .ld, .n1 (.faddr 5) (.n1 .nilchk (.slot 0))⟩],
    .eff (some 32) (.call { callee := .builtin .append, args := #[.tmp 27, .tmp 31], argTypes := #[22, 22] }) 22 [(27, .slot 27), (31, .slot 31)] none [⟨none, .ld, .n1 (.faddr 2) (.n1 .nilchk (.slot 0))⟩, ⟨none, .ld, .n1 (.faddr 3) (.n1 .nilchk (.slot 0))⟩, ⟨none, .ld, .n1 (.faddr 4) (.n1 .nilchk (.slot 0))⟩],
    .need (.n2 (.put 0 1) (.lit (.agg #[(.slice none 0 0), (.slice none 0 0), (.int .i64 0), (.bool false), (.int .i64 0), (.slice none 0 0)])) (.slot 8)),
    .need (.n2 (.put 1 1) (.n2 (.put 0 1) (.lit (.agg #[(.slice none 0 0), (.slice none 0 0), (.int .i64 0), (.bool false), (.int .i64 0), (.slice none 0 0)])) (.slot 8)) (.slot 14)),
    .need (.n2 (.put 2 1) (.n2 (.put 1 1) (.n2 (.put 0 1) (.lit (.agg #[(.slice none 0 0), (.slice none 0 0), (.int .i64 0), (.bool false), (.int .i64 0), (.slice none 0 0)])) (.slot 8)) (.slot 14)) (.slot 18)),
    .need (.n2 (.put 3 1) (.n2 (.put 2 1) (.n2 (.put 1 1) (.n2 (.put 0 1) (.lit (.agg #[(.slice none 0 0), (.slice none 0 0), (.int .i64 0), (.bool false), (.int .i64 0), (.slice none 0 0)])) (.slot 8)) (.slot 14)) (.slot 18)) (.slot 22)),
    .need (.n2 (.put 4 1) (.n2 (.put 3 1) (.n2 (.put 2 1) (.n2 (.put 1 1) (.n2 (.put 0 1) (.lit (.agg #[(.slice none 0 0), (.slice none 0 0), (.int .i64 0), (.bool false), (.int .i64 0), (.slice none 0 0)])) (.slot 8)) (.slot 14)) (.slot 18)) (.slot 22)) (.slot 26)),
    .need (.n2 (.put 5 1) (.n2 (.put 4 1) (.n2 (.put 3 1) (.n2 (.put 2 1) (.n2 (.put 1 1) (.n2 (.put 0 1) (.lit (.agg #[(.slice none 0 0), (.slice none 0 0), (.int .i64 0), (.bool false), (.int .i64 0), (.slice none 0 0)])) (.slot 8)) (.slot 14)) (.slot 18)) (.slot 22)) (.slot 26)) (.slot 32)),
    .eff (some 34) (.box 99 (.tmp 33)) 51 [(33, .n2 (.put 5 1) (.n2 (.put 4 1) (.n2 (.put 3 1) (.n2 (.put 2 1) (.n2 (.put 1 1) (.n2 (.put 0 1) (.lit (.agg #[(.slice none 0 0), (.slice none 0 0), (.int .i64 0), (.bool false), (.int .i64 0), (.slice none 0 0)])) (.slot 8)) (.slot 14)) (.slot 18)) (.slot 22)) (.slot 26)) (.slot 32))] none [],
    .asg 2 (.slot 34)]
  .fin)
def t36_21 : HT :=
  (.run [.eff (some 27) (.buildSlice 22 0 #[]) 22 [] none [⟨none, .ld, .n1 (.faddr 0) (.n1 .nilchk (.slot 0))⟩, ⟨none, .ld, .n1 (.faddr 1) (.n1 .nilchk (.slot 0))⟩, ⟨none, .ld, .n1 (.faddr 2) (.n1 .nilchk (.slot 0))⟩, ⟨none, .ld, .n1 (.faddr 3) (.n1 .nilchk (.slot 0))⟩, ⟨none, .ld, .n1 (.faddr 4) (.n1 .nilchk (.slot 0))⟩, ⟨none, .ld, .n1 (.faddr 5) (.n1 .nilchk (.slot 0))⟩],
    .eff (some 14) (.call { callee := .builtin .append, args := #[.tmp 9, .tmp 13], argTypes := #[97, 97] }) 97 [(9, .slot 9), (13, .slot 13)] none [⟨none, .ld, .n1 (.faddr 2) (.n1 .nilchk (.slot 0))⟩, ⟨none, .ld, .n1 (.faddr 3) (.n1 .nilchk (.slot 0))⟩, ⟨none, .ld, .n1 (.faddr 4) (.n1 .nilchk (.slot 0))⟩, ⟨none, .ld, .n1 (.faddr 5) (.n1 .nilchk (.slot 0))⟩],
    .eff (some 32) (.call { callee := .builtin .append, args := #[.tmp 27, .tmp 31], argTypes := #[22, 22] }) 22 [(27, .slot 27), (31, .slot 31)] none [⟨none, .ld, .n1 (.faddr 2) (.n1 .nilchk (.slot 0))⟩, ⟨none, .ld, .n1 (.faddr 3) (.n1 .nilchk (.slot 0))⟩, ⟨none, .ld, .n1 (.faddr 4) (.n1 .nilchk (.slot 0))⟩],
    .need (.n2 (.put 0 1) (.lit (.agg #[(.slice none 0 0), (.slice none 0 0), (.int .i64 0), (.bool false), (.int .i64 0), (.slice none 0 0)])) (.slot 8)),
    .need (.n2 (.put 1 1) (.n2 (.put 0 1) (.lit (.agg #[(.slice none 0 0), (.slice none 0 0), (.int .i64 0), (.bool false), (.int .i64 0), (.slice none 0 0)])) (.slot 8)) (.slot 14)),
    .need (.n2 (.put 2 1) (.n2 (.put 1 1) (.n2 (.put 0 1) (.lit (.agg #[(.slice none 0 0), (.slice none 0 0), (.int .i64 0), (.bool false), (.int .i64 0), (.slice none 0 0)])) (.slot 8)) (.slot 14)) (.slot 18)),
    .need (.n2 (.put 3 1) (.n2 (.put 2 1) (.n2 (.put 1 1) (.n2 (.put 0 1) (.lit (.agg #[(.slice none 0 0), (.slice none 0 0), (.int .i64 0), (.bool false), (.int .i64 0), (.slice none 0 0)])) (.slot 8)) (.slot 14)) (.slot 18)) (.slot 22)),
    .need (.n2 (.put 4 1) (.n2 (.put 3 1) (.n2 (.put 2 1) (.n2 (.put 1 1) (.n2 (.put 0 1) (.lit (.agg #[(.slice none 0 0), (.slice none 0 0), (.int .i64 0), (.bool false), (.int .i64 0), (.slice none 0 0)])) (.slot 8)) (.slot 14)) (.slot 18)) (.slot 22)) (.slot 26)),
    .need (.n2 (.put 5 1) (.n2 (.put 4 1) (.n2 (.put 3 1) (.n2 (.put 2 1) (.n2 (.put 1 1) (.n2 (.put 0 1) (.lit (.agg #[(.slice none 0 0), (.slice none 0 0), (.int .i64 0), (.bool false), (.int .i64 0), (.slice none 0 0)])) (.slot 8)) (.slot 14)) (.slot 18)) (.slot 22)) (.slot 26)) (.slot 32)),
    .eff (some 34) (.box 99 (.tmp 33)) 51 [(33, .n2 (.put 5 1) (.n2 (.put 4 1) (.n2 (.put 3 1) (.n2 (.put 2 1) (.n2 (.put 1 1) (.n2 (.put 0 1) (.lit (.agg #[(.slice none 0 0), (.slice none 0 0), (.int .i64 0), (.bool false), (.int .i64 0), (.slice none 0 0)])) (.slot 8)) (.slot 14)) (.slot 18)) (.slot 22)) (.slot 26)) (.slot 32))] none [],
    .asg 2 (.slot 34)]
  .fin)
def t36_19 : HT :=
  (.run [.eff (some 8) (.call { callee := .builtin .append, args := #[.tmp 3, .tmp 7], argTypes := #[40, 40] }) 40 [(3, .slot 3), (7, .slot 7)] none [⟨none, .ld, .n1 (.faddr 0) (.n1 .nilchk (.slot 0))⟩, ⟨none, .ld, .n1 (.faddr 1) (.n1 .nilchk (.slot 0))⟩, ⟨none, .ld, .n1 (.faddr 2) (.n1 .nilchk (.slot 0))⟩, ⟨none, .ld, .n1 (.faddr 3) (.n1 .nilchk (.slot 0))⟩, ⟨none, .ld, .n1 (.faddr 4) (.n1 .nilchk (.slot 0))⟩, ⟨none, .ld, .n1 (.faddr 5) (.n1 .nilchk (.slot 0))⟩]]
  (.fork
    t36_20
    t36_21))
def t36_22 : HT :=
  (.run [.eff (some 27) (.buildSlice 22 0 #[]) 22 [] none [⟨none, .ld, .n1 (.faddr 0) (.n1 .nilchk (.slot 0))⟩, ⟨none, .ld, .n1 (.faddr 1) (.n1 .nilchk (.slot 0))⟩, ⟨none, .ld, .n1 (.faddr 2) (.n1 .nilchk (.slot 0))⟩, ⟨none, .ld, .n1 (.faddr 3) (.n1 .nilchk (.slot 0))⟩, ⟨none, .ld, .n1 (.faddr 4) (.n1 .nilchk (.slot 0))⟩, ⟨none, .ld, .n1 (.faddr 5) (.n1 .nilchk (.slot 0))⟩],
    .eff (some 8) (.call { callee := .builtin .append, args := #[.tmp 3, .tmp 7], argTypes := #[40, 40] }) 40 [(3, .slot 3), (7, .slot 7)] none [⟨none, .ld, .n1 (.faddr 1) (.n1 .nilchk (.slot 0))⟩, ⟨none, .ld, .n1 (.faddr 2) (.n1 .nilchk (.slot 0))⟩, ⟨none, .ld, .n1 (.faddr 3) (.n1 .nilchk (.slot 0))⟩, ⟨none, .ld, .n1 (.faddr 4) (.n1 .nilchk (.slot 0))⟩, ⟨none, .ld, .n1 (.faddr 5) (.n1 .nilchk (.slot 0))⟩],
    .eff (some 14) (.call { callee := .builtin .append, args := #[.tmp 9, .tmp 13], argTypes := #[97, 97] }) 97 [(9, .slot 9), (13, .slot 13)] none [⟨none, .ld, .n1 (.faddr 2) (.n1 .nilchk (.slot 0))⟩, ⟨none, .ld, .n1 (.faddr 3) (.n1 .nilchk (.slot 0))⟩, ⟨none, .ld, .n1 (.faddr 4) (.n1 .nilchk (.slot 0))⟩, ⟨none, .ld, .n1 (.faddr 5) (.n1 .nilchk (.slot 0))⟩],
    .eff (some 32) (.call { callee := .builtin .append, args := #[.tmp 27, .tmp 31], argTypes := #[22, 22] }) 22 [(27, .slot 27), (31, .slot 31)] none [⟨none, .ld, .n1 (.faddr 2) (.n1 .nilchk (.slot 0))⟩, ⟨none, .ld, .n1 (.faddr 3) (.n1 .nilchk (.slot 0))⟩, ⟨none, .ld, .n1 (.faddr 4) (.n1 .nilchk (.slot 0))⟩],
    .need (.n2 (.put 0 1) (.lit (.agg #[(.slice none 0 0), (.slice none 0 0), (.int .i64 0), (.bool false), (.int .i64 0), (.slice none 0 0)])) (.slot 8)),
    .need (.n2 (.put 1 1) (.n2 (.put 0 1) (.lit (.agg #[(.slice none 0 0), (.slice none 0 0), (.int .i64 0), (.bool false), (.int .i64 0), (.slice none 0 0)])) (.slot 8)) (.slot 14)),
    .need (.n2 (.put 2 1) (.n2 (.put 1 1) (.n2 (.put 0 1) (.lit (.agg #[(.slice none 0 0), (.slice none 0 0), (.int .i64 0), (.bool false), (.int .i64 0), (.slice none 0 0)])) (.slot 8)) (.slot 14)) (.slot 18)),
    .need (.n2 (.put 3 1) (.n2 (.put 2 1) (.n2 (.put 1 1) (.n2 (.put 0 1) (.lit (.agg #[(.slice none 0 0), (.slice none 0 0), (.int .i64 0), (.bool false), (.int .i64 0), (.slice none 0 0)])) (.slot 8)) (.slot 14)) (.slot 18)) (.slot 22)),
    .need (.n2 (.put 4 1) (.n2 (.put 3 1) (.n2 (.put 2 1) (.n2 (.put 1 1) (.n2 (.put 0 1) (.lit (.agg #[(.slice none 0 0), (.slice none 0 0), (.int .i64 0), (.bool false), (.int .i64 0), (.slice none 0 0)])) (.slot 8)) (.slot 14)) (.slot 18)) (.slot 22)) (.slot 26)),
    .need (.n2 (.put 5 1) (.n2 (.put 4 1) (.n2 (.put 3 1) (.n2 (.put 2 1) (.n2 (.put 1 1) (.n2 (.put 0 1) (.lit (.agg #[(.slice none 0 0), (.slice none 0 0), (.int .i64 0), (.bool false), (.int .i64 0), (.slice none 0 0)])) (.slot 8)) (.slot 14)) (.slot 18)) (.slot 22)) (.slot 26)) (.slot 32)),
    .eff (some 34) (.box 99 (.tmp 33)) 51 [(33, .n2 (.put 5 1) (.n2 (.put 4 1) (.n2 (.put 3 1) (.n2 (.put 2 1) (.n2 (.put 1 1) (.n2 (.put 0 1) (.lit (.agg #[(.slice none 0 0), (.slice none 0 0), (.int .i64 0), (.bool false), (.int .i64 0), (.slice none 0 0)])) (.slot 8)) (.slot 14)) (.slot 18)) (.slot 22)) (.slot 26)) (.slot 32))] none [],
    .asg 2 (.slot 34)]
  .fin)
def t36_18 : HT :=
  (.run [.eff (some 3) (.buildSlice 40 0 #[]) 40 [] none [⟨none, .ld, .n1 (.faddr 0) (.n1 .nilchk (.slot 0))⟩, ⟨none, .ld, .n1 (.faddr 1) (.n1 .nilchk (.slot 0))⟩, ⟨none, .ld, .n1 (.faddr 2) (.n1 .nilchk (.slot 0))⟩, ⟨none, .ld, .n1 (.faddr 3) (.n1 .nilchk (.slot 0))⟩, ⟨none, .ld, .n1 (.faddr 4) (.n1 .nilchk (.slot 0))⟩, ⟨none, .ld, .n1 (.faddr 5) (.n1 .nilchk (.slot 0))⟩]]
  (.fork
    t36_19
    t36_22))
def t36_23 : HT :=
  (.run [.eff (some 27) (.buildSlice 22 0 #[]) 22 [] none [⟨none, .ld, .n1 (.faddr 0) (.n1 .nilchk (.slot 0))⟩, ⟨none, .ld, .n1 (.faddr 1) (.n1 .nilchk (.slot 0))⟩, ⟨none, .ld, .n1 (.faddr 2) (.n1 .nilchk (.slot 0))⟩, ⟨none, .ld, .n1 (.faddr 3) (.n1 .nilchk (.slot 0))⟩, ⟨none, .ld, .n1 (.faddr 4) (.n1 .nilchk (.slot 0))⟩, ⟨none, .ld, .n1 (.faddr 5) (.n1 .nilchk (.slot 0))⟩],
    .eff (some 3) (.buildSlice 40 0 #[]) 40 [] none [⟨none, .ld, .n1 (.faddr 0) (.n1 .nilchk (.slot 0))⟩, ⟨none, .ld, .n1 (.faddr 1) (.n1 .nilchk (.slot 0))⟩, ⟨none, .ld, .n1 (.faddr 2) (.n1 .nilchk (.slot 0))⟩, ⟨none, .ld, .n1 (.faddr 3) (.n1 .nilchk (.slot 0))⟩, ⟨none, .ld, .n1 (.faddr 4) (.n1 .nilchk (.slot 0))⟩, ⟨none, .ld, .n1 (.faddr 5) (.n1 .nilchk (.slot 0))⟩],
    .eff (some 8) (.call { callee := .builtin .append, args := #[.tmp 3, .tmp 7], argTypes := #[40, 40] }) 40 [(3, .slot 3), (7, .slot 7)] none [⟨none, .ld, .n1 (.faddr 1) (.n1 .nilchk (.slot 0))⟩, ⟨none, .ld, .n1 (.faddr 2) (.n1 .nilchk (.slot 0))⟩, ⟨none, .ld, .n1 (.faddr 3) (.n1 .nilchk (.slot 0))⟩, ⟨none, .ld, .n1 (.faddr 4) (.n1 .nilchk (.slot 0))⟩, ⟨none, .ld, .n1 (.faddr 5) (.n1 .nilchk (.slot 0))⟩],
    .eff (some 14) (.call { callee := .builtin .append, args := #[.tmp 9, .tmp 13], argTypes := #[97, 97] }) 97 [(9, .slot 9), (13, .slot 13)] none [⟨none, .ld, .n1 (.faddr 2) (.n1 .nilchk (.slot 0))⟩, ⟨none, .ld, .n1 (.faddr 3) (.n1 .nilchk (.slot 0))⟩, ⟨none, .ld, .n1 (.faddr 4) (.n1 .nilchk (.slot 0))⟩, ⟨none, .ld, .n1 (.faddr 5) (.n1 .nilchk (.slot 0))⟩],
    .eff (some 32) (.call { callee := .builtin .append, args := #[.tmp 27, .tmp 31], argTypes := #[22, 22] }) 22 [(27, .slot 27), (31, .slot 31)] none [⟨none, .ld, .n1 (.faddr 2) (.n1 .nilchk (.slot 0))⟩, ⟨none, .ld, .n1 (.faddr 3) (.n1 .nilchk (.slot 0))⟩, ⟨none, .ld, .n1 (.faddr 4) (.n1 .nilchk (.slot 0))⟩],
    .need (.n2 (.put 0 1) (.lit (.agg #[(.slice none 0 0), (.slice none 0 0), (.int .i64 0), (.bool false), (.int .i64 0), (.slice none 0 0)])) (.slot 8)),
    .need (.n2 (.put 1 1) (.n2 (.put 0 1) (.lit (.agg #[(.slice none 0 0), (.slice none 0 0), (.int .i64 0), (.bool false), (.int .i64 0), (.slice none 0 0)])) (.slot 8)) (.slot 14)),
    .need (.n2 (.put 2 1) (.n2 (.put 1 1) (.n2 (.put 0 1) (.lit (.agg #[(.slice none 0 0), (.slice none 0 0), (.int .i64 0), (.bool false), (.int .i64 0), (.slice none 0 0)])) (.slot 8)) (.slot 14)) (.slot 18)),
    .need (.n2 (.put 3 1) (.n2 (.put 2 1) (.n2 (.put 1 1) (.n2 (.put 0 1) (.lit (.agg #[(.slice none 0 0), (.slice none 0 0), (.int .i64 0), (.bool false), (.int .i64 0), (.slice none 0 0)])) (.slot 8)) (.slot 14)) (.slot 18)) (.slot 22)),
    .need (.n2 (.put 4 1) (.n2 (.put 3 1) (.n2 (.put 2 1) (.n2 (.put 1 1) (.n2 (.put 0 1) (.lit (.agg #[(.slice none 0 0), (.slice none 0 0), (.int .i64 0), (.bool false), (.int .i64 0), (.slice none 0 0)])) (.slot 8)) (.slot 14)) (.slot 18)) (.slot 22)) (.slot 26)),
    .need (.n2 (.put 5 1) (.n2 (.put 4 1) (.n2 (.put 3 1) (.n2 (.put 2 1) (.n2 (.put 1 1) (.n2 (.put 0 1) (.lit (.agg #[(.slice none 0 0), (.slice none 0 0), (.int .i64 0), (.bool false), (.int .i64 0), (.slice none 0 0)])) (.slot 8)) (.slot 14)) (.slot 18)) (.slot 22)) (.slot 26)) (.slot 32)),
    .eff (some 34) (.box 99 (.tmp 33)) 51 [(33, .n2 (.put 5 1) (.n2 (.put 4 1) (.n2 (.put 3 1) (.n2 (.put 2 1) (.n2 (.put 1 1) (.n2 (.put 0 1) (.lit (.agg #[(.slice none 0 0), (.slice none 0 0), (.int .i64 0), (.bool false), (.int .i64 0), (.slice none 0 0)])) (.slot 8)) (.slot 14)) (.slot 18)) (.slot 22)) (.slot 26)) (.slot 32))] none [],
    .asg 2 (.slot 34)]
  .fin)
def t36_17 : HT :=
  (.run [.eff (some 9) (.buildSlice 97 0 #[]) 97 [] none [⟨none, .ld, .n1 (.faddr 0) (.n1 .nilchk (.slot 0))⟩, ⟨none, .ld, .n1 (.faddr 1) (.n1 .nilchk (.slot 0))⟩, ⟨none, .ld, .n1 (.faddr 2) (.n1 .nilchk (.slot 0))⟩, ⟨none, .ld, .n1 (.faddr 3) (.n1 .nilchk (.slot 0))⟩, ⟨none, .ld, .n1 (.faddr 4) (.n1 .nilchk (.slot 0))⟩, ⟨none, .ld, .n1 (.faddr 5) (.n1 .nilchk (.slot 0))⟩]]
  (.fork
    t36_18
    t36_23))
def t36_26 : HT :=
  (.run [.eff (some 8) (.call { callee := .builtin .append, args := #[.tmp 3, .tmp 7], argTypes := #[40, 40] }) 40 [(3, .slot 3), (7, .slot 7)] none [⟨none, .ld, .n1 (.faddr 0) (.n1 .nilchk (.slot 0))⟩, ⟨none, .ld, .n1 (.faddr 1) (.n1 .nilchk (.slot 0))⟩, ⟨none, .ld, .n1 (.faddr 2) (.n1 .nilchk (.slot 0))⟩, ⟨none, .ld, .n1 (.faddr 3) (.n1 .nilchk (.slot 0))⟩, ⟨none, .ld, .n1 (.faddr 4) (.n1 .nilchk (.slot 0))⟩, ⟨none, .ld, .n1 (.faddr 5) (.n1 .nilchk (.slot 0))⟩],
    .eff (some 9) (.buildSlice 97 0 #[]) 97 [] none [⟨none, .ld, .n1 (.faddr 0) (.n1 .nilchk (.slot 0))⟩, ⟨none, .ld, .n1 (.faddr 1) (.n1 .nilchk (.slot 0))⟩, ⟨none, .ld, .n1 (.faddr 2) (.n1 .nilchk (.slot 0))⟩, ⟨none, .ld, .n1 (.faddr 3) (.n1 .nilchk (.slot 0))⟩, ⟨none, .ld, .n1 (.faddr 4) (.n1 .nilchk (.slot 0))⟩, ⟨none, .ld, .n1 (.faddr 5) (.n1 .nilchk (.slot 0))⟩],
    .eff (some 14) (.call { callee := .builtin .append, args := #[.tmp 9, .tmp 13], argTypes := #[97, 97] }) 97 [(9, .slot 9), (13, .slot 13)] none [⟨none, .ld, .n1 (.faddr 2) (.n1 .nilchk (.slot 0))⟩, ⟨none, .ld, .n1 (.faddr 3) (.n1 .nilchk (.slot 0))⟩, ⟨none, .ld, .n1 (.faddr 4) (.n1 .nilchk (.slot 0))⟩, ⟨none, .ld, .n1 (.faddr 5) (.n1 .nilchk (.slot 0))⟩],
    .eff (some 32) (.call { callee := .builtin .append, args := #[.tmp 27, .tmp 31], argTypes := #[22, 22] }) 22 [(27, .slot 27), (31, .slot 31)] none [⟨none, .ld, .n1 (.faddr 2) (.n1 .nilchk (.slot 0))⟩, ⟨none, .ld, .n1 (.faddr 3) (.n1 .nilchk (.slot 0))⟩, ⟨none, .ld, .n1 (.faddr 4) (.n1 .nilchk (.slot 0))⟩],
    .need (.n2 (.put 0 1) (.lit (.agg #[(.slice none 0 0), (.slice none 0 0), (.int .i64 0), (.bool false), (.int .i64 0), (.slice none 0 0)])) (.slot 8)),
    .need (.n2 (.put 1 1) (.n2 (.put 0 1) (.lit (.agg #[(.slice none 0 0), (.slice none 0 0), (.int .i64 0), (.bool false), (.int .i64 0), (.slice none 0 0)])) (.slot 8)) (.slot 14)),
    .need (.n2 (.put 2 1) (.n2 (.put 1 1) (.n2 (.put 0 1) (.lit (.agg #[(.slice none 0 0), (.slice none 0 0), (.int .i64 0), (.bool false), (.int .i64 0), (.slice none 0 0)])) (.slot 8)) (.slot 14)) (.slot 18)),
    .need (.n2 (.put 3 1) (.n2 (.put 2 1) (.n2 (.put 1 1) (.n2 (.put 0 1) (.lit (.agg #[(.slice none 0 0), (.slice none 0 0), (.int .i64 0), (.bool false), (.int .i64 0), (.slice none 0 0)])) (.slot 8)) (.slot 14)) (.slot 18)) (.slot 22)),
    .need (.n2 (.put 4 1) (.n2 (.put 3 1) (.n2 (.put 2 1) (.n2 (.put 1 1) (.n2 (.put 0 1) (.lit (.agg #[(.slice none 0 0), (.slice none 0 0), (.int .i64 0), (.bool false), (.int .i64 0), (.slice none 0 0)])) (.slot 8)) (.slot 14)) (.slot 18)) (.slot 22)) (.slot 26)),
    .need (.n2 (.put 5 1) (.n2 (.put 4 1) (.n2 (.put 3 1) (.n2 (.put 2 1) (.n2 (.put 1 1) (.n2 (.put 0 1) (.lit (.agg #[(.slice none 0 0), (.slice none 0 0), (.int .i64 0), (.bool false), (.int .i64 0), (.slice none 0 0)])) (.slot 8)) (.slot 14)) (.slot 18)) (.slot 22)) (.slot 26)) (.slot 32)),
    .eff (some 34) (.box 99 (.tmp 33)) 51 [(33, .n2 (.put 5 1) (.n2 (.put 4 1) (.n2 (.put 3 1) (.n2 (.put 2 1) (.n2 (.put 1 1) (.n2 (.put 0 1) (.lit (.agg #[(.slice none 0 0), (.slice none 0 0), (.int .i64 0), (.bool false), (.int .i64 0), (.slice none 0 0)])) (.slot 8)) (.slot 14)) (.slot 18)) (.slot 22)) (.slot 26)) (.slot 32))] none [],
    .asg 2 (.slot 34)]
  .fin)
def t36_27 : HT :=
  (.run [.eff (some 9) (.buildSlice 97 0 #[]) 97 [] none [⟨none, .ld, .n1 (.faddr 0) (.n1 .nilchk (.slot 0))⟩, ⟨none, .ld, .n1 (.faddr 1) (.n1 .nilchk (.slot 0))⟩, ⟨none, .ld, .n1 (.faddr 2) (.n1 .nilchk (.slot 0))⟩, ⟨none, .ld, .n1 (.faddr 3) (.n1 .nilchk (.slot 0))⟩, ⟨none, .ld, .n1 (.faddr 4) (.n1 .nilchk (.slot 0))⟩, ⟨none, .ld, .n1 (.faddr 5) (.n1 .nilchk (.slot 0))⟩],
    .eff (some 8) (.call { callee := .builtin .append, args := #[.tmp 3, .tmp 7], argTypes := #[40, 40] }) 40 [(3, .slot 3), (7, .slot 7)] none [⟨none, .ld, .n1 (.faddr 1) (.n1 .nilchk (.slot 0))⟩, ⟨none, .ld, .n1 (.faddr 2) (.n1 .nilchk (.slot 0))⟩, ⟨none, .ld, .n1 (.faddr 3) (.n1 .nilchk (.slot 0))⟩, ⟨none, .ld, .n1 (.faddr 4) (.n1 .nilchk (.slot 0))⟩, ⟨none, .ld, .n1 (.faddr 5) (.n1 .nilchk (.slot 0))⟩],
    .eff (some 14) (.call { callee := .builtin .append, args := #[.tmp 9, .tmp 13], argTypes := #[97, 97] }) 97 [(9, .slot 9), (13, .slot 13)] none [⟨none, .ld, .n1 (.faddr 2) (.n1 .nilchk (.slot 0))⟩, ⟨none, .ld, .n1 (.faddr 3) (.n1 .nilchk (.slot 0))⟩, ⟨none, .ld, .n1 (.faddr 4) (.n1 .nilchk (.slot 0))⟩, ⟨none, .ld, .n1 (.faddr 5) (.n1 .nilchk (.slot 0))⟩],
    .eff (some 32) (.call { callee := .builtin .append, args := #[.tmp 27, .tmp 31], argTypes := #[22, 22] }) 22 [(27, .slot 27), (31, .slot 31)] none [⟨none, .ld, .n1 (.faddr 2) (.n1 .nilchk (.slot 0))⟩, ⟨none, .ld, .n1 (.faddr 3) (.n1 .nilchk (.slot 0))⟩, ⟨none, .ld, .n1 (.faddr 4) (.n1 .nilchk (.slot 0))⟩],
    .need (.n2 (.put 0 1) (.lit (.agg #[(.slice none 0 0), (.slice none 0 0), (.int .i64 0), (.bool false), (.int .i64 0), (.slice none 0 0)])) (.slot 8)),
    .need (.n2 (.put 1 1) (.n2 (.put 0 1) (.lit (.agg #[(.slice none 0 0), (.slice none 0 0), (.int .i64 0), (.bool false), (.int .i64 0), (.slice none 0 0)])) (.slot 8)) (.slot 14)),
    .need (.n2 (.put 2 1) (.n2 (.put 1 1) (.n2 (.put 0 1) (.lit (.agg #[(.slice none 0 0), (.slice none 0 0), (.int .i64 0), (.bool false), (.int .i64 0), (.slice none 0 0)])) (.slot 8)) (.slot 14)) (.slot 18)),
    .need (.n2 (.put 3 1) (.n2 (.put 2 1) (.n2 (.put 1 1) (.n2 (.put 0 1) (.lit (.agg #[(.slice none 0 0), (.slice none 0 0), (.int .i64 0), (.bool false), (.int .i64 0), (.slice none 0 0)])) (.slot 8)) (.slot 14)) (.slot 18)) (.slot 22)),
    .need (.n2 (.put 4 1) (.n2 (.put 3 1) (.n2 (.put 2 1) (.n2 (.put 1 1) (.n2 (.put 0 1) (.lit (.agg #[(.slice none 0 0), (.slice none 0 0), (.int .i64 0), (.bool false), (.int .i64 0), (.slice none 0 0)])) (.slot 8)) (.slot 14)) (.slot 18)) (.slot 22)) (.slot 26)),
    .need (.n2 (.put 5 1) (.n2 (.put 4 1) (.n2 (.put 3 1) (.n2 (.put 2 1) (.n2 (.put 1 1) (.n2 (.put 0 1) (.lit (.agg #[(.slice none 0 0), (.slice none 0 0), (.int .i64 0), (.bool false), (.int .i64 0), (.slice none 0 0)])) (.slot 8)) (.slot 14)) (.slot 18)) (.slot 22)) (.slot 26)) (.slot 32)),
    .eff (some 34) (.box 99 (.tmp 33)) 51 [(33, .n2 (.put 5 1) (.n2 (.put 4 1) (.n2 (.put 3 1) (.n2 (.put 2 1) (.n2 (.put 1 1) (.n2 (.put 0 1) (.lit (.agg #[(.slice none 0 0), (.slice none 0 0), (.int .i64 0), (.bool false), (.int .i64 0), (.slice none 0 0)])) (.slot 8)) (.slot 14)) (.slot 18)) (.slot 22)) (.slot 26)) (.slot 32))] none [],
    .asg 2 (.slot 34)]
  .fin)
def t36_25 : HT :=
  (.run [.eff (some 3) (.buildSlice 40 0 #[]) 40 [] none [⟨none, .ld, .n1 (.faddr 0) (.n1 .nilchk (.slot 0))⟩, ⟨none, .ld, .n1 (.faddr 1) (.n1 .nilchk (.slot 0))⟩, ⟨none, .ld, .n1 (.faddr 2) (.n1 .nilchk (.slot 0))⟩, ⟨none, .ld, .n1 (.faddr 3) (.n1 .nilchk (.slot 0))⟩, ⟨none, .ld, .n1 (.faddr 4) (.n1 .nilchk (.slot 0))⟩, ⟨none, .ld, .n1 (.faddr 5) (.n1 .nilchk (.slot 0))⟩]]
  (.fork
    t36_26
    t36_27))
def t36_28 : HT :=
  (.run [.eff (some 9) (.buildSlice 97 0 #[]) 97 [] none [⟨none, .ld, .n1 (.faddr 0) (.n1 .nilchk (.slot 0))⟩, ⟨none, .ld, .n1 (.faddr 1) (.n1 .nilchk (.slot 0))⟩, ⟨none, .ld, .n1 (.faddr 2) (.n1 .nilchk (.slot 0))⟩, ⟨none, .ld, .n1 (.faddr 3) (.n1 .nilchk (.slot 0))⟩, ⟨none, .ld, .n1 (.faddr 4) (.n1 .nilchk (.slot 0))⟩, ⟨none, .ld, .n1 (.faddr 5) (.n1 .nilchk (.slot 0))⟩],
    .eff (some 3) (.buildSlice 40 0 #[]) 40 [] none [⟨none, .ld, .n1 (.faddr 0) (.n1 .nilchk (.slot 0))⟩, ⟨none, .ld, .n1 (.faddr 1) (.n1 .nilchk (.slot 0))⟩, ⟨none, .ld, .n1 (.faddr 2) (.n1 .nilchk (.slot 0))⟩, ⟨none, .ld, .n1 (.faddr 3) (.n1 .nilchk (.slot 0))⟩, ⟨none, .ld, .n1 (.faddr 4) (.n1 .nilchk (.slot 0))⟩, ⟨none, .ld, .n1 (.faddr 5) (.n1 .nilchk (.slot 0))⟩],
    .eff (some 8) (.call { callee := .builtin .append, args := #[.tmp 3, .tmp 7], argTypes := #[40, 40] }) 40 [(3, .slot 3), (7, .slot 7)] none [⟨none, .ld, .n1 (.faddr 1) (.n1 .nilchk (.slot 0))⟩, ⟨none, .ld, .n1 (.faddr 2) (.n1 .nilchk (.slot 0))⟩, ⟨none, .ld, .n1 (.faddr 3) (.n1 .nilchk (.slot 0))⟩, ⟨none, .ld, .n1 (.faddr 4) (.n1 .nilchk (.slot 0))⟩, ⟨none, .ld, .n1 (.faddr 5) (.n1 .nilchk (.slot 0))⟩],
    .eff (some 14) (.call { callee := .builtin .append, args := #[.tmp 9, .tmp 13], argTypes := #[97, 97] }) 97 [(9, .slot 9), (13, .slot 13)] none [⟨none, .ld, .n1 (.faddr 2) (.n1 .nilchk (.slot 0))⟩, ⟨none, .ld, .n1 (.faddr 3) (.n1 .nilchk (.slot 0))⟩, ⟨none, .ld, .n1 (.faddr 4) (.n1 .nilchk (.slot 0))⟩, ⟨none, .ld, .n1 (.faddr 5) (.n1 .nilchk (.slot 0))⟩],
    .eff (some 32) (.call { callee := .builtin .append, args := #[.tmp 27, .tmp 31], argTypes := #[22, 22] }) 22 [(27, .slot 27), (31, .slot 31)] none [⟨none, .ld, .n1 (.faddr 2) (.n1 .nilchk (.slot 0))⟩, ⟨none, .ld, .n1 (.faddr 3) (.n1 .nilchk (.slot 0))⟩, ⟨none, .ld, .n1 (.faddr 4) (.n1 .nilchk (.slot 0))⟩],
    .need (.n2 (.put 0 1) (.lit (.agg #[(.slice none 0 0), (.slice none 0 0), (.int .i64 0), (.bool false), (.int .i64 0), (.slice none 0 0)])) (.slot 8)),
    .need (.n2 (.put 1 1) (.n2 (.put 0 1) (.lit (.agg #[(.slice none 0 0), (.slice none 0 0), (.int .i64 0), (.bool false), (.int .i64 0), (.slice none 0 0)])) (.slot 8)) (.slot 14)),
    .need (.n2 (.put 2 1) (.n2 (.put 1 1) (.n2 (.put 0 1) (.lit (.agg #[(.slice none 0 0), (.slice none 0 0), (.int .i64 0), (.bool false), (.int .i64 0), (.slice none 0 0)])) (.slot 8)) (.slot 14)) (.slot 18)),
    .need (.n2 (.put 3 1) (.n2 (.put 2 1) (.n2 (.put 1 1) (.n2 (.put 0 1) (.lit (.agg #[(.slice none 0 0), (.slice none 0 0), (.int .i64 0), (.bool false), (.int .i64 0), (.slice none 0 0)])) (.slot 8)) (.slot 14)) (.slot 18)) (.slot 22)),
    .need (.n2 (.put 4 1) (.n2 (.put 3 1) (.n2 (.put 2 1) (.n2 (.put 1 1) (.n2 (.put 0 1) (.lit (.agg #[(.slice none 0 0), (.slice none 0 0), (.int .i64 0), (.bool false), (.int .i64 0), (.slice none 0 0)])) (.slot 8)) (.slot 14)) (.slot 18)) (.slot 22)) (.slot 26)),
    .need (.n2 (.put 5 1) (.n2 (.put 4 1) (.n2 (.put 3 1) (.n2 (.put 2 1) (.n2 (.put 1 1) (.n2 (.put 0 1) (.lit (.agg #[(.slice none 0 0), (.slice none 0 0), (.int .i64 0), (.bool false), (.int .i64 0), (.slice none 0 0)])) (.slot 8)) (.slot 14)) (.slot 18)) (.slot 22)) (.slot 26)) (.slot 32)),
    .eff (some 34) (.box 99 (.tmp 33)) 51 [(33, .n2 (.put 5 1) (.n2 (.put 4 1) (.n2 (.put 3 1) (.n2 (.put 2 1) (.n2 (.put 1 1) (.n2 (.put 0 1) (.lit (.agg #[(.slice none 0 0), (.slice none 0 0), (.int .i64 0), (.bool false), (.int .i64 0), (.slice none 0 0)])) (.slot 8)) (.slot 14)) (.slot 18)) (.slot 22)) (.slot 26)) (.slot 32))] none [],
    .asg 2 (.slot 34)]
  .fin)
def t36_24 : HT :=
  (.run [.eff (some 27) (.buildSlice 22 0 #[]) 22 [] none [⟨none, .ld, .n1 (.faddr 0) (.n1 .nilchk (.slot 0))⟩, ⟨none, .ld, .n1 (.faddr 1) (.n1 .nilchk (.slot 0))⟩, ⟨none, .ld, .n1 (.faddr 2) (.n1 .nilchk (.slot 0))⟩, ⟨none, .ld, .n1 (.faddr 3) (.n1 .nilchk (.slot 0))⟩, ⟨none, .ld, .n1 (.faddr 4) (.n1 .nilchk (.slot 0))⟩, ⟨none, .ld, .n1 (.faddr 5) (.n1 .nilchk (.slot 0))⟩]]
  (.fork
    t36_25
    t36_28))
def t36_16 : HT :=
  (.fork
    t36_17
    t36_24)
def h36 : HC :=
  (.seq
  (.reg [.asg 2 (.lit (.pointer none))])
  (.seq
  (.drawT
    (.run [.need (.n1 .nilchk (.slot 0)),
      .need (.n1 (.faddr 0) (.n1 .nilchk (.slot 0))),
      .need (.n1 .ld (.n1 (.faddr 0) (.n1 .nilchk (.slot 0)))),
      .asg 7 (.n1 .ld (.n1 (.faddr 0) (.n1 .nilchk (.slot 0)))),
      .need (.n1 .nilchk (.slot 0)),
      .need (.n1 (.faddr 1) (.n1 .nilchk (.slot 0))),
      .need (.n1 .ld (.n1 (.faddr 1) (.n1 .nilchk (.slot 0)))),
      .asg 13 (.n1 .ld (.n1 (.faddr 1) (.n1 .nilchk (.slot 0)))),
      .need (.n1 .nilchk (.slot 0)),
      .need (.n1 (.faddr 2) (.n1 .nilchk (.slot 0))),
      .need (.n1 .ld (.n1 (.faddr 2) (.n1 .nilchk (.slot 0)))),
      .asg 18 (.n1 .ld (.n1 (.faddr 2) (.n1 .nilchk (.slot 0)))),
      .need (.n1 .nilchk (.slot 0)),
      .need (.n1 (.faddr 3) (.n1 .nilchk (.slot 0))),
      .need (.n1 .ld (.n1 (.faddr 3) (.n1 .nilchk (.slot 0)))),
      .asg 22 (.n1 .ld (.n1 (.faddr 3) (.n1 .nilchk (.slot 0)))),
      .need (.n1 .nilchk (.slot 0)),
      .need (.n1 (.faddr 4) (.n1 .nilchk (.slot 0))),
      .need (.n1 .ld (.n1 (.faddr 4) (.n1 .nilchk (.slot 0)))),
      .asg 26 (.n1 .ld (.n1 (.faddr 4) (.n1 .nilchk (.slot 0)))),
      .need (.n1 .nilchk (.slot 0)),
      .need (.n1 (.faddr 5) (.n1 .nilchk (.slot 0))),
      .need (.n1 .ld (.n1 (.faddr 5) (.n1 .nilchk (.slot 0)))),
      .asg 31 (.n1 .ld (.n1 (.faddr 5) (.n1 .nilchk (.slot 0))))]
    (.fork
      t36_1
      t36_16)))
  .ret))
theorem k36 : fnOK Try.prog 23828128653 [⟨1, [0, 0, 2, 6, 14, 31, 0, 0, 128, 384, 896, 2047, 0, 4096, 12288, 28672, 0, 65536, 196608, 458752, 0, 1048576, 3145728, 7340032, 0, 0, 33554432, 100663296, 234881024, 520097791, 1073741823, 2147483647, 4294967295], [], (some (.op 1 [] (.op 2 [] (.op 3 [] (.op 4 [] (.op 7 [] (.op 8 [] (.op 9 [] (.op 10 [] (.op 12 [] (.op 13 [] (.op 14 [] (.op 15 [] (.op 16 [] (.op 17 [] (.op 18 [] (.op 19 [] (.op 20 [] (.op 21 [] (.op 22 [] (.op 23 [] (.op 25 [] (.op 26 [] (.op 27 [] (.op 28 [] (.fork (.op 0 [4, 10, 15, 19, 23, 28] (.fork (.op 5 [4, 10, 15, 19, 23, 28] (.fork (.op 6 [4, 10, 15, 19, 23, 28] (.fork (.op 11 [4, 10, 15, 19, 23, 28] (.op 24 [4, 10, 15, 19, 23, 28] (.op 29 [15, 19, 23] (.op 30 [] (.op 31 [] (.op 32 [] .nil)))))) (.op 24 [4, 10, 15, 19, 23, 28] (.op 11 [15, 19, 23, 28] (.op 29 [15, 19, 23] (.op 30 [] (.op 31 [] (.op 32 [] .nil)))))))) (.op 24 [4, 10, 15, 19, 23, 28] (.op 6 [4, 10, 15, 19, 23, 28] (.op 11 [15, 19, 23, 28] (.op 29 [15, 19, 23] (.op 30 [] (.op 31 [] (.op 32 [] .nil))))))))) (.fork (.op 6 [4, 10, 15, 19, 23, 28] (.fork (.op 5 [4, 10, 15, 19, 23, 28] (.fork (.op 11 [4, 10, 15, 19, 23, 28] (.op 24 [4, 10, 15, 19, 23, 28] (.op 29 [15, 19, 23] (.op 30 [] (.op 31 [] (.op 32 [] .nil)))))) (.op 24 [4, 10, 15, 19, 23, 28] (.op 11 [15, 19, 23, 28] (.op 29 [15, 19, 23] (.op 30 [] (.op 31 [] (.op 32 [] .nil)))))))) (.op 24 [4, 10, 15, 19, 23, 28] (.op 5 [10, 15, 19, 23, 28] (.op 11 [15, 19, 23, 28] (.op 29 [15, 19, 23] (.op 30 [] (.op 31 [] (.op 32 [] .nil))))))))) (.op 24 [4, 10, 15, 19, 23, 28] (.fork (.op 5 [4, 10, 15, 19, 23, 28] (.op 6 [4, 10, 15, 19, 23, 28] (.op 11 [15, 19, 23, 28] (.op 29 [15, 19, 23] (.op 30 [] (.op 31 [] (.op 32 [] .nil))))))) (.op 6 [4, 10, 15, 19, 23, 28] (.op 5 [10, 15, 19, 23, 28] (.op 11 [15, 19, 23, 28] (.op 29 [15, 19, 23] (.op 30 [] (.op 31 [] (.op 32 [] .nil)))))))))))) (.fork (.op 6 [4, 10, 15, 19, 23, 28] (.fork (.op 0 [4, 10, 15, 19, 23, 28] (.fork (.op 5 [4, 10, 15, 19, 23, 28] (.fork (.op 11 [4, 10, 15, 19, 23, 28] (.op 24 [4, 10, 15, 19, 23, 28] (.op 29 [15, 19, 23] (.op 30 [] (.op 31 [] (.op 32 [] .nil)))))) (.op 24 [4, 10, 15, 19, 23, 28] (.op 11 [15, 19, 23, 28] (.op 29 [15, 19, 23] (.op 30 [] (.op 31 [] (.op 32 [] .nil)))))))) (.op 24 [4, 10, 15, 19, 23, 28] (.op 5 [10, 15, 19, 23, 28] (.op 11 [15, 19, 23, 28] (.op 29 [15, 19, 23] (.op 30 [] (.op 31 [] (.op 32 [] .nil))))))))) (.op 24 [4, 10, 15, 19, 23, 28] (.op 0 [4, 10, 15, 19, 23, 28] (.op 5 [10, 15, 19, 23, 28] (.op 11 [15, 19, 23, 28] (.op 29 [15, 19, 23] (.op 30 [] (.op 31 [] (.op 32 [] .nil)))))))))) (.op 24 [4, 10, 15, 19, 23, 28] (.fork (.op 0 [4, 10, 15, 19, 23, 28] (.fork (.op 5 [4, 10, 15, 19, 23, 28] (.op 6 [4, 10, 15, 19, 23, 28] (.op 11 [15, 19, 23, 28] (.op 29 [15, 19, 23] (.op 30 [] (.op 31 [] (.op 32 [] .nil))))))) (.op 6 [4, 10, 15, 19, 23, 28] (.op 5 [10, 15, 19, 23, 28] (.op 11 [15, 19, 23, 28] (.op 29 [15, 19, 23] (.op 30 [] (.op 31 [] (.op 32 [] .nil))))))))) (.op 6 [4, 10, 15, 19, 23, 28] (.op 0 [4, 10, 15, 19, 23, 28] (.op 5 [10, 15, 19, 23, 28] (.op 11 [15, 19, 23, 28] (.op 29 [15, 19, 23] (.op 30 [] (.op 31 [] (.op 32 [] .nil)))))))))))))))))))))))))))))))))))))⟩] [.tmp 2] 1 Try.f36 = some h36 := by kernel_rfl
theorem c36 : callable Try.prog 36 = true := by kernel_rfl
theorem q36 {args : List Value} (ha : args.length = 1) {w : World} {next : Value → World → Prop} {QP : List PanicEntry → World → Prop} (H : hw Try.prog noPanic h36 (endV [.tmp 2] next) (σ0 args) w) : callK Try.prog 36 args w next QP := fn_rule Try.func36 mixed k36 ha H
theorem r36 {args : List Value} (ha : args.length = 1) {w : World} {next : Value → World → Prop} {QP : List PanicEntry → World → Prop} (H : hw Try.prog noPanic h36 (endV [.tmp 2] next) (σ0 args) w) : callvK Try.prog (.func (.func 36) #[] #[]) args w next QP := callf c36 (q36 ha H)

/- missive/missivelaw05.twin -/
def h37_1 : HC :=
  (.cond (.slot 9)
    (.seq
    (.reg [.need (.n1 (.faddr 1) (.slot 3)),
      .need (.n1 .ld (.n1 (.faddr 1) (.slot 3))),
      .need (.n1 (.faddr 3) (.slot 3)),
      .need (.n1 .ld (.n1 (.faddr 3) (.slot 3))),
      .need (.n1 (.faddr 4) (.slot 3)),
      .need (.n1 .ld (.n1 (.faddr 4) (.slot 3))),
      .eff (some 19) (.call { callee := .value (.func 73), args := #[.tmp 12, .tmp 14, .tmp 16, .tmp 18], argTypes := #[51, 3, 3, 9] }) 26 [(12, .slot 0), (14, .n1 .ld (.n1 (.faddr 1) (.slot 3))), (16, .n1 .ld (.n1 (.faddr 3) (.slot 3))), (18, .n1 .ld (.n1 (.faddr 4) (.slot 3)))] none [],
      .asg 4 (.lit (str [])),
      .asg 5 (.slot 19)])
    .ret)
    (.seq
    (.reg [.need (.n2 (.bin .eql) (.slot 8) (.lit (.int .i64 2))),
      .asg 20 (.n2 (.bin .eql) (.slot 8) (.lit (.int .i64 2)))])
    (.cond (.slot 20)
      (.seq
      (.reg [.need (.n1 (.faddr 1) (.slot 3)),
        .need (.n1 .ld (.n1 (.faddr 1) (.slot 3))),
        .eff (some 25) (.call { callee := .value (.func 74), args := #[.tmp 22, .tmp 24], argTypes := #[51, 3] }) 26 [(22, .slot 0), (24, .n1 .ld (.n1 (.faddr 1) (.slot 3)))] none [],
        .asg 4 (.lit (str [])),
        .asg 5 (.slot 25)])
      .ret)
      (.seq
      (.reg [.need (.n2 (.bin .eql) (.slot 8) (.lit (.int .i64 3))),
        .asg 26 (.n2 (.bin .eql) (.slot 8) (.lit (.int .i64 3)))])
      (.cond (.slot 26)
        (.seq
        (.reg [.need (.n1 (.faddr 1) (.slot 3)),
          .need (.n1 .ld (.n1 (.faddr 1) (.slot 3))),
          .need (.n1 (.faddr 3) (.slot 3)),
          .need (.n1 .ld (.n1 (.faddr 3) (.slot 3))),
          .eff (some 33) (.call { callee := .value (.func 75), args := #[.tmp 28, .tmp 30, .tmp 32], argTypes := #[51, 3, 3] }) 26 [(28, .slot 0), (30, .n1 .ld (.n1 (.faddr 1) (.slot 3))), (32, .n1 .ld (.n1 (.faddr 3) (.slot 3)))] none [],
          .asg 4 (.lit (str [])),
          .asg 5 (.slot 33)])
        .ret)
        (.seq
        (.reg [.need (.n2 (.bin .eql) (.slot 8) (.lit (.int .i64 4))),
          .asg 34 (.n2 (.bin .eql) (.slot 8) (.lit (.int .i64 4)))])
        (.cond (.slot 34)
          (.seq
          (.reg [.need (.n1 (.faddr 1) (.slot 3)),
            .need (.n1 .ld (.n1 (.faddr 1) (.slot 3))),
            .need (.n1 (.faddr 2) (.slot 3)),
            .need (.n1 .ld (.n1 (.faddr 2) (.slot 3))),
            .eff (some 41) (.call { callee := .value (.func 76), args := #[.tmp 36, .tmp 38, .tmp 40], argTypes := #[51, 3, 3] }) 26 [(36, .slot 0), (38, .n1 .ld (.n1 (.faddr 1) (.slot 3))), (40, .n1 .ld (.n1 (.faddr 2) (.slot 3)))] none [],
            .asg 4 (.lit (str [])),
            .asg 5 (.slot 41)])
          .ret)
          (.seq
          (.reg [.need (.n2 (.bin .eql) (.slot 8) (.lit (.int .i64 5))),
            .asg 42 (.n2 (.bin .eql) (.slot 8) (.lit (.int .i64 5)))])
          (.cond (.slot 42)
            (.reg [.need (.n1 (.faddr 5) (.slot 3)),
              .need (.n1 .ld (.n1 (.faddr 5) (.slot 3))),
              .eff (some 47) (.call { callee := .value (.func 59), args := #[.tmp 44, .tmp 46], argTypes := #[51, 22] }) 0 [(44, .slot 0), (46, .n1 .ld (.n1 (.faddr 5) (.slot 3)))] none []])
            (.seq
            (.reg [.need (.n2 (.bin .eql) (.slot 8) (.lit (.int .i64 6))),
              .asg 48 (.n2 (.bin .eql) (.slot 8) (.lit (.int .i64 6)))])
            (.cond (.slot 48)
              (.reg [.need (.n1 (.faddr 3) (.slot 3)),
                .need (.n1 .ld (.n1 (.faddr 3) (.slot 3))),
                .eff (some 53) (.call { callee := .value (.func 60), args := #[.tmp 50, .tmp 52], argTypes := #[51, 3] }) 0 [(50, .slot 0), (52, .n1 .ld (.n1 (.faddr 3) (.slot 3)))] none []])
              (.seq
              (.reg [.need (.n2 (.bin .eql) (.slot 8) (.lit (.int .i64 7))),
                .asg 54 (.n2 (.bin .eql) (.slot 8) (.lit (.int .i64 7)))])
              (.cond (.slot 54)
                (.reg [.eff (some 57) (.call { callee := .value (.func 40), args := #[.tmp 56], argTypes := #[51] }) 0 [(56, .slot 0)] none []])
                (.seq
                (.reg [.need (.n2 (.bin .eql) (.slot 8) (.lit (.int .i64 8))),
                  .asg 58 (.n2 (.bin .eql) (.slot 8) (.lit (.int .i64 8)))])
                (.cond (.slot 58)
                  (.seq
                  (.reg [.need (.n1 (.faddr 1) (.slot 3)),
                    .need (.n1 .ld (.n1 (.faddr 1) (.slot 3))),
                    .eff (some 63) (.call { callee := .value (.func 41), args := #[.tmp 60, .tmp 62], argTypes := #[51, 3] }) 31 [(60, .slot 0), (62, .n1 .ld (.n1 (.faddr 1) (.slot 3)))] none [],
                    .need (.n1 (.ext 0) (.slot 63)),
                    .need (.n1 (.ext 1) (.slot 63)),
                    .asg 4 (.n1 (.ext 0) (.slot 63)),
                    .asg 5 (.n1 (.ext 1) (.slot 63))])
                  .ret)
                  (.seq
                  (.reg [.need (.n2 (.bin .eql) (.slot 8) (.lit (.int .i64 10))),
                    .asg 66 (.n2 (.bin .eql) (.slot 8) (.lit (.int .i64 10)))])
                  (.cond (.slot 66)
                    (.reg [.need (.n1 (.faddr 3) (.slot 3)),
                      .need (.n1 .ld (.n1 (.faddr 3) (.slot 3))),
                      .need (.n1 (.faddr 5) (.slot 3)),
                      .need (.n1 .ld (.n1 (.faddr 5) (.slot 3))),
                      .eff (some 73) (.call { callee := .value (.func 77), args := #[.tmp 68, .tmp 70, .tmp 72], argTypes := #[51, 3, 22] }) 0 [(68, .slot 0), (70, .n1 .ld (.n1 (.faddr 3) (.slot 3))), (72, .n1 .ld (.n1 (.faddr 5) (.slot 3)))] none []])
                    .skip)))))))))))))))))
def h37_2 : HC :=
  (.seq
  (.reg [.asg 4 (.lit (str [])),
    .asg 5 (.lit (.int .i64 0))])
  .ret)
def h37 : HC :=
  (.seq
  (.reg [.eff (some 3) (.box 42 (.tmp 1)) 0 [(1, .slot 1)] none [],
    .asg 4 (.lit (str [])),
    .asg 5 (.lit (.int .i64 0))])
  (.seq
  (.seq
  (.reg [.need (.n1 (.faddr 0) (.slot 3)),
    .need (.n1 .ld (.n1 (.faddr 0) (.slot 3))),
    .eff (some 8) (.call { callee := .value (.func 28), args := #[.tmp 7], argTypes := #[3] }) 3 [(7, .n1 .ld (.n1 (.faddr 0) (.slot 3)))] none []])
  (.block 0
    (.seq
    (.seq
    (.reg [.need (.n2 (.bin .eql) (.slot 8) (.lit (.int .i64 0))),
      .asg 9 (.n2 (.bin .eql) (.slot 8) (.lit (.int .i64 0)))])
    (.cond (.slot 9)
      .skip
      (.reg [.need (.n2 (.bin .eql) (.slot 8) (.lit (.int .i64 1))),
        .asg 9 (.n2 (.bin .eql) (.slot 8) (.lit (.int .i64 1)))])))
    h37_1)))
  h37_2))
theorem k37 : fnOK Try.prog 9528203110068382073659 [] [.tmp 4, .tmp 5] 2 Try.f37 = some h37 := by kernel_rfl
theorem c37 : callable Try.prog 37 = true := by kernel_rfl
theorem q37 {args : List Value} (ha : args.length = 2) {w : World} {next : Value → World → Prop} {QP : List PanicEntry → World → Prop} (H : hw Try.prog noPanic h37 (endV [.tmp 4, .tmp 5] next) (σ0 args) w) : callK Try.prog 37 args w next QP := fn_rule Try.func37 mixed k37 ha H
theorem r37 {args : List Value} (ha : args.length = 2) {w : World} {next : Value → World → Prop} {QP : List PanicEntry → World → Prop} (H : hw Try.prog noPanic h37 (endV [.tmp 4, .tmp 5] next) (σ0 args) w) : callvK Try.prog (.func (.func 37) #[] #[]) args w next QP := callf c37 (q37 ha H)

/- (*missive/missiveref05.Disk).Down -/
def h38 : HC :=
  (.seq
  (.reg [.asg 2 (.lit (.bool false))])
  (.seq
  (.reg [.need (.n1 .nilchk (.slot 0)),
    .need (.n1 (.faddr 3) (.n1 .nilchk (.slot 0))),
    .need (.n1 .ld (.n1 (.faddr 3) (.n1 .nilchk (.slot 0)))),
    .asg 2 (.n1 .ld (.n1 (.faddr 3) (.n1 .nilchk (.slot 0))))])
  .ret))
theorem k38 : fnOK Try.prog 5 [] [.tmp 2] 1 Try.f38 = some h38 := by kernel_rfl
theorem c38 : callable Try.prog 38 = true := by kernel_rfl
theorem q38 {args : List Value} (ha : args.length = 1) {w : World} {next : Value → World → Prop} {QP : List PanicEntry → World → Prop} (H : hw Try.prog noPanic h38 (endV [.tmp 2] next) (σ0 args) w) : callK Try.prog 38 args w next QP := fn_rule Try.func38 mixed k38 ha H
theorem r38 {args : List Value} (ha : args.length = 1) {w : World} {next : Value → World → Prop} {QP : List PanicEntry → World → Prop} (H : hw Try.prog noPanic h38 (endV [.tmp 2] next) (σ0 args) w) : callvK Try.prog (.func (.func 38) #[] #[]) args w next QP := callf c38 (q38 ha H)

/- (*missive/missiveref05.Disk).Size -/
def h39_1 : HC :=
  (.seq
  (.reg [.eff (some 13) (.call { callee := .value (.func 78), args := #[.tmp 11, .tmp 12], argTypes := #[51, 3] }) 9 [(11, .slot 0), (12, .slot 1)] none [],
    .need (.n1 .lens (.slot 13)),
    .asg 4 (.n1 .lens (.slot 13))])
  .ret)
def h39 : HC :=
  (.seq
  (.reg [.asg 4 (.lit (.int .i64 0))])
  (.seq
  (.seq
  (.reg [.need (.n2 (.bin .lss) (.slot 1) (.lit (.int .i64 0))),
    .need (.gif (.n2 (.bin .lss) (.slot 1) (.lit (.int .i64 0))) false (.n2 (.bin .gtr) (.slot 1) (.lit (.int .i64 11)))),
    .need (.n3 .pick (.n2 (.bin .lss) (.slot 1) (.lit (.int .i64 0))) (.lit (.bool true)) (.n2 (.bin .gtr) (.slot 1) (.lit (.int .i64 11)))),
    .asg 10 (.n3 .pick (.n2 (.bin .lss) (.slot 1) (.lit (.int .i64 0))) (.lit (.bool true)) (.n2 (.bin .gtr) (.slot 1) (.lit (.int .i64 11))))])
  (.cond (.slot 10)
    (.seq
    (.reg [.asg 4 (.lit (.int .i64 0))])
    .ret)
    .skip))
  h39_1))
theorem k39 : fnOK Try.prog 9235 [] [.tmp 4] 2 Try.f39 = some h39 := by kernel_rfl
theorem c39 : callable Try.prog 39 = true := by kernel_rfl
theorem q39 {args : List Value} (ha : args.length = 2) {w : World} {next : Value → World → Prop} {QP : List PanicEntry → World → Prop} (H : hw Try.prog noPanic h39 (endV [.tmp 4] next) (σ0 args) w) : callK Try.prog 39 args w next QP := fn_rule Try.func39 mixed k39 ha H
theorem r39 {args : List Value} (ha : args.length = 2) {w : World} {next : Value → World → Prop} {QP : List PanicEntry → World → Prop} (H : hw Try.prog noPanic h39 (endV [.tmp 4] next) (σ0 args) w) : callvK Try.prog (.func (.func 39) #[] #[]) args w next QP := callf c39 (q39 ha H)

/- (*missive/missiveref05.Disk).Start -/
def h40 : HC :=
  (.reg [.need (.n1 .nilchk (.slot 0)),
    .need (.n1 (.faddr 3) (.n1 .nilchk (.slot 0))),
    .eff none (.store 4 (.tmp 4) (.const (.bool false))) 0 [(4, .n1 (.faddr 3) (.n1 .nilchk (.slot 0)))] none []])
theorem k40 : fnOK Try.prog 1 [] [] 1 Try.f40 = some h40 := by kernel_rfl
theorem c40 : callable Try.prog 40 = true := by kernel_rfl
theorem q40 {args : List Value} (ha : args.length = 1) {w : World} {next : Value → World → Prop} {QP : List PanicEntry → World → Prop} (H : hw Try.prog noPanic h40 (endV [] next) (σ0 args) w) : callK Try.prog 40 args w next QP := fn_rule Try.func40 mixed k40 ha H
theorem r40 {args : List Value} (ha : args.length = 1) {w : World} {next : Value → World → Prop} {QP : List PanicEntry → World → Prop} (H : hw Try.prog noPanic h40 (endV [] next) (σ0 args) w) : callvK Try.prog (.func (.func 40) #[] #[]) args w next QP := callf c40 (q40 ha H)

/- (*missive/missiveref05.Disk).Read -/
def h41_1 : HC :=
  (.seq
  (.reg [.eff (some 15) (.call { callee := .value (.func 78), args := #[.tmp 13, .tmp 14], argTypes := #[51, 3] }) 9 [(13, .slot 0), (14, .slot 1)] none [],
    .asg 4 (.slot 15),
    .asg 5 (.lit (.int .i64 0))])
  .ret)
def h41 : HC :=
  (.seq
  (.reg [.asg 4 (.lit (str [])),
    .asg 5 (.lit (.int .i64 0))])
  (.seq
  (.reg [.eff (some 9) (.call { callee := .value (.func 79), args := #[.tmp 7, .tmp 8], argTypes := #[51, 3] }) 26 [(7, .slot 0), (8, .slot 1)] none [],
    .asg 6 (.slot 9)])
  (.seq
  (.seq
  (.reg [.need (.n2 (.bin .neq) (.slot 6) (.lit (.int .i64 0))),
    .asg 11 (.n2 (.bin .neq) (.slot 6) (.lit (.int .i64 0)))])
  (.cond (.slot 11)
    (.seq
    (.reg [.asg 4 (.lit (str [])),
      .asg 5 (.slot 6)])
    .ret)
    .skip))
  h41_1)))
theorem k41 : fnOK Try.prog 35443 [] [.tmp 4, .tmp 5] 2 Try.f41 = some h41 := by kernel_rfl
theorem c41 : callable Try.prog 41 = true := by kernel_rfl
theorem q41 {args : List Value} (ha : args.length = 2) {w : World} {next : Value → World → Prop} {QP : List PanicEntry → World → Prop} (H : hw Try.prog noPanic h41 (endV [.tmp 4, .tmp 5] next) (σ0 args) w) : callK Try.prog 41 args w next QP := fn_rule Try.func41 mixed k41 ha H
theorem r41 {args : List Value} (ha : args.length = 2) {w : World} {next : Value → World → Prop} {QP : List PanicEntry → World → Prop} (H : hw Try.prog noPanic h41 (endV [.tmp 4, .tmp 5] next) (σ0 args) w) : callvK Try.prog (.func (.func 41) #[] #[]) args w next QP := callf c41 (q41 ha H)

/- (*missive/missiveref05.Disk).Crash -/
def h59_4 : HC :=
  (.reg [.need (.n2 (.bin .add) (.slot 5) (.lit (.int .i64 1))),
    .asg 5 (.n2 (.bin .add) (.slot 5) (.lit (.int .i64 1)))])
def h59_3 : HC :=
  (.seq
  (.block 1
    (.reg [.eff (some 24) (.call { callee := .value (.func 97), args := #[.tmp 21, .tmp 22, .tmp 23], argTypes := #[51, 3, 22] }) 9 [(21, .slot 0), (22, .slot 5), (23, .slot 1)] none [],
      .eff (some 25) (.buildSlice 40 1 #[(0, .tmp 24)]) 40 [(24, .slot 24)] none [],
      .eff (some 26) (.call { callee := .builtin .append, args := #[.tmp 20, .tmp 25], argTypes := #[40, 40] }) 40 [(20, .slot 4), (25, .slot 25)] none [],
      .asg 4 (.slot 26)]))
  h59_4)
def h59_2 : HC :=
  (.seq
  (.seq
  (.reg [.need (.n2 (.bin .lss) (.slot 5) (.lit (.int .i64 12))),
    .asg 17 (.n2 (.bin .lss) (.slot 5) (.lit (.int .i64 12)))])
  (.cond (.slot 17)
    .skip
    (.exit 0)))
  h59_3)
def h59_5 : HC :=
  (.seq
  (.reg [.need (.n1 .nilchk (.slot 0)),
    .need (.n1 (.faddr 0) (.n1 .nilchk (.slot 0))),
    .eff none (.store 40 (.tmp 30) (.tmp 28)) 0 [(30, .n1 (.faddr 0) (.n1 .nilchk (.slot 0))), (28, .slot 4)] none []])
  (.reg [.need (.n1 .nilchk (.slot 0)),
    .need (.n1 (.faddr 1) (.n1 .nilchk (.slot 0))),
    .eff none (.store 97 (.tmp 33) (.const (.slice none 0 0))) 0 [(33, .n1 (.faddr 1) (.n1 .nilchk (.slot 0)))] none []]))
def h59_1 : HC :=
  (.seq
  (.reg [.need (.n1 .nilchk (.slot 0)),
    .need (.n1 (.faddr 3) (.n1 .nilchk (.slot 0))),
    .eff none (.store 4 (.tmp 12) (.const (.bool true))) 0 [(12, .n1 (.faddr 3) (.n1 .nilchk (.slot 0)))] none []])
  (.seq
  (.reg [.need (.n1 .nilchk (.slot 0)),
    .need (.n1 (.faddr 4) (.n1 .nilchk (.slot 0))),
    .eff none (.store 3 (.tmp 15) (.const (.int .i64 0))) 0 [(15, .n1 (.faddr 4) (.n1 .nilchk (.slot 0)))] none []])
  (.seq
  (.reg [.asg 4 (.lit (.slice none 0 0))])
  (.seq
  (.seq
  (.reg [.asg 5 (.lit (.int .i64 0))])
  (.block 0
    (.loop
      h59_2)))
  h59_5))))
def h59 : HC :=
  (.seq
  (.seq
  (.reg [.need (.n1 .nilchk (.slot 0)),
    .need (.n1 (.faddr 3) (.n1 .nilchk (.slot 0))),
    .need (.n1 .ld (.n1 (.faddr 3) (.n1 .nilchk (.slot 0)))),
    .asg 9 (.n1 .ld (.n1 (.faddr 3) (.n1 .nilchk (.slot 0))))])
  (.cond (.slot 9)
    .ret
    .skip))
  h59_1)
theorem k59 : fnOK Try.prog 117572147 [] [] 2 Try.f59 = some h59 := by kernel_rfl
theorem c59 : callable Try.prog 59 = true := by kernel_rfl
theorem q59 {args : List Value} (ha : args.length = 2) {w : World} {next : Value → World → Prop} {QP : List PanicEntry → World → Prop} (H : hw Try.prog noPanic h59 (endV [] next) (σ0 args) w) : callK Try.prog 59 args w next QP := fn_rule Try.func59 mixed k59 ha H
theorem r59 {args : List Value} (ha : args.length = 2) {w : World} {next : Value → World → Prop} {QP : List PanicEntry → World → Prop} (H : hw Try.prog noPanic h59 (endV [] next) (σ0 args) w) : callvK Try.prog (.func (.func 59) #[] #[]) args w next QP := callf c59 (q59 ha H)

/- (*missive/missiveref05.Disk).Lose -/
def h60 : HC :=
  (.reg [.need (.n2 .mx (.slot 1) (.lit (.int .i64 0))),
    .need (.n1 .nilchk (.slot 0)),
    .need (.n1 (.faddr 2) (.n1 .nilchk (.slot 0))),
    .eff none (.store 3 (.tmp 8) (.tmp 6)) 0 [(8, .n1 (.faddr 2) (.n1 .nilchk (.slot 0))), (6, .n2 .mx (.slot 1) (.lit (.int .i64 0)))] none []])
theorem k60 : fnOK Try.prog 3 [] [] 2 Try.f60 = some h60 := by kernel_rfl
theorem c60 : callable Try.prog 60 = true := by kernel_rfl
theorem q60 {args : List Value} (ha : args.length = 2) {w : World} {next : Value → World → Prop} {QP : List PanicEntry → World → Prop} (H : hw Try.prog noPanic h60 (endV [] next) (σ0 args) w) : callK Try.prog 60 args w next QP := fn_rule Try.func60 mixed k60 ha H
theorem r60 {args : List Value} (ha : args.length = 2) {w : World} {next : Value → World → Prop} {QP : List PanicEntry → World → Prop} (H : hw Try.prog noPanic h60 (endV [] next) (σ0 args) w) : callvK Try.prog (.func (.func 60) #[] #[]) args w next QP := callf c60 (q60 ha H)

/- (*missive/missiveref05.Disk).Write -/
def h73_3 : HC :=
  (.seq
  (.reg [.eff (some 31) (.call { callee := .value (.func 103), args := #[.tmp 27, .tmp 28, .tmp 29, .tmp 30], argTypes := #[51, 3, 3, 9] }) 0 [(27, .slot 0), (28, .slot 1), (29, .slot 2), (30, .slot 3)] none []])
  (.seq
  (.reg [.asg 8 (.lit (.int .i64 0))])
  .ret))
def h73_2 : HC :=
  (.seq
  (.seq
  (.reg [.eff (some 25) (.call { callee := .value (.func 102), args := #[.tmp 23, .tmp 24], argTypes := #[3, 9] }) 4 [(23, .slot 2), (24, .slot 3)] none [],
    .need (.n1 .bnot (.slot 25)),
    .asg 26 (.n1 .bnot (.slot 25))])
  (.cond (.slot 26)
    (.seq
    (.reg [.asg 8 (.lit (.int .i64 6))])
    .ret)
    .skip))
  h73_3)
def h73_1 : HC :=
  (.seq
  (.seq
  (.reg [.need (.n2 (.bin .lss) (.slot 2) (.lit (.int .i64 0))),
    .asg 22 (.n2 (.bin .lss) (.slot 2) (.lit (.int .i64 0)))])
  (.cond (.slot 22)
    (.seq
    (.reg [.asg 8 (.lit (.int .i64 1))])
    .ret)
    .skip))
  h73_2)
def h73 : HC :=
  (.seq
  (.reg [.asg 8 (.lit (.int .i64 0))])
  (.seq
  (.reg [.eff (some 14) (.call { callee := .value (.func 101), args := #[.tmp 10, .tmp 11, .tmp 12, .tmp 13], argTypes := #[51, 3, 3, 9] }) 0 [(10, .slot 0), (11, .slot 1), (12, .slot 2), (13, .slot 3)] none []])
  (.seq
  (.reg [.eff (some 17) (.call { callee := .value (.func 79), args := #[.tmp 15, .tmp 16], argTypes := #[51, 3] }) 26 [(15, .slot 0), (16, .slot 1)] none [],
    .asg 9 (.slot 17)])
  (.seq
  (.seq
  (.reg [.need (.n2 (.bin .neq) (.slot 9) (.lit (.int .i64 0))),
    .asg 19 (.n2 (.bin .neq) (.slot 9) (.lit (.int .i64 0)))])
  (.cond (.slot 19)
    (.seq
    (.reg [.asg 8 (.slot 9)])
    .ret)
    .skip))
  h73_1))))
theorem k73 : fnOK Try.prog 2253013775 [] [.tmp 8] 4 Try.f73 = some h73 := by kernel_rfl
theorem c73 : callable Try.prog 73 = true := by kernel_rfl
theorem q73 {args : List Value} (ha : args.length = 4) {w : World} {next : Value → World → Prop} {QP : List PanicEntry → World → Prop} (H : hw Try.prog noPanic h73 (endV [.tmp 8] next) (σ0 args) w) : callK Try.prog 73 args w next QP := fn_rule Try.func73 mixed k73 ha H
theorem r73 {args : List Value} (ha : args.length = 4) {w : World} {next : Value → World → Prop} {QP : List PanicEntry → World → Prop} (H : hw Try.prog noPanic h73 (endV [.tmp 8] next) (σ0 args) w) : callvK Try.prog (.func (.func 73) #[] #[]) args w next QP := callf c73 (q73 ha H)

/- (*missive/missiveref05.Disk).Flush -/
def h74_3 : HC :=
  (.seq
  (.reg [.asg 4 (.lit (.int .i64 0))])
  .ret)
def h74_2 : HC :=
  (.seq
  (.draw [.need (.n1 .nilchk (.slot 0)),
    .need (.n1 (.faddr 0) (.n1 .nilchk (.slot 0))),
    .need (.n1 .ld (.n1 (.faddr 0) (.n1 .nilchk (.slot 0)))),
    .asg 29 (.n1 .ld (.n1 (.faddr 0) (.n1 .nilchk (.slot 0)))),
    .eff (some 33) (.call { callee := .value (.func 78), args := #[.tmp 31, .tmp 32], argTypes := #[51, 3] }) 9 [(31, .slot 0), (32, .slot 1)] none [⟨none, .ld, .n1 (.faddr 0) (.n1 .nilchk (.slot 0))⟩],
    .need (.n2 (.iaddr 1) (.slot 29) (.slot 1)),
    .eff none (.store 9 (.tmp 34) (.tmp 33)) 0 [(34, .n2 (.iaddr 1) (.slot 29) (.slot 1)), (33, .slot 33)] none []])
  (.seq
  (.reg [.eff (some 38) (.call { callee := .value (.func 104), args := #[.tmp 36, .tmp 37], argTypes := #[51, 3] }) 97 [(36, .slot 0), (37, .slot 1)] none [],
    .need (.n1 .nilchk (.slot 0)),
    .need (.n1 (.faddr 1) (.n1 .nilchk (.slot 0))),
    .eff none (.store 97 (.tmp 40) (.tmp 38)) 0 [(40, .n1 (.faddr 1) (.n1 .nilchk (.slot 0))), (38, .slot 38)] none []])
  h74_3))
def h74_1 : HC :=
  (.seq
  (.seq
  (.reg [.need (.n1 .nilchk (.slot 0)),
    .need (.n1 (.faddr 2) (.n1 .nilchk (.slot 0))),
    .need (.n1 .ld (.n1 (.faddr 2) (.n1 .nilchk (.slot 0)))),
    .need (.n2 (.bin .gtr) (.n1 .ld (.n1 (.faddr 2) (.n1 .nilchk (.slot 0)))) (.lit (.int .i64 0))),
    .asg 18 (.n2 (.bin .gtr) (.n1 .ld (.n1 (.faddr 2) (.n1 .nilchk (.slot 0)))) (.lit (.int .i64 0)))])
  (.cond (.slot 18)
    (.seq
    (.reg [.need (.n1 .nilchk (.slot 0)),
      .need (.n1 (.faddr 2) (.n1 .nilchk (.slot 0))),
      .need (.n1 .ld (.n1 (.faddr 2) (.n1 .nilchk (.slot 0)))),
      .need (.n2 (.bin .sub) (.n1 .ld (.n1 (.faddr 2) (.n1 .nilchk (.slot 0)))) (.lit (.int .i64 1))),
      .need (.n1 .nilchk (.slot 0)),
      .need (.n1 (.faddr 2) (.n1 .nilchk (.slot 0))),
      .eff none (.store 3 (.tmp 25) (.tmp 23)) 0 [(25, .n1 (.faddr 2) (.n1 .nilchk (.slot 0))), (23, .n2 (.bin .sub) (.n1 .ld (.n1 (.faddr 2) (.n1 .nilchk (.slot 0)))) (.lit (.int .i64 1)))] none []])
    (.seq
    (.reg [.asg 4 (.lit (.int .i64 9))])
    .ret))
    .skip))
  h74_2)
def h74 : HC :=
  (.seq
  (.reg [.asg 4 (.lit (.int .i64 0))])
  (.seq
  (.reg [.eff (some 7) (.call { callee := .value (.func 101), args := #[.tmp 6, .const (.int .i64 0), .const (.int .i64 0), .const (str [])], argTypes := #[51, 3, 3, 9] }) 0 [(6, .slot 0)] none []])
  (.seq
  (.reg [.eff (some 10) (.call { callee := .value (.func 79), args := #[.tmp 8, .tmp 9], argTypes := #[51, 3] }) 26 [(8, .slot 0), (9, .slot 1)] none [],
    .asg 5 (.slot 10)])
  (.seq
  (.seq
  (.reg [.need (.n2 (.bin .neq) (.slot 5) (.lit (.int .i64 0))),
    .asg 12 (.n2 (.bin .neq) (.slot 5) (.lit (.int .i64 0)))])
  (.cond (.slot 12)
    (.seq
    (.reg [.asg 4 (.slot 5)])
    .ret)
    .skip))
  h74_1))))
theorem k74 : fnOK Try.prog 284004979891 [⟨8, [0, 1, 3, 7, 0, 0, 0, 96, 255, 511], [(0, []), (1, []), (2, []), (3, []), (4, []), (5, []), (6, []), (7, [3]), (8, []), (9, [])], none⟩] [.tmp 4] 2 Try.f74 = some h74 := by kernel_rfl
theorem c74 : callable Try.prog 74 = true := by kernel_rfl
theorem q74 {args : List Value} (ha : args.length = 2) {w : World} {next : Value → World → Prop} {QP : List PanicEntry → World → Prop} (H : hw Try.prog noPanic h74 (endV [.tmp 4] next) (σ0 args) w) : callK Try.prog 74 args w next QP := fn_rule Try.func74 mixed k74 ha H
theorem r74 {args : List Value} (ha : args.length = 2) {w : World} {next : Value → World → Prop} {QP : List PanicEntry → World → Prop} (H : hw Try.prog noPanic h74 (endV [.tmp 4] next) (σ0 args) w) : callvK Try.prog (.func (.func 74) #[] #[]) args w next QP := callf c74 (q74 ha H)

/- (*missive/missiveref05.Disk).Cut -/
def h75_2 : HC :=
  (.seq
  (.draw [.need (.n1 .nilchk (.slot 0)),
    .need (.n1 (.faddr 0) (.n1 .nilchk (.slot 0))),
    .need (.n1 .ld (.n1 (.faddr 0) (.n1 .nilchk (.slot 0)))),
    .need (.n3 (.sls false true) (.slot 8) (.lit (.tuple #[])) (.slot 2)),
    .need (.n2 (.iaddr 1) (.n1 .ld (.n1 (.faddr 0) (.n1 .nilchk (.slot 0)))) (.slot 1)),
    .eff none (.store 9 (.tmp 36) (.tmp 35)) 0 [(36, .n2 (.iaddr 1) (.n1 .ld (.n1 (.faddr 0) (.n1 .nilchk (.slot 0)))) (.slot 1)), (35, .n3 (.sls false true) (.slot 8) (.lit (.tuple #[])) (.slot 2))] none []])
  (.seq
  (.reg [.eff (some 40) (.call { callee := .value (.func 104), args := #[.tmp 38, .tmp 39], argTypes := #[51, 3] }) 97 [(38, .slot 0), (39, .slot 1)] none [],
    .need (.n1 .nilchk (.slot 0)),
    .need (.n1 (.faddr 1) (.n1 .nilchk (.slot 0))),
    .eff none (.store 97 (.tmp 42) (.tmp 40)) 0 [(42, .n1 (.faddr 1) (.n1 .nilchk (.slot 0))), (40, .slot 40)] none []])
  (.seq
  (.reg [.asg 6 (.lit (.int .i64 0))])
  .ret)))
def h75_1 : HC :=
  (.seq
  (.reg [.eff (some 19) (.call { callee := .value (.func 78), args := #[.tmp 17, .tmp 18], argTypes := #[51, 3] }) 9 [(17, .slot 0), (18, .slot 1)] none [],
    .asg 8 (.slot 19)])
  (.seq
  (.seq
  (.reg [.need (.n2 (.bin .lss) (.slot 2) (.lit (.int .i64 0))),
    .need (.gif (.n2 (.bin .lss) (.slot 2) (.lit (.int .i64 0))) false (.n1 .lens (.slot 8))),
    .need (.gif (.n2 (.bin .lss) (.slot 2) (.lit (.int .i64 0))) false (.n2 (.bin .gtr) (.slot 2) (.n1 .lens (.slot 8)))),
    .need (.n3 .pick (.n2 (.bin .lss) (.slot 2) (.lit (.int .i64 0))) (.lit (.bool true)) (.n2 (.bin .gtr) (.slot 2) (.n1 .lens (.slot 8)))),
    .asg 27 (.n3 .pick (.n2 (.bin .lss) (.slot 2) (.lit (.int .i64 0))) (.lit (.bool true)) (.n2 (.bin .gtr) (.slot 2) (.n1 .lens (.slot 8))))])
  (.cond (.slot 27)
    (.seq
    (.reg [.asg 6 (.lit (.int .i64 1))])
    .ret)
    .skip))
  h75_2))
def h75 : HC :=
  (.seq
  (.reg [.asg 6 (.lit (.int .i64 0))])
  (.seq
  (.reg [.eff (some 10) (.call { callee := .value (.func 101), args := #[.tmp 9, .const (.int .i64 0), .const (.int .i64 0), .const (str [])], argTypes := #[51, 3, 3, 9] }) 0 [(9, .slot 0)] none []])
  (.seq
  (.reg [.eff (some 13) (.call { callee := .value (.func 79), args := #[.tmp 11, .tmp 12], argTypes := #[51, 3] }) 26 [(11, .slot 0), (12, .slot 1)] none [],
    .asg 7 (.slot 13)])
  (.seq
  (.seq
  (.reg [.need (.n2 (.bin .neq) (.slot 7) (.lit (.int .i64 0))),
    .asg 15 (.n2 (.bin .neq) (.slot 7) (.lit (.int .i64 0)))])
  (.cond (.slot 15)
    (.seq
    (.reg [.asg 6 (.slot 7)])
    .ret)
    .skip))
  h75_1))))
theorem k75 : fnOK Try.prog 1099646412231 [⟨8, [0, 1, 3, 7, 0, 0, 0, 96, 255, 511], [(0, []), (1, []), (2, []), (3, []), (4, []), (5, []), (6, []), (7, []), (8, []), (9, [])], none⟩] [.tmp 6] 3 Try.f75 = some h75 := by kernel_rfl
theorem c75 : callable Try.prog 75 = true := by kernel_rfl
theorem q75 {args : List Value} (ha : args.length = 3) {w : World} {next : Value → World → Prop} {QP : List PanicEntry → World → Prop} (H : hw Try.prog noPanic h75 (endV [.tmp 6] next) (σ0 args) w) : callK Try.prog 75 args w next QP := fn_rule Try.func75 mixed k75 ha H
theorem r75 {args : List Value} (ha : args.length = 3) {w : World} {next : Value → World → Prop} {QP : List PanicEntry → World → Prop} (H : hw Try.prog noPanic h75 (endV [.tmp 6] next) (σ0 args) w) : callvK Try.prog (.func (.func 75) #[] #[]) args w next QP := callf c75 (q75 ha H)

/- (*missive/missiveref05.Disk).Turn -/
def h76_5 : HC :=
  (.seq
  (.reg [.asg 6 (.lit (.int .i64 0))])
  .ret)
def h76_4 : HC :=
  (.seq
  (.draw [.need (.n1 .nilchk (.slot 0)),
    .need (.n1 (.faddr 0) (.n1 .nilchk (.slot 0))),
    .need (.n1 .ld (.n1 (.faddr 0) (.n1 .nilchk (.slot 0)))),
    .need (.n1 .nilchk (.slot 0)),
    .need (.n1 (.faddr 0) (.n1 .nilchk (.slot 0))),
    .need (.n1 .ld (.n1 (.faddr 0) (.n1 .nilchk (.slot 0)))),
    .need (.n2 (.iaddr 1) (.n1 .ld (.n1 (.faddr 0) (.n1 .nilchk (.slot 0)))) (.slot 2)),
    .need (.n1 .ld (.n2 (.iaddr 1) (.n1 .ld (.n1 (.faddr 0) (.n1 .nilchk (.slot 0)))) (.slot 2))),
    .need (.n2 (.iaddr 1) (.n1 .ld (.n1 (.faddr 0) (.n1 .nilchk (.slot 0)))) (.slot 1)),
    .eff none (.store 9 (.tmp 47) (.tmp 46)) 0 [(47, .n2 (.iaddr 1) (.n1 .ld (.n1 (.faddr 0) (.n1 .nilchk (.slot 0)))) (.slot 1)), (46, .n1 .ld (.n2 (.iaddr 1) (.n1 .ld (.n1 (.faddr 0) (.n1 .nilchk (.slot 0)))) (.slot 2)))] none []])
  (.seq
  (.reg [.need (.n1 .nilchk (.slot 0)),
    .need (.n1 (.faddr 0) (.n1 .nilchk (.slot 0))),
    .need (.n1 .ld (.n1 (.faddr 0) (.n1 .nilchk (.slot 0)))),
    .need (.n2 (.iaddr 1) (.n1 .ld (.n1 (.faddr 0) (.n1 .nilchk (.slot 0)))) (.slot 2)),
    .eff none (.store 9 (.tmp 53) (.const (str []))) 0 [(53, .n2 (.iaddr 1) (.n1 .ld (.n1 (.faddr 0) (.n1 .nilchk (.slot 0)))) (.slot 2))] none []])
  (.seq
  (.reg [.eff (some 57) (.call { callee := .value (.func 104), args := #[.tmp 55, .tmp 56], argTypes := #[51, 3] }) 97 [(55, .slot 0), (56, .slot 1)] none [],
    .need (.n1 .nilchk (.slot 0)),
    .need (.n1 (.faddr 1) (.n1 .nilchk (.slot 0))),
    .eff none (.store 97 (.tmp 59) (.tmp 57)) 0 [(59, .n1 (.faddr 1) (.n1 .nilchk (.slot 0))), (57, .slot 57)] none []])
  h76_5)))
def h76_3 : HC :=
  (.seq
  (.seq
  (.draw [.need (.n1 .nilchk (.slot 0)),
    .need (.n1 (.faddr 1) (.n1 .nilchk (.slot 0))),
    .need (.n1 .ld (.n1 (.faddr 1) (.n1 .nilchk (.slot 0)))),
    .need (.n1 .lensl (.n1 .ld (.n1 (.faddr 1) (.n1 .nilchk (.slot 0))))),
    .asg 33 (.n1 .lensl (.n1 .ld (.n1 (.faddr 1) (.n1 .nilchk (.slot 0))))),
    .eff (some 27) (.call { callee := .value (.func 104), args := #[.tmp 25, .tmp 26], argTypes := #[51, 3] }) 97 [(25, .slot 0), (26, .slot 2)] none [⟨none, .ld, .n1 (.faddr 1) (.n1 .nilchk (.slot 0))⟩],
    .need (.n1 .lensl (.slot 27)),
    .need (.n2 (.bin .neq) (.n1 .lensl (.slot 27)) (.slot 33)),
    .asg 34 (.n2 (.bin .neq) (.n1 .lensl (.slot 27)) (.slot 33))])
  (.cond (.slot 34)
    (.seq
    (.reg [.asg 6 (.lit (.int .i64 7))])
    .ret)
    .skip))
  h76_4)
def h76_2 : HC :=
  (.seq
  (.seq
  (.reg [.need (.n2 (.bin .eql) (.slot 1) (.slot 2)),
    .asg 24 (.n2 (.bin .eql) (.slot 1) (.slot 2))])
  (.cond (.slot 24)
    (.seq
    (.reg [.asg 6 (.lit (.int .i64 1))])
    .ret)
    .skip))
  h76_3)
def h76_1 : HC :=
  (.seq
  (.reg [.eff (some 18) (.call { callee := .value (.func 79), args := #[.tmp 16, .tmp 17], argTypes := #[51, 3] }) 26 [(16, .slot 0), (17, .slot 2)] none [],
    .asg 7 (.slot 18)])
  (.seq
  (.seq
  (.reg [.need (.n2 (.bin .neq) (.slot 7) (.lit (.int .i64 0))),
    .asg 20 (.n2 (.bin .neq) (.slot 7) (.lit (.int .i64 0)))])
  (.cond (.slot 20)
    (.seq
    (.reg [.asg 6 (.slot 7)])
    .ret)
    .skip))
  h76_2))
def h76 : HC :=
  (.seq
  (.reg [.asg 6 (.lit (.int .i64 0))])
  (.seq
  (.reg [.eff (some 9) (.call { callee := .value (.func 101), args := #[.tmp 8, .const (.int .i64 0), .const (.int .i64 0), .const (str [])], argTypes := #[51, 3, 3, 9] }) 0 [(8, .slot 0)] none []])
  (.seq
  (.reg [.eff (some 12) (.call { callee := .value (.func 79), args := #[.tmp 10, .tmp 11], argTypes := #[51, 3] }) 26 [(10, .slot 0), (11, .slot 1)] none [],
    .asg 7 (.slot 12)])
  (.seq
  (.seq
  (.reg [.need (.n2 (.bin .neq) (.slot 7) (.lit (.int .i64 0))),
    .asg 14 (.n2 (.bin .neq) (.slot 7) (.lit (.int .i64 0)))])
  (.cond (.slot 14)
    (.seq
    (.reg [.asg 6 (.slot 7)])
    .ret)
    .skip))
  h76_1))))
theorem k76 : fnOK Try.prog 144115213997986503 [⟨10, [0, 0, 3, 7, 0, 16, 48, 112, 240, 511], [(0, []), (1, []), (4, []), (5, []), (6, []), (7, []), (8, []), (2, [7]), (3, []), (9, [])], none⟩, ⟨12, [0, 1, 3, 7, 0, 0, 32, 96, 224, 0, 992, 2016, 4095, 8191], [(0, []), (1, []), (2, []), (3, []), (4, []), (5, []), (6, []), (7, []), (8, []), (9, []), (10, []), (11, []), (12, []), (13, [])], none⟩] [.tmp 6] 3 Try.f76 = some h76 := by kernel_rfl
theorem c76 : callable Try.prog 76 = true := by kernel_rfl
theorem q76 {args : List Value} (ha : args.length = 3) {w : World} {next : Value → World → Prop} {QP : List PanicEntry → World → Prop} (H : hw Try.prog noPanic h76 (endV [.tmp 6] next) (σ0 args) w) : callK Try.prog 76 args w next QP := fn_rule Try.func76 mixed k76 ha H
theorem r76 {args : List Value} (ha : args.length = 3) {w : World} {next : Value → World → Prop} {QP : List PanicEntry → World → Prop} (H : hw Try.prog noPanic h76 (endV [.tmp 6] next) (σ0 args) w) : callvK Try.prog (.func (.func 76) #[] #[]) args w next QP := callf c76 (q76 ha H)

/- (*missive/missiveref05.Disk).Arm -/
def h77 : HC :=
  (.seq
  (.reg [.need (.n2 .mx (.slot 1) (.lit (.int .i64 0))),
    .need (.n1 .nilchk (.slot 0)),
    .need (.n1 (.faddr 4) (.n1 .nilchk (.slot 0))),
    .eff none (.store 3 (.tmp 10) (.tmp 8)) 0 [(10, .n1 (.faddr 4) (.n1 .nilchk (.slot 0))), (8, .n2 .mx (.slot 1) (.lit (.int .i64 0)))] none []])
  (.reg [.eff (some 12) (.buildSlice 22 0 #[]) 22 [] none [],
    .eff (some 14) (.call { callee := .builtin .append, args := #[.tmp 12, .tmp 13], argTypes := #[22, 22] }) 22 [(12, .slot 12), (13, .slot 2)] none [],
    .need (.n1 .nilchk (.slot 0)),
    .need (.n1 (.faddr 5) (.n1 .nilchk (.slot 0))),
    .eff none (.store 22 (.tmp 16) (.tmp 14)) 0 [(16, .n1 (.faddr 5) (.n1 .nilchk (.slot 0))), (14, .slot 14)] none []]))
theorem k77 : fnOK Try.prog 20487 [] [] 3 Try.f77 = some h77 := by kernel_rfl
theorem c77 : callable Try.prog 77 = true := by kernel_rfl
theorem q77 {args : List Value} (ha : args.length = 3) {w : World} {next : Value → World → Prop} {QP : List PanicEntry → World → Prop} (H : hw Try.prog noPanic h77 (endV [] next) (σ0 args) w) : callK Try.prog 77 args w next QP := fn_rule Try.func77 mixed k77 ha H
theorem r77 {args : List Value} (ha : args.length = 3) {w : World} {next : Value → World → Prop} {QP : List PanicEntry → World → Prop} (H : hw Try.prog noPanic h77 (endV [] next) (σ0 args) w) : callvK Try.prog (.func (.func 77) #[] #[]) args w next QP := callf c77 (q77 ha H)

/- (*missive/missiveref05.Disk).read -/
def h78_3 : HC :=
  (.reg [.need (.n2 (.bin .add) (.slot 6) (.lit (.int .i64 1))),
    .asg 6 (.n2 (.bin .add) (.slot 6) (.lit (.int .i64 1)))])
def h78_2 : HC :=
  (.seq
  (.block 1
    (.seq
    (.reg [.need (.n1 .nilchk (.slot 0)),
      .need (.n1 (.faddr 1) (.n1 .nilchk (.slot 0))),
      .need (.n1 .ld (.n1 (.faddr 1) (.n1 .nilchk (.slot 0)))),
      .need (.n2 (.iaddr 3) (.n1 .ld (.n1 (.faddr 1) (.n1 .nilchk (.slot 0)))) (.slot 6)),
      .need (.n1 (.faddr 0) (.n2 (.iaddr 3) (.n1 .ld (.n1 (.faddr 1) (.n1 .nilchk (.slot 0)))) (.slot 6))),
      .need (.n1 .ld (.n1 (.faddr 0) (.n2 (.iaddr 3) (.n1 .ld (.n1 (.faddr 1) (.n1 .nilchk (.slot 0)))) (.slot 6)))),
      .need (.n2 (.bin .eql) (.n1 .ld (.n1 (.faddr 0) (.n2 (.iaddr 3) (.n1 .ld (.n1 (.faddr 1) (.n1 .nilchk (.slot 0)))) (.slot 6)))) (.slot 1)),
      .asg 32 (.n2 (.bin .eql) (.n1 .ld (.n1 (.faddr 0) (.n2 (.iaddr 3) (.n1 .ld (.n1 (.faddr 1) (.n1 .nilchk (.slot 0)))) (.slot 6)))) (.slot 1))])
    (.cond (.slot 32)
      (.draw [.need (.n1 .nilchk (.slot 0)),
        .need (.n1 (.faddr 1) (.n1 .nilchk (.slot 0))),
        .need (.n1 .ld (.n1 (.faddr 1) (.n1 .nilchk (.slot 0)))),
        .need (.n2 (.iaddr 3) (.n1 .ld (.n1 (.faddr 1) (.n1 .nilchk (.slot 0)))) (.slot 6)),
        .need (.n1 (.faddr 1) (.n2 (.iaddr 3) (.n1 .ld (.n1 (.faddr 1) (.n1 .nilchk (.slot 0)))) (.slot 6))),
        .need (.n1 .ld (.n1 (.faddr 1) (.n2 (.iaddr 3) (.n1 .ld (.n1 (.faddr 1) (.n1 .nilchk (.slot 0)))) (.slot 6)))),
        .need (.n1 .nilchk (.slot 0)),
        .need (.n1 (.faddr 1) (.n1 .nilchk (.slot 0))),
        .need (.n1 .ld (.n1 (.faddr 1) (.n1 .nilchk (.slot 0)))),
        .need (.n2 (.iaddr 3) (.n1 .ld (.n1 (.faddr 1) (.n1 .nilchk (.slot 0)))) (.slot 6)),
        .need (.n1 (.faddr 2) (.n2 (.iaddr 3) (.n1 .ld (.n1 (.faddr 1) (.n1 .nilchk (.slot 0)))) (.slot 6))),
        .need (.n1 .ld (.n1 (.faddr 2) (.n2 (.iaddr 3) (.n1 .ld (.n1 (.faddr 1) (.n1 .nilchk (.slot 0)))) (.slot 6)))),
        .eff (some 50) (.call { callee := .value (.func 105), args := #[.tmp 33, .tmp 41, .tmp 49], argTypes := #[9, 3, 9] }) 9 [(33, .slot 5), (41, .n1 .ld (.n1 (.faddr 1) (.n2 (.iaddr 3) (.n1 .ld (.n1 (.faddr 1) (.n1 .nilchk (.slot 0)))) (.slot 6)))), (49, .n1 .ld (.n1 (.faddr 2) (.n2 (.iaddr 3) (.n1 .ld (.n1 (.faddr 1) (.n1 .nilchk (.slot 0)))) (.slot 6))))] none [],
        .asg 5 (.slot 50)])
      .skip)))
  h78_3)
def h78_1 : HC :=
  (.seq
  (.seq
  (.reg [.need (.n1 .nilchk (.slot 0)),
    .need (.n1 (.faddr 1) (.n1 .nilchk (.slot 0))),
    .need (.n1 .ld (.n1 (.faddr 1) (.n1 .nilchk (.slot 0)))),
    .need (.n1 .lensl (.n1 .ld (.n1 (.faddr 1) (.n1 .nilchk (.slot 0))))),
    .need (.n2 (.bin .lss) (.slot 6) (.n1 .lensl (.n1 .ld (.n1 (.faddr 1) (.n1 .nilchk (.slot 0)))))),
    .asg 20 (.n2 (.bin .lss) (.slot 6) (.n1 .lensl (.n1 .ld (.n1 (.faddr 1) (.n1 .nilchk (.slot 0))))))])
  (.cond (.slot 20)
    .skip
    (.exit 0)))
  h78_2)
def h78_4 : HC :=
  (.seq
  (.reg [.asg 4 (.slot 5)])
  .ret)
def h78 : HC :=
  (.seq
  (.reg [.asg 4 (.lit (str []))])
  (.seq
  (.reg [.need (.n1 .nilchk (.slot 0)),
    .need (.n1 (.faddr 0) (.n1 .nilchk (.slot 0))),
    .need (.n1 .ld (.n1 (.faddr 0) (.n1 .nilchk (.slot 0)))),
    .need (.n2 (.iaddr 1) (.n1 .ld (.n1 (.faddr 0) (.n1 .nilchk (.slot 0)))) (.slot 1)),
    .need (.n1 .ld (.n2 (.iaddr 1) (.n1 .ld (.n1 (.faddr 0) (.n1 .nilchk (.slot 0)))) (.slot 1))),
    .asg 5 (.n1 .ld (.n2 (.iaddr 1) (.n1 .ld (.n1 (.faddr 0) (.n1 .nilchk (.slot 0)))) (.slot 1)))])
  (.seq
  (.seq
  (.reg [.asg 6 (.lit (.int .i64 0))])
  (.block 0
    (.loop
      h78_1)))
  h78_4)))
theorem k78 : fnOK Try.prog 1125904202858611 [⟨6, [0, 0, 2, 6, 14, 0, 62, 126, 254, 0, 512, 1536, 3584, 0, 15872, 32256, 65024, 131071, 262143], [(0, []), (1, []), (2, []), (3, []), (4, []), (5, []), (6, []), (7, []), (8, []), (9, []), (10, []), (11, []), (12, []), (13, []), (14, []), (15, []), (16, []), (17, []), (18, [])], none⟩] [.tmp 4] 2 Try.f78 = some h78 := by kernel_rfl
theorem c78 : callable Try.prog 78 = true := by kernel_rfl
theorem q78 {args : List Value} (ha : args.length = 2) {w : World} {next : Value → World → Prop} {QP : List PanicEntry → World → Prop} (H : hw Try.prog noPanic h78 (endV [.tmp 4] next) (σ0 args) w) : callK Try.prog 78 args w next QP := fn_rule Try.func78 mixed k78 ha H
theorem r78 {args : List Value} (ha : args.length = 2) {w : World} {next : Value → World → Prop} {QP : List PanicEntry → World → Prop} (H : hw Try.prog noPanic h78 (endV [.tmp 4] next) (σ0 args) w) : callvK Try.prog (.func (.func 78) #[] #[]) args w next QP := callf c78 (q78 ha H)

/- (*missive/missiveref05.Disk).may -/
def h79_2 : HC :=
  (.seq
  (.reg [.asg 4 (.lit (.int .i64 0))])
  .ret)
def h79_1 : HC :=
  (.seq
  (.seq
  (.reg [.need (.n2 (.bin .lss) (.slot 1) (.lit (.int .i64 0))),
    .need (.gif (.n2 (.bin .lss) (.slot 1) (.lit (.int .i64 0))) false (.n2 (.bin .gtr) (.slot 1) (.lit (.int .i64 11)))),
    .need (.n3 .pick (.n2 (.bin .lss) (.slot 1) (.lit (.int .i64 0))) (.lit (.bool true)) (.n2 (.bin .gtr) (.slot 1) (.lit (.int .i64 11)))),
    .asg 14 (.n3 .pick (.n2 (.bin .lss) (.slot 1) (.lit (.int .i64 0))) (.lit (.bool true)) (.n2 (.bin .gtr) (.slot 1) (.lit (.int .i64 11))))])
  (.cond (.slot 14)
    (.seq
    (.reg [.asg 4 (.lit (.int .i64 1))])
    .ret)
    .skip))
  h79_2)
def h79 : HC :=
  (.seq
  (.reg [.asg 4 (.lit (.int .i64 0))])
  (.seq
  (.seq
  (.reg [.need (.n1 .nilchk (.slot 0)),
    .need (.n1 (.faddr 3) (.n1 .nilchk (.slot 0))),
    .need (.n1 .ld (.n1 (.faddr 3) (.n1 .nilchk (.slot 0)))),
    .asg 8 (.n1 .ld (.n1 (.faddr 3) (.n1 .nilchk (.slot 0))))])
  (.cond (.slot 8)
    (.seq
    (.reg [.asg 4 (.lit (.int .i64 8))])
    .ret)
    .skip))
  h79_1))
theorem k79 : fnOK Try.prog 16659 [] [.tmp 4] 2 Try.f79 = some h79 := by kernel_rfl
theorem c79 : callable Try.prog 79 = true := by kernel_rfl
theorem q79 {args : List Value} (ha : args.length = 2) {w : World} {next : Value → World → Prop} {QP : List PanicEntry → World → Prop} (H : hw Try.prog noPanic h79 (endV [.tmp 4] next) (σ0 args) w) : callK Try.prog 79 args w next QP := fn_rule Try.func79 mixed k79 ha H
theorem r79 {args : List Value} (ha : args.length = 2) {w : World} {next : Value → World → Prop} {QP : List PanicEntry → World → Prop} (H : hw Try.prog noPanic h79 (endV [.tmp 4] next) (σ0 args) w) : callvK Try.prog (.func (.func 79) #[] #[]) args w next QP := callf c79 (q79 ha H)

/- (*missive/missiveref05.Disk).after -/
def h97_4 : HC :=
  (.seq
  (.reg [.need (.n2 (.iaddr 1) (.slot 2) (.slot 8)),
    .need (.n1 .ld (.n2 (.iaddr 1) (.slot 2) (.slot 8))),
    .need (.n2 (.bin .eql) (.n1 .ld (.n2 (.iaddr 1) (.slot 2) (.slot 8))) (.lit (.int .i64 2))),
    .asg 58 (.n2 (.bin .eql) (.n1 .ld (.n2 (.iaddr 1) (.slot 2) (.slot 8))) (.lit (.int .i64 2)))])
  (.cond (.slot 58)
    (.draw [.need (.n1 (.faddr 1) (.slot 9)),
      .need (.n1 .ld (.n1 (.faddr 1) (.slot 9))),
      .need (.n1 (.faddr 2) (.slot 9)),
      .need (.n1 .ld (.n1 (.faddr 2) (.slot 9))),
      .need (.n1 (.faddr 2) (.slot 9)),
      .need (.n1 .ld (.n1 (.faddr 2) (.slot 9))),
      .need (.n1 .lens (.n1 .ld (.n1 (.faddr 2) (.slot 9)))),
      .need (.n2 .mn (.lit (.int .i64 24)) (.n1 .lens (.n1 .ld (.n1 (.faddr 2) (.slot 9))))),
      .need (.n3 (.sls false true) (.n1 .ld (.n1 (.faddr 2) (.slot 9))) (.lit (.tuple #[])) (.n2 .mn (.lit (.int .i64 24)) (.n1 .lens (.n1 .ld (.n1 (.faddr 2) (.slot 9)))))),
      .eff (some 69) (.call { callee := .value (.func 105), args := #[.tmp 59, .tmp 61, .tmp 68], argTypes := #[9, 3, 9] }) 9 [(59, .slot 7), (61, .n1 .ld (.n1 (.faddr 1) (.slot 9))), (68, .n3 (.sls false true) (.n1 .ld (.n1 (.faddr 2) (.slot 9))) (.lit (.tuple #[])) (.n2 .mn (.lit (.int .i64 24)) (.n1 .lens (.n1 .ld (.n1 (.faddr 2) (.slot 9))))))] none [],
      .asg 7 (.slot 69)])
    .skip))
def h97_3 : HC :=
  (.seq
  (.seq
  (.reg [.need (.n2 (.iaddr 1) (.slot 2) (.slot 8)),
    .need (.n1 .ld (.n2 (.iaddr 1) (.slot 2) (.slot 8))),
    .need (.n2 (.bin .eql) (.n1 .ld (.n2 (.iaddr 1) (.slot 2) (.slot 8))) (.lit (.int .i64 1))),
    .asg 47 (.n2 (.bin .eql) (.n1 .ld (.n2 (.iaddr 1) (.slot 2) (.slot 8))) (.lit (.int .i64 1)))])
  (.cond (.slot 47)
    (.reg [.need (.n1 (.faddr 1) (.slot 9)),
      .need (.n1 .ld (.n1 (.faddr 1) (.slot 9))),
      .need (.n1 (.faddr 2) (.slot 9)),
      .need (.n1 .ld (.n1 (.faddr 2) (.slot 9))),
      .eff (some 53) (.call { callee := .value (.func 105), args := #[.tmp 48, .tmp 50, .tmp 52], argTypes := #[9, 3, 9] }) 9 [(48, .slot 7), (50, .n1 .ld (.n1 (.faddr 1) (.slot 9))), (52, .n1 .ld (.n1 (.faddr 2) (.slot 9)))] none [],
      .asg 7 (.slot 53)])
    .skip))
  h97_4)
def h97_5 : HC :=
  (.reg [.need (.n2 (.bin .add) (.slot 8) (.lit (.int .i64 1))),
    .asg 8 (.n2 (.bin .add) (.slot 8) (.lit (.int .i64 1)))])
def h97_2 : HC :=
  (.seq
  (.block 1
    (.seq
    (.reg [.need (.n1 .nilchk (.slot 0)),
      .need (.n1 (.faddr 1) (.n1 .nilchk (.slot 0))),
      .need (.n1 .ld (.n1 (.faddr 1) (.n1 .nilchk (.slot 0)))),
      .need (.n2 (.iaddr 3) (.n1 .ld (.n1 (.faddr 1) (.n1 .nilchk (.slot 0)))) (.slot 8)),
      .need (.n1 (.ldn 3) (.n2 (.iaddr 3) (.n1 .ld (.n1 (.faddr 1) (.n1 .nilchk (.slot 0)))) (.slot 8))),
      .asg 38 (.n1 (.ldn 3) (.n2 (.iaddr 3) (.n1 .ld (.n1 (.faddr 1) (.n1 .nilchk (.slot 0)))) (.slot 8))),
      .eff (some 9) (.alloc 118) 0 [] none [],
      .eff none (.store 118 (.tmp 9) (.tmp 38)) 0 [(9, .slot 9), (38, .slot 38)] none []])
    (.seq
    (.seq
    (.reg [.need (.n1 (.faddr 0) (.slot 9)),
      .need (.n1 .ld (.n1 (.faddr 0) (.slot 9))),
      .need (.n2 (.bin .neq) (.n1 .ld (.n1 (.faddr 0) (.slot 9))) (.slot 1)),
      .asg 42 (.n2 (.bin .neq) (.n1 .ld (.n1 (.faddr 0) (.slot 9))) (.slot 1))])
    (.cond (.slot 42)
      (.exit 1)
      .skip))
    h97_3)))
  h97_5)
def h97_1 : HC :=
  (.seq
  (.seq
  (.reg [.need (.n1 .nilchk (.slot 0)),
    .need (.n1 (.faddr 1) (.n1 .nilchk (.slot 0))),
    .need (.n1 .ld (.n1 (.faddr 1) (.n1 .nilchk (.slot 0)))),
    .need (.n1 .lensl (.n1 .ld (.n1 (.faddr 1) (.n1 .nilchk (.slot 0))))),
    .need (.n2 (.bin .lss) (.slot 8) (.n1 .lensl (.n1 .ld (.n1 (.faddr 1) (.n1 .nilchk (.slot 0)))))),
    .need (.gif (.n2 (.bin .lss) (.slot 8) (.n1 .lensl (.n1 .ld (.n1 (.faddr 1) (.n1 .nilchk (.slot 0)))))) true (.n1 .lensl (.slot 2))),
    .need (.gif (.n2 (.bin .lss) (.slot 8) (.n1 .lensl (.n1 .ld (.n1 (.faddr 1) (.n1 .nilchk (.slot 0)))))) true (.n2 (.bin .lss) (.slot 8) (.n1 .lensl (.slot 2)))),
    .need (.n3 .pick (.n2 (.bin .lss) (.slot 8) (.n1 .lensl (.n1 .ld (.n1 (.faddr 1) (.n1 .nilchk (.slot 0)))))) (.n2 (.bin .lss) (.slot 8) (.n1 .lensl (.slot 2))) (.lit (.bool false))),
    .asg 29 (.n3 .pick (.n2 (.bin .lss) (.slot 8) (.n1 .lensl (.n1 .ld (.n1 (.faddr 1) (.n1 .nilchk (.slot 0)))))) (.n2 (.bin .lss) (.slot 8) (.n1 .lensl (.slot 2))) (.lit (.bool false)))])
  (.cond (.slot 29)
    .skip
    (.exit 0)))
  h97_2)
def h97_6 : HC :=
  (.seq
  (.reg [.asg 6 (.slot 7)])
  .ret)
def h97 : HC :=
  (.seq
  (.reg [.asg 6 (.lit (str []))])
  (.seq
  (.reg [.need (.n1 .nilchk (.slot 0)),
    .need (.n1 (.faddr 0) (.n1 .nilchk (.slot 0))),
    .need (.n1 .ld (.n1 (.faddr 0) (.n1 .nilchk (.slot 0)))),
    .need (.n2 (.iaddr 1) (.n1 .ld (.n1 (.faddr 0) (.n1 .nilchk (.slot 0)))) (.slot 1)),
    .need (.n1 .ld (.n2 (.iaddr 1) (.n1 .ld (.n1 (.faddr 0) (.n1 .nilchk (.slot 0)))) (.slot 1))),
    .asg 7 (.n1 .ld (.n2 (.iaddr 1) (.n1 .ld (.n1 (.faddr 0) (.n1 .nilchk (.slot 0)))) (.slot 1)))])
  (.seq
  (.seq
  (.reg [.asg 8 (.lit (.int .i64 0))])
  (.block 0
    (.loop
      h97_1)))
  h97_6)))
theorem k97 : fnOK Try.prog 590593193345061749703 [⟨10, [0, 0, 2, 0, 8, 0, 32, 96, 224, 504, 1023, 2047], [(0, []), (1, []), (2, []), (3, []), (4, []), (5, []), (6, []), (7, []), (8, []), (9, []), (10, []), (11, [])], none⟩] [.tmp 6] 3 Try.f97 = some h97 := by kernel_rfl
theorem c97 : callable Try.prog 97 = true := by kernel_rfl
theorem q97 {args : List Value} (ha : args.length = 3) {w : World} {next : Value → World → Prop} {QP : List PanicEntry → World → Prop} (H : hw Try.prog noPanic h97 (endV [.tmp 6] next) (σ0 args) w) : callK Try.prog 97 args w next QP := fn_rule Try.func97 mixed k97 ha H
theorem r97 {args : List Value} (ha : args.length = 3) {w : World} {next : Value → World → Prop} {QP : List PanicEntry → World → Prop} (H : hw Try.prog noPanic h97 (endV [.tmp 6] next) (σ0 args) w) : callvK Try.prog (.func (.func 97) #[] #[]) args w next QP := callf c97 (q97 ha H)

/- (*missive/missiveref05.Disk).comes -/
def h101_3 : HC :=
  (.reg [.need (.n1 .nilchk (.slot 0)),
    .need (.n1 (.faddr 5) (.n1 .nilchk (.slot 0))),
    .need (.n1 .ld (.n1 (.faddr 5) (.n1 .nilchk (.slot 0)))),
    .eff (some 52) (.call { callee := .value (.func 59), args := #[.tmp 47, .tmp 51], argTypes := #[51, 22] }) 0 [(47, .slot 0), (51, .n1 .ld (.n1 (.faddr 5) (.n1 .nilchk (.slot 0))))] none []])
def h101_2 : HC :=
  (.seq
  (.seq
  (.reg [.need (.n2 (.bin .geq) (.slot 1) (.lit (.int .i64 0))),
    .need (.gif (.n2 (.bin .geq) (.slot 1) (.lit (.int .i64 0))) true (.n2 (.bin .leq) (.slot 1) (.lit (.int .i64 11)))),
    .need (.n3 .pick (.n2 (.bin .geq) (.slot 1) (.lit (.int .i64 0))) (.n2 (.bin .leq) (.slot 1) (.lit (.int .i64 11))) (.lit (.bool false))),
    .eff (some 40) (.call { callee := .value (.func 102), args := #[.tmp 38, .tmp 39], argTypes := #[3, 9] }) 4 [(38, .slot 2), (39, .slot 3)] (some (.n3 .pick (.n2 (.bin .geq) (.slot 1) (.lit (.int .i64 0))) (.n2 (.bin .leq) (.slot 1) (.lit (.int .i64 11))) (.lit (.bool false)), true)) [],
    .need (.n3 .pick (.n3 .pick (.n2 (.bin .geq) (.slot 1) (.lit (.int .i64 0))) (.n2 (.bin .leq) (.slot 1) (.lit (.int .i64 11))) (.lit (.bool false))) (.slot 40) (.lit (.bool false))),
    .asg 41 (.n3 .pick (.n3 .pick (.n2 (.bin .geq) (.slot 1) (.lit (.int .i64 0))) (.n2 (.bin .leq) (.slot 1) (.lit (.int .i64 11))) (.lit (.bool false))) (.slot 40) (.lit (.bool false)))])
  (.cond (.slot 41)
    (.reg [.eff (some 46) (.call { callee := .value (.func 103), args := #[.tmp 42, .tmp 43, .tmp 44, .tmp 45], argTypes := #[51, 3, 3, 9] }) 0 [(42, .slot 0), (43, .slot 1), (44, .slot 2), (45, .slot 3)] none []])
    .skip))
  h101_3)
def h101_1 : HC :=
  (.seq
  (.reg [.need (.n1 .nilchk (.slot 0)),
    .need (.n1 (.faddr 4) (.n1 .nilchk (.slot 0))),
    .need (.n1 .ld (.n1 (.faddr 4) (.n1 .nilchk (.slot 0)))),
    .need (.n2 (.bin .sub) (.n1 .ld (.n1 (.faddr 4) (.n1 .nilchk (.slot 0)))) (.lit (.int .i64 1))),
    .need (.n1 .nilchk (.slot 0)),
    .need (.n1 (.faddr 4) (.n1 .nilchk (.slot 0))),
    .eff none (.store 3 (.tmp 25) (.tmp 23)) 0 [(25, .n1 (.faddr 4) (.n1 .nilchk (.slot 0))), (23, .n2 (.bin .sub) (.n1 .ld (.n1 (.faddr 4) (.n1 .nilchk (.slot 0)))) (.lit (.int .i64 1)))] none []])
  (.seq
  (.seq
  (.reg [.need (.n1 .nilchk (.slot 0)),
    .need (.n1 (.faddr 4) (.n1 .nilchk (.slot 0))),
    .need (.n1 .ld (.n1 (.faddr 4) (.n1 .nilchk (.slot 0)))),
    .need (.n2 (.bin .gtr) (.n1 .ld (.n1 (.faddr 4) (.n1 .nilchk (.slot 0)))) (.lit (.int .i64 0))),
    .asg 30 (.n2 (.bin .gtr) (.n1 .ld (.n1 (.faddr 4) (.n1 .nilchk (.slot 0)))) (.lit (.int .i64 0)))])
  (.cond (.slot 30)
    .ret
    .skip))
  h101_2))
def h101 : HC :=
  (.seq
  (.seq
  (.reg [.need (.n1 .nilchk (.slot 0)),
    .need (.n1 (.faddr 3) (.n1 .nilchk (.slot 0))),
    .need (.n1 .ld (.n1 (.faddr 3) (.n1 .nilchk (.slot 0)))),
    .need (.gif (.n1 .ld (.n1 (.faddr 3) (.n1 .nilchk (.slot 0)))) false (.n1 .nilchk (.slot 0))),
    .need (.gif (.n1 .ld (.n1 (.faddr 3) (.n1 .nilchk (.slot 0)))) false (.n1 (.faddr 4) (.n1 .nilchk (.slot 0)))),
    .need (.gif (.n1 .ld (.n1 (.faddr 3) (.n1 .nilchk (.slot 0)))) false (.n1 .ld (.n1 (.faddr 4) (.n1 .nilchk (.slot 0))))),
    .need (.gif (.n1 .ld (.n1 (.faddr 3) (.n1 .nilchk (.slot 0)))) false (.n2 (.bin .eql) (.n1 .ld (.n1 (.faddr 4) (.n1 .nilchk (.slot 0)))) (.lit (.int .i64 0)))),
    .need (.n3 .pick (.n1 .ld (.n1 (.faddr 3) (.n1 .nilchk (.slot 0)))) (.lit (.bool true)) (.n2 (.bin .eql) (.n1 .ld (.n1 (.faddr 4) (.n1 .nilchk (.slot 0)))) (.lit (.int .i64 0)))),
    .asg 18 (.n3 .pick (.n1 .ld (.n1 (.faddr 3) (.n1 .nilchk (.slot 0)))) (.lit (.bool true)) (.n2 (.bin .eql) (.n1 .ld (.n1 (.faddr 4) (.n1 .nilchk (.slot 0)))) (.lit (.int .i64 0))))])
  (.cond (.slot 18)
    .ret
    .skip))
  h101_1)
theorem k101 : fnOK Try.prog 4577267980435471 [] [] 4 Try.f101 = some h101 := by kernel_rfl
theorem c101 : callable Try.prog 101 = true := by kernel_rfl
theorem q101 {args : List Value} (ha : args.length = 4) {w : World} {next : Value → World → Prop} {QP : List PanicEntry → World → Prop} (H : hw Try.prog noPanic h101 (endV [] next) (σ0 args) w) : callK Try.prog 101 args w next QP := fn_rule Try.func101 mixed k101 ha H
theorem r101 {args : List Value} (ha : args.length = 4) {w : World} {next : Value → World → Prop} {QP : List PanicEntry → World → Prop} (H : hw Try.prog noPanic h101 (endV [] next) (σ0 args) w) : callvK Try.prog (.func (.func 101) #[] #[]) args w next QP := callf c101 (q101 ha H)

/- missive/missiveref05.fits -/
def h102 : HC :=
  (.seq
  (.reg [.asg 4 (.lit (.bool false))])
  (.seq
  (.reg [.need (.n2 (.bin .geq) (.slot 0) (.lit (.int .i64 0))),
    .need (.gif (.n2 (.bin .geq) (.slot 0) (.lit (.int .i64 0))) true (.n2 (.bin .leq) (.slot 0) (.lit (.int .i64 16777216)))),
    .need (.n3 .pick (.n2 (.bin .geq) (.slot 0) (.lit (.int .i64 0))) (.n2 (.bin .leq) (.slot 0) (.lit (.int .i64 16777216))) (.lit (.bool false))),
    .need (.gif (.n3 .pick (.n2 (.bin .geq) (.slot 0) (.lit (.int .i64 0))) (.n2 (.bin .leq) (.slot 0) (.lit (.int .i64 16777216))) (.lit (.bool false))) true (.n1 .lens (.slot 1))),
    .need (.gif (.n3 .pick (.n2 (.bin .geq) (.slot 0) (.lit (.int .i64 0))) (.n2 (.bin .leq) (.slot 0) (.lit (.int .i64 16777216))) (.lit (.bool false))) true (.n2 (.bin .add) (.slot 0) (.n1 .lens (.slot 1)))),
    .need (.gif (.n3 .pick (.n2 (.bin .geq) (.slot 0) (.lit (.int .i64 0))) (.n2 (.bin .leq) (.slot 0) (.lit (.int .i64 16777216))) (.lit (.bool false))) true (.n2 (.bin .leq) (.n2 (.bin .add) (.slot 0) (.n1 .lens (.slot 1))) (.lit (.int .i64 16777216)))),
    .need (.n3 .pick (.n3 .pick (.n2 (.bin .geq) (.slot 0) (.lit (.int .i64 0))) (.n2 (.bin .leq) (.slot 0) (.lit (.int .i64 16777216))) (.lit (.bool false))) (.n2 (.bin .leq) (.n2 (.bin .add) (.slot 0) (.n1 .lens (.slot 1))) (.lit (.int .i64 16777216))) (.lit (.bool false))),
    .asg 4 (.n3 .pick (.n3 .pick (.n2 (.bin .geq) (.slot 0) (.lit (.int .i64 0))) (.n2 (.bin .leq) (.slot 0) (.lit (.int .i64 16777216))) (.lit (.bool false))) (.n2 (.bin .leq) (.n2 (.bin .add) (.slot 0) (.n1 .lens (.slot 1))) (.lit (.int .i64 16777216))) (.lit (.bool false)))])
  .ret))
theorem k102 : fnOK Try.prog 19 [] [.tmp 4] 2 Try.f102 = some h102 := by kernel_rfl
theorem c102 : callable Try.prog 102 = true := by kernel_rfl
theorem q102 {args : List Value} (ha : args.length = 2) {w : World} {next : Value → World → Prop} {QP : List PanicEntry → World → Prop} (H : hw Try.prog noPanic h102 (endV [.tmp 4] next) (σ0 args) w) : callK Try.prog 102 args w next QP := fn_rule Try.func102 mixed k102 ha H
theorem r102 {args : List Value} (ha : args.length = 2) {w : World} {next : Value → World → Prop} {QP : List PanicEntry → World → Prop} (H : hw Try.prog noPanic h102 (endV [.tmp 4] next) (σ0 args) w) : callvK Try.prog (.func (.func 102) #[] #[]) args w next QP := callf c102 (q102 ha H)

/- (*missive/missiveref05.Disk).add -/
def h103_3 : HC :=
  (.reg [.need (.n2 (.bin .add) (.slot 10) (.lit (.int .i64 1))),
    .asg 10 (.n2 (.bin .add) (.slot 10) (.lit (.int .i64 1)))])
def h103_2 : HC :=
  (.seq
  (.block 1
    (.seq
    (.reg [.need (.n2 (.bin .add) (.slot 10) (.lit (.int .i64 1))),
      .need (.n3 (.sls true true) (.slot 3) (.slot 10) (.n2 (.bin .add) (.slot 10) (.lit (.int .i64 1)))),
      .need (.n2 (.sbin .add) (.slot 8) (.n3 (.sls true true) (.slot 3) (.slot 10) (.n2 (.bin .add) (.slot 10) (.lit (.int .i64 1))))),
      .asg 8 (.n2 (.sbin .add) (.slot 8) (.n3 (.sls true true) (.slot 3) (.slot 10) (.n2 (.bin .add) (.slot 10) (.lit (.int .i64 1)))))])
    (.seq
    (.reg [.need (.n2 (.bin .add) (.slot 2) (.slot 10)),
      .need (.n2 (.bin .add) (.n2 (.bin .add) (.slot 2) (.slot 10)) (.lit (.int .i64 1))),
      .need (.n2 (.bin .rem) (.n2 (.bin .add) (.n2 (.bin .add) (.slot 2) (.slot 10)) (.lit (.int .i64 1))) (.lit (.int .i64 64))),
      .need (.n2 (.bin .eql) (.n2 (.bin .rem) (.n2 (.bin .add) (.n2 (.bin .add) (.slot 2) (.slot 10)) (.lit (.int .i64 1))) (.lit (.int .i64 64))) (.lit (.int .i64 0))),
      .need (.gif (.n2 (.bin .eql) (.n2 (.bin .rem) (.n2 (.bin .add) (.n2 (.bin .add) (.slot 2) (.slot 10)) (.lit (.int .i64 1))) (.lit (.int .i64 64))) (.lit (.int .i64 0))) false (.n1 .lens (.slot 3))),
      .need (.gif (.n2 (.bin .eql) (.n2 (.bin .rem) (.n2 (.bin .add) (.n2 (.bin .add) (.slot 2) (.slot 10)) (.lit (.int .i64 1))) (.lit (.int .i64 64))) (.lit (.int .i64 0))) false (.n2 (.bin .sub) (.n1 .lens (.slot 3)) (.lit (.int .i64 1)))),
      .need (.gif (.n2 (.bin .eql) (.n2 (.bin .rem) (.n2 (.bin .add) (.n2 (.bin .add) (.slot 2) (.slot 10)) (.lit (.int .i64 1))) (.lit (.int .i64 64))) (.lit (.int .i64 0))) false (.n2 (.bin .eql) (.slot 10) (.n2 (.bin .sub) (.n1 .lens (.slot 3)) (.lit (.int .i64 1))))),
      .need (.n3 .pick (.n2 (.bin .eql) (.n2 (.bin .rem) (.n2 (.bin .add) (.n2 (.bin .add) (.slot 2) (.slot 10)) (.lit (.int .i64 1))) (.lit (.int .i64 64))) (.lit (.int .i64 0))) (.lit (.bool true)) (.n2 (.bin .eql) (.slot 10) (.n2 (.bin .sub) (.n1 .lens (.slot 3)) (.lit (.int .i64 1))))),
      .asg 37 (.n3 .pick (.n2 (.bin .eql) (.n2 (.bin .rem) (.n2 (.bin .add) (.n2 (.bin .add) (.slot 2) (.slot 10)) (.lit (.int .i64 1))) (.lit (.int .i64 64))) (.lit (.int .i64 0))) (.lit (.bool true)) (.n2 (.bin .eql) (.slot 10) (.n2 (.bin .sub) (.n1 .lens (.slot 3)) (.lit (.int .i64 1)))))])
    (.cond (.slot 37)
      (.seq
      (.reg [.need (.n1 .nilchk (.slot 0)),
        .need (.n1 (.faddr 1) (.n1 .nilchk (.slot 0))),
        .need (.n1 .ld (.n1 (.faddr 1) (.n1 .nilchk (.slot 0)))),
        .asg 42 (.n1 .ld (.n1 (.faddr 1) (.n1 .nilchk (.slot 0)))),
        .need (.n2 (.put 0 1) (.lit (.agg #[(.int .i64 0), (.int .i64 0), (str [])])) (.slot 1)),
        .need (.n2 (.put 1 1) (.n2 (.put 0 1) (.lit (.agg #[(.int .i64 0), (.int .i64 0), (str [])])) (.slot 1)) (.slot 9)),
        .need (.n2 (.put 2 1) (.n2 (.put 1 1) (.n2 (.put 0 1) (.lit (.agg #[(.int .i64 0), (.int .i64 0), (str [])])) (.slot 1)) (.slot 9)) (.slot 8)),
        .eff (some 47) (.buildSlice 97 1 #[(0, .tmp 46)]) 97 [(46, .n2 (.put 2 1) (.n2 (.put 1 1) (.n2 (.put 0 1) (.lit (.agg #[(.int .i64 0), (.int .i64 0), (str [])])) (.slot 1)) (.slot 9)) (.slot 8))] none [],
        .eff (some 48) (.call { callee := .builtin .append, args := #[.tmp 42, .tmp 47], argTypes := #[97, 97] }) 97 [(42, .slot 42), (47, .slot 47)] none [],
        .need (.n1 .nilchk (.slot 0)),
        .need (.n1 (.faddr 1) (.n1 .nilchk (.slot 0))),
        .eff none (.store 97 (.tmp 50) (.tmp 48)) 0 [(50, .n1 (.faddr 1) (.n1 .nilchk (.slot 0))), (48, .slot 48)] none []])
      (.seq
      (.reg [.asg 8 (.lit (str []))])
      (.reg [.need (.n2 (.bin .add) (.slot 2) (.slot 10)),
        .need (.n2 (.bin .add) (.n2 (.bin .add) (.slot 2) (.slot 10)) (.lit (.int .i64 1))),
        .asg 9 (.n2 (.bin .add) (.n2 (.bin .add) (.slot 2) (.slot 10)) (.lit (.int .i64 1)))])))
      .skip))))
  h103_3)
def h103_1 : HC :=
  (.seq
  (.seq
  (.reg [.need (.n1 .lens (.slot 3)),
    .need (.n2 (.bin .lss) (.slot 10) (.n1 .lens (.slot 3))),
    .asg 15 (.n2 (.bin .lss) (.slot 10) (.n1 .lens (.slot 3)))])
  (.cond (.slot 15)
    .skip
    (.exit 0)))
  h103_2)
def h103 : HC :=
  (.seq
  (.reg [.asg 8 (.lit (str []))])
  (.seq
  (.reg [.asg 9 (.slot 2)])
  (.seq
  (.reg [.asg 10 (.lit (.int .i64 0))])
  (.block 0
    (.loop
      h103_1)))))
theorem k103 : fnOK Try.prog 426747950565135 [] [] 4 Try.f103 = some h103 := by kernel_rfl
theorem c103 : callable Try.prog 103 = true := by kernel_rfl
theorem q103 {args : List Value} (ha : args.length = 4) {w : World} {next : Value → World → Prop} {QP : List PanicEntry → World → Prop} (H : hw Try.prog noPanic h103 (endV [] next) (σ0 args) w) : callK Try.prog 103 args w next QP := fn_rule Try.func103 mixed k103 ha H
theorem r103 {args : List Value} (ha : args.length = 4) {w : World} {next : Value → World → Prop} {QP : List PanicEntry → World → Prop} (H : hw Try.prog noPanic h103 (endV [] next) (σ0 args) w) : callvK Try.prog (.func (.func 103) #[] #[]) args w next QP := callf c103 (q103 ha H)

/- (*missive/missiveref05.Disk).without -/
def h104_3 : HC :=
  (.reg [.need (.n2 (.bin .add) (.slot 6) (.lit (.int .i64 1))),
    .asg 6 (.n2 (.bin .add) (.slot 6) (.lit (.int .i64 1)))])
def h104_2 : HC :=
  (.seq
  (.block 1
    (.seq
    (.reg [.need (.n1 .nilchk (.slot 0)),
      .need (.n1 (.faddr 1) (.n1 .nilchk (.slot 0))),
      .need (.n1 .ld (.n1 (.faddr 1) (.n1 .nilchk (.slot 0)))),
      .need (.n2 (.iaddr 3) (.n1 .ld (.n1 (.faddr 1) (.n1 .nilchk (.slot 0)))) (.slot 6)),
      .need (.n1 (.faddr 0) (.n2 (.iaddr 3) (.n1 .ld (.n1 (.faddr 1) (.n1 .nilchk (.slot 0)))) (.slot 6))),
      .need (.n1 .ld (.n1 (.faddr 0) (.n2 (.iaddr 3) (.n1 .ld (.n1 (.faddr 1) (.n1 .nilchk (.slot 0)))) (.slot 6)))),
      .need (.n2 (.bin .neq) (.n1 .ld (.n1 (.faddr 0) (.n2 (.iaddr 3) (.n1 .ld (.n1 (.faddr 1) (.n1 .nilchk (.slot 0)))) (.slot 6)))) (.slot 1)),
      .asg 25 (.n2 (.bin .neq) (.n1 .ld (.n1 (.faddr 0) (.n2 (.iaddr 3) (.n1 .ld (.n1 (.faddr 1) (.n1 .nilchk (.slot 0)))) (.slot 6)))) (.slot 1))])
    (.cond (.slot 25)
      (.reg [.need (.n1 .nilchk (.slot 0)),
        .need (.n1 (.faddr 1) (.n1 .nilchk (.slot 0))),
        .need (.n1 .ld (.n1 (.faddr 1) (.n1 .nilchk (.slot 0)))),
        .need (.n2 (.iaddr 3) (.n1 .ld (.n1 (.faddr 1) (.n1 .nilchk (.slot 0)))) (.slot 6)),
        .need (.n1 (.ldn 3) (.n2 (.iaddr 3) (.n1 .ld (.n1 (.faddr 1) (.n1 .nilchk (.slot 0)))) (.slot 6))),
        .eff (some 34) (.buildSlice 97 1 #[(0, .tmp 33)]) 97 [(33, .n1 (.ldn 3) (.n2 (.iaddr 3) (.n1 .ld (.n1 (.faddr 1) (.n1 .nilchk (.slot 0)))) (.slot 6)))] none [],
        .eff (some 35) (.call { callee := .builtin .append, args := #[.tmp 26, .tmp 34], argTypes := #[97, 97] }) 97 [(26, .slot 5), (34, .slot 34)] none [],
        .asg 5 (.slot 35)])
      .skip)))
  h104_3)
def h104_1 : HC :=
  (.seq
  (.seq
  (.reg [.need (.n1 .nilchk (.slot 0)),
    .need (.n1 (.faddr 1) (.n1 .nilchk (.slot 0))),
    .need (.n1 .ld (.n1 (.faddr 1) (.n1 .nilchk (.slot 0)))),
    .need (.n1 .lensl (.n1 .ld (.n1 (.faddr 1) (.n1 .nilchk (.slot 0))))),
    .need (.n2 (.bin .lss) (.slot 6) (.n1 .lensl (.n1 .ld (.n1 (.faddr 1) (.n1 .nilchk (.slot 0)))))),
    .asg 13 (.n2 (.bin .lss) (.slot 6) (.n1 .lensl (.n1 .ld (.n1 (.faddr 1) (.n1 .nilchk (.slot 0))))))])
  (.cond (.slot 13)
    .skip
    (.exit 0)))
  h104_2)
def h104_4 : HC :=
  (.seq
  (.reg [.asg 4 (.slot 5)])
  .ret)
def h104 : HC :=
  (.seq
  (.reg [.asg 4 (.lit (.slice none 0 0))])
  (.seq
  (.reg [.asg 5 (.lit (.slice none 0 0))])
  (.seq
  (.seq
  (.reg [.asg 6 (.lit (.int .i64 0))])
  (.block 0
    (.loop
      h104_1)))
  h104_4)))
theorem k104 : fnOK Try.prog 51573170291 [] [.tmp 4] 2 Try.f104 = some h104 := by kernel_rfl
theorem c104 : callable Try.prog 104 = true := by kernel_rfl
theorem q104 {args : List Value} (ha : args.length = 2) {w : World} {next : Value → World → Prop} {QP : List PanicEntry → World → Prop} (H : hw Try.prog noPanic h104 (endV [.tmp 4] next) (σ0 args) w) : callK Try.prog 104 args w next QP := fn_rule Try.func104 mixed k104 ha H
theorem r104 {args : List Value} (ha : args.length = 2) {w : World} {next : Value → World → Prop} {QP : List PanicEntry → World → Prop} (H : hw Try.prog noPanic h104 (endV [.tmp 4] next) (σ0 args) w) : callvK Try.prog (.func (.func 104) #[] #[]) args w next QP := callf c104 (q104 ha H)

/- missive/missiveref05.Put -/
def h105_2 : HC :=
  (.block 1
    (.reg [.eff (some 19) (.buildSlice 36 1 #[(0, .const (.int .u8 0))]) 36 [] none [],
      .eff (some 20) (.call { callee := .builtin .append, args := #[.tmp 18, .tmp 19], argTypes := #[36, 36] }) 36 [(18, .slot 7), (19, .slot 19)] none [],
      .asg 7 (.slot 20)]))
def h105_1 : HC :=
  (.seq
  (.seq
  (.reg [.need (.n1 .lensl (.slot 7)),
    .need (.n1 .lens (.slot 2)),
    .need (.n2 (.bin .add) (.slot 1) (.n1 .lens (.slot 2))),
    .need (.n2 (.bin .lss) (.n1 .lensl (.slot 7)) (.n2 (.bin .add) (.slot 1) (.n1 .lens (.slot 2)))),
    .asg 17 (.n2 (.bin .lss) (.n1 .lensl (.slot 7)) (.n2 (.bin .add) (.slot 1) (.n1 .lens (.slot 2))))])
  (.cond (.slot 17)
    .skip
    (.exit 0)))
  h105_2)
def h105_6 : HC :=
  (.reg [.need (.n2 (.bin .add) (.slot 8) (.lit (.int .i64 1))),
    .asg 8 (.n2 (.bin .add) (.slot 8) (.lit (.int .i64 1)))])
def h105_5 : HC :=
  (.seq
  (.block 3
    (.reg [.need (.n2 (.bin .add) (.slot 1) (.slot 8)),
      .need (.n2 .idxs (.slot 2) (.slot 8)),
      .need (.n2 (.iaddr 1) (.slot 7) (.n2 (.bin .add) (.slot 1) (.slot 8))),
      .eff none (.store 5 (.tmp 34) (.tmp 33)) 0 [(34, .n2 (.iaddr 1) (.slot 7) (.n2 (.bin .add) (.slot 1) (.slot 8))), (33, .n2 .idxs (.slot 2) (.slot 8))] none []]))
  h105_6)
def h105_4 : HC :=
  (.seq
  (.seq
  (.reg [.need (.n1 .lens (.slot 2)),
    .need (.n2 (.bin .lss) (.slot 8) (.n1 .lens (.slot 2))),
    .asg 24 (.n2 (.bin .lss) (.slot 8) (.n1 .lens (.slot 2)))])
  (.cond (.slot 24)
    .skip
    (.exit 2)))
  h105_5)
def h105_7 : HC :=
  (.seq
  (.reg [.eff (some 36) (.convert 36 9 (.tmp 35)) 9 [(35, .slot 7)] none [],
    .asg 6 (.slot 36)])
  .ret)
def h105_3 : HC :=
  (.seq
  (.seq
  (.reg [.asg 8 (.lit (.int .i64 0))])
  (.block 2
    (.loop
      h105_4)))
  h105_7)
def h105 : HC :=
  (.seq
  (.reg [.asg 6 (.lit (str []))])
  (.seq
  (.reg [.eff (some 10) (.convert 9 36 (.tmp 9)) 36 [(9, .slot 0)] none [],
    .asg 7 (.slot 10)])
  (.seq
  (.block 0
    (.loop
      h105_1))
  h105_3)))
theorem k105 : fnOK Try.prog 68737959367 [] [.tmp 6] 3 Try.f105 = some h105 := by kernel_rfl
theorem c105 : callable Try.prog 105 = true := by kernel_rfl
theorem q105 {args : List Value} (ha : args.length = 3) {w : World} {next : Value → World → Prop} {QP : List PanicEntry → World → Prop} (H : hw Try.prog noPanic h105 (endV [.tmp 6] next) (σ0 args) w) : callK Try.prog 105 args w next QP := fn_rule Try.func105 mixed k105 ha H
theorem r105 {args : List Value} (ha : args.length = 3) {w : World} {next : Value → World → Prop} {QP : List PanicEntry → World → Prop} (H : hw Try.prog noPanic h105 (endV [.tmp 6] next) (σ0 args) w) : callvK Try.prog (.func (.func 105) #[] #[]) args w next QP := callf c105 (q105 ha H)

end Go.Proofs.Y
