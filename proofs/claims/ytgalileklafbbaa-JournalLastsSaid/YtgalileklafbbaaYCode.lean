/- the functions of the program as code over named slots, printed by hl.py -/
import Derived.Test.YtgalileklafbbaaHLT
import Derived.Test.YtgalileklafbbaaProg
import Derived.KernelRfl
set_option linter.unusedSimpArgs false
set_option linter.unusedVariables false
set_option maxRecDepth 100000
set_option maxRecDepth 100000
namespace Go.Proofs.Y
open Go Go.HL Go.Proofs
theorem mixed : Try.prog.follows .mixedOrders = true := by kernel_rfl
/- missive/missivelaw05.small -/
def l16_8 : List HS :=
  .need (.gif (.n3 .pick (.n3 .pick (.n3 .pick (.n3 .pick (.n3 .pick (.n3 .pick (.n3 .pick (.n3 .pick (.n3 .pick (.n3 .pick (.n3 .pick (.n3 .pick (.n3 .pick (.n3 .pick (.n3 .pick (.n2 (.bin .eql) (.slot 2) (.lit (.int .i64 0))) (.n2 (.bin .eql) (.slot 3) (.lit (.int .i64 0))) (.lit (.bool false))) (.n2 (.bin .eql) (.slot 4) (.lit (.int .i64 0))) (.lit (.bool false))) (.n2 (.bin .eql) (.slot 6) (.lit (.int .i64 8))) (.lit (.bool false))) (.slot 7) (.lit (.bool false))) (.n2 (.bin .eql) (.slot 9) (.lit (.int .i64 0))) (.lit (.bool false))) (.n2 (.sbin .eql) (.slot 8) (.lit (str [104, 101, 108, 108, 111, 121]))) (.lit (.bool false))) (.n2 (.bin .eql) (.slot 10) (.lit (.int .i64 9))) (.lit (.bool false))) (.n2 (.bin .eql) (.slot 11) (.lit (.int .i64 0))) (.lit (.bool false))) (.n2 (.bin .eql) (.slot 12) (.lit (.int .i64 7))) (.lit (.bool false))) (.n2 (.bin .eql) (.slot 13) (.lit (.int .i64 0))) (.lit (.bool false))) (.n2 (.bin .eql) (.slot 14) (.lit (.int .i64 0))) (.lit (.bool false))) (.n2 (.sbin .eql) (.slot 15) (.lit (str [120]))) (.lit (.bool false))) (.n2 (.bin .eql) (.slot 145) (.lit (.int .i64 0))) (.lit (.bool false))) (.n2 (.bin .eql) (.slot 150) (.lit (.int .i64 1))) (.lit (.bool false))) (.n2 (.bin .eql) (.slot 155) (.lit (.int .i64 1))) (.lit (.bool false))) true (.n2 (.bin .eql) (.slot 160) (.lit (.int .i64 1)))) ::
  .need (.n3 .pick (.n3 .pick (.n3 .pick (.n3 .pick (.n3 .pick (.n3 .pick (.n3 .pick (.n3 .pick (.n3 .pick (.n3 .pick (.n3 .pick (.n3 .pick (.n3 .pick (.n3 .pick (.n3 .pick (.n3 .pick (.n2 (.bin .eql) (.slot 2) (.lit (.int .i64 0))) (.n2 (.bin .eql) (.slot 3) (.lit (.int .i64 0))) (.lit (.bool false))) (.n2 (.bin .eql) (.slot 4) (.lit (.int .i64 0))) (.lit (.bool false))) (.n2 (.bin .eql) (.slot 6) (.lit (.int .i64 8))) (.lit (.bool false))) (.slot 7) (.lit (.bool false))) (.n2 (.bin .eql) (.slot 9) (.lit (.int .i64 0))) (.lit (.bool false))) (.n2 (.sbin .eql) (.slot 8) (.lit (str [104, 101, 108, 108, 111, 121]))) (.lit (.bool false))) (.n2 (.bin .eql) (.slot 10) (.lit (.int .i64 9))) (.lit (.bool false))) (.n2 (.bin .eql) (.slot 11) (.lit (.int .i64 0))) (.lit (.bool false))) (.n2 (.bin .eql) (.slot 12) (.lit (.int .i64 7))) (.lit (.bool false))) (.n2 (.bin .eql) (.slot 13) (.lit (.int .i64 0))) (.lit (.bool false))) (.n2 (.bin .eql) (.slot 14) (.lit (.int .i64 0))) (.lit (.bool false))) (.n2 (.sbin .eql) (.slot 15) (.lit (str [120]))) (.lit (.bool false))) (.n2 (.bin .eql) (.slot 145) (.lit (.int .i64 0))) (.lit (.bool false))) (.n2 (.bin .eql) (.slot 150) (.lit (.int .i64 1))) (.lit (.bool false))) (.n2 (.bin .eql) (.slot 155) (.lit (.int .i64 1))) (.lit (.bool false))) (.n2 (.bin .eql) (.slot 160) (.lit (.int .i64 1))) (.lit (.bool false))) ::
  .asg 0 (.n3 .pick (.n3 .pick (.n3 .pick (.n3 .pick (.n3 .pick (.n3 .pick (.n3 .pick (.n3 .pick (.n3 .pick (.n3 .pick (.n3 .pick (.n3 .pick (.n3 .pick (.n3 .pick (.n3 .pick (.n3 .pick (.n2 (.bin .eql) (.slot 2) (.lit (.int .i64 0))) (.n2 (.bin .eql) (.slot 3) (.lit (.int .i64 0))) (.lit (.bool false))) (.n2 (.bin .eql) (.slot 4) (.lit (.int .i64 0))) (.lit (.bool false))) (.n2 (.bin .eql) (.slot 6) (.lit (.int .i64 8))) (.lit (.bool false))) (.slot 7) (.lit (.bool false))) (.n2 (.bin .eql) (.slot 9) (.lit (.int .i64 0))) (.lit (.bool false))) (.n2 (.sbin .eql) (.slot 8) (.lit (str [104, 101, 108, 108, 111, 121]))) (.lit (.bool false))) (.n2 (.bin .eql) (.slot 10) (.lit (.int .i64 9))) (.lit (.bool false))) (.n2 (.bin .eql) (.slot 11) (.lit (.int .i64 0))) (.lit (.bool false))) (.n2 (.bin .eql) (.slot 12) (.lit (.int .i64 7))) (.lit (.bool false))) (.n2 (.bin .eql) (.slot 13) (.lit (.int .i64 0))) (.lit (.bool false))) (.n2 (.bin .eql) (.slot 14) (.lit (.int .i64 0))) (.lit (.bool false))) (.n2 (.sbin .eql) (.slot 15) (.lit (str [120]))) (.lit (.bool false))) (.n2 (.bin .eql) (.slot 145) (.lit (.int .i64 0))) (.lit (.bool false))) (.n2 (.bin .eql) (.slot 150) (.lit (.int .i64 1))) (.lit (.bool false))) (.n2 (.bin .eql) (.slot 155) (.lit (.int .i64 1))) (.lit (.bool false))) (.n2 (.bin .eql) (.slot 160) (.lit (.int .i64 1))) (.lit (.bool false))) ::
  []
def l16_9 : List HS :=
  .need (.gif (.n3 .pick (.n3 .pick (.n3 .pick (.n3 .pick (.n3 .pick (.n3 .pick (.n3 .pick (.n3 .pick (.n3 .pick (.n3 .pick (.n3 .pick (.n3 .pick (.n3 .pick (.n3 .pick (.n2 (.bin .eql) (.slot 2) (.lit (.int .i64 0))) (.n2 (.bin .eql) (.slot 3) (.lit (.int .i64 0))) (.lit (.bool false))) (.n2 (.bin .eql) (.slot 4) (.lit (.int .i64 0))) (.lit (.bool false))) (.n2 (.bin .eql) (.slot 6) (.lit (.int .i64 8))) (.lit (.bool false))) (.slot 7) (.lit (.bool false))) (.n2 (.bin .eql) (.slot 9) (.lit (.int .i64 0))) (.lit (.bool false))) (.n2 (.sbin .eql) (.slot 8) (.lit (str [104, 101, 108, 108, 111, 121]))) (.lit (.bool false))) (.n2 (.bin .eql) (.slot 10) (.lit (.int .i64 9))) (.lit (.bool false))) (.n2 (.bin .eql) (.slot 11) (.lit (.int .i64 0))) (.lit (.bool false))) (.n2 (.bin .eql) (.slot 12) (.lit (.int .i64 7))) (.lit (.bool false))) (.n2 (.bin .eql) (.slot 13) (.lit (.int .i64 0))) (.lit (.bool false))) (.n2 (.bin .eql) (.slot 14) (.lit (.int .i64 0))) (.lit (.bool false))) (.n2 (.sbin .eql) (.slot 15) (.lit (str [120]))) (.lit (.bool false))) (.n2 (.bin .eql) (.slot 145) (.lit (.int .i64 0))) (.lit (.bool false))) (.n2 (.bin .eql) (.slot 150) (.lit (.int .i64 1))) (.lit (.bool false))) true (.n2 (.bin .eql) (.slot 155) (.lit (.int .i64 1)))) ::
  .need (.n3 .pick (.n3 .pick (.n3 .pick (.n3 .pick (.n3 .pick (.n3 .pick (.n3 .pick (.n3 .pick (.n3 .pick (.n3 .pick (.n3 .pick (.n3 .pick (.n3 .pick (.n3 .pick (.n3 .pick (.n2 (.bin .eql) (.slot 2) (.lit (.int .i64 0))) (.n2 (.bin .eql) (.slot 3) (.lit (.int .i64 0))) (.lit (.bool false))) (.n2 (.bin .eql) (.slot 4) (.lit (.int .i64 0))) (.lit (.bool false))) (.n2 (.bin .eql) (.slot 6) (.lit (.int .i64 8))) (.lit (.bool false))) (.slot 7) (.lit (.bool false))) (.n2 (.bin .eql) (.slot 9) (.lit (.int .i64 0))) (.lit (.bool false))) (.n2 (.sbin .eql) (.slot 8) (.lit (str [104, 101, 108, 108, 111, 121]))) (.lit (.bool false))) (.n2 (.bin .eql) (.slot 10) (.lit (.int .i64 9))) (.lit (.bool false))) (.n2 (.bin .eql) (.slot 11) (.lit (.int .i64 0))) (.lit (.bool false))) (.n2 (.bin .eql) (.slot 12) (.lit (.int .i64 7))) (.lit (.bool false))) (.n2 (.bin .eql) (.slot 13) (.lit (.int .i64 0))) (.lit (.bool false))) (.n2 (.bin .eql) (.slot 14) (.lit (.int .i64 0))) (.lit (.bool false))) (.n2 (.sbin .eql) (.slot 15) (.lit (str [120]))) (.lit (.bool false))) (.n2 (.bin .eql) (.slot 145) (.lit (.int .i64 0))) (.lit (.bool false))) (.n2 (.bin .eql) (.slot 150) (.lit (.int .i64 1))) (.lit (.bool false))) (.n2 (.bin .eql) (.slot 155) (.lit (.int .i64 1))) (.lit (.bool false))) ::
  .eff (some 160) (.call { callee := .value (.func 42), args := #[.tmp 159, .const (.int .i64 1), .const (.int .i64 2)], argTypes := #[24, 3, 3] }) 26 [(159, .slot 1)] (some (.n3 .pick (.n3 .pick (.n3 .pick (.n3 .pick (.n3 .pick (.n3 .pick (.n3 .pick (.n3 .pick (.n3 .pick (.n3 .pick (.n3 .pick (.n3 .pick (.n3 .pick (.n3 .pick (.n3 .pick (.n2 (.bin .eql) (.slot 2) (.lit (.int .i64 0))) (.n2 (.bin .eql) (.slot 3) (.lit (.int .i64 0))) (.lit (.bool false))) (.n2 (.bin .eql) (.slot 4) (.lit (.int .i64 0))) (.lit (.bool false))) (.n2 (.bin .eql) (.slot 6) (.lit (.int .i64 8))) (.lit (.bool false))) (.slot 7) (.lit (.bool false))) (.n2 (.bin .eql) (.slot 9) (.lit (.int .i64 0))) (.lit (.bool false))) (.n2 (.sbin .eql) (.slot 8) (.lit (str [104, 101, 108, 108, 111, 121]))) (.lit (.bool false))) (.n2 (.bin .eql) (.slot 10) (.lit (.int .i64 9))) (.lit (.bool false))) (.n2 (.bin .eql) (.slot 11) (.lit (.int .i64 0))) (.lit (.bool false))) (.n2 (.bin .eql) (.slot 12) (.lit (.int .i64 7))) (.lit (.bool false))) (.n2 (.bin .eql) (.slot 13) (.lit (.int .i64 0))) (.lit (.bool false))) (.n2 (.bin .eql) (.slot 14) (.lit (.int .i64 0))) (.lit (.bool false))) (.n2 (.sbin .eql) (.slot 15) (.lit (str [120]))) (.lit (.bool false))) (.n2 (.bin .eql) (.slot 145) (.lit (.int .i64 0))) (.lit (.bool false))) (.n2 (.bin .eql) (.slot 150) (.lit (.int .i64 1))) (.lit (.bool false))) (.n2 (.bin .eql) (.slot 155) (.lit (.int .i64 1))) (.lit (.bool false)), true)) [] ::
  l16_8
def l16_10 : List HS :=
  .need (.gif (.n3 .pick (.n3 .pick (.n3 .pick (.n3 .pick (.n3 .pick (.n3 .pick (.n3 .pick (.n3 .pick (.n3 .pick (.n3 .pick (.n3 .pick (.n3 .pick (.n3 .pick (.n2 (.bin .eql) (.slot 2) (.lit (.int .i64 0))) (.n2 (.bin .eql) (.slot 3) (.lit (.int .i64 0))) (.lit (.bool false))) (.n2 (.bin .eql) (.slot 4) (.lit (.int .i64 0))) (.lit (.bool false))) (.n2 (.bin .eql) (.slot 6) (.lit (.int .i64 8))) (.lit (.bool false))) (.slot 7) (.lit (.bool false))) (.n2 (.bin .eql) (.slot 9) (.lit (.int .i64 0))) (.lit (.bool false))) (.n2 (.sbin .eql) (.slot 8) (.lit (str [104, 101, 108, 108, 111, 121]))) (.lit (.bool false))) (.n2 (.bin .eql) (.slot 10) (.lit (.int .i64 9))) (.lit (.bool false))) (.n2 (.bin .eql) (.slot 11) (.lit (.int .i64 0))) (.lit (.bool false))) (.n2 (.bin .eql) (.slot 12) (.lit (.int .i64 7))) (.lit (.bool false))) (.n2 (.bin .eql) (.slot 13) (.lit (.int .i64 0))) (.lit (.bool false))) (.n2 (.bin .eql) (.slot 14) (.lit (.int .i64 0))) (.lit (.bool false))) (.n2 (.sbin .eql) (.slot 15) (.lit (str [120]))) (.lit (.bool false))) (.n2 (.bin .eql) (.slot 145) (.lit (.int .i64 0))) (.lit (.bool false))) true (.n2 (.bin .eql) (.slot 150) (.lit (.int .i64 1)))) ::
  .need (.n3 .pick (.n3 .pick (.n3 .pick (.n3 .pick (.n3 .pick (.n3 .pick (.n3 .pick (.n3 .pick (.n3 .pick (.n3 .pick (.n3 .pick (.n3 .pick (.n3 .pick (.n3 .pick (.n2 (.bin .eql) (.slot 2) (.lit (.int .i64 0))) (.n2 (.bin .eql) (.slot 3) (.lit (.int .i64 0))) (.lit (.bool false))) (.n2 (.bin .eql) (.slot 4) (.lit (.int .i64 0))) (.lit (.bool false))) (.n2 (.bin .eql) (.slot 6) (.lit (.int .i64 8))) (.lit (.bool false))) (.slot 7) (.lit (.bool false))) (.n2 (.bin .eql) (.slot 9) (.lit (.int .i64 0))) (.lit (.bool false))) (.n2 (.sbin .eql) (.slot 8) (.lit (str [104, 101, 108, 108, 111, 121]))) (.lit (.bool false))) (.n2 (.bin .eql) (.slot 10) (.lit (.int .i64 9))) (.lit (.bool false))) (.n2 (.bin .eql) (.slot 11) (.lit (.int .i64 0))) (.lit (.bool false))) (.n2 (.bin .eql) (.slot 12) (.lit (.int .i64 7))) (.lit (.bool false))) (.n2 (.bin .eql) (.slot 13) (.lit (.int .i64 0))) (.lit (.bool false))) (.n2 (.bin .eql) (.slot 14) (.lit (.int .i64 0))) (.lit (.bool false))) (.n2 (.sbin .eql) (.slot 15) (.lit (str [120]))) (.lit (.bool false))) (.n2 (.bin .eql) (.slot 145) (.lit (.int .i64 0))) (.lit (.bool false))) (.n2 (.bin .eql) (.slot 150) (.lit (.int .i64 1))) (.lit (.bool false))) ::
  .eff (some 155) (.call { callee := .value (.func 18), args := #[.tmp 154, .const (.int .i64 0), .const (.int .i64 (-1)), .const (str [])], argTypes := #[24, 3, 3, 9] }) 26 [(154, .slot 1)] (some (.n3 .pick (.n3 .pick (.n3 .pick (.n3 .pick (.n3 .pick (.n3 .pick (.n3 .pick (.n3 .pick (.n3 .pick (.n3 .pick (.n3 .pick (.n3 .pick (.n3 .pick (.n3 .pick (.n2 (.bin .eql) (.slot 2) (.lit (.int .i64 0))) (.n2 (.bin .eql) (.slot 3) (.lit (.int .i64 0))) (.lit (.bool false))) (.n2 (.bin .eql) (.slot 4) (.lit (.int .i64 0))) (.lit (.bool false))) (.n2 (.bin .eql) (.slot 6) (.lit (.int .i64 8))) (.lit (.bool false))) (.slot 7) (.lit (.bool false))) (.n2 (.bin .eql) (.slot 9) (.lit (.int .i64 0))) (.lit (.bool false))) (.n2 (.sbin .eql) (.slot 8) (.lit (str [104, 101, 108, 108, 111, 121]))) (.lit (.bool false))) (.n2 (.bin .eql) (.slot 10) (.lit (.int .i64 9))) (.lit (.bool false))) (.n2 (.bin .eql) (.slot 11) (.lit (.int .i64 0))) (.lit (.bool false))) (.n2 (.bin .eql) (.slot 12) (.lit (.int .i64 7))) (.lit (.bool false))) (.n2 (.bin .eql) (.slot 13) (.lit (.int .i64 0))) (.lit (.bool false))) (.n2 (.bin .eql) (.slot 14) (.lit (.int .i64 0))) (.lit (.bool false))) (.n2 (.sbin .eql) (.slot 15) (.lit (str [120]))) (.lit (.bool false))) (.n2 (.bin .eql) (.slot 145) (.lit (.int .i64 0))) (.lit (.bool false))) (.n2 (.bin .eql) (.slot 150) (.lit (.int .i64 1))) (.lit (.bool false)), true)) [] ::
  l16_9
def l16_11 : List HS :=
  .need (.gif (.n3 .pick (.n3 .pick (.n3 .pick (.n3 .pick (.n3 .pick (.n3 .pick (.n3 .pick (.n3 .pick (.n3 .pick (.n3 .pick (.n3 .pick (.n3 .pick (.n2 (.bin .eql) (.slot 2) (.lit (.int .i64 0))) (.n2 (.bin .eql) (.slot 3) (.lit (.int .i64 0))) (.lit (.bool false))) (.n2 (.bin .eql) (.slot 4) (.lit (.int .i64 0))) (.lit (.bool false))) (.n2 (.bin .eql) (.slot 6) (.lit (.int .i64 8))) (.lit (.bool false))) (.slot 7) (.lit (.bool false))) (.n2 (.bin .eql) (.slot 9) (.lit (.int .i64 0))) (.lit (.bool false))) (.n2 (.sbin .eql) (.slot 8) (.lit (str [104, 101, 108, 108, 111, 121]))) (.lit (.bool false))) (.n2 (.bin .eql) (.slot 10) (.lit (.int .i64 9))) (.lit (.bool false))) (.n2 (.bin .eql) (.slot 11) (.lit (.int .i64 0))) (.lit (.bool false))) (.n2 (.bin .eql) (.slot 12) (.lit (.int .i64 7))) (.lit (.bool false))) (.n2 (.bin .eql) (.slot 13) (.lit (.int .i64 0))) (.lit (.bool false))) (.n2 (.bin .eql) (.slot 14) (.lit (.int .i64 0))) (.lit (.bool false))) (.n2 (.sbin .eql) (.slot 15) (.lit (str [120]))) (.lit (.bool false))) true (.n2 (.bin .eql) (.slot 145) (.lit (.int .i64 0)))) ::
  .need (.n3 .pick (.n3 .pick (.n3 .pick (.n3 .pick (.n3 .pick (.n3 .pick (.n3 .pick (.n3 .pick (.n3 .pick (.n3 .pick (.n3 .pick (.n3 .pick (.n3 .pick (.n2 (.bin .eql) (.slot 2) (.lit (.int .i64 0))) (.n2 (.bin .eql) (.slot 3) (.lit (.int .i64 0))) (.lit (.bool false))) (.n2 (.bin .eql) (.slot 4) (.lit (.int .i64 0))) (.lit (.bool false))) (.n2 (.bin .eql) (.slot 6) (.lit (.int .i64 8))) (.lit (.bool false))) (.slot 7) (.lit (.bool false))) (.n2 (.bin .eql) (.slot 9) (.lit (.int .i64 0))) (.lit (.bool false))) (.n2 (.sbin .eql) (.slot 8) (.lit (str [104, 101, 108, 108, 111, 121]))) (.lit (.bool false))) (.n2 (.bin .eql) (.slot 10) (.lit (.int .i64 9))) (.lit (.bool false))) (.n2 (.bin .eql) (.slot 11) (.lit (.int .i64 0))) (.lit (.bool false))) (.n2 (.bin .eql) (.slot 12) (.lit (.int .i64 7))) (.lit (.bool false))) (.n2 (.bin .eql) (.slot 13) (.lit (.int .i64 0))) (.lit (.bool false))) (.n2 (.bin .eql) (.slot 14) (.lit (.int .i64 0))) (.lit (.bool false))) (.n2 (.sbin .eql) (.slot 15) (.lit (str [120]))) (.lit (.bool false))) (.n2 (.bin .eql) (.slot 145) (.lit (.int .i64 0))) (.lit (.bool false))) ::
  .eff (some 150) (.call { callee := .value (.func 18), args := #[.tmp 149, .const (.int .i64 12), .const (.int .i64 0), .const (str [])], argTypes := #[24, 3, 3, 9] }) 26 [(149, .slot 1)] (some (.n3 .pick (.n3 .pick (.n3 .pick (.n3 .pick (.n3 .pick (.n3 .pick (.n3 .pick (.n3 .pick (.n3 .pick (.n3 .pick (.n3 .pick (.n3 .pick (.n3 .pick (.n2 (.bin .eql) (.slot 2) (.lit (.int .i64 0))) (.n2 (.bin .eql) (.slot 3) (.lit (.int .i64 0))) (.lit (.bool false))) (.n2 (.bin .eql) (.slot 4) (.lit (.int .i64 0))) (.lit (.bool false))) (.n2 (.bin .eql) (.slot 6) (.lit (.int .i64 8))) (.lit (.bool false))) (.slot 7) (.lit (.bool false))) (.n2 (.bin .eql) (.slot 9) (.lit (.int .i64 0))) (.lit (.bool false))) (.n2 (.sbin .eql) (.slot 8) (.lit (str [104, 101, 108, 108, 111, 121]))) (.lit (.bool false))) (.n2 (.bin .eql) (.slot 10) (.lit (.int .i64 9))) (.lit (.bool false))) (.n2 (.bin .eql) (.slot 11) (.lit (.int .i64 0))) (.lit (.bool false))) (.n2 (.bin .eql) (.slot 12) (.lit (.int .i64 7))) (.lit (.bool false))) (.n2 (.bin .eql) (.slot 13) (.lit (.int .i64 0))) (.lit (.bool false))) (.n2 (.bin .eql) (.slot 14) (.lit (.int .i64 0))) (.lit (.bool false))) (.n2 (.sbin .eql) (.slot 15) (.lit (str [120]))) (.lit (.bool false))) (.n2 (.bin .eql) (.slot 145) (.lit (.int .i64 0))) (.lit (.bool false)), true)) [] ::
  l16_10
def h16_7 : HC :=
  (.seq
  (.reg (.need (.n2 (.bin .eql) (.slot 2) (.lit (.int .i64 0))) ::
    .need (.gif (.n2 (.bin .eql) (.slot 2) (.lit (.int .i64 0))) true (.n2 (.bin .eql) (.slot 3) (.lit (.int .i64 0)))) ::
    .need (.n3 .pick (.n2 (.bin .eql) (.slot 2) (.lit (.int .i64 0))) (.n2 (.bin .eql) (.slot 3) (.lit (.int .i64 0))) (.lit (.bool false))) ::
    .need (.gif (.n3 .pick (.n2 (.bin .eql) (.slot 2) (.lit (.int .i64 0))) (.n2 (.bin .eql) (.slot 3) (.lit (.int .i64 0))) (.lit (.bool false))) true (.n2 (.bin .eql) (.slot 4) (.lit (.int .i64 0)))) ::
    .need (.n3 .pick (.n3 .pick (.n2 (.bin .eql) (.slot 2) (.lit (.int .i64 0))) (.n2 (.bin .eql) (.slot 3) (.lit (.int .i64 0))) (.lit (.bool false))) (.n2 (.bin .eql) (.slot 4) (.lit (.int .i64 0))) (.lit (.bool false))) ::
    .need (.gif (.n3 .pick (.n3 .pick (.n2 (.bin .eql) (.slot 2) (.lit (.int .i64 0))) (.n2 (.bin .eql) (.slot 3) (.lit (.int .i64 0))) (.lit (.bool false))) (.n2 (.bin .eql) (.slot 4) (.lit (.int .i64 0))) (.lit (.bool false))) true (.n2 (.bin .eql) (.slot 6) (.lit (.int .i64 8)))) ::
    .need (.n3 .pick (.n3 .pick (.n3 .pick (.n2 (.bin .eql) (.slot 2) (.lit (.int .i64 0))) (.n2 (.bin .eql) (.slot 3) (.lit (.int .i64 0))) (.lit (.bool false))) (.n2 (.bin .eql) (.slot 4) (.lit (.int .i64 0))) (.lit (.bool false))) (.n2 (.bin .eql) (.slot 6) (.lit (.int .i64 8))) (.lit (.bool false))) ::
    .need (.n3 .pick (.n3 .pick (.n3 .pick (.n3 .pick (.n2 (.bin .eql) (.slot 2) (.lit (.int .i64 0))) (.n2 (.bin .eql) (.slot 3) (.lit (.int .i64 0))) (.lit (.bool false))) (.n2 (.bin .eql) (.slot 4) (.lit (.int .i64 0))) (.lit (.bool false))) (.n2 (.bin .eql) (.slot 6) (.lit (.int .i64 8))) (.lit (.bool false))) (.slot 7) (.lit (.bool false))) ::
    .need (.gif (.n3 .pick (.n3 .pick (.n3 .pick (.n3 .pick (.n2 (.bin .eql) (.slot 2) (.lit (.int .i64 0))) (.n2 (.bin .eql) (.slot 3) (.lit (.int .i64 0))) (.lit (.bool false))) (.n2 (.bin .eql) (.slot 4) (.lit (.int .i64 0))) (.lit (.bool false))) (.n2 (.bin .eql) (.slot 6) (.lit (.int .i64 8))) (.lit (.bool false))) (.slot 7) (.lit (.bool false))) true (.n2 (.bin .eql) (.slot 9) (.lit (.int .i64 0)))) ::
    .need (.n3 .pick (.n3 .pick (.n3 .pick (.n3 .pick (.n3 .pick (.n2 (.bin .eql) (.slot 2) (.lit (.int .i64 0))) (.n2 (.bin .eql) (.slot 3) (.lit (.int .i64 0))) (.lit (.bool false))) (.n2 (.bin .eql) (.slot 4) (.lit (.int .i64 0))) (.lit (.bool false))) (.n2 (.bin .eql) (.slot 6) (.lit (.int .i64 8))) (.lit (.bool false))) (.slot 7) (.lit (.bool false))) (.n2 (.bin .eql) (.slot 9) (.lit (.int .i64 0))) (.lit (.bool false))) ::
    .need (.gif (.n3 .pick (.n3 .pick (.n3 .pick (.n3 .pick (.n3 .pick (.n2 (.bin .eql) (.slot 2) (.lit (.int .i64 0))) (.n2 (.bin .eql) (.slot 3) (.lit (.int .i64 0))) (.lit (.bool false))) (.n2 (.bin .eql) (.slot 4) (.lit (.int .i64 0))) (.lit (.bool false))) (.n2 (.bin .eql) (.slot 6) (.lit (.int .i64 8))) (.lit (.bool false))) (.slot 7) (.lit (.bool false))) (.n2 (.bin .eql) (.slot 9) (.lit (.int .i64 0))) (.lit (.bool false))) true (.n2 (.sbin .eql) (.slot 8) (.lit (str [104, 101, 108, 108, 111, 121])))) ::
    .need (.n3 .pick (.n3 .pick (.n3 .pick (.n3 .pick (.n3 .pick (.n3 .pick (.n2 (.bin .eql) (.slot 2) (.lit (.int .i64 0))) (.n2 (.bin .eql) (.slot 3) (.lit (.int .i64 0))) (.lit (.bool false))) (.n2 (.bin .eql) (.slot 4) (.lit (.int .i64 0))) (.lit (.bool false))) (.n2 (.bin .eql) (.slot 6) (.lit (.int .i64 8))) (.lit (.bool false))) (.slot 7) (.lit (.bool false))) (.n2 (.bin .eql) (.slot 9) (.lit (.int .i64 0))) (.lit (.bool false))) (.n2 (.sbin .eql) (.slot 8) (.lit (str [104, 101, 108, 108, 111, 121]))) (.lit (.bool false))) ::
    .need (.gif (.n3 .pick (.n3 .pick (.n3 .pick (.n3 .pick (.n3 .pick (.n3 .pick (.n2 (.bin .eql) (.slot 2) (.lit (.int .i64 0))) (.n2 (.bin .eql) (.slot 3) (.lit (.int .i64 0))) (.lit (.bool false))) (.n2 (.bin .eql) (.slot 4) (.lit (.int .i64 0))) (.lit (.bool false))) (.n2 (.bin .eql) (.slot 6) (.lit (.int .i64 8))) (.lit (.bool false))) (.slot 7) (.lit (.bool false))) (.n2 (.bin .eql) (.slot 9) (.lit (.int .i64 0))) (.lit (.bool false))) (.n2 (.sbin .eql) (.slot 8) (.lit (str [104, 101, 108, 108, 111, 121]))) (.lit (.bool false))) true (.n2 (.bin .eql) (.slot 10) (.lit (.int .i64 9)))) ::
    .need (.n3 .pick (.n3 .pick (.n3 .pick (.n3 .pick (.n3 .pick (.n3 .pick (.n3 .pick (.n2 (.bin .eql) (.slot 2) (.lit (.int .i64 0))) (.n2 (.bin .eql) (.slot 3) (.lit (.int .i64 0))) (.lit (.bool false))) (.n2 (.bin .eql) (.slot 4) (.lit (.int .i64 0))) (.lit (.bool false))) (.n2 (.bin .eql) (.slot 6) (.lit (.int .i64 8))) (.lit (.bool false))) (.slot 7) (.lit (.bool false))) (.n2 (.bin .eql) (.slot 9) (.lit (.int .i64 0))) (.lit (.bool false))) (.n2 (.sbin .eql) (.slot 8) (.lit (str [104, 101, 108, 108, 111, 121]))) (.lit (.bool false))) (.n2 (.bin .eql) (.slot 10) (.lit (.int .i64 9))) (.lit (.bool false))) ::
    .need (.gif (.n3 .pick (.n3 .pick (.n3 .pick (.n3 .pick (.n3 .pick (.n3 .pick (.n3 .pick (.n2 (.bin .eql) (.slot 2) (.lit (.int .i64 0))) (.n2 (.bin .eql) (.slot 3) (.lit (.int .i64 0))) (.lit (.bool false))) (.n2 (.bin .eql) (.slot 4) (.lit (.int .i64 0))) (.lit (.bool false))) (.n2 (.bin .eql) (.slot 6) (.lit (.int .i64 8))) (.lit (.bool false))) (.slot 7) (.lit (.bool false))) (.n2 (.bin .eql) (.slot 9) (.lit (.int .i64 0))) (.lit (.bool false))) (.n2 (.sbin .eql) (.slot 8) (.lit (str [104, 101, 108, 108, 111, 121]))) (.lit (.bool false))) (.n2 (.bin .eql) (.slot 10) (.lit (.int .i64 9))) (.lit (.bool false))) true (.n2 (.bin .eql) (.slot 11) (.lit (.int .i64 0)))) ::
    .need (.n3 .pick (.n3 .pick (.n3 .pick (.n3 .pick (.n3 .pick (.n3 .pick (.n3 .pick (.n3 .pick (.n2 (.bin .eql) (.slot 2) (.lit (.int .i64 0))) (.n2 (.bin .eql) (.slot 3) (.lit (.int .i64 0))) (.lit (.bool false))) (.n2 (.bin .eql) (.slot 4) (.lit (.int .i64 0))) (.lit (.bool false))) (.n2 (.bin .eql) (.slot 6) (.lit (.int .i64 8))) (.lit (.bool false))) (.slot 7) (.lit (.bool false))) (.n2 (.bin .eql) (.slot 9) (.lit (.int .i64 0))) (.lit (.bool false))) (.n2 (.sbin .eql) (.slot 8) (.lit (str [104, 101, 108, 108, 111, 121]))) (.lit (.bool false))) (.n2 (.bin .eql) (.slot 10) (.lit (.int .i64 9))) (.lit (.bool false))) (.n2 (.bin .eql) (.slot 11) (.lit (.int .i64 0))) (.lit (.bool false))) ::
    .need (.gif (.n3 .pick (.n3 .pick (.n3 .pick (.n3 .pick (.n3 .pick (.n3 .pick (.n3 .pick (.n3 .pick (.n2 (.bin .eql) (.slot 2) (.lit (.int .i64 0))) (.n2 (.bin .eql) (.slot 3) (.lit (.int .i64 0))) (.lit (.bool false))) (.n2 (.bin .eql) (.slot 4) (.lit (.int .i64 0))) (.lit (.bool false))) (.n2 (.bin .eql) (.slot 6) (.lit (.int .i64 8))) (.lit (.bool false))) (.slot 7) (.lit (.bool false))) (.n2 (.bin .eql) (.slot 9) (.lit (.int .i64 0))) (.lit (.bool false))) (.n2 (.sbin .eql) (.slot 8) (.lit (str [104, 101, 108, 108, 111, 121]))) (.lit (.bool false))) (.n2 (.bin .eql) (.slot 10) (.lit (.int .i64 9))) (.lit (.bool false))) (.n2 (.bin .eql) (.slot 11) (.lit (.int .i64 0))) (.lit (.bool false))) true (.n2 (.bin .eql) (.slot 12) (.lit (.int .i64 7)))) ::
    .need (.n3 .pick (.n3 .pick (.n3 .pick (.n3 .pick (.n3 .pick (.n3 .pick (.n3 .pick (.n3 .pick (.n3 .pick (.n2 (.bin .eql) (.slot 2) (.lit (.int .i64 0))) (.n2 (.bin .eql) (.slot 3) (.lit (.int .i64 0))) (.lit (.bool false))) (.n2 (.bin .eql) (.slot 4) (.lit (.int .i64 0))) (.lit (.bool false))) (.n2 (.bin .eql) (.slot 6) (.lit (.int .i64 8))) (.lit (.bool false))) (.slot 7) (.lit (.bool false))) (.n2 (.bin .eql) (.slot 9) (.lit (.int .i64 0))) (.lit (.bool false))) (.n2 (.sbin .eql) (.slot 8) (.lit (str [104, 101, 108, 108, 111, 121]))) (.lit (.bool false))) (.n2 (.bin .eql) (.slot 10) (.lit (.int .i64 9))) (.lit (.bool false))) (.n2 (.bin .eql) (.slot 11) (.lit (.int .i64 0))) (.lit (.bool false))) (.n2 (.bin .eql) (.slot 12) (.lit (.int .i64 7))) (.lit (.bool false))) ::
    .need (.gif (.n3 .pick (.n3 .pick (.n3 .pick (.n3 .pick (.n3 .pick (.n3 .pick (.n3 .pick (.n3 .pick (.n3 .pick (.n2 (.bin .eql) (.slot 2) (.lit (.int .i64 0))) (.n2 (.bin .eql) (.slot 3) (.lit (.int .i64 0))) (.lit (.bool false))) (.n2 (.bin .eql) (.slot 4) (.lit (.int .i64 0))) (.lit (.bool false))) (.n2 (.bin .eql) (.slot 6) (.lit (.int .i64 8))) (.lit (.bool false))) (.slot 7) (.lit (.bool false))) (.n2 (.bin .eql) (.slot 9) (.lit (.int .i64 0))) (.lit (.bool false))) (.n2 (.sbin .eql) (.slot 8) (.lit (str [104, 101, 108, 108, 111, 121]))) (.lit (.bool false))) (.n2 (.bin .eql) (.slot 10) (.lit (.int .i64 9))) (.lit (.bool false))) (.n2 (.bin .eql) (.slot 11) (.lit (.int .i64 0))) (.lit (.bool false))) (.n2 (.bin .eql) (.slot 12) (.lit (.int .i64 7))) (.lit (.bool false))) true (.n2 (.bin .eql) (.slot 13) (.lit (.int .i64 0)))) ::
    .need (.n3 .pick (.n3 .pick (.n3 .pick (.n3 .pick (.n3 .pick (.n3 .pick (.n3 .pick (.n3 .pick (.n3 .pick (.n3 .pick (.n2 (.bin .eql) (.slot 2) (.lit (.int .i64 0))) (.n2 (.bin .eql) (.slot 3) (.lit (.int .i64 0))) (.lit (.bool false))) (.n2 (.bin .eql) (.slot 4) (.lit (.int .i64 0))) (.lit (.bool false))) (.n2 (.bin .eql) (.slot 6) (.lit (.int .i64 8))) (.lit (.bool false))) (.slot 7) (.lit (.bool false))) (.n2 (.bin .eql) (.slot 9) (.lit (.int .i64 0))) (.lit (.bool false))) (.n2 (.sbin .eql) (.slot 8) (.lit (str [104, 101, 108, 108, 111, 121]))) (.lit (.bool false))) (.n2 (.bin .eql) (.slot 10) (.lit (.int .i64 9))) (.lit (.bool false))) (.n2 (.bin .eql) (.slot 11) (.lit (.int .i64 0))) (.lit (.bool false))) (.n2 (.bin .eql) (.slot 12) (.lit (.int .i64 7))) (.lit (.bool false))) (.n2 (.bin .eql) (.slot 13) (.lit (.int .i64 0))) (.lit (.bool false))) ::
    .need (.gif (.n3 .pick (.n3 .pick (.n3 .pick (.n3 .pick (.n3 .pick (.n3 .pick (.n3 .pick (.n3 .pick (.n3 .pick (.n3 .pick (.n2 (.bin .eql) (.slot 2) (.lit (.int .i64 0))) (.n2 (.bin .eql) (.slot 3) (.lit (.int .i64 0))) (.lit (.bool false))) (.n2 (.bin .eql) (.slot 4) (.lit (.int .i64 0))) (.lit (.bool false))) (.n2 (.bin .eql) (.slot 6) (.lit (.int .i64 8))) (.lit (.bool false))) (.slot 7) (.lit (.bool false))) (.n2 (.bin .eql) (.slot 9) (.lit (.int .i64 0))) (.lit (.bool false))) (.n2 (.sbin .eql) (.slot 8) (.lit (str [104, 101, 108, 108, 111, 121]))) (.lit (.bool false))) (.n2 (.bin .eql) (.slot 10) (.lit (.int .i64 9))) (.lit (.bool false))) (.n2 (.bin .eql) (.slot 11) (.lit (.int .i64 0))) (.lit (.bool false))) (.n2 (.bin .eql) (.slot 12) (.lit (.int .i64 7))) (.lit (.bool false))) (.n2 (.bin .eql) (.slot 13) (.lit (.int .i64 0))) (.lit (.bool false))) true (.n2 (.bin .eql) (.slot 14) (.lit (.int .i64 0)))) ::
    .need (.n3 .pick (.n3 .pick (.n3 .pick (.n3 .pick (.n3 .pick (.n3 .pick (.n3 .pick (.n3 .pick (.n3 .pick (.n3 .pick (.n3 .pick (.n2 (.bin .eql) (.slot 2) (.lit (.int .i64 0))) (.n2 (.bin .eql) (.slot 3) (.lit (.int .i64 0))) (.lit (.bool false))) (.n2 (.bin .eql) (.slot 4) (.lit (.int .i64 0))) (.lit (.bool false))) (.n2 (.bin .eql) (.slot 6) (.lit (.int .i64 8))) (.lit (.bool false))) (.slot 7) (.lit (.bool false))) (.n2 (.bin .eql) (.slot 9) (.lit (.int .i64 0))) (.lit (.bool false))) (.n2 (.sbin .eql) (.slot 8) (.lit (str [104, 101, 108, 108, 111, 121]))) (.lit (.bool false))) (.n2 (.bin .eql) (.slot 10) (.lit (.int .i64 9))) (.lit (.bool false))) (.n2 (.bin .eql) (.slot 11) (.lit (.int .i64 0))) (.lit (.bool false))) (.n2 (.bin .eql) (.slot 12) (.lit (.int .i64 7))) (.lit (.bool false))) (.n2 (.bin .eql) (.slot 13) (.lit (.int .i64 0))) (.lit (.bool false))) (.n2 (.bin .eql) (.slot 14) (.lit (.int .i64 0))) (.lit (.bool false))) ::
    .need (.gif (.n3 .pick (.n3 .pick (.n3 .pick (.n3 .pick (.n3 .pick (.n3 .pick (.n3 .pick (.n3 .pick (.n3 .pick (.n3 .pick (.n3 .pick (.n2 (.bin .eql) (.slot 2) (.lit (.int .i64 0))) (.n2 (.bin .eql) (.slot 3) (.lit (.int .i64 0))) (.lit (.bool false))) (.n2 (.bin .eql) (.slot 4) (.lit (.int .i64 0))) (.lit (.bool false))) (.n2 (.bin .eql) (.slot 6) (.lit (.int .i64 8))) (.lit (.bool false))) (.slot 7) (.lit (.bool false))) (.n2 (.bin .eql) (.slot 9) (.lit (.int .i64 0))) (.lit (.bool false))) (.n2 (.sbin .eql) (.slot 8) (.lit (str [104, 101, 108, 108, 111, 121]))) (.lit (.bool false))) (.n2 (.bin .eql) (.slot 10) (.lit (.int .i64 9))) (.lit (.bool false))) (.n2 (.bin .eql) (.slot 11) (.lit (.int .i64 0))) (.lit (.bool false))) (.n2 (.bin .eql) (.slot 12) (.lit (.int .i64 7))) (.lit (.bool false))) (.n2 (.bin .eql) (.slot 13) (.lit (.int .i64 0))) (.lit (.bool false))) (.n2 (.bin .eql) (.slot 14) (.lit (.int .i64 0))) (.lit (.bool false))) true (.n2 (.sbin .eql) (.slot 15) (.lit (str [120])))) ::
    .need (.n3 .pick (.n3 .pick (.n3 .pick (.n3 .pick (.n3 .pick (.n3 .pick (.n3 .pick (.n3 .pick (.n3 .pick (.n3 .pick (.n3 .pick (.n3 .pick (.n2 (.bin .eql) (.slot 2) (.lit (.int .i64 0))) (.n2 (.bin .eql) (.slot 3) (.lit (.int .i64 0))) (.lit (.bool false))) (.n2 (.bin .eql) (.slot 4) (.lit (.int .i64 0))) (.lit (.bool false))) (.n2 (.bin .eql) (.slot 6) (.lit (.int .i64 8))) (.lit (.bool false))) (.slot 7) (.lit (.bool false))) (.n2 (.bin .eql) (.slot 9) (.lit (.int .i64 0))) (.lit (.bool false))) (.n2 (.sbin .eql) (.slot 8) (.lit (str [104, 101, 108, 108, 111, 121]))) (.lit (.bool false))) (.n2 (.bin .eql) (.slot 10) (.lit (.int .i64 9))) (.lit (.bool false))) (.n2 (.bin .eql) (.slot 11) (.lit (.int .i64 0))) (.lit (.bool false))) (.n2 (.bin .eql) (.slot 12) (.lit (.int .i64 7))) (.lit (.bool false))) (.n2 (.bin .eql) (.slot 13) (.lit (.int .i64 0))) (.lit (.bool false))) (.n2 (.bin .eql) (.slot 14) (.lit (.int .i64 0))) (.lit (.bool false))) (.n2 (.sbin .eql) (.slot 15) (.lit (str [120]))) (.lit (.bool false))) ::
    .eff (some 145) (.call { callee := .value (.func 24), args := #[.tmp 144, .const (.int .i64 2)], argTypes := #[24, 3] }) 3 [(144, .slot 1)] (some (.n3 .pick (.n3 .pick (.n3 .pick (.n3 .pick (.n3 .pick (.n3 .pick (.n3 .pick (.n3 .pick (.n3 .pick (.n3 .pick (.n3 .pick (.n3 .pick (.n2 (.bin .eql) (.slot 2) (.lit (.int .i64 0))) (.n2 (.bin .eql) (.slot 3) (.lit (.int .i64 0))) (.lit (.bool false))) (.n2 (.bin .eql) (.slot 4) (.lit (.int .i64 0))) (.lit (.bool false))) (.n2 (.bin .eql) (.slot 6) (.lit (.int .i64 8))) (.lit (.bool false))) (.slot 7) (.lit (.bool false))) (.n2 (.bin .eql) (.slot 9) (.lit (.int .i64 0))) (.lit (.bool false))) (.n2 (.sbin .eql) (.slot 8) (.lit (str [104, 101, 108, 108, 111, 121]))) (.lit (.bool false))) (.n2 (.bin .eql) (.slot 10) (.lit (.int .i64 9))) (.lit (.bool false))) (.n2 (.bin .eql) (.slot 11) (.lit (.int .i64 0))) (.lit (.bool false))) (.n2 (.bin .eql) (.slot 12) (.lit (.int .i64 7))) (.lit (.bool false))) (.n2 (.bin .eql) (.slot 13) (.lit (.int .i64 0))) (.lit (.bool false))) (.n2 (.bin .eql) (.slot 14) (.lit (.int .i64 0))) (.lit (.bool false))) (.n2 (.sbin .eql) (.slot 15) (.lit (str [120]))) (.lit (.bool false)), true)) [] ::
    l16_11))
  .ret)
def h16_6 : HC :=
  (.seq
  (.reg [.eff (some 70) (.call { callee := .value (.func 22), args := #[.tmp 69], argTypes := #[24] }) 0 [(69, .slot 1)] none []])
  (.seq
  (.reg [.eff (some 73) (.call { callee := .value (.func 23), args := #[.tmp 72, .const (.int .i64 3)], argTypes := #[24, 3] }) 31 [(72, .slot 1)] none [],
    .need (.n1 (.ext 0) (.slot 73)),
    .need (.n1 (.ext 1) (.slot 73)),
    .asg 17 (.n1 (.ext 0) (.slot 73))])
  (.seq
  (.seq
  (.reg [.need (.n1 .lens (.slot 17)),
    .need (.n2 (.bin .neq) (.n1 .lens (.slot 17)) (.lit (.int .i64 66))),
    .need (.gif (.n2 (.bin .neq) (.n1 .lens (.slot 17)) (.lit (.int .i64 66))) false (.n3 (.sls true false) (.slot 17) (.lit (.int .i64 64)) (.lit (.tuple #[])))),
    .need (.gif (.n2 (.bin .neq) (.n1 .lens (.slot 17)) (.lit (.int .i64 66))) false (.n2 (.sbin .neq) (.n3 (.sls true false) (.slot 17) (.lit (.int .i64 64)) (.lit (.tuple #[]))) (.lit (str [99, 100])))),
    .need (.n3 .pick (.n2 (.bin .neq) (.n1 .lens (.slot 17)) (.lit (.int .i64 66))) (.lit (.bool true)) (.n2 (.sbin .neq) (.n3 (.sls true false) (.slot 17) (.lit (.int .i64 64)) (.lit (.tuple #[]))) (.lit (str [99, 100])))),
    .need (.gif (.n3 .pick (.n2 (.bin .neq) (.n1 .lens (.slot 17)) (.lit (.int .i64 66))) (.lit (.bool true)) (.n2 (.sbin .neq) (.n3 (.sls true false) (.slot 17) (.lit (.int .i64 64)) (.lit (.tuple #[]))) (.lit (str [99, 100])))) false (.n2 .idxs (.slot 17) (.lit (.int .i64 0)))),
    .need (.gif (.n3 .pick (.n2 (.bin .neq) (.n1 .lens (.slot 17)) (.lit (.int .i64 66))) (.lit (.bool true)) (.n2 (.sbin .neq) (.n3 (.sls true false) (.slot 17) (.lit (.int .i64 64)) (.lit (.tuple #[]))) (.lit (str [99, 100])))) false (.n2 (.bin .neq) (.n2 .idxs (.slot 17) (.lit (.int .i64 0))) (.lit (.int .u8 0)))),
    .need (.n3 .pick (.n3 .pick (.n2 (.bin .neq) (.n1 .lens (.slot 17)) (.lit (.int .i64 66))) (.lit (.bool true)) (.n2 (.sbin .neq) (.n3 (.sls true false) (.slot 17) (.lit (.int .i64 64)) (.lit (.tuple #[]))) (.lit (str [99, 100])))) (.lit (.bool true)) (.n2 (.bin .neq) (.n2 .idxs (.slot 17) (.lit (.int .i64 0))) (.lit (.int .u8 0)))),
    .need (.gif (.n3 .pick (.n3 .pick (.n2 (.bin .neq) (.n1 .lens (.slot 17)) (.lit (.int .i64 66))) (.lit (.bool true)) (.n2 (.sbin .neq) (.n3 (.sls true false) (.slot 17) (.lit (.int .i64 64)) (.lit (.tuple #[]))) (.lit (str [99, 100])))) (.lit (.bool true)) (.n2 (.bin .neq) (.n2 .idxs (.slot 17) (.lit (.int .i64 0))) (.lit (.int .u8 0)))) false (.n2 .idxs (.slot 17) (.lit (.int .i64 63)))),
    .need (.gif (.n3 .pick (.n3 .pick (.n2 (.bin .neq) (.n1 .lens (.slot 17)) (.lit (.int .i64 66))) (.lit (.bool true)) (.n2 (.sbin .neq) (.n3 (.sls true false) (.slot 17) (.lit (.int .i64 64)) (.lit (.tuple #[]))) (.lit (str [99, 100])))) (.lit (.bool true)) (.n2 (.bin .neq) (.n2 .idxs (.slot 17) (.lit (.int .i64 0))) (.lit (.int .u8 0)))) false (.n2 (.bin .neq) (.n2 .idxs (.slot 17) (.lit (.int .i64 63))) (.lit (.int .u8 0)))),
    .need (.n3 .pick (.n3 .pick (.n3 .pick (.n2 (.bin .neq) (.n1 .lens (.slot 17)) (.lit (.int .i64 66))) (.lit (.bool true)) (.n2 (.sbin .neq) (.n3 (.sls true false) (.slot 17) (.lit (.int .i64 64)) (.lit (.tuple #[]))) (.lit (str [99, 100])))) (.lit (.bool true)) (.n2 (.bin .neq) (.n2 .idxs (.slot 17) (.lit (.int .i64 0))) (.lit (.int .u8 0)))) (.lit (.bool true)) (.n2 (.bin .neq) (.n2 .idxs (.slot 17) (.lit (.int .i64 63))) (.lit (.int .u8 0)))),
    .asg 93 (.n3 .pick (.n3 .pick (.n3 .pick (.n2 (.bin .neq) (.n1 .lens (.slot 17)) (.lit (.int .i64 66))) (.lit (.bool true)) (.n2 (.sbin .neq) (.n3 (.sls true false) (.slot 17) (.lit (.int .i64 64)) (.lit (.tuple #[]))) (.lit (str [99, 100])))) (.lit (.bool true)) (.n2 (.bin .neq) (.n2 .idxs (.slot 17) (.lit (.int .i64 0))) (.lit (.int .u8 0)))) (.lit (.bool true)) (.n2 (.bin .neq) (.n2 .idxs (.slot 17) (.lit (.int .i64 63))) (.lit (.int .u8 0))))])
  (.cond (.slot 93)
    (.seq
    (.reg [.asg 0 (.lit (.bool false))])
    .ret)
    .skip))
  h16_7)))
def h16_5 : HC :=
  (.seq
  (.reg [.eff (some 61) (.call { callee := .value (.func 23), args := #[.tmp 60, .const (.int .i64 1)], argTypes := #[24, 3] }) 31 [(60, .slot 1)] none [],
    .need (.n1 (.ext 0) (.slot 61)),
    .need (.n1 (.ext 1) (.slot 61)),
    .asg 15 (.n1 (.ext 0) (.slot 61))])
  (.seq
  (.reg [.eff (some 65) (.call { callee := .value (.func 18), args := #[.tmp 64, .const (.int .i64 3), .const (.int .i64 62), .const (str [97, 98, 99, 100])], argTypes := #[24, 3, 3, 9] }) 26 [(64, .slot 1)] none []])
  (.seq
  (.reg [.eff (some 67) (.buildSlice 22 2 #[(0, .const (.int .i64 0)), (1, .const (.int .i64 1))]) 22 [] none [],
    .eff (some 68) (.call { callee := .value (.func 21), args := #[.tmp 66, .tmp 67], argTypes := #[24, 22] }) 0 [(66, .slot 1), (67, .slot 67)] none []])
  h16_6)))
def h16_4 : HC :=
  (.seq
  (.reg [.eff (some 52) (.call { callee := .value (.func 18), args := #[.tmp 51, .const (.int .i64 2), .const (.int .i64 0), .const (str [120])], argTypes := #[24, 3, 3, 9] }) 26 [(51, .slot 1)] none [],
    .asg 11 (.slot 52)])
  (.seq
  (.reg [.eff (some 54) (.call { callee := .value (.func 20), args := #[.tmp 53, .const (.int .i64 1), .const (.int .i64 2)], argTypes := #[24, 3, 3] }) 26 [(53, .slot 1)] none [],
    .asg 12 (.slot 54)])
  (.seq
  (.reg [.eff (some 56) (.call { callee := .value (.func 19), args := #[.tmp 55, .const (.int .i64 2)], argTypes := #[24, 3] }) 26 [(55, .slot 1)] none [],
    .asg 13 (.slot 56)])
  (.seq
  (.reg [.eff (some 58) (.call { callee := .value (.func 20), args := #[.tmp 57, .const (.int .i64 1), .const (.int .i64 2)], argTypes := #[24, 3, 3] }) 26 [(57, .slot 1)] none [],
    .asg 14 (.slot 58)])
  h16_5))))
def h16_3 : HC :=
  (.seq
  (.reg [.eff (some 41) (.call { callee := .value (.func 22), args := #[.tmp 40], argTypes := #[24] }) 0 [(40, .slot 1)] none []])
  (.seq
  (.reg [.eff (some 44) (.call { callee := .value (.func 23), args := #[.tmp 43, .const (.int .i64 1)], argTypes := #[24, 3] }) 31 [(43, .slot 1)] none [],
    .need (.n1 (.ext 0) (.slot 44)),
    .need (.n1 (.ext 1) (.slot 44)),
    .asg 8 (.n1 (.ext 0) (.slot 44)),
    .asg 9 (.n1 (.ext 1) (.slot 44))])
  (.seq
  (.reg [.eff (some 48) (.call { callee := .value (.func 33), args := #[.tmp 47, .const (.int .i64 1)], argTypes := #[24, 3] }) 0 [(47, .slot 1)] none []])
  (.seq
  (.reg [.eff (some 50) (.call { callee := .value (.func 19), args := #[.tmp 49, .const (.int .i64 1)], argTypes := #[24, 3] }) 26 [(49, .slot 1)] none [],
    .asg 10 (.slot 50)])
  h16_4))))
def h16_2 : HC :=
  (.seq
  (.reg [.eff (some 31) (.buildSlice 22 1 #[(0, .const (.int .i64 1))]) 22 [] none [],
    .eff (some 32) (.call { callee := .value (.func 21), args := #[.tmp 30, .tmp 31], argTypes := #[24, 22] }) 0 [(30, .slot 1), (31, .slot 31)] none []])
  (.seq
  (.reg [.eff (some 35) (.call { callee := .value (.func 23), args := #[.tmp 34, .const (.int .i64 1)], argTypes := #[24, 3] }) 31 [(34, .slot 1)] none [],
    .need (.n1 (.ext 0) (.slot 35)),
    .need (.n1 (.ext 1) (.slot 35)),
    .asg 6 (.n1 (.ext 1) (.slot 35))])
  (.seq
  (.reg [.eff (some 39) (.call { callee := .value (.func 27), args := #[.tmp 38], argTypes := #[24] }) 4 [(38, .slot 1)] none [],
    .asg 7 (.slot 39)])
  h16_3)))
def h16_1 : HC :=
  (.seq
  (.reg [.eff (some 23) (.call { callee := .value (.func 18), args := #[.tmp 22, .const (.int .i64 1), .const (.int .i64 0), .const (str [104, 101, 108, 108, 111])], argTypes := #[24, 3, 3, 9] }) 26 [(22, .slot 1)] none [],
    .asg 2 (.slot 23)])
  (.seq
  (.reg [.eff (some 25) (.call { callee := .value (.func 19), args := #[.tmp 24, .const (.int .i64 1)], argTypes := #[24, 3] }) 26 [(24, .slot 1)] none [],
    .asg 3 (.slot 25)])
  (.seq
  (.reg [.eff (some 27) (.call { callee := .value (.func 18), args := #[.tmp 26, .const (.int .i64 1), .const (.int .i64 5), .const (str [121])], argTypes := #[24, 3, 3, 9] }) 26 [(26, .slot 1)] none [],
    .asg 4 (.slot 27)])
  (.seq
  (.reg [.eff (some 29) (.call { callee := .value (.func 18), args := #[.tmp 28, .const (.int .i64 1), .const (.int .i64 8), .const (str [122])], argTypes := #[24, 3, 3, 9] }) 26 [(28, .slot 1)] none []])
  h16_2))))
def h16 : HC :=
  (.seq
  (.reg [.asg 0 (.lit (.bool false))])
  (.seq
  (.reg [.eff (some 19) (.call { callee := .value (.func 17), args := #[], argTypes := #[] }) 24 [] none [],
    .asg 1 (.slot 19)])
  (.seq
  (.seq
  (.reg [.need (.n2 (.pnil false) (.slot 1) (.lit (.pointer none))),
    .asg 21 (.n2 (.pnil false) (.slot 1) (.lit (.pointer none)))])
  (.cond (.slot 21)
    (.seq
    (.reg [.asg 0 (.lit (.bool false))])
    .ret)
    .skip))
  h16_1)))
theorem k16 : fnOK Try.prog 1508645412680596655534794872566574707186825101279 [] [.tmp 0] 0 Try.f16 = some h16 := by kernel_rfl
theorem c16 : callable Try.prog 16 = true := by kernel_rfl
theorem q16 {args : List Value} (ha : args.length = 0) {w : World} {next : Value → World → Prop} {QP : List PanicEntry → World → Prop} (H : hw Try.prog noPanic h16 (endV [.tmp 0] next) (σ0 args) w) : callK Try.prog 16 args w next QP := fn_rule Try.func16 mixed k16 ha H
theorem r16 {args : List Value} (ha : args.length = 0) {w : World} {next : Value → World → Prop} {QP : List PanicEntry → World → Prop} (H : hw Try.prog noPanic h16 (endV [.tmp 0] next) (σ0 args) w) : callvK Try.prog (.func (.func 16) #[] #[]) args w next QP := callf c16 (q16 ha H)

/- missive/disk.New -/
def h17 : HC :=
  (.seq
  (.reg [.asg 0 (.lit (.pointer none))])
  (.seq
  (.reg [.eff (some 2) (.box 86 (.tmp 1)) 24 [(1, .lit (.agg #[(str []), (str []), (str []), (str []), (str []), (str []), (str []), (str []), (str []), (str []), (str []), (str []), (str []), (str []), (str []), (str []), (str []), (str []), (str []), (str []), (str []), (str []), (str []), (str []), (.slice none 0 0), (.int .i64 0), (.bool false), (.int .i64 0), (.slice none 0 0)]))] none [],
    .asg 0 (.slot 2)])
  .ret))
theorem k17 : fnOK Try.prog 5 [] [.tmp 0] 0 Try.f17 = some h17 := by kernel_rfl
theorem c17 : callable Try.prog 17 = true := by kernel_rfl
theorem q17 {args : List Value} (ha : args.length = 0) {w : World} {next : Value → World → Prop} {QP : List PanicEntry → World → Prop} (H : hw Try.prog noPanic h17 (endV [.tmp 0] next) (σ0 args) w) : callK Try.prog 17 args w next QP := fn_rule Try.func17 mixed k17 ha H
theorem r17 {args : List Value} (ha : args.length = 0) {w : World} {next : Value → World → Prop} {QP : List PanicEntry → World → Prop} (H : hw Try.prog noPanic h17 (endV [.tmp 0] next) (σ0 args) w) : callvK Try.prog (.func (.func 17) #[] #[]) args w next QP := callf c17 (q17 ha H)

/- (*missive/disk.Disk).Write -/
def h18_1 : HC :=
  (.seq
  (.reg [.asg 8 (.slot 10)])
  .ret)
def h18 : HC :=
  (.seq
  (.reg [.asg 8 (.lit (.int .i64 0))])
  (.seq
  (.reg [.eff (some 12) (.call { callee := .value (.func 63), args := #[.tmp 11], argTypes := #[24] }) 4 [(11, .slot 0)] none [],
    .asg 9 (.slot 12)])
  (.seq
  (.reg [.eff (some 17) (.call { callee := .value (.func 64), args := #[.tmp 13, .tmp 14, .tmp 15, .tmp 16], argTypes := #[24, 3, 3, 9] }) 26 [(13, .slot 0), (14, .slot 1), (15, .slot 2), (16, .slot 3)] none [],
    .asg 10 (.slot 17)])
  (.seq
  (.seq
  (.reg [.asg 18 (.slot 9)])
  (.cond (.slot 18)
    (.seq
    (.reg [.need (.n1 .nilchk (.slot 0)),
      .need (.n1 (.faddr 28) (.n1 .nilchk (.slot 0))),
      .need (.n1 .ld (.n1 (.faddr 28) (.n1 .nilchk (.slot 0)))),
      .eff (some 24) (.call { callee := .value (.func 21), args := #[.tmp 19, .tmp 23], argTypes := #[24, 22] }) 0 [(19, .slot 0), (23, .n1 .ld (.n1 (.faddr 28) (.n1 .nilchk (.slot 0))))] none []])
    (.seq
    (.reg [.asg 8 (.lit (.int .i64 8))])
    .ret))
    .skip))
  h18_1))))
theorem k18 : fnOK Try.prog 17176335 [] [.tmp 8] 4 Try.f18 = some h18 := by kernel_rfl
theorem c18 : callable Try.prog 18 = true := by kernel_rfl
theorem q18 {args : List Value} (ha : args.length = 4) {w : World} {next : Value → World → Prop} {QP : List PanicEntry → World → Prop} (H : hw Try.prog noPanic h18 (endV [.tmp 8] next) (σ0 args) w) : callK Try.prog 18 args w next QP := fn_rule Try.func18 mixed k18 ha H
theorem r18 {args : List Value} (ha : args.length = 4) {w : World} {next : Value → World → Prop} {QP : List PanicEntry → World → Prop} (H : hw Try.prog noPanic h18 (endV [.tmp 8] next) (σ0 args) w) : callvK Try.prog (.func (.func 18) #[] #[]) args w next QP := callf c18 (q18 ha H)

/- (*missive/disk.Disk).Flush -/
def h19_3 : HC :=
  (.seq
  (.reg [.need (.n1 .nilchk (.slot 0)),
    .need (.n1 (.faddr 12) (.n1 .nilchk (.slot 0))),
    .need (.n2 (.iaddra 12 1) (.n1 (.faddr 12) (.n1 .nilchk (.slot 0))) (.slot 1)),
    .need (.n1 .ld (.n2 (.iaddra 12 1) (.n1 (.faddr 12) (.n1 .nilchk (.slot 0))) (.slot 1))),
    .eff (some 41) (.call { callee := .value (.func 66), args := #[.tmp 33, .tmp 34, .tmp 40], argTypes := #[24, 3, 9] }) 0 [(33, .slot 0), (34, .slot 1), (40, .n1 .ld (.n2 (.iaddra 12 1) (.n1 (.faddr 12) (.n1 .nilchk (.slot 0))) (.slot 1)))] none []])
  (.seq
  (.reg [.asg 4 (.lit (.int .i64 0))])
  .ret))
def h19_2 : HC :=
  (.seq
  (.seq
  (.reg [.need (.n1 .nilchk (.slot 0)),
    .need (.n1 (.faddr 25) (.n1 .nilchk (.slot 0))),
    .need (.n1 .ld (.n1 (.faddr 25) (.n1 .nilchk (.slot 0)))),
    .need (.n2 (.bin .gtr) (.n1 .ld (.n1 (.faddr 25) (.n1 .nilchk (.slot 0)))) (.lit (.int .i64 0))),
    .asg 25 (.n2 (.bin .gtr) (.n1 .ld (.n1 (.faddr 25) (.n1 .nilchk (.slot 0)))) (.lit (.int .i64 0)))])
  (.cond (.slot 25)
    (.seq
    (.reg [.need (.n1 .nilchk (.slot 0)),
      .need (.n1 (.faddr 25) (.n1 .nilchk (.slot 0))),
      .need (.n1 .ld (.n1 (.faddr 25) (.n1 .nilchk (.slot 0)))),
      .need (.n2 (.bin .sub) (.n1 .ld (.n1 (.faddr 25) (.n1 .nilchk (.slot 0)))) (.lit (.int .i64 1))),
      .need (.n1 .nilchk (.slot 0)),
      .need (.n1 (.faddr 25) (.n1 .nilchk (.slot 0))),
      .eff none (.store 3 (.tmp 32) (.tmp 30)) 0 [(32, .n1 (.faddr 25) (.n1 .nilchk (.slot 0))), (30, .n2 (.bin .sub) (.n1 .ld (.n1 (.faddr 25) (.n1 .nilchk (.slot 0)))) (.lit (.int .i64 1)))] none []])
    (.seq
    (.reg [.asg 4 (.lit (.int .i64 9))])
    .ret))
    .skip))
  h19_3)
def h19_1 : HC :=
  (.seq
  (.seq
  (.reg [.eff (some 16) (.buildSlice 22 1 #[(0, .tmp 15)]) 22 [(15, .slot 1)] none [],
    .eff (some 17) (.call { callee := .value (.func 65), args := #[.tmp 14, .tmp 16], argTypes := #[24, 22] }) 26 [(14, .slot 0), (16, .slot 16)] none [],
    .asg 5 (.slot 17)])
  (.seq
  (.reg [.need (.n2 (.bin .neq) (.slot 5) (.lit (.int .i64 0))),
    .asg 19 (.n2 (.bin .neq) (.slot 5) (.lit (.int .i64 0)))])
  (.cond (.slot 19)
    (.seq
    (.reg [.asg 4 (.slot 5)])
    .ret)
    .skip)))
  h19_2)
def h19 : HC :=
  (.seq
  (.reg [.asg 4 (.lit (.int .i64 0))])
  (.seq
  (.seq
  (.reg [.eff (some 7) (.call { callee := .value (.func 63), args := #[.tmp 6], argTypes := #[24] }) 4 [(6, .slot 0)] none []])
  (.cond (.slot 7)
    (.reg [.need (.n1 .nilchk (.slot 0)),
      .need (.n1 (.faddr 28) (.n1 .nilchk (.slot 0))),
      .need (.n1 .ld (.n1 (.faddr 28) (.n1 .nilchk (.slot 0)))),
      .eff (some 13) (.call { callee := .value (.func 21), args := #[.tmp 8, .tmp 12], argTypes := #[24, 22] }) 0 [(8, .slot 0), (12, .n1 .ld (.n1 (.faddr 28) (.n1 .nilchk (.slot 0))))] none []])
    .skip))
  h19_1))
theorem k19 : fnOK Try.prog 2199057539251 [] [.tmp 4] 2 Try.f19 = some h19 := by kernel_rfl
theorem c19 : callable Try.prog 19 = true := by kernel_rfl
theorem q19 {args : List Value} (ha : args.length = 2) {w : World} {next : Value → World → Prop} {QP : List PanicEntry → World → Prop} (H : hw Try.prog noPanic h19 (endV [.tmp 4] next) (σ0 args) w) : callK Try.prog 19 args w next QP := fn_rule Try.func19 mixed k19 ha H
theorem r19 {args : List Value} (ha : args.length = 2) {w : World} {next : Value → World → Prop} {QP : List PanicEntry → World → Prop} (H : hw Try.prog noPanic h19 (endV [.tmp 4] next) (σ0 args) w) : callvK Try.prog (.func (.func 19) #[] #[]) args w next QP := callf c19 (q19 ha H)

/- (*missive/disk.Disk).Turn -/
def h20_3 : HC :=
  (.seq
  (.draw [.need (.n1 .ld (.slot 5)),
    .need (.n1 .nilchk (.slot 0)),
    .need (.n1 (.faddr 0) (.n1 .nilchk (.slot 0))),
    .need (.n2 (.iaddra 12 1) (.n1 (.faddr 0) (.n1 .nilchk (.slot 0))) (.n1 .ld (.slot 5))),
    .need (.n1 .ld (.n2 (.iaddra 12 1) (.n1 (.faddr 0) (.n1 .nilchk (.slot 0))) (.n1 .ld (.slot 5)))),
    .eff (some 43) (.call { callee := .value (.func 66), args := #[.tmp 35, .tmp 36, .tmp 42], argTypes := #[24, 3, 9] }) 0 [(35, .slot 0), (36, .slot 1), (42, .n1 .ld (.n2 (.iaddra 12 1) (.n1 (.faddr 0) (.n1 .nilchk (.slot 0))) (.n1 .ld (.slot 5))))] none []])
  (.seq
  (.reg [.need (.n1 .ld (.slot 5)),
    .eff (some 46) (.call { callee := .value (.func 66), args := #[.tmp 44, .tmp 45, .const (str [])], argTypes := #[24, 3, 9] }) 0 [(44, .slot 0), (45, .n1 .ld (.slot 5))] none []])
  (.seq
  (.reg [.asg 6 (.lit (.int .i64 0))])
  .ret)))
def h20_2 : HC :=
  (.seq
  (.block 0
    (.seq
    (.reg [.need (.n1 .ld (.slot 5)),
      .need (.n2 (.bin .eql) (.slot 1) (.n1 .ld (.slot 5))),
      .asg 24 (.n2 (.bin .eql) (.slot 1) (.n1 .ld (.slot 5)))])
    (.cond (.slot 24)
      (.seq
      (.reg [.asg 6 (.lit (.int .i64 1))])
      .ret)
      (.seq
      (.reg [.need (.n1 .nilchk (.slot 0)),
        .need (.n1 (.faddr 24) (.n1 .nilchk (.slot 0))),
        .need (.n1 .ld (.n1 (.faddr 24) (.n1 .nilchk (.slot 0)))),
        .eff (some 34) (.call { callee := .value (.func 67), args := #[.tmp 32, .tmp 33], argTypes := #[84, 92] }) 4 [(32, .n1 .ld (.n1 (.faddr 24) (.n1 .nilchk (.slot 0)))), (33, .n2 .capt (.lit (.func (.func 68) #[] #[])) (.slot 5))] none [],
        .asg 28 (.slot 34)])
      (.cond (.slot 28)
        (.seq
        (.reg [.asg 6 (.lit (.int .i64 7))])
        .ret)
        .skip)))))
  h20_3)
def h20_1 : HC :=
  (.seq
  (.seq
  (.reg [.need (.n1 .ld (.slot 5)),
    .eff (some 19) (.buildSlice 22 2 #[(0, .tmp 17), (1, .tmp 18)]) 22 [(17, .slot 1), (18, .n1 .ld (.slot 5))] none [],
    .eff (some 20) (.call { callee := .value (.func 65), args := #[.tmp 16, .tmp 19], argTypes := #[24, 22] }) 26 [(16, .slot 0), (19, .slot 19)] none [],
    .asg 7 (.slot 20)])
  (.seq
  (.reg [.need (.n2 (.bin .neq) (.slot 7) (.lit (.int .i64 0))),
    .asg 22 (.n2 (.bin .neq) (.slot 7) (.lit (.int .i64 0)))])
  (.cond (.slot 22)
    (.seq
    (.reg [.asg 6 (.slot 7)])
    .ret)
    .skip)))
  h20_2)
def h20 : HC :=
  (.seq
  (.reg [.eff (some 5) (.box 3 (.tmp 2)) 0 [(2, .slot 2)] none [],
    .asg 6 (.lit (.int .i64 0))])
  (.seq
  (.seq
  (.reg [.eff (some 9) (.call { callee := .value (.func 63), args := #[.tmp 8], argTypes := #[24] }) 4 [(8, .slot 0)] none []])
  (.cond (.slot 9)
    (.reg [.need (.n1 .nilchk (.slot 0)),
      .need (.n1 (.faddr 28) (.n1 .nilchk (.slot 0))),
      .need (.n1 .ld (.n1 (.faddr 28) (.n1 .nilchk (.slot 0)))),
      .eff (some 15) (.call { callee := .value (.func 21), args := #[.tmp 10, .tmp 14], argTypes := #[24, 22] }) 0 [(10, .slot 0), (14, .n1 .ld (.n1 (.faddr 28) (.n1 .nilchk (.slot 0))))] none []])
    .skip))
  h20_1))
theorem k20 : fnOK Try.prog 79182308082407 [⟨10, [0, 0, 0, 0, 4, 20, 60, 124, 255], [(0, []), (1, []), (2, []), (3, []), (4, []), (5, []), (6, []), (7, []), (8, [])], none⟩] [.tmp 6] 3 Try.f20 = some h20 := by kernel_rfl
theorem c20 : callable Try.prog 20 = true := by kernel_rfl
theorem q20 {args : List Value} (ha : args.length = 3) {w : World} {next : Value → World → Prop} {QP : List PanicEntry → World → Prop} (H : hw Try.prog noPanic h20 (endV [.tmp 6] next) (σ0 args) w) : callK Try.prog 20 args w next QP := fn_rule Try.func20 mixed k20 ha H
theorem r20 {args : List Value} (ha : args.length = 3) {w : World} {next : Value → World → Prop} {QP : List PanicEntry → World → Prop} (H : hw Try.prog noPanic h20 (endV [.tmp 6] next) (σ0 args) w) : callvK Try.prog (.func (.func 20) #[] #[]) args w next QP := callf c20 (q20 ha H)

/- (*missive/disk.Disk).Crash -/
def h21_4 : HC :=
  (.reg [.need (.n2 (.bin .add) (.slot 22) (.lit (.int .i64 1))),
    .asg 22 (.n2 (.bin .add) (.slot 22) (.lit (.int .i64 1)))])
def h21_3 : HC :=
  (.seq
  (.block 1
    (.seq
    (.reg [.need (.n2 (.iaddr 3) (.slot 20) (.slot 22)),
      .need (.n1 (.ldn 3) (.n2 (.iaddr 3) (.slot 20) (.slot 22))),
      .asg 26 (.n1 (.ldn 3) (.n2 (.iaddr 3) (.slot 20) (.slot 22))),
      .eff (some 5) (.alloc 91) 0 [] none [],
      .asg 4 (.slot 22),
      .eff none (.store 91 (.tmp 5) (.tmp 26)) 0 [(5, .slot 5), (26, .slot 26)] none []])
    (.seq
    (.reg [.need (.n1 (.faddr 2) (.slot 5)),
      .need (.n1 .ld (.n1 (.faddr 2) (.slot 5))),
      .need (.n1 .lens (.n1 .ld (.n1 (.faddr 2) (.slot 5)))),
      .asg 6 (.n1 .lens (.n1 .ld (.n1 (.faddr 2) (.slot 5))))])
    (.block 2
      (.seq
      (.reg [.need (.n1 .lensl (.slot 1)),
        .need (.n2 (.bin .geq) (.slot 4) (.n1 .lensl (.slot 1))),
        .asg 30 (.n2 (.bin .geq) (.slot 4) (.n1 .lensl (.slot 1)))])
      (.cond (.slot 30)
        .skip
        (.seq
        (.reg [.need (.n2 (.iaddr 1) (.slot 1) (.slot 4)),
          .need (.n1 .ld (.n2 (.iaddr 1) (.slot 1) (.slot 4))),
          .need (.n2 (.bin .eql) (.n1 .ld (.n2 (.iaddr 1) (.slot 1) (.slot 4))) (.lit (.int .i64 1))),
          .asg 35 (.n2 (.bin .eql) (.n1 .ld (.n2 (.iaddr 1) (.slot 1) (.slot 4))) (.lit (.int .i64 1)))])
        (.cond (.slot 35)
          (.draw [.need (.n1 (.faddr 0) (.slot 5)),
            .need (.n1 .ld (.n1 (.faddr 0) (.slot 5))),
            .asg 43 (.n1 .ld (.n1 (.faddr 0) (.slot 5))),
            .need (.n1 (.faddr 0) (.slot 5)),
            .need (.n1 .ld (.n1 (.faddr 0) (.slot 5))),
            .need (.n1 .nilchk (.slot 0)),
            .need (.n1 (.faddr 0) (.n1 .nilchk (.slot 0))),
            .need (.n2 (.iaddra 12 1) (.n1 (.faddr 0) (.n1 .nilchk (.slot 0))) (.n1 .ld (.n1 (.faddr 0) (.slot 5)))),
            .need (.n1 .ld (.n2 (.iaddra 12 1) (.n1 (.faddr 0) (.n1 .nilchk (.slot 0))) (.n1 .ld (.n1 (.faddr 0) (.slot 5))))),
            .need (.n1 (.faddr 1) (.slot 5)),
            .need (.n1 .ld (.n1 (.faddr 1) (.slot 5))),
            .need (.n1 (.faddr 2) (.slot 5)),
            .need (.n1 .ld (.n1 (.faddr 2) (.slot 5))),
            .need (.n1 .nilchk (.slot 0)),
            .need (.n1 (.faddr 0) (.n1 .nilchk (.slot 0))),
            .eff (some 55) (.call { callee := .value (.func 69), args := #[.tmp 50, .tmp 52, .tmp 54], argTypes := #[9, 3, 9] }) 9 [(50, .n1 .ld (.n2 (.iaddra 12 1) (.n1 (.faddr 0) (.n1 .nilchk (.slot 0))) (.n1 .ld (.n1 (.faddr 0) (.slot 5))))), (52, .n1 .ld (.n1 (.faddr 1) (.slot 5))), (54, .n1 .ld (.n1 (.faddr 2) (.slot 5)))] none [⟨none, .ld, .n1 (.faddr 0) (.slot 5)⟩],
            .need (.n2 (.iaddra 12 1) (.n1 (.faddr 0) (.n1 .nilchk (.slot 0))) (.slot 43)),
            .eff none (.store 9 (.tmp 58) (.tmp 55)) 0 [(58, .n2 (.iaddra 12 1) (.n1 (.faddr 0) (.n1 .nilchk (.slot 0))) (.slot 43)), (55, .slot 55)] none []])
          (.seq
          (.reg [.need (.n2 (.iaddr 1) (.slot 1) (.slot 4)),
            .need (.n1 .ld (.n2 (.iaddr 1) (.slot 1) (.slot 4))),
            .need (.n2 (.bin .eql) (.n1 .ld (.n2 (.iaddr 1) (.slot 1) (.slot 4))) (.lit (.int .i64 2))),
            .asg 59 (.n2 (.bin .eql) (.n1 .ld (.n2 (.iaddr 1) (.slot 1) (.slot 4))) (.lit (.int .i64 2)))])
          (.cond (.slot 59)
            (.draw [.need (.n1 (.faddr 0) (.slot 5)),
              .need (.n1 .ld (.n1 (.faddr 0) (.slot 5))),
              .asg 67 (.n1 .ld (.n1 (.faddr 0) (.slot 5))),
              .need (.n1 (.faddr 0) (.slot 5)),
              .need (.n1 .ld (.n1 (.faddr 0) (.slot 5))),
              .need (.n1 .nilchk (.slot 0)),
              .need (.n1 (.faddr 0) (.n1 .nilchk (.slot 0))),
              .need (.n2 (.iaddra 12 1) (.n1 (.faddr 0) (.n1 .nilchk (.slot 0))) (.n1 .ld (.n1 (.faddr 0) (.slot 5)))),
              .need (.n1 .ld (.n2 (.iaddra 12 1) (.n1 (.faddr 0) (.n1 .nilchk (.slot 0))) (.n1 .ld (.n1 (.faddr 0) (.slot 5))))),
              .need (.n1 (.faddr 1) (.slot 5)),
              .need (.n1 .ld (.n1 (.faddr 1) (.slot 5))),
              .need (.n1 (.faddr 2) (.slot 5)),
              .need (.n1 .ld (.n1 (.faddr 2) (.slot 5))),
              .need (.n2 .mn (.slot 6) (.lit (.int .i64 24))),
              .need (.n3 (.sls false true) (.n1 .ld (.n1 (.faddr 2) (.slot 5))) (.lit (.tuple #[])) (.n2 .mn (.slot 6) (.lit (.int .i64 24)))),
              .need (.n1 .nilchk (.slot 0)),
              .need (.n1 (.faddr 0) (.n1 .nilchk (.slot 0))),
              .eff (some 82) (.call { callee := .value (.func 69), args := #[.tmp 74, .tmp 76, .tmp 81], argTypes := #[9, 3, 9] }) 9 [(74, .n1 .ld (.n2 (.iaddra 12 1) (.n1 (.faddr 0) (.n1 .nilchk (.slot 0))) (.n1 .ld (.n1 (.faddr 0) (.slot 5))))), (76, .n1 .ld (.n1 (.faddr 1) (.slot 5))), (81, .n3 (.sls false true) (.n1 .ld (.n1 (.faddr 2) (.slot 5))) (.lit (.tuple #[])) (.n2 .mn (.slot 6) (.lit (.int .i64 24))))] none [⟨none, .ld, .n1 (.faddr 0) (.slot 5)⟩],
              .need (.n2 (.iaddra 12 1) (.n1 (.faddr 0) (.n1 .nilchk (.slot 0))) (.slot 67)),
              .eff none (.store 9 (.tmp 85) (.tmp 82)) 0 [(85, .n2 (.iaddra 12 1) (.n1 (.faddr 0) (.n1 .nilchk (.slot 0))) (.slot 67)), (82, .slot 82)] none []])
            .skip))))))))))
  h21_4)
def h21_2 : HC :=
  (.seq
  (.reg [.need (.n2 (.bin .lss) (.slot 22) (.slot 21)),
    .asg 23 (.n2 (.bin .lss) (.slot 22) (.slot 21))])
  (.seq
  (.cond (.slot 23)
    .skip
    (.exit 0))
  h21_3))
def h21_5 : HC :=
  (.reg [.need (.n1 .nilchk (.slot 0)),
    .need (.n1 (.faddr 0) (.n1 .nilchk (.slot 0))),
    .need (.n1 (.ldn 12) (.n1 (.faddr 0) (.n1 .nilchk (.slot 0)))),
    .need (.n1 .nilchk (.slot 0)),
    .need (.n1 (.faddr 12) (.n1 .nilchk (.slot 0))),
    .eff none (.store 83 (.tmp 94) (.tmp 92)) 0 [(94, .n1 (.faddr 12) (.n1 .nilchk (.slot 0))), (92, .n1 (.ldn 12) (.n1 (.faddr 0) (.n1 .nilchk (.slot 0))))] none [],
    .need (.n1 .nilchk (.slot 0)),
    .need (.n1 (.faddr 24) (.n1 .nilchk (.slot 0))),
    .eff none (.store 84 (.tmp 96) (.const (.slice none 0 0))) 0 [(96, .n1 (.faddr 24) (.n1 .nilchk (.slot 0)))] none []])
def h21_1 : HC :=
  (.seq
  (.reg [.need (.n1 .nilchk (.slot 0)),
    .need (.n1 (.faddr 26) (.n1 .nilchk (.slot 0))),
    .eff none (.store 4 (.tmp 14) (.const (.bool true))) 0 [(14, .n1 (.faddr 26) (.n1 .nilchk (.slot 0)))] none [],
    .need (.n1 .nilchk (.slot 0)),
    .need (.n1 (.faddr 27) (.n1 .nilchk (.slot 0))),
    .eff none (.store 3 (.tmp 16) (.const (.int .i64 0))) 0 [(16, .n1 (.faddr 27) (.n1 .nilchk (.slot 0)))] none []])
  (.seq
  (.seq
  (.reg [.need (.n1 .nilchk (.slot 0)),
    .need (.n1 (.faddr 24) (.n1 .nilchk (.slot 0))),
    .need (.n1 .ld (.n1 (.faddr 24) (.n1 .nilchk (.slot 0)))),
    .asg 20 (.n1 .ld (.n1 (.faddr 24) (.n1 .nilchk (.slot 0)))),
    .need (.n1 .lensl (.slot 20)),
    .asg 21 (.n1 .lensl (.slot 20)),
    .asg 22 (.lit (.int .i64 0))])
  (.block 0
    (.loop
      h21_2)))
  h21_5))
def h21 : HC :=
  (.seq
  (.seq
  (.reg [.need (.n1 .nilchk (.slot 0)),
    .need (.n1 (.faddr 26) (.n1 .nilchk (.slot 0))),
    .need (.n1 .ld (.n1 (.faddr 26) (.n1 .nilchk (.slot 0)))),
    .asg 10 (.n1 .ld (.n1 (.faddr 26) (.n1 .nilchk (.slot 0))))])
  (.cond (.slot 10)
    .ret
    .skip))
  h21_1)
theorem k21 : fnOK Try.prog 4835851464909487306966131 [⟨8, [0, 0, 2, 0, 0, 16, 8, 72, 248, 504, 0, 1024, 0, 4096, 16376, 1, 32769, 131071, 262143], [(0, []), (1, []), (2, []), (3, []), (4, []), (5, []), (6, []), (7, []), (8, []), (9, []), (10, []), (11, []), (12, []), (13, []), (15, []), (16, []), (14, [2]), (17, []), (18, [])], none⟩, ⟨10, [0, 0, 2, 0, 0, 16, 8, 72, 248, 504, 0, 1024, 0, 4096, 0, 16384, 61440, 131064, 1, 262145, 1048575, 2097151], [(0, []), (1, []), (2, []), (3, []), (4, []), (5, []), (6, []), (7, []), (8, []), (9, []), (10, []), (11, []), (12, []), (13, []), (14, []), (15, []), (16, []), (18, []), (19, []), (17, [2]), (20, []), (21, [])], none⟩] [] 2 Try.f21 = some h21 := by kernel_rfl
theorem c21 : callable Try.prog 21 = true := by kernel_rfl
theorem q21 {args : List Value} (ha : args.length = 2) {w : World} {next : Value → World → Prop} {QP : List PanicEntry → World → Prop} (H : hw Try.prog noPanic h21 (endV [] next) (σ0 args) w) : callK Try.prog 21 args w next QP := fn_rule Try.func21 mixed k21 ha H
theorem r21 {args : List Value} (ha : args.length = 2) {w : World} {next : Value → World → Prop} {QP : List PanicEntry → World → Prop} (H : hw Try.prog noPanic h21 (endV [] next) (σ0 args) w) : callvK Try.prog (.func (.func 21) #[] #[]) args w next QP := callf c21 (q21 ha H)

/- (*missive/disk.Disk).Start -/
def h22 : HC :=
  (.reg [.need (.n1 .nilchk (.slot 0)),
    .need (.n1 (.faddr 26) (.n1 .nilchk (.slot 0))),
    .eff none (.store 4 (.tmp 4) (.const (.bool false))) 0 [(4, .n1 (.faddr 26) (.n1 .nilchk (.slot 0)))] none []])
theorem k22 : fnOK Try.prog 1 [] [] 1 Try.f22 = some h22 := by kernel_rfl
theorem c22 : callable Try.prog 22 = true := by kernel_rfl
theorem q22 {args : List Value} (ha : args.length = 1) {w : World} {next : Value → World → Prop} {QP : List PanicEntry → World → Prop} (H : hw Try.prog noPanic h22 (endV [] next) (σ0 args) w) : callK Try.prog 22 args w next QP := fn_rule Try.func22 mixed k22 ha H
theorem r22 {args : List Value} (ha : args.length = 1) {w : World} {next : Value → World → Prop} {QP : List PanicEntry → World → Prop} (H : hw Try.prog noPanic h22 (endV [] next) (σ0 args) w) : callvK Try.prog (.func (.func 22) #[] #[]) args w next QP := callf c22 (q22 ha H)

/- (*missive/disk.Disk).Read -/
def h23_1 : HC :=
  (.seq
  (.reg [.need (.n1 .nilchk (.slot 0)),
    .need (.n1 (.faddr 12) (.n1 .nilchk (.slot 0))),
    .need (.n2 (.iaddra 12 1) (.n1 (.faddr 12) (.n1 .nilchk (.slot 0))) (.slot 1)),
    .need (.n1 .ld (.n2 (.iaddra 12 1) (.n1 (.faddr 12) (.n1 .nilchk (.slot 0))) (.slot 1))),
    .asg 4 (.n1 .ld (.n2 (.iaddra 12 1) (.n1 (.faddr 12) (.n1 .nilchk (.slot 0))) (.slot 1))),
    .asg 5 (.lit (.int .i64 0))])
  .ret)
def h23 : HC :=
  (.seq
  (.reg [.asg 4 (.lit (str [])),
    .asg 5 (.lit (.int .i64 0))])
  (.seq
  (.seq
  (.reg [.eff (some 9) (.buildSlice 22 1 #[(0, .tmp 8)]) 22 [(8, .slot 1)] none [],
    .eff (some 10) (.call { callee := .value (.func 65), args := #[.tmp 7, .tmp 9], argTypes := #[24, 22] }) 26 [(7, .slot 0), (9, .slot 9)] none [],
    .asg 6 (.slot 10)])
  (.seq
  (.reg [.need (.n2 (.bin .neq) (.slot 6) (.lit (.int .i64 0))),
    .asg 12 (.n2 (.bin .neq) (.slot 6) (.lit (.int .i64 0)))])
  (.cond (.slot 12)
    (.seq
    (.reg [.asg 4 (.lit (str [])),
      .asg 5 (.slot 6)])
    .ret)
    .skip)))
  h23_1))
theorem k23 : fnOK Try.prog 5747 [] [.tmp 4, .tmp 5] 2 Try.f23 = some h23 := by kernel_rfl
theorem c23 : callable Try.prog 23 = true := by kernel_rfl
theorem q23 {args : List Value} (ha : args.length = 2) {w : World} {next : Value → World → Prop} {QP : List PanicEntry → World → Prop} (H : hw Try.prog noPanic h23 (endV [.tmp 4, .tmp 5] next) (σ0 args) w) : callK Try.prog 23 args w next QP := fn_rule Try.func23 mixed k23 ha H
theorem r23 {args : List Value} (ha : args.length = 2) {w : World} {next : Value → World → Prop} {QP : List PanicEntry → World → Prop} (H : hw Try.prog noPanic h23 (endV [.tmp 4, .tmp 5] next) (σ0 args) w) : callvK Try.prog (.func (.func 23) #[] #[]) args w next QP := callf c23 (q23 ha H)

/- (*missive/disk.Disk).Size -/
def h24_1 : HC :=
  (.seq
  (.reg [.need (.n1 .nilchk (.slot 0)),
    .need (.n1 (.faddr 12) (.n1 .nilchk (.slot 0))),
    .need (.n2 (.iaddra 12 1) (.n1 (.faddr 12) (.n1 .nilchk (.slot 0))) (.slot 1)),
    .need (.n1 .ld (.n2 (.iaddra 12 1) (.n1 (.faddr 12) (.n1 .nilchk (.slot 0))) (.slot 1))),
    .need (.n1 .lens (.n1 .ld (.n2 (.iaddra 12 1) (.n1 (.faddr 12) (.n1 .nilchk (.slot 0))) (.slot 1)))),
    .asg 4 (.n1 .lens (.n1 .ld (.n2 (.iaddra 12 1) (.n1 (.faddr 12) (.n1 .nilchk (.slot 0))) (.slot 1))))])
  .ret)
def h24 : HC :=
  (.seq
  (.reg [.asg 4 (.lit (.int .i64 0))])
  (.seq
  (.seq
  (.reg [.eff (some 6) (.call { callee := .value (.func 70), args := #[.tmp 5], argTypes := #[3] }) 4 [(5, .slot 1)] none [],
    .need (.n1 .bnot (.slot 6)),
    .asg 7 (.n1 .bnot (.slot 6))])
  (.cond (.slot 7)
    (.seq
    (.reg [.asg 4 (.lit (.int .i64 0))])
    .ret)
    .skip))
  h24_1))
theorem k24 : fnOK Try.prog 211 [] [.tmp 4] 2 Try.f24 = some h24 := by kernel_rfl
theorem c24 : callable Try.prog 24 = true := by kernel_rfl
theorem q24 {args : List Value} (ha : args.length = 2) {w : World} {next : Value → World → Prop} {QP : List PanicEntry → World → Prop} (H : hw Try.prog noPanic h24 (endV [.tmp 4] next) (σ0 args) w) : callK Try.prog 24 args w next QP := fn_rule Try.func24 mixed k24 ha H
theorem r24 {args : List Value} (ha : args.length = 2) {w : World} {next : Value → World → Prop} {QP : List PanicEntry → World → Prop} (H : hw Try.prog noPanic h24 (endV [.tmp 4] next) (σ0 args) w) : callvK Try.prog (.func (.func 24) #[] #[]) args w next QP := callf c24 (q24 ha H)

/- missive/missivelaw05.few -/
def h26_3 : HC :=
  (.draw [.need (.n2 (.iaddr 6) (.slot 0) (.slot 4)),
    .need (.n1 (.faddr 4) (.n2 (.iaddr 6) (.slot 0) (.slot 4))),
    .need (.n1 .ld (.n1 (.faddr 4) (.n2 (.iaddr 6) (.slot 0) (.slot 4)))),
    .need (.n1 .lens (.n1 .ld (.n1 (.faddr 4) (.n2 (.iaddr 6) (.slot 0) (.slot 4))))),
    .need (.n2 (.bin .add) (.slot 3) (.n1 .lens (.n1 .ld (.n1 (.faddr 4) (.n2 (.iaddr 6) (.slot 0) (.slot 4)))))),
    .need (.n2 (.iaddr 6) (.slot 0) (.slot 4)),
    .need (.n1 (.faddr 5) (.n2 (.iaddr 6) (.slot 0) (.slot 4))),
    .need (.n1 .ld (.n1 (.faddr 5) (.n2 (.iaddr 6) (.slot 0) (.slot 4)))),
    .need (.n1 .lensl (.n1 .ld (.n1 (.faddr 5) (.n2 (.iaddr 6) (.slot 0) (.slot 4))))),
    .need (.n2 (.bin .add) (.n2 (.bin .add) (.slot 3) (.n1 .lens (.n1 .ld (.n1 (.faddr 4) (.n2 (.iaddr 6) (.slot 0) (.slot 4)))))) (.n1 .lensl (.n1 .ld (.n1 (.faddr 5) (.n2 (.iaddr 6) (.slot 0) (.slot 4)))))),
    .asg 3 (.n2 (.bin .add) (.n2 (.bin .add) (.slot 3) (.n1 .lens (.n1 .ld (.n1 (.faddr 4) (.n2 (.iaddr 6) (.slot 0) (.slot 4)))))) (.n1 .lensl (.n1 .ld (.n1 (.faddr 5) (.n2 (.iaddr 6) (.slot 0) (.slot 4))))))])
def h26_4 : HC :=
  (.reg [.need (.n2 (.bin .add) (.slot 4) (.lit (.int .i64 1))),
    .asg 4 (.n2 (.bin .add) (.slot 4) (.lit (.int .i64 1)))])
def h26_2 : HC :=
  (.seq
  (.block 1
    (.seq
    (.seq
    (.reg [.need (.n2 (.iaddr 6) (.slot 0) (.slot 4)),
      .need (.n1 (.faddr 3) (.n2 (.iaddr 6) (.slot 0) (.slot 4))),
      .need (.n1 .ld (.n1 (.faddr 3) (.n2 (.iaddr 6) (.slot 0) (.slot 4)))),
      .need (.n2 (.bin .geq) (.n1 .ld (.n1 (.faddr 3) (.n2 (.iaddr 6) (.slot 0) (.slot 4)))) (.lit (.int .i64 4000))),
      .need (.gif (.n2 (.bin .geq) (.n1 .ld (.n1 (.faddr 3) (.n2 (.iaddr 6) (.slot 0) (.slot 4)))) (.lit (.int .i64 4000))) true (.n2 (.iaddr 6) (.slot 0) (.slot 4))),
      .need (.gif (.n2 (.bin .geq) (.n1 .ld (.n1 (.faddr 3) (.n2 (.iaddr 6) (.slot 0) (.slot 4)))) (.lit (.int .i64 4000))) true (.n1 (.faddr 3) (.n2 (.iaddr 6) (.slot 0) (.slot 4)))),
      .need (.gif (.n2 (.bin .geq) (.n1 .ld (.n1 (.faddr 3) (.n2 (.iaddr 6) (.slot 0) (.slot 4)))) (.lit (.int .i64 4000))) true (.n1 .ld (.n1 (.faddr 3) (.n2 (.iaddr 6) (.slot 0) (.slot 4))))),
      .need (.gif (.n2 (.bin .geq) (.n1 .ld (.n1 (.faddr 3) (.n2 (.iaddr 6) (.slot 0) (.slot 4)))) (.lit (.int .i64 4000))) true (.n2 (.bin .leq) (.n1 .ld (.n1 (.faddr 3) (.n2 (.iaddr 6) (.slot 0) (.slot 4)))) (.lit (.int .i64 16777216)))),
      .need (.n3 .pick (.n2 (.bin .geq) (.n1 .ld (.n1 (.faddr 3) (.n2 (.iaddr 6) (.slot 0) (.slot 4)))) (.lit (.int .i64 4000))) (.n2 (.bin .leq) (.n1 .ld (.n1 (.faddr 3) (.n2 (.iaddr 6) (.slot 0) (.slot 4)))) (.lit (.int .i64 16777216))) (.lit (.bool false))),
      .asg 24 (.n3 .pick (.n2 (.bin .geq) (.n1 .ld (.n1 (.faddr 3) (.n2 (.iaddr 6) (.slot 0) (.slot 4)))) (.lit (.int .i64 4000))) (.n2 (.bin .leq) (.n1 .ld (.n1 (.faddr 3) (.n2 (.iaddr 6) (.slot 0) (.slot 4)))) (.lit (.int .i64 16777216))) (.lit (.bool false)))])
    (.cond (.slot 24)
      (.seq
      (.reg [.asg 2 (.lit (.bool false))])
      .ret)
      .skip))
    h26_3))
  h26_4)
def h26_1 : HC :=
  (.seq
  (.seq
  (.reg [.need (.n1 .lensl (.slot 0)),
    .need (.n2 (.bin .lss) (.slot 4) (.n1 .lensl (.slot 0))),
    .asg 8 (.n2 (.bin .lss) (.slot 4) (.n1 .lensl (.slot 0)))])
  (.cond (.slot 8)
    .skip
    (.exit 0)))
  h26_2)
def h26_5 : HC :=
  (.seq
  (.reg [.need (.n1 .lensl (.slot 0)),
    .need (.n2 (.bin .leq) (.n1 .lensl (.slot 0)) (.lit (.int .i64 200))),
    .need (.gif (.n2 (.bin .leq) (.n1 .lensl (.slot 0)) (.lit (.int .i64 200))) true (.n2 (.bin .leq) (.slot 3) (.lit (.int .i64 5000)))),
    .need (.n3 .pick (.n2 (.bin .leq) (.n1 .lensl (.slot 0)) (.lit (.int .i64 200))) (.n2 (.bin .leq) (.slot 3) (.lit (.int .i64 5000))) (.lit (.bool false))),
    .asg 2 (.n3 .pick (.n2 (.bin .leq) (.n1 .lensl (.slot 0)) (.lit (.int .i64 200))) (.n2 (.bin .leq) (.slot 3) (.lit (.int .i64 5000))) (.lit (.bool false)))])
  .ret)
def h26 : HC :=
  (.seq
  (.reg [.asg 2 (.lit (.bool false))])
  (.seq
  (.reg [.asg 3 (.lit (.int .i64 0))])
  (.seq
  (.seq
  (.reg [.asg 4 (.lit (.int .i64 0))])
  (.block 0
    (.loop
      h26_1)))
  h26_5)))
theorem k26 : fnOK Try.prog 16777501 [⟨7, [0, 0, 0, 6, 14, 30, 62, 127, 0, 0, 768, 1792, 3840, 7936, 16383, 32767], [(0, []), (1, []), (2, []), (3, []), (4, []), (5, []), (6, []), (7, []), (8, []), (9, []), (10, []), (11, []), (12, []), (13, []), (14, []), (15, [])], none⟩] [.tmp 2] 1 Try.f26 = some h26 := by kernel_rfl
theorem c26 : callable Try.prog 26 = true := by kernel_rfl
theorem q26 {args : List Value} (ha : args.length = 1) {w : World} {next : Value → World → Prop} {QP : List PanicEntry → World → Prop} (H : hw Try.prog noPanic h26 (endV [.tmp 2] next) (σ0 args) w) : callK Try.prog 26 args w next QP := fn_rule Try.func26 mixed k26 ha H
theorem r26 {args : List Value} (ha : args.length = 1) {w : World} {next : Value → World → Prop} {QP : List PanicEntry → World → Prop} (H : hw Try.prog noPanic h26 (endV [.tmp 2] next) (σ0 args) w) : callvK Try.prog (.func (.func 26) #[] #[]) args w next QP := callf c26 (q26 ha H)

/- (*missive/disk.Disk).Down -/
def h27 : HC :=
  (.seq
  (.reg [.asg 2 (.lit (.bool false))])
  (.seq
  (.reg [.need (.n1 .nilchk (.slot 0)),
    .need (.n1 (.faddr 26) (.n1 .nilchk (.slot 0))),
    .need (.n1 .ld (.n1 (.faddr 26) (.n1 .nilchk (.slot 0)))),
    .asg 2 (.n1 .ld (.n1 (.faddr 26) (.n1 .nilchk (.slot 0))))])
  .ret))
theorem k27 : fnOK Try.prog 5 [] [.tmp 2] 1 Try.f27 = some h27 := by kernel_rfl
theorem c27 : callable Try.prog 27 = true := by kernel_rfl
theorem q27 {args : List Value} (ha : args.length = 1) {w : World} {next : Value → World → Prop} {QP : List PanicEntry → World → Prop} (H : hw Try.prog noPanic h27 (endV [.tmp 2] next) (σ0 args) w) : callK Try.prog 27 args w next QP := fn_rule Try.func27 mixed k27 ha H
theorem r27 {args : List Value} (ha : args.length = 1) {w : World} {next : Value → World → Prop} {QP : List PanicEntry → World → Prop} (H : hw Try.prog noPanic h27 (endV [.tmp 2] next) (σ0 args) w) : callvK Try.prog (.func (.func 27) #[] #[]) args w next QP := callf c27 (q27 ha H)

/- missive/missivelaw05.pick -/
def h28_1 : HC :=
  (.seq
  (.reg [.asg 2 (.slot 0)])
  .ret)
def h28 : HC :=
  (.seq
  (.reg [.asg 2 (.lit (.int .i64 0))])
  (.seq
  (.reg [.need (.n2 (.bin .rem) (.slot 0) (.lit (.int .i64 11))),
    .asg 0 (.n2 (.bin .rem) (.slot 0) (.lit (.int .i64 11)))])
  (.seq
  (.seq
  (.reg [.need (.n2 (.bin .lss) (.slot 0) (.lit (.int .i64 0))),
    .asg 6 (.n2 (.bin .lss) (.slot 0) (.lit (.int .i64 0)))])
  (.cond (.slot 6)
    (.reg [.need (.n2 (.bin .add) (.slot 0) (.lit (.int .i64 11))),
      .asg 0 (.n2 (.bin .add) (.slot 0) (.lit (.int .i64 11)))])
    .skip))
  h28_1)))
theorem k28 : fnOK Try.prog 69 [] [.tmp 2] 1 Try.f28 = some h28 := by kernel_rfl
theorem c28 : callable Try.prog 28 = true := by kernel_rfl
theorem q28 {args : List Value} (ha : args.length = 1) {w : World} {next : Value → World → Prop} {QP : List PanicEntry → World → Prop} (H : hw Try.prog noPanic h28 (endV [.tmp 2] next) (σ0 args) w) : callK Try.prog 28 args w next QP := fn_rule Try.func28 mixed k28 ha H
theorem r28 {args : List Value} (ha : args.length = 1) {w : World} {next : Value → World → Prop} {QP : List PanicEntry → World → Prop} (H : hw Try.prog noPanic h28 (endV [.tmp 2] next) (σ0 args) w) : callvK Try.prog (.func (.func 28) #[] #[]) args w next QP := callf c28 (q28 ha H)

/- missive/missivelaw05.do -/
def h29_1 : HC :=
  (.cond (.slot 9)
    (.seq
    (.reg [.need (.n1 (.faddr 1) (.slot 3)),
      .need (.n1 .ld (.n1 (.faddr 1) (.slot 3))),
      .need (.n1 (.faddr 3) (.slot 3)),
      .need (.n1 .ld (.n1 (.faddr 3) (.slot 3))),
      .need (.n1 (.faddr 4) (.slot 3)),
      .need (.n1 .ld (.n1 (.faddr 4) (.slot 3))),
      .eff (some 19) (.call { callee := .value (.func 18), args := #[.tmp 12, .tmp 14, .tmp 16, .tmp 18], argTypes := #[24, 3, 3, 9] }) 26 [(12, .slot 0), (14, .n1 .ld (.n1 (.faddr 1) (.slot 3))), (16, .n1 .ld (.n1 (.faddr 3) (.slot 3))), (18, .n1 .ld (.n1 (.faddr 4) (.slot 3)))] none [],
      .asg 4 (.lit (str [])),
      .asg 5 (.slot 19)])
    .ret)
    (.seq
    (.reg [.need (.n2 (.bin .eql) (.slot 8) (.lit (.int .i64 2))),
      .asg 20 (.n2 (.bin .eql) (.slot 8) (.lit (.int .i64 2)))])
    (.cond (.slot 20)
      (.seq
      (.reg [.need (.n1 (.faddr 1) (.slot 3)),
        .need (.n1 .ld (.n1 (.faddr 1) (.slot 3))),
        .eff (some 25) (.call { callee := .value (.func 19), args := #[.tmp 22, .tmp 24], argTypes := #[24, 3] }) 26 [(22, .slot 0), (24, .n1 .ld (.n1 (.faddr 1) (.slot 3)))] none [],
        .asg 4 (.lit (str [])),
        .asg 5 (.slot 25)])
      .ret)
      (.seq
      (.reg [.need (.n2 (.bin .eql) (.slot 8) (.lit (.int .i64 3))),
        .asg 26 (.n2 (.bin .eql) (.slot 8) (.lit (.int .i64 3)))])
      (.cond (.slot 26)
        (.seq
        (.reg [.need (.n1 (.faddr 1) (.slot 3)),
          .need (.n1 .ld (.n1 (.faddr 1) (.slot 3))),
          .need (.n1 (.faddr 3) (.slot 3)),
          .need (.n1 .ld (.n1 (.faddr 3) (.slot 3))),
          .eff (some 33) (.call { callee := .value (.func 42), args := #[.tmp 28, .tmp 30, .tmp 32], argTypes := #[24, 3, 3] }) 26 [(28, .slot 0), (30, .n1 .ld (.n1 (.faddr 1) (.slot 3))), (32, .n1 .ld (.n1 (.faddr 3) (.slot 3)))] none [],
          .asg 4 (.lit (str [])),
          .asg 5 (.slot 33)])
        .ret)
        (.seq
        (.reg [.need (.n2 (.bin .eql) (.slot 8) (.lit (.int .i64 4))),
          .asg 34 (.n2 (.bin .eql) (.slot 8) (.lit (.int .i64 4)))])
        (.cond (.slot 34)
          (.seq
          (.reg [.need (.n1 (.faddr 1) (.slot 3)),
            .need (.n1 .ld (.n1 (.faddr 1) (.slot 3))),
            .need (.n1 (.faddr 2) (.slot 3)),
            .need (.n1 .ld (.n1 (.faddr 2) (.slot 3))),
            .eff (some 41) (.call { callee := .value (.func 20), args := #[.tmp 36, .tmp 38, .tmp 40], argTypes := #[24, 3, 3] }) 26 [(36, .slot 0), (38, .n1 .ld (.n1 (.faddr 1) (.slot 3))), (40, .n1 .ld (.n1 (.faddr 2) (.slot 3)))] none [],
            .asg 4 (.lit (str [])),
            .asg 5 (.slot 41)])
          .ret)
          (.seq
          (.reg [.need (.n2 (.bin .eql) (.slot 8) (.lit (.int .i64 5))),
            .asg 42 (.n2 (.bin .eql) (.slot 8) (.lit (.int .i64 5)))])
          (.cond (.slot 42)
            (.reg [.need (.n1 (.faddr 5) (.slot 3)),
              .need (.n1 .ld (.n1 (.faddr 5) (.slot 3))),
              .eff (some 47) (.call { callee := .value (.func 21), args := #[.tmp 44, .tmp 46], argTypes := #[24, 22] }) 0 [(44, .slot 0), (46, .n1 .ld (.n1 (.faddr 5) (.slot 3)))] none []])
            (.seq
            (.reg [.need (.n2 (.bin .eql) (.slot 8) (.lit (.int .i64 6))),
              .asg 48 (.n2 (.bin .eql) (.slot 8) (.lit (.int .i64 6)))])
            (.cond (.slot 48)
              (.reg [.need (.n1 (.faddr 3) (.slot 3)),
                .need (.n1 .ld (.n1 (.faddr 3) (.slot 3))),
                .eff (some 53) (.call { callee := .value (.func 33), args := #[.tmp 50, .tmp 52], argTypes := #[24, 3] }) 0 [(50, .slot 0), (52, .n1 .ld (.n1 (.faddr 3) (.slot 3)))] none []])
              (.seq
              (.reg [.need (.n2 (.bin .eql) (.slot 8) (.lit (.int .i64 7))),
                .asg 54 (.n2 (.bin .eql) (.slot 8) (.lit (.int .i64 7)))])
              (.cond (.slot 54)
                (.reg [.eff (some 57) (.call { callee := .value (.func 22), args := #[.tmp 56], argTypes := #[24] }) 0 [(56, .slot 0)] none []])
                (.seq
                (.reg [.need (.n2 (.bin .eql) (.slot 8) (.lit (.int .i64 8))),
                  .asg 58 (.n2 (.bin .eql) (.slot 8) (.lit (.int .i64 8)))])
                (.cond (.slot 58)
                  (.seq
                  (.reg [.need (.n1 (.faddr 1) (.slot 3)),
                    .need (.n1 .ld (.n1 (.faddr 1) (.slot 3))),
                    .eff (some 63) (.call { callee := .value (.func 23), args := #[.tmp 60, .tmp 62], argTypes := #[24, 3] }) 31 [(60, .slot 0), (62, .n1 .ld (.n1 (.faddr 1) (.slot 3)))] none [],
                    .need (.n1 (.ext 0) (.slot 63)),
                    .need (.n1 (.ext 1) (.slot 63)),
                    .asg 4 (.n1 (.ext 0) (.slot 63)),
                    .asg 5 (.n1 (.ext 1) (.slot 63))])
                  .ret)
                  (.seq
                  (.reg [.need (.n2 (.bin .eql) (.slot 8) (.lit (.int .i64 10))),
                    .asg 66 (.n2 (.bin .eql) (.slot 8) (.lit (.int .i64 10)))])
                  (.cond (.slot 66)
                    (.reg [.need (.n1 (.faddr 3) (.slot 3)),
                      .need (.n1 .ld (.n1 (.faddr 3) (.slot 3))),
                      .need (.n1 (.faddr 5) (.slot 3)),
                      .need (.n1 .ld (.n1 (.faddr 5) (.slot 3))),
                      .eff (some 73) (.call { callee := .value (.func 32), args := #[.tmp 68, .tmp 70, .tmp 72], argTypes := #[24, 3, 22] }) 0 [(68, .slot 0), (70, .n1 .ld (.n1 (.faddr 3) (.slot 3))), (72, .n1 .ld (.n1 (.faddr 5) (.slot 3)))] none []])
                    .skip)))))))))))))))))
def h29_2 : HC :=
  (.seq
  (.reg [.asg 4 (.lit (str [])),
    .asg 5 (.lit (.int .i64 0))])
  .ret)
def h29 : HC :=
  (.seq
  (.reg [.eff (some 3) (.box 42 (.tmp 1)) 0 [(1, .slot 1)] none [],
    .asg 4 (.lit (str [])),
    .asg 5 (.lit (.int .i64 0))])
  (.seq
  (.seq
  (.reg [.need (.n1 (.faddr 0) (.slot 3)),
    .need (.n1 .ld (.n1 (.faddr 0) (.slot 3))),
    .eff (some 8) (.call { callee := .value (.func 28), args := #[.tmp 7], argTypes := #[3] }) 3 [(7, .n1 .ld (.n1 (.faddr 0) (.slot 3)))] none []])
  (.block 0
    (.seq
    (.seq
    (.reg [.need (.n2 (.bin .eql) (.slot 8) (.lit (.int .i64 0))),
      .asg 9 (.n2 (.bin .eql) (.slot 8) (.lit (.int .i64 0)))])
    (.cond (.slot 9)
      .skip
      (.reg [.need (.n2 (.bin .eql) (.slot 8) (.lit (.int .i64 1))),
        .asg 9 (.n2 (.bin .eql) (.slot 8) (.lit (.int .i64 1)))])))
    h29_1)))
  h29_2))
theorem k29 : fnOK Try.prog 9528203110068382073659 [] [.tmp 4, .tmp 5] 2 Try.f29 = some h29 := by kernel_rfl
theorem c29 : callable Try.prog 29 = true := by kernel_rfl
theorem q29 {args : List Value} (ha : args.length = 2) {w : World} {next : Value → World → Prop} {QP : List PanicEntry → World → Prop} (H : hw Try.prog noPanic h29 (endV [.tmp 4, .tmp 5] next) (σ0 args) w) : callK Try.prog 29 args w next QP := fn_rule Try.func29 mixed k29 ha H
theorem r29 {args : List Value} (ha : args.length = 2) {w : World} {next : Value → World → Prop} {QP : List PanicEntry → World → Prop} (H : hw Try.prog noPanic h29 (endV [.tmp 4, .tmp 5] next) (σ0 args) w) : callvK Try.prog (.func (.func 29) #[] #[]) args w next QP := callf c29 (q29 ha H)

/- (*missive/disk.Disk).Arm -/
def h32 : HC :=
  (.reg [.need (.n2 .mx (.slot 1) (.lit (.int .i64 0))),
    .eff (some 11) (.call { callee := .value (.func 71), args := #[.tmp 10], argTypes := #[22] }) 22 [(10, .slot 2)] none [],
    .need (.n1 .nilchk (.slot 0)),
    .need (.n1 (.faddr 27) (.n1 .nilchk (.slot 0))),
    .eff none (.store 3 (.tmp 13) (.tmp 9)) 0 [(13, .n1 (.faddr 27) (.n1 .nilchk (.slot 0))), (9, .n2 .mx (.slot 1) (.lit (.int .i64 0)))] none [],
    .need (.n1 .nilchk (.slot 0)),
    .need (.n1 (.faddr 28) (.n1 .nilchk (.slot 0))),
    .eff none (.store 22 (.tmp 15) (.tmp 11)) 0 [(15, .n1 (.faddr 28) (.n1 .nilchk (.slot 0))), (11, .slot 11)] none []])
theorem k32 : fnOK Try.prog 2055 [] [] 3 Try.f32 = some h32 := by kernel_rfl
theorem c32 : callable Try.prog 32 = true := by kernel_rfl
theorem q32 {args : List Value} (ha : args.length = 3) {w : World} {next : Value → World → Prop} {QP : List PanicEntry → World → Prop} (H : hw Try.prog noPanic h32 (endV [] next) (σ0 args) w) : callK Try.prog 32 args w next QP := fn_rule Try.func32 mixed k32 ha H
theorem r32 {args : List Value} (ha : args.length = 3) {w : World} {next : Value → World → Prop} {QP : List PanicEntry → World → Prop} (H : hw Try.prog noPanic h32 (endV [] next) (σ0 args) w) : callvK Try.prog (.func (.func 32) #[] #[]) args w next QP := callf c32 (q32 ha H)

/- (*missive/disk.Disk).Lose -/
def h33 : HC :=
  (.reg [.need (.n2 .mx (.slot 1) (.lit (.int .i64 0))),
    .need (.n1 .nilchk (.slot 0)),
    .need (.n1 (.faddr 25) (.n1 .nilchk (.slot 0))),
    .eff none (.store 3 (.tmp 8) (.tmp 6)) 0 [(8, .n1 (.faddr 25) (.n1 .nilchk (.slot 0))), (6, .n2 .mx (.slot 1) (.lit (.int .i64 0)))] none []])
theorem k33 : fnOK Try.prog 3 [] [] 2 Try.f33 = some h33 := by kernel_rfl
theorem c33 : callable Try.prog 33 = true := by kernel_rfl
theorem q33 {args : List Value} (ha : args.length = 2) {w : World} {next : Value → World → Prop} {QP : List PanicEntry → World → Prop} (H : hw Try.prog noPanic h33 (endV [] next) (σ0 args) w) : callK Try.prog 33 args w next QP := fn_rule Try.func33 mixed k33 ha H
theorem r33 {args : List Value} (ha : args.length = 2) {w : World} {next : Value → World → Prop} {QP : List PanicEntry → World → Prop} (H : hw Try.prog noPanic h33 (endV [] next) (σ0 args) w) : callvK Try.prog (.func (.func 33) #[] #[]) args w next QP := callf c33 (q33 ha H)

/- (*missive/disk.Disk).Copy -/
def h34_1 : HC :=
  (.seq
  (.reg [.asg 2 (.slot 3)])
  .ret)
def h34 : HC :=
  (.seq
  (.reg [.asg 2 (.lit (.pointer none))])
  (.seq
  (.reg [.need (.n1 .nilchk (.slot 0)),
    .need (.n1 (.ldn 29) (.n1 .nilchk (.slot 0))),
    .asg 6 (.n1 (.ldn 29) (.n1 .nilchk (.slot 0))),
    .eff (some 3) (.alloc 86) 0 [] none [],
    .eff none (.store 86 (.tmp 3) (.tmp 6)) 0 [(3, .slot 3), (6, .slot 6)] none []])
  (.seq
  (.reg [.need (.n1 .nilchk (.slot 0)),
    .need (.n1 (.faddr 24) (.n1 .nilchk (.slot 0))),
    .need (.n1 .ld (.n1 (.faddr 24) (.n1 .nilchk (.slot 0)))),
    .eff (some 11) (.call { callee := .value (.func 72), args := #[.tmp 10], argTypes := #[84] }) 84 [(10, .n1 .ld (.n1 (.faddr 24) (.n1 .nilchk (.slot 0))))] none [],
    .need (.n1 (.faddr 24) (.slot 3)),
    .eff none (.store 84 (.tmp 12) (.tmp 11)) 0 [(12, .n1 (.faddr 24) (.slot 3)), (11, .slot 11)] none []])
  h34_1)))
theorem k34 : fnOK Try.prog 2125 [] [.tmp 2] 1 Try.f34 = some h34 := by kernel_rfl
theorem c34 : callable Try.prog 34 = true := by kernel_rfl
theorem q34 {args : List Value} (ha : args.length = 1) {w : World} {next : Value → World → Prop} {QP : List PanicEntry → World → Prop} (H : hw Try.prog noPanic h34 (endV [.tmp 2] next) (σ0 args) w) : callK Try.prog 34 args w next QP := fn_rule Try.func34 mixed k34 ha H
theorem r34 {args : List Value} (ha : args.length = 1) {w : World} {next : Value → World → Prop} {QP : List PanicEntry → World → Prop} (H : hw Try.prog noPanic h34 (endV [.tmp 2] next) (σ0 args) w) : callvK Try.prog (.func (.func 34) #[] #[]) args w next QP := callf c34 (q34 ha H)

/- (*missive/disk.Disk).Cut -/
def h42_3 : HC :=
  (.seq
  (.reg [.need (.n1 .nilchk (.slot 0)),
    .need (.n1 (.faddr 12) (.n1 .nilchk (.slot 0))),
    .need (.n2 (.iaddra 12 1) (.n1 (.faddr 12) (.n1 .nilchk (.slot 0))) (.slot 1)),
    .need (.n1 .ld (.n2 (.iaddra 12 1) (.n1 (.faddr 12) (.n1 .nilchk (.slot 0))) (.slot 1))),
    .need (.n3 (.sls false true) (.n1 .ld (.n2 (.iaddra 12 1) (.n1 (.faddr 12) (.n1 .nilchk (.slot 0))) (.slot 1))) (.lit (.tuple #[])) (.slot 2)),
    .eff (some 42) (.call { callee := .value (.func 66), args := #[.tmp 32, .tmp 33, .tmp 41], argTypes := #[24, 3, 9] }) 0 [(32, .slot 0), (33, .slot 1), (41, .n3 (.sls false true) (.n1 .ld (.n2 (.iaddra 12 1) (.n1 (.faddr 12) (.n1 .nilchk (.slot 0))) (.slot 1))) (.lit (.tuple #[])) (.slot 2))] none []])
  (.seq
  (.reg [.asg 6 (.lit (.int .i64 0))])
  .ret))
def h42_2 : HC :=
  (.seq
  (.seq
  (.reg [.need (.n2 (.bin .lss) (.slot 2) (.lit (.int .i64 0))),
    .eff (some 29) (.call { callee := .value (.func 24), args := #[.tmp 27, .tmp 28], argTypes := #[24, 3] }) 3 [(27, .slot 0), (28, .slot 1)] (some (.n2 (.bin .lss) (.slot 2) (.lit (.int .i64 0)), false)) [],
    .need (.gif (.n2 (.bin .lss) (.slot 2) (.lit (.int .i64 0))) false (.n2 (.bin .gtr) (.slot 2) (.slot 29))),
    .need (.n3 .pick (.n2 (.bin .lss) (.slot 2) (.lit (.int .i64 0))) (.lit (.bool true)) (.n2 (.bin .gtr) (.slot 2) (.slot 29))),
    .asg 31 (.n3 .pick (.n2 (.bin .lss) (.slot 2) (.lit (.int .i64 0))) (.lit (.bool true)) (.n2 (.bin .gtr) (.slot 2) (.slot 29)))])
  (.cond (.slot 31)
    (.seq
    (.reg [.asg 6 (.lit (.int .i64 1))])
    .ret)
    .skip))
  h42_3)
def h42_1 : HC :=
  (.seq
  (.seq
  (.reg [.eff (some 18) (.buildSlice 22 1 #[(0, .tmp 17)]) 22 [(17, .slot 1)] none [],
    .eff (some 19) (.call { callee := .value (.func 65), args := #[.tmp 16, .tmp 18], argTypes := #[24, 22] }) 26 [(16, .slot 0), (18, .slot 18)] none [],
    .asg 7 (.slot 19)])
  (.seq
  (.reg [.need (.n2 (.bin .neq) (.slot 7) (.lit (.int .i64 0))),
    .asg 21 (.n2 (.bin .neq) (.slot 7) (.lit (.int .i64 0)))])
  (.cond (.slot 21)
    (.seq
    (.reg [.asg 6 (.slot 7)])
    .ret)
    .skip)))
  h42_2)
def h42 : HC :=
  (.seq
  (.reg [.asg 6 (.lit (.int .i64 0))])
  (.seq
  (.seq
  (.reg [.eff (some 9) (.call { callee := .value (.func 63), args := #[.tmp 8], argTypes := #[24] }) 4 [(8, .slot 0)] none []])
  (.cond (.slot 9)
    (.reg [.need (.n1 .nilchk (.slot 0)),
      .need (.n1 (.faddr 28) (.n1 .nilchk (.slot 0))),
      .need (.n1 .ld (.n1 (.faddr 28) (.n1 .nilchk (.slot 0)))),
      .eff (some 15) (.call { callee := .value (.func 21), args := #[.tmp 10, .tmp 14], argTypes := #[24, 22] }) 0 [(10, .slot 0), (14, .n1 .ld (.n1 (.faddr 28) (.n1 .nilchk (.slot 0))))] none []])
    .skip))
  h42_1))
theorem k42 : fnOK Try.prog 4400733782727 [] [.tmp 6] 3 Try.f42 = some h42 := by kernel_rfl
theorem c42 : callable Try.prog 42 = true := by kernel_rfl
theorem q42 {args : List Value} (ha : args.length = 3) {w : World} {next : Value → World → Prop} {QP : List PanicEntry → World → Prop} (H : hw Try.prog noPanic h42 (endV [.tmp 6] next) (σ0 args) w) : callK Try.prog 42 args w next QP := fn_rule Try.func42 mixed k42 ha H
theorem r42 {args : List Value} (ha : args.length = 3) {w : World} {next : Value → World → Prop} {QP : List PanicEntry → World → Prop} (H : hw Try.prog noPanic h42 (endV [.tmp 6] next) (σ0 args) w) : callvK Try.prog (.func (.func 42) #[] #[]) args w next QP := callf c42 (q42 ha H)

/- (*missive/disk.Disk).ends -/
def h63_1 : HC :=
  (.seq
  (.reg [.need (.n1 .nilchk (.slot 0)),
    .need (.n1 (.faddr 27) (.n1 .nilchk (.slot 0))),
    .need (.n1 .ld (.n1 (.faddr 27) (.n1 .nilchk (.slot 0)))),
    .need (.n2 (.bin .sub) (.n1 .ld (.n1 (.faddr 27) (.n1 .nilchk (.slot 0)))) (.lit (.int .i64 1))),
    .need (.n1 .nilchk (.slot 0)),
    .need (.n1 (.faddr 27) (.n1 .nilchk (.slot 0))),
    .eff none (.store 3 (.tmp 20) (.tmp 18)) 0 [(20, .n1 (.faddr 27) (.n1 .nilchk (.slot 0))), (18, .n2 (.bin .sub) (.n1 .ld (.n1 (.faddr 27) (.n1 .nilchk (.slot 0)))) (.lit (.int .i64 1)))] none []])
  (.seq
  (.reg [.need (.n1 .nilchk (.slot 0)),
    .need (.n1 (.faddr 27) (.n1 .nilchk (.slot 0))),
    .need (.n1 .ld (.n1 (.faddr 27) (.n1 .nilchk (.slot 0)))),
    .need (.n2 (.bin .eql) (.n1 .ld (.n1 (.faddr 27) (.n1 .nilchk (.slot 0)))) (.lit (.int .i64 0))),
    .asg 2 (.n2 (.bin .eql) (.n1 .ld (.n1 (.faddr 27) (.n1 .nilchk (.slot 0)))) (.lit (.int .i64 0)))])
  .ret))
def h63 : HC :=
  (.seq
  (.reg [.asg 2 (.lit (.bool false))])
  (.seq
  (.seq
  (.reg [.need (.n1 .nilchk (.slot 0)),
    .need (.n1 (.faddr 26) (.n1 .nilchk (.slot 0))),
    .need (.n1 .ld (.n1 (.faddr 26) (.n1 .nilchk (.slot 0)))),
    .need (.gif (.n1 .ld (.n1 (.faddr 26) (.n1 .nilchk (.slot 0)))) false (.n1 .nilchk (.slot 0))),
    .need (.gif (.n1 .ld (.n1 (.faddr 26) (.n1 .nilchk (.slot 0)))) false (.n1 (.faddr 27) (.n1 .nilchk (.slot 0)))),
    .need (.gif (.n1 .ld (.n1 (.faddr 26) (.n1 .nilchk (.slot 0)))) false (.n1 .ld (.n1 (.faddr 27) (.n1 .nilchk (.slot 0))))),
    .need (.gif (.n1 .ld (.n1 (.faddr 26) (.n1 .nilchk (.slot 0)))) false (.n2 (.bin .eql) (.n1 .ld (.n1 (.faddr 27) (.n1 .nilchk (.slot 0)))) (.lit (.int .i64 0)))),
    .need (.n3 .pick (.n1 .ld (.n1 (.faddr 26) (.n1 .nilchk (.slot 0)))) (.lit (.bool true)) (.n2 (.bin .eql) (.n1 .ld (.n1 (.faddr 27) (.n1 .nilchk (.slot 0)))) (.lit (.int .i64 0)))),
    .asg 13 (.n3 .pick (.n1 .ld (.n1 (.faddr 26) (.n1 .nilchk (.slot 0)))) (.lit (.bool true)) (.n2 (.bin .eql) (.n1 .ld (.n1 (.faddr 27) (.n1 .nilchk (.slot 0)))) (.lit (.int .i64 0))))])
  (.cond (.slot 13)
    (.seq
    (.reg [.asg 2 (.lit (.bool false))])
    .ret)
    .skip))
  h63_1))
theorem k63 : fnOK Try.prog 8197 [] [.tmp 2] 1 Try.f63 = some h63 := by kernel_rfl
theorem c63 : callable Try.prog 63 = true := by kernel_rfl
theorem q63 {args : List Value} (ha : args.length = 1) {w : World} {next : Value → World → Prop} {QP : List PanicEntry → World → Prop} (H : hw Try.prog noPanic h63 (endV [.tmp 2] next) (σ0 args) w) : callK Try.prog 63 args w next QP := fn_rule Try.func63 mixed k63 ha H
theorem r63 {args : List Value} (ha : args.length = 1) {w : World} {next : Value → World → Prop} {QP : List PanicEntry → World → Prop} (H : hw Try.prog noPanic h63 (endV [.tmp 2] next) (σ0 args) w) : callvK Try.prog (.func (.func 63) #[] #[]) args w next QP := callf c63 (q63 ha H)

/- (*missive/disk.Disk).write -/
def h64_4 : HC :=
  (.block 2
    (.seq
    (.reg [.need (.n1 .lens (.slot 3)),
      .need (.n2 (.bin .rem) (.slot 2) (.lit (.int .i64 64))),
      .need (.n2 (.bin .sub) (.lit (.int .i64 64)) (.n2 (.bin .rem) (.slot 2) (.lit (.int .i64 64)))),
      .need (.n2 .mn (.n1 .lens (.slot 3)) (.n2 (.bin .sub) (.lit (.int .i64 64)) (.n2 (.bin .rem) (.slot 2) (.lit (.int .i64 64))))),
      .asg 10 (.n2 .mn (.n1 .lens (.slot 3)) (.n2 (.bin .sub) (.lit (.int .i64 64)) (.n2 (.bin .rem) (.slot 2) (.lit (.int .i64 64)))))])
    (.seq
    (.draw [.need (.n1 .nilchk (.slot 0)),
      .need (.n1 (.faddr 24) (.n1 .nilchk (.slot 0))),
      .need (.n1 .ld (.n1 (.faddr 24) (.n1 .nilchk (.slot 0)))),
      .asg 60 (.n1 .ld (.n1 (.faddr 24) (.n1 .nilchk (.slot 0)))),
      .need (.n3 (.sls false true) (.slot 3) (.lit (.tuple #[])) (.slot 10)),
      .need (.n2 (.put 0 1) (.lit (.agg #[(.int .i64 0), (.int .i64 0), (str [])])) (.slot 1)),
      .need (.n2 (.put 1 1) (.n2 (.put 0 1) (.lit (.agg #[(.int .i64 0), (.int .i64 0), (str [])])) (.slot 1)) (.slot 2)),
      .need (.n2 (.put 2 1) (.n2 (.put 1 1) (.n2 (.put 0 1) (.lit (.agg #[(.int .i64 0), (.int .i64 0), (str [])])) (.slot 1)) (.slot 2)) (.n3 (.sls false true) (.slot 3) (.lit (.tuple #[])) (.slot 10))),
      .eff (some 67) (.buildSlice 84 1 #[(0, .tmp 66)]) 84 [(66, .n2 (.put 2 1) (.n2 (.put 1 1) (.n2 (.put 0 1) (.lit (.agg #[(.int .i64 0), (.int .i64 0), (str [])])) (.slot 1)) (.slot 2)) (.n3 (.sls false true) (.slot 3) (.lit (.tuple #[])) (.slot 10)))] none [⟨none, .ld, .n1 (.faddr 24) (.n1 .nilchk (.slot 0))⟩],
      .eff (some 68) (.call { callee := .builtin .append, args := #[.tmp 60, .tmp 67], argTypes := #[84, 84] }) 84 [(60, .slot 60), (67, .slot 67)] none [],
      .need (.n1 .nilchk (.slot 0)),
      .need (.n1 (.faddr 24) (.n1 .nilchk (.slot 0))),
      .eff none (.store 84 (.tmp 70) (.tmp 68)) 0 [(70, .n1 (.faddr 24) (.n1 .nilchk (.slot 0))), (68, .slot 68)] none []])
    (.draw [.need (.n2 (.bin .add) (.slot 2) (.slot 10)),
      .need (.n3 (.sls true false) (.slot 3) (.slot 10) (.lit (.tuple #[]))),
      .asg 2 (.n2 (.bin .add) (.slot 2) (.slot 10)),
      .asg 3 (.n3 (.sls true false) (.slot 3) (.slot 10) (.lit (.tuple #[])))]))))
def h64_3 : HC :=
  (.seq
  (.seq
  (.reg [.need (.n2 (.sbin .neq) (.slot 3) (.lit (str []))),
    .asg 49 (.n2 (.sbin .neq) (.slot 3) (.lit (str [])))])
  (.cond (.slot 49)
    .skip
    (.exit 1)))
  h64_4)
def h64_5 : HC :=
  (.seq
  (.reg [.asg 8 (.lit (.int .i64 0))])
  .ret)
def h64_2 : HC :=
  (.seq
  (.draw [.need (.n1 .nilchk (.slot 0)),
    .need (.n1 (.faddr 12) (.n1 .nilchk (.slot 0))),
    .need (.n2 (.iaddra 12 1) (.n1 (.faddr 12) (.n1 .nilchk (.slot 0))) (.slot 1)),
    .need (.n1 .ld (.n2 (.iaddra 12 1) (.n1 (.faddr 12) (.n1 .nilchk (.slot 0))) (.slot 1))),
    .need (.n1 .nilchk (.slot 0)),
    .need (.n1 (.faddr 12) (.n1 .nilchk (.slot 0))),
    .eff (some 44) (.call { callee := .value (.func 69), args := #[.tmp 41, .tmp 42, .tmp 43], argTypes := #[9, 3, 9] }) 9 [(41, .n1 .ld (.n2 (.iaddra 12 1) (.n1 (.faddr 12) (.n1 .nilchk (.slot 0))) (.slot 1))), (42, .slot 2), (43, .slot 3)] none [],
    .need (.n2 (.iaddra 12 1) (.n1 (.faddr 12) (.n1 .nilchk (.slot 0))) (.slot 1)),
    .eff none (.store 9 (.tmp 47) (.tmp 44)) 0 [(47, .n2 (.iaddra 12 1) (.n1 (.faddr 12) (.n1 .nilchk (.slot 0))) (.slot 1)), (44, .slot 44)] none []])
  (.seq
  (.block 1
    (.loop
      h64_3))
  h64_5))
def h64_1 : HC :=
  (.seq
  (.block 0
    (.seq
    (.reg [.need (.n2 (.bin .lss) (.slot 2) (.lit (.int .i64 0))),
      .asg 18 (.n2 (.bin .lss) (.slot 2) (.lit (.int .i64 0)))])
    (.cond (.slot 18)
      (.seq
      (.reg [.asg 8 (.lit (.int .i64 1))])
      .ret)
      (.seq
      (.reg [.need (.n2 (.bin .gtr) (.slot 2) (.lit (.int .i64 16777216))),
        .need (.gif (.n2 (.bin .gtr) (.slot 2) (.lit (.int .i64 16777216))) false (.n1 .lens (.slot 3))),
        .need (.gif (.n2 (.bin .gtr) (.slot 2) (.lit (.int .i64 16777216))) false (.n2 (.bin .sub) (.lit (.int .i64 16777216)) (.slot 2))),
        .need (.gif (.n2 (.bin .gtr) (.slot 2) (.lit (.int .i64 16777216))) false (.n2 (.bin .gtr) (.n1 .lens (.slot 3)) (.n2 (.bin .sub) (.lit (.int .i64 16777216)) (.slot 2)))),
        .need (.n3 .pick (.n2 (.bin .gtr) (.slot 2) (.lit (.int .i64 16777216))) (.lit (.bool true)) (.n2 (.bin .gtr) (.n1 .lens (.slot 3)) (.n2 (.bin .sub) (.lit (.int .i64 16777216)) (.slot 2)))),
        .asg 21 (.n3 .pick (.n2 (.bin .gtr) (.slot 2) (.lit (.int .i64 16777216))) (.lit (.bool true)) (.n2 (.bin .gtr) (.n1 .lens (.slot 3)) (.n2 (.bin .sub) (.lit (.int .i64 16777216)) (.slot 2))))])
      (.cond (.slot 21)
        (.seq
        (.reg [.asg 8 (.lit (.int .i64 6))])
        .ret)
        (.seq
        (.reg [.need (.n2 (.sbin .eql) (.slot 3) (.lit (str []))),
          .asg 31 (.n2 (.sbin .eql) (.slot 3) (.lit (str [])))])
        (.cond (.slot 31)
          (.seq
          (.reg [.asg 8 (.lit (.int .i64 0))])
          .ret)
          .skip)))))))
  h64_2)
def h64 : HC :=
  (.seq
  (.reg [.asg 8 (.lit (.int .i64 0))])
  (.seq
  (.seq
  (.reg [.eff (some 13) (.buildSlice 22 1 #[(0, .tmp 12)]) 22 [(12, .slot 1)] none [],
    .eff (some 14) (.call { callee := .value (.func 65), args := #[.tmp 11, .tmp 13], argTypes := #[24, 22] }) 26 [(11, .slot 0), (13, .slot 13)] none [],
    .asg 9 (.slot 14)])
  (.seq
  (.reg [.need (.n2 (.bin .neq) (.slot 9) (.lit (.int .i64 0))),
    .asg 16 (.n2 (.bin .neq) (.slot 9) (.lit (.int .i64 0)))])
  (.cond (.slot 16)
    (.seq
    (.reg [.asg 8 (.slot 9)])
    .ret)
    .skip)))
  h64_1))
theorem k64 : fnOK Try.prog 443875359817925486351 [⟨10, [0, 0, 0, 0, 4, 20, 60, 124, 0, 0, 1020, 1, 2049, 8191, 16383], [(0, []), (1, []), (2, []), (3, []), (4, []), (5, []), (6, []), (7, []), (8, []), (9, []), (11, []), (12, []), (10, []), (13, []), (14, [])], none⟩, ⟨13, [0, 0, 2, 6, 14, 0, 0, 0, 0, 384, 992, 2016, 4094, 8191, 16383, 32767], [(0, []), (1, []), (2, []), (3, []), (4, []), (5, []), (6, []), (7, []), (8, []), (9, []), (10, []), (11, [4]), (12, []), (13, []), (14, []), (15, [])], none⟩, ⟨14, [0, 0, 3, 0, 0, 24, 7, 127], [(0, []), (1, []), (2, []), (3, []), (4, []), (5, []), (6, []), (7, [])], none⟩] [.tmp 8] 4 Try.f64 = some h64 := by kernel_rfl
theorem c64 : callable Try.prog 64 = true := by kernel_rfl
theorem q64 {args : List Value} (ha : args.length = 4) {w : World} {next : Value → World → Prop} {QP : List PanicEntry → World → Prop} (H : hw Try.prog noPanic h64 (endV [.tmp 8] next) (σ0 args) w) : callK Try.prog 64 args w next QP := fn_rule Try.func64 mixed k64 ha H
theorem r64 {args : List Value} (ha : args.length = 4) {w : World} {next : Value → World → Prop} {QP : List PanicEntry → World → Prop} (H : hw Try.prog noPanic h64 (endV [.tmp 8] next) (σ0 args) w) : callvK Try.prog (.func (.func 64) #[] #[]) args w next QP := callf c64 (q64 ha H)

/- (*missive/disk.Disk).may -/
def h65_4 : HC :=
  (.reg [.need (.n2 (.bin .add) (.slot 13) (.lit (.int .i64 1))),
    .asg 13 (.n2 (.bin .add) (.slot 13) (.lit (.int .i64 1)))])
def h65_3 : HC :=
  (.seq
  (.block 1
    (.seq
    (.reg [.need (.n2 (.iaddr 1) (.slot 11) (.slot 13)),
      .need (.n1 .ld (.n2 (.iaddr 1) (.slot 11) (.slot 13))),
      .asg 6 (.n1 .ld (.n2 (.iaddr 1) (.slot 11) (.slot 13)))])
    (.seq
    (.reg [.eff (some 18) (.call { callee := .value (.func 70), args := #[.tmp 17], argTypes := #[3] }) 4 [(17, .slot 6)] none [],
      .need (.n1 .bnot (.slot 18)),
      .asg 19 (.n1 .bnot (.slot 18))])
    (.cond (.slot 19)
      (.seq
      (.reg [.asg 4 (.lit (.int .i64 1))])
      .ret)
      .skip))))
  h65_4)
def h65_2 : HC :=
  (.seq
  (.reg [.need (.n2 (.bin .lss) (.slot 13) (.slot 12)),
    .asg 14 (.n2 (.bin .lss) (.slot 13) (.slot 12))])
  (.seq
  (.cond (.slot 14)
    .skip
    (.exit 0))
  h65_3))
def h65_5 : HC :=
  (.seq
  (.reg [.asg 4 (.lit (.int .i64 0))])
  .ret)
def h65_1 : HC :=
  (.seq
  (.seq
  (.reg [.asg 11 (.slot 1),
    .need (.n1 .lensl (.slot 11)),
    .asg 12 (.n1 .lensl (.slot 11)),
    .asg 13 (.lit (.int .i64 0))])
  (.block 0
    (.loop
      h65_2)))
  h65_5)
def h65 : HC :=
  (.seq
  (.reg [.asg 4 (.lit (.int .i64 0))])
  (.seq
  (.seq
  (.reg [.need (.n1 .nilchk (.slot 0)),
    .need (.n1 (.faddr 26) (.n1 .nilchk (.slot 0))),
    .need (.n1 .ld (.n1 (.faddr 26) (.n1 .nilchk (.slot 0)))),
    .asg 10 (.n1 .ld (.n1 (.faddr 26) (.n1 .nilchk (.slot 0))))])
  (.cond (.slot 10)
    (.seq
    (.reg [.asg 4 (.lit (.int .i64 8))])
    .ret)
    .skip))
  h65_1))
theorem k65 : fnOK Try.prog 818259 [] [.tmp 4] 2 Try.f65 = some h65 := by kernel_rfl
theorem c65 : callable Try.prog 65 = true := by kernel_rfl
theorem q65 {args : List Value} (ha : args.length = 2) {w : World} {next : Value → World → Prop} {QP : List PanicEntry → World → Prop} (H : hw Try.prog noPanic h65 (endV [.tmp 4] next) (σ0 args) w) : callK Try.prog 65 args w next QP := fn_rule Try.func65 mixed k65 ha H
theorem r65 {args : List Value} (ha : args.length = 2) {w : World} {next : Value → World → Prop} {QP : List PanicEntry → World → Prop} (H : hw Try.prog noPanic h65 (endV [.tmp 4] next) (σ0 args) w) : callvK Try.prog (.func (.func 65) #[] #[]) args w next QP := callf c65 (q65 ha H)

/- (*missive/disk.Disk).settle -/
def h66 : HC :=
  (.seq
  (.reg [.eff (some 4) (.box 3 (.tmp 1)) 0 [(1, .slot 1)] none []])
  (.seq
  (.draw [.need (.n1 .ld (.slot 4)),
    .need (.n1 .ld (.slot 4)),
    .asg 9 (.n1 .ld (.slot 4)),
    .need (.n1 .nilchk (.slot 0)),
    .need (.n1 (.faddr 0) (.n1 .nilchk (.slot 0))),
    .need (.n2 (.iaddra 12 1) (.n1 (.faddr 0) (.n1 .nilchk (.slot 0))) (.n1 .ld (.slot 4))),
    .need (.n1 .nilchk (.slot 0)),
    .need (.n1 (.faddr 12) (.n1 .nilchk (.slot 0))),
    .eff none (.store 9 (.tmp 14) (.tmp 10)) 0 [(14, .n2 (.iaddra 12 1) (.n1 (.faddr 0) (.n1 .nilchk (.slot 0))) (.n1 .ld (.slot 4))), (10, .slot 2)] none [⟨none, .ld, .slot 4⟩],
    .need (.n2 (.iaddra 12 1) (.n1 (.faddr 12) (.n1 .nilchk (.slot 0))) (.slot 9)),
    .eff none (.store 9 (.tmp 17) (.tmp 11)) 0 [(17, .n2 (.iaddra 12 1) (.n1 (.faddr 12) (.n1 .nilchk (.slot 0))) (.slot 9)), (11, .slot 2)] none []])
  (.reg [.need (.n1 .nilchk (.slot 0)),
    .need (.n1 (.faddr 24) (.n1 .nilchk (.slot 0))),
    .need (.n1 .ld (.n1 (.faddr 24) (.n1 .nilchk (.slot 0)))),
    .eff (some 24) (.call { callee := .value (.func 98), args := #[.tmp 22, .tmp 23], argTypes := #[84, 92] }) 84 [(22, .n1 .ld (.n1 (.faddr 24) (.n1 .nilchk (.slot 0)))), (23, .n2 .capt (.lit (.func (.func 99) #[] #[])) (.slot 4))] none [],
    .need (.n1 .nilchk (.slot 0)),
    .need (.n1 (.faddr 24) (.n1 .nilchk (.slot 0))),
    .eff none (.store 84 (.tmp 26) (.tmp 24)) 0 [(26, .n1 (.faddr 24) (.n1 .nilchk (.slot 0))), (24, .slot 24)] none []])))
theorem k66 : fnOK Try.prog 16777751 [⟨1, [0, 0, 0, 0, 0, 0, 1, 65, 211, 467, 4, 1028, 4095, 8191], [(0, []), (1, []), (2, []), (3, []), (4, []), (5, []), (6, []), (7, []), (8, []), (10, []), (11, []), (9, [3]), (12, []), (13, [])], none⟩] [] 3 Try.f66 = some h66 := by kernel_rfl
theorem c66 : callable Try.prog 66 = true := by kernel_rfl
theorem q66 {args : List Value} (ha : args.length = 3) {w : World} {next : Value → World → Prop} {QP : List PanicEntry → World → Prop} (H : hw Try.prog noPanic h66 (endV [] next) (σ0 args) w) : callK Try.prog 66 args w next QP := fn_rule Try.func66 mixed k66 ha H
theorem r66 {args : List Value} (ha : args.length = 3) {w : World} {next : Value → World → Prop} {QP : List PanicEntry → World → Prop} (H : hw Try.prog noPanic h66 (endV [] next) (σ0 args) w) : callvK Try.prog (.func (.func 66) #[] #[]) args w next QP := callf c66 (q66 ha H)

/- slices.ContainsFunc(()missive/disk.pending,missive/disk.pending) -/
def h67 : HC :=
  (.seq
  (.reg [.asg 4 (.lit (.bool false))])
  (.seq
  (.reg [.eff (some 7) (.call { callee := .value (.func 100), args := #[.tmp 5, .tmp 6], argTypes := #[84, 92] }) 3 [(5, .slot 0), (6, .slot 1)] none [],
    .need (.n2 (.bin .geq) (.slot 7) (.lit (.int .i64 0))),
    .asg 4 (.n2 (.bin .geq) (.slot 7) (.lit (.int .i64 0)))])
  .ret))
theorem k67 : fnOK Try.prog 147 [] [.tmp 4] 2 Try.f67 = some h67 := by kernel_rfl
theorem c67 : callable Try.prog 67 = true := by kernel_rfl
theorem q67 {args : List Value} (ha : args.length = 2) {w : World} {next : Value → World → Prop} {QP : List PanicEntry → World → Prop} (H : hw Try.prog noPanic h67 (endV [.tmp 4] next) (σ0 args) w) : callK Try.prog 67 args w next QP := fn_rule Try.func67 mixed k67 ha H
theorem r67 {args : List Value} (ha : args.length = 2) {w : World} {next : Value → World → Prop} {QP : List PanicEntry → World → Prop} (H : hw Try.prog noPanic h67 (endV [.tmp 4] next) (σ0 args) w) : callvK Try.prog (.func (.func 67) #[] #[]) args w next QP := callf c67 (q67 ha H)

/- (*missive/disk.Disk).Turn$1 -/
def h68 : HC :=
  (.seq
  (.reg [.eff (some 2) (.box 91 (.tmp 0)) 0 [(0, .slot 0)] none [],
    .asg 3 (.lit (.bool false))])
  (.seq
  (.reg [.need (.n1 (.faddr 0) (.slot 2)),
    .need (.n1 .ld (.n1 (.faddr 0) (.slot 2))),
    .need (.n1 .ld (.slot 1)),
    .need (.n2 (.bin .eql) (.n1 .ld (.n1 (.faddr 0) (.slot 2))) (.n1 .ld (.slot 1))),
    .asg 3 (.n2 (.bin .eql) (.n1 .ld (.n1 (.faddr 0) (.slot 2))) (.n1 .ld (.slot 1)))])
  .ret))
theorem k68 : fnOK Try.prog 15 [] [.tmp 3] 2 Try.f68 = some h68 := by kernel_rfl
theorem c68 : callable Try.prog 68 = true := by kernel_rfl
theorem q68 {args : List Value} (ha : args.length = 2) {w : World} {next : Value → World → Prop} {QP : List PanicEntry → World → Prop} (H : hw Try.prog noPanic h68 (endV [.tmp 3] next) (σ0 args) w) : callK Try.prog 68 args w next QP := fn_rule Try.func68 mixed k68 ha H
theorem r68 {args : List Value} (ha : args.length = 2) {w : World} {next : Value → World → Prop} {QP : List PanicEntry → World → Prop} (H : hw Try.prog noPanic h68 (endV [.tmp 3] next) (σ0 args) w) : callvK Try.prog (.func (.func 68) #[] #[]) args w next QP := callf c68 (q68 ha H)

/- missive/disk.put -/
def h69 : HC :=
  (.seq
  (.reg [.asg 6 (.lit (str []))])
  (.seq
  (.reg [.need (.n1 .lens (.slot 0)),
    .need (.n1 .lens (.slot 2)),
    .need (.n2 (.bin .add) (.slot 1) (.n1 .lens (.slot 2))),
    .need (.n2 .mx (.n1 .lens (.slot 0)) (.n2 (.bin .add) (.slot 1) (.n1 .lens (.slot 2)))),
    .eff (some 15) (.makeSlice 36 (.tmp 14) (.tmp 14)) 36 [(14, .n2 .mx (.n1 .lens (.slot 0)) (.n2 (.bin .add) (.slot 1) (.n1 .lens (.slot 2)))), (14, .n2 .mx (.n1 .lens (.slot 0)) (.n2 (.bin .add) (.slot 1) (.n1 .lens (.slot 2))))] none [],
    .asg 7 (.slot 15)])
  (.seq
  (.reg [.eff (some 18) (.call { callee := .builtin .copy, args := #[.tmp 16, .tmp 17], argTypes := #[36, 9] }) 3 [(16, .slot 7), (17, .slot 0)] none []])
  (.seq
  (.reg [.need (.n3 (.slv 1 true false) (.slot 7) (.slot 1) (.lit (.tuple #[]))),
    .eff (some 23) (.call { callee := .builtin .copy, args := #[.tmp 21, .tmp 22], argTypes := #[36, 9] }) 3 [(21, .n3 (.slv 1 true false) (.slot 7) (.slot 1) (.lit (.tuple #[]))), (22, .slot 2)] none []])
  (.seq
  (.reg [.eff (some 25) (.convert 36 9 (.tmp 24)) 9 [(24, .slot 7)] none [],
    .asg 6 (.slot 25)])
  .ret)))))
theorem k69 : fnOK Try.prog 42238151 [] [.tmp 6] 3 Try.f69 = some h69 := by kernel_rfl
theorem c69 : callable Try.prog 69 = true := by kernel_rfl
theorem q69 {args : List Value} (ha : args.length = 3) {w : World} {next : Value → World → Prop} {QP : List PanicEntry → World → Prop} (H : hw Try.prog noPanic h69 (endV [.tmp 6] next) (σ0 args) w) : callK Try.prog 69 args w next QP := fn_rule Try.func69 mixed k69 ha H
theorem r69 {args : List Value} (ha : args.length = 3) {w : World} {next : Value → World → Prop} {QP : List PanicEntry → World → Prop} (H : hw Try.prog noPanic h69 (endV [.tmp 6] next) (σ0 args) w) : callvK Try.prog (.func (.func 69) #[] #[]) args w next QP := callf c69 (q69 ha H)

/- missive/disk.is -/
def h70 : HC :=
  (.seq
  (.reg [.asg 2 (.lit (.bool false))])
  (.seq
  (.reg [.need (.n2 (.bin .geq) (.slot 0) (.lit (.int .i64 0))),
    .need (.gif (.n2 (.bin .geq) (.slot 0) (.lit (.int .i64 0))) true (.n2 (.bin .lss) (.slot 0) (.lit (.int .i64 12)))),
    .need (.n3 .pick (.n2 (.bin .geq) (.slot 0) (.lit (.int .i64 0))) (.n2 (.bin .lss) (.slot 0) (.lit (.int .i64 12))) (.lit (.bool false))),
    .asg 2 (.n3 .pick (.n2 (.bin .geq) (.slot 0) (.lit (.int .i64 0))) (.n2 (.bin .lss) (.slot 0) (.lit (.int .i64 12))) (.lit (.bool false)))])
  .ret))
theorem k70 : fnOK Try.prog 5 [] [.tmp 2] 1 Try.f70 = some h70 := by kernel_rfl
theorem c70 : callable Try.prog 70 = true := by kernel_rfl
theorem q70 {args : List Value} (ha : args.length = 1) {w : World} {next : Value → World → Prop} {QP : List PanicEntry → World → Prop} (H : hw Try.prog noPanic h70 (endV [.tmp 2] next) (σ0 args) w) : callK Try.prog 70 args w next QP := fn_rule Try.func70 mixed k70 ha H
theorem r70 {args : List Value} (ha : args.length = 1) {w : World} {next : Value → World → Prop} {QP : List PanicEntry → World → Prop} (H : hw Try.prog noPanic h70 (endV [.tmp 2] next) (σ0 args) w) : callvK Try.prog (.func (.func 70) #[] #[]) args w next QP := callf c70 (q70 ha H)

/- slices.Clone(()int,int) -/
def h71_1 : HC :=
  (.seq
  (.reg [.eff (some 5) (.buildSlice 22 0 #[]) 22 [] none [],
    .eff (some 7) (.call { callee := .builtin .append, args := #[.tmp 5, .tmp 6], argTypes := #[22, 22] }) 22 [(5, .slot 5), (6, .slot 0)] none [],
    .asg 2 (.slot 7)])
  .ret)
def h71 : HC :=
  (.seq
  (.reg [.asg 2 (.lit (.slice none 0 0))])
  (.seq
  (.seq
  (.reg [.need (.n2 (.slnil false) (.slot 0) (.lit (.slice none 0 0))),
    .asg 4 (.n2 (.slnil false) (.slot 0) (.lit (.slice none 0 0)))])
  (.cond (.slot 4)
    (.seq
    (.reg [.asg 2 (.lit (.slice none 0 0))])
    .ret)
    .skip))
  h71_1))
theorem k71 : fnOK Try.prog 181 [] [.tmp 2] 1 Try.f71 = some h71 := by kernel_rfl
theorem c71 : callable Try.prog 71 = true := by kernel_rfl
theorem q71 {args : List Value} (ha : args.length = 1) {w : World} {next : Value → World → Prop} {QP : List PanicEntry → World → Prop} (H : hw Try.prog noPanic h71 (endV [.tmp 2] next) (σ0 args) w) : callK Try.prog 71 args w next QP := fn_rule Try.func71 mixed k71 ha H
theorem r71 {args : List Value} (ha : args.length = 1) {w : World} {next : Value → World → Prop} {QP : List PanicEntry → World → Prop} (H : hw Try.prog noPanic h71 (endV [.tmp 2] next) (σ0 args) w) : callvK Try.prog (.func (.func 71) #[] #[]) args w next QP := callf c71 (q71 ha H)

/- slices.Clone(()missive/disk.pending,missive/disk.pending) -/
def h72_1 : HC :=
  (.seq
  (.reg [.eff (some 5) (.buildSlice 84 0 #[]) 84 [] none [],
    .eff (some 7) (.call { callee := .builtin .append, args := #[.tmp 5, .tmp 6], argTypes := #[84, 84] }) 84 [(5, .slot 5), (6, .slot 0)] none [],
    .asg 2 (.slot 7)])
  .ret)
def h72 : HC :=
  (.seq
  (.reg [.asg 2 (.lit (.slice none 0 0))])
  (.seq
  (.seq
  (.reg [.need (.n2 (.slnil false) (.slot 0) (.lit (.slice none 0 0))),
    .asg 4 (.n2 (.slnil false) (.slot 0) (.lit (.slice none 0 0)))])
  (.cond (.slot 4)
    (.seq
    (.reg [.asg 2 (.lit (.slice none 0 0))])
    .ret)
    .skip))
  h72_1))
theorem k72 : fnOK Try.prog 181 [] [.tmp 2] 1 Try.f72 = some h72 := by kernel_rfl
theorem c72 : callable Try.prog 72 = true := by kernel_rfl
theorem q72 {args : List Value} (ha : args.length = 1) {w : World} {next : Value → World → Prop} {QP : List PanicEntry → World → Prop} (H : hw Try.prog noPanic h72 (endV [.tmp 2] next) (σ0 args) w) : callK Try.prog 72 args w next QP := fn_rule Try.func72 mixed k72 ha H
theorem r72 {args : List Value} (ha : args.length = 1) {w : World} {next : Value → World → Prop} {QP : List PanicEntry → World → Prop} (H : hw Try.prog noPanic h72 (endV [.tmp 2] next) (σ0 args) w) : callvK Try.prog (.func (.func 72) #[] #[]) args w next QP := callf c72 (q72 ha H)

/- slices.DeleteFunc(()missive/disk.pending,missive/disk.pending) -/
def h98_4 : HC :=
  (.reg [.need (.n2 (.bin .add) (.slot 6) (.lit (.int .i64 1))),
    .asg 6 (.n2 (.bin .add) (.slot 6) (.lit (.int .i64 1)))])
def h98_3 : HC :=
  (.seq
  (.block 1
    (.seq
    (.reg [.need (.n2 (.iaddr 3) (.slot 0) (.slot 6)),
      .need (.n1 (.ldn 3) (.n2 (.iaddr 3) (.slot 0) (.slot 6))),
      .asg 25 (.n1 (.ldn 3) (.n2 (.iaddr 3) (.slot 0) (.slot 6))),
      .eff (some 7) (.alloc 91) 0 [] none [],
      .eff none (.store 91 (.tmp 7) (.tmp 25)) 0 [(7, .slot 7), (25, .slot 25)] none []])
    (.seq
    (.reg [.need (.n1 (.ldn 3) (.slot 7)),
      .eff (some 28) (.call { callee := .value (.tmp 26), args := #[.tmp 27], argTypes := #[91] }) 4 [(26, .slot 1), (27, .n1 (.ldn 3) (.slot 7))] none [],
      .need (.n1 .bnot (.slot 28)),
      .asg 29 (.n1 .bnot (.slot 28))])
    (.cond (.slot 29)
      (.seq
      (.reg [.need (.n1 (.ldn 3) (.slot 7)),
        .need (.n2 (.iaddr 3) (.slot 0) (.slot 5)),
        .eff none (.store 91 (.tmp 33) (.tmp 32)) 0 [(33, .n2 (.iaddr 3) (.slot 0) (.slot 5)), (32, .n1 (.ldn 3) (.slot 7))] none []])
      (.reg [.need (.n2 (.bin .add) (.slot 5) (.lit (.int .i64 1))),
        .asg 5 (.n2 (.bin .add) (.slot 5) (.lit (.int .i64 1)))]))
      .skip))))
  h98_4)
def h98_2 : HC :=
  (.seq
  (.seq
  (.reg [.need (.n1 .lensl (.slot 0)),
    .need (.n2 (.bin .lss) (.slot 6) (.n1 .lensl (.slot 0))),
    .asg 19 (.n2 (.bin .lss) (.slot 6) (.n1 .lensl (.slot 0)))])
  (.cond (.slot 19)
    .skip
    (.exit 0)))
  h98_3)
def h98_5 : HC :=
  (.seq
  (.reg [.need (.n3 (.slv 3 true false) (.slot 0) (.slot 5) (.lit (.tuple #[]))),
    .eff none (.call { callee := .builtin .clear, args := #[.tmp 38], argTypes := #[84] }) 0 [(38, .n3 (.slv 3 true false) (.slot 0) (.slot 5) (.lit (.tuple #[])))] none []])
  (.seq
  (.reg [.need (.n3 (.slv 3 false true) (.slot 0) (.lit (.tuple #[])) (.slot 5)),
    .asg 4 (.n3 (.slv 3 false true) (.slot 0) (.lit (.tuple #[])) (.slot 5))])
  .ret))
def h98_1 : HC :=
  (.seq
  (.seq
  (.reg [.need (.n2 (.bin .add) (.slot 5) (.lit (.int .i64 1))),
    .asg 6 (.n2 (.bin .add) (.slot 5) (.lit (.int .i64 1)))])
  (.block 0
    (.loop
      h98_2)))
  h98_5)
def h98 : HC :=
  (.seq
  (.reg [.asg 4 (.lit (.slice none 0 0))])
  (.seq
  (.reg [.eff (some 10) (.call { callee := .value (.func 100), args := #[.tmp 8, .tmp 9], argTypes := #[84, 92] }) 3 [(8, .slot 0), (9, .slot 1)] none [],
    .asg 5 (.slot 10)])
  (.seq
  (.seq
  (.reg [.need (.n2 (.bin .eql) (.slot 5) (.lit (.int .i64 (-1)))),
    .asg 12 (.n2 (.bin .eql) (.slot 5) (.lit (.int .i64 (-1))))])
  (.cond (.slot 12)
    (.seq
    (.reg [.asg 4 (.slot 0)])
    .ret)
    .skip))
  h98_1)))
theorem k98 : fnOK Try.prog 839390451 [] [.tmp 4] 2 Try.f98 = some h98 := by kernel_rfl
theorem c98 : callable Try.prog 98 = true := by kernel_rfl
theorem q98 {args : List Value} (ha : args.length = 2) {w : World} {next : Value → World → Prop} {QP : List PanicEntry → World → Prop} (H : hw Try.prog noPanic h98 (endV [.tmp 4] next) (σ0 args) w) : callK Try.prog 98 args w next QP := fn_rule Try.func98 mixed k98 ha H
theorem r98 {args : List Value} (ha : args.length = 2) {w : World} {next : Value → World → Prop} {QP : List PanicEntry → World → Prop} (H : hw Try.prog noPanic h98 (endV [.tmp 4] next) (σ0 args) w) : callvK Try.prog (.func (.func 98) #[] #[]) args w next QP := callf c98 (q98 ha H)

/- (*missive/disk.Disk).settle$1 -/
def h99 : HC :=
  (.seq
  (.reg [.eff (some 2) (.box 91 (.tmp 0)) 0 [(0, .slot 0)] none [],
    .asg 3 (.lit (.bool false))])
  (.seq
  (.reg [.need (.n1 (.faddr 0) (.slot 2)),
    .need (.n1 .ld (.n1 (.faddr 0) (.slot 2))),
    .need (.n1 .ld (.slot 1)),
    .need (.n2 (.bin .eql) (.n1 .ld (.n1 (.faddr 0) (.slot 2))) (.n1 .ld (.slot 1))),
    .asg 3 (.n2 (.bin .eql) (.n1 .ld (.n1 (.faddr 0) (.slot 2))) (.n1 .ld (.slot 1)))])
  .ret))
theorem k99 : fnOK Try.prog 15 [] [.tmp 3] 2 Try.f99 = some h99 := by kernel_rfl
theorem c99 : callable Try.prog 99 = true := by kernel_rfl
theorem q99 {args : List Value} (ha : args.length = 2) {w : World} {next : Value → World → Prop} {QP : List PanicEntry → World → Prop} (H : hw Try.prog noPanic h99 (endV [.tmp 3] next) (σ0 args) w) : callK Try.prog 99 args w next QP := fn_rule Try.func99 mixed k99 ha H
theorem r99 {args : List Value} (ha : args.length = 2) {w : World} {next : Value → World → Prop} {QP : List PanicEntry → World → Prop} (H : hw Try.prog noPanic h99 (endV [.tmp 3] next) (σ0 args) w) : callvK Try.prog (.func (.func 99) #[] #[]) args w next QP := callf c99 (q99 ha H)

/- slices.IndexFunc(()missive/disk.pending,missive/disk.pending) -/
def h100_3 : HC :=
  (.reg [.need (.n2 (.bin .add) (.slot 8) (.lit (.int .i64 1))),
    .asg 8 (.n2 (.bin .add) (.slot 8) (.lit (.int .i64 1)))])
def h100_2 : HC :=
  (.seq
  (.block 1
    (.seq
    (.reg [.asg 5 (.slot 8)])
    (.seq
    (.reg [.need (.n2 (.iaddr 3) (.slot 0) (.slot 5)),
      .need (.n1 (.ldn 3) (.n2 (.iaddr 3) (.slot 0) (.slot 5))),
      .eff (some 16) (.call { callee := .value (.tmp 11), args := #[.tmp 15], argTypes := #[91] }) 4 [(11, .slot 1), (15, .n1 (.ldn 3) (.n2 (.iaddr 3) (.slot 0) (.slot 5)))] none []])
    (.cond (.slot 16)
      (.seq
      (.reg [.asg 4 (.slot 5)])
      .ret)
      .skip))))
  h100_3)
def h100_1 : HC :=
  (.seq
  (.reg [.need (.n2 (.bin .lss) (.slot 8) (.slot 7)),
    .asg 9 (.n2 (.bin .lss) (.slot 8) (.slot 7))])
  (.seq
  (.cond (.slot 9)
    .skip
    (.exit 0))
  h100_2))
def h100_4 : HC :=
  (.seq
  (.reg [.asg 4 (.lit (.int .i64 (-1)))])
  .ret)
def h100 : HC :=
  (.seq
  (.reg [.asg 4 (.lit (.int .i64 0))])
  (.seq
  (.seq
  (.reg [.need (.n1 .lensl (.slot 0)),
    .asg 7 (.n1 .lensl (.slot 0)),
    .asg 8 (.lit (.int .i64 0))])
  (.block 0
    (.loop
      h100_1)))
  h100_4))
theorem k100 : fnOK Try.prog 66483 [] [.tmp 4] 2 Try.f100 = some h100 := by kernel_rfl
theorem c100 : callable Try.prog 100 = true := by kernel_rfl
theorem q100 {args : List Value} (ha : args.length = 2) {w : World} {next : Value → World → Prop} {QP : List PanicEntry → World → Prop} (H : hw Try.prog noPanic h100 (endV [.tmp 4] next) (σ0 args) w) : callK Try.prog 100 args w next QP := fn_rule Try.func100 mixed k100 ha H
theorem r100 {args : List Value} (ha : args.length = 2) {w : World} {next : Value → World → Prop} {QP : List PanicEntry → World → Prop} (H : hw Try.prog noPanic h100 (endV [.tmp 4] next) (σ0 args) w) : callvK Try.prog (.func (.func 100) #[] #[]) args w next QP := callf c100 (q100 ha H)

end Go.Proofs.Y

/- DB: the disk in memory, and the walks of its small functions. -/
namespace Go.Proofs.Y
open Go Go.HL Go.Proofs

/-- the blocks that a disk writes, and those that it reads -/
structure FP where
  W : Nat → Prop
  R : Nat → Prop
def FP0 : FP := ⟨none', none'⟩

structure DR (w : World) (p : Nat) (d : Dk) (S : FP) : Prop where
  ok : d.OK
  inv : ∃ qv kv, Blk w p 86 (d.cells qv kv) ∧ Own w qv 91 3 d.queue.length (rows Pd.cells d.queue) ∧ Sl w kv 1 d.keep.length (ints d.keep) ∧ (∀ k, qv.ownBlock = some k → S.W k) ∧ (0 < d.keep.length → ∀ k, kv.ownBlock = some k → S.R k ∧ ¬ S.W k)
  self : S.W p
  sub : ∀ k, S.W k → S.R k
  lt : ∀ k, S.R k → k < w.heap.size

abbrev ptr (p : Nat) : Value := .pointer (some ⟨p, 0, none⟩)

theorem DR.plt {w : World} {p : Nat} {d : Dk} {S : FP} (h : DR w p d S) : p < w.heap.size := h.lt p (h.sub p h.self)
theorem DR.mod {w w' : World} {p : Nat} {d : Dk} {S : FP} {T : Nat → Prop} (h : DR w p d S) (m : Mod T w w') (hd : ∀ k, S.R k → ¬ T k) : DR w' p d S := by
  obtain ⟨ok, ⟨qv, kv, hb, hq, hk, h1, h2⟩, hp, hs, hl⟩ := h
  exact ⟨ok, ⟨qv, kv, hb.mod m (hd _ (hs _ hp)), hq.mod m fun k hk => hd _ (hs _ (h1 k hk)), hk.mod' m fun hn k hk => hd _ (h2 hn k hk).1, h1, h2⟩, hp, hs, fun k hk => Nat.lt_of_lt_of_le (hl k hk) m.size⟩
theorem DR.mod0 {w w' : World} {p : Nat} {d : Dk} {S : FP} (h : DR w p d S) (m : Mod none' w w') : DR w' p d S := h.mod m fun _ _ h => h
theorem DR.drew {w : World} {p : Nat} {d : Dk} {S : FP} (h : DR w p d S) : DR w.drew p d S := h.mod0 (Mod.drew _ _)

theorem own_ne {w : World} {v u : Value} {e e' sz sz' n n' : Nat} {xs ys : List Value} (h : Own w v e sz n xs) (h' : Own w u e' sz' n' ys) (he : e ≠ e') {k : Nat} (hk : v.ownBlock = some k) : u.ownBlock ≠ some k := by
  intro hu
  rcases h.blk with ⟨rfl, _⟩ | ⟨g, c, r, rfl, hb, _⟩
  · cases hk
  rcases h'.blk with ⟨rfl, _⟩ | ⟨g', c', r', rfl, hb', _⟩
  · cases hu
  simp only [Value.ownBlock, Option.some.injEq] at hk hu
  subst hk; subst hu
  obtain ⟨_, hb, -⟩ := hb
  obtain ⟨_, hb', -⟩ := hb'
  rw [hb] at hb'
  simp at hb'
  exact he hb'.2.1
theorem own_neb {w : World} {v : Value} {e e' sz n p : Nat} {xs cs : List Value} (h : Own w v e sz n xs) (hp : Blk w p e' cs) (he : e ≠ e') : v.ownBlock ≠ some p := by
  intro hk
  rcases h.blk with ⟨rfl, _⟩ | ⟨g, c, r, rfl, hb, _⟩
  · cases hk
  simp only [Value.ownBlock, Option.some.injEq] at hk
  subst hk
  obtain ⟨_, hb, -⟩ := hb
  obtain ⟨_, hp, -⟩ := hp
  rw [hb] at hp
  simp at hp
  exact he hp.2.1

section
variable {w : World} {next : Value → World → Prop} {QP : List PanicEntry → World → Prop}

theorem is_ (f : Int) (k : next (.bool (isF f)) w) : callvK Try.prog (.func (.func 70) #[] #[]) [.int .i64 f] w next QP := by
  refine r70 rfl ?_
  unfold h70
  simp only [go_sem]
  have : (if decide (0 ≤ f) = true then decide (f < 12) else false) = isF f := by
    unfold isF; cases decide (0 ≤ f) <;> rfl
  rw [this]; exact k

theorem may_ {p : Nat} {d : Dk} {S : FP} (h : DR w p d S) {v : Value} {l : List Int} {n : Nat} (hn : n < 9223372036854775807) (hl : Sl w v 1 n (ints l)) (k : next (.int .i64 (d.may l)) w) :
    callvK Try.prog (.func (.func 65) #[] #[]) [ptr p, v] w next QP := by
  refine r65 rfl ?_
  obtain ⟨ok, ⟨qv, kv, hb, -, -, -, -⟩, -, -⟩ := h
  have c26 : w.cell? ⟨p, 26, none⟩ = some (.bool d.down) := by rw [hb.cell, cells_tail ok.nl ok.nf 2]; rfl
  unfold h65
  simp only [go_sem, c26]
  refine ⟨fun hd => by simpa [Dk.may, hd, go_sem] using k, fun hd => ?_⟩
  obtain ⟨hlen, a, c, rfl, hc, hcell⟩ := hl
  simp only [ints_len, Nat.mul_one] at hlen hcell
  unfold h65_1
  simp only [go_sem]
  refine loopN n (fun i τ w' => w' = w ∧ τ 11 = .slice a n c ∧ τ 12 = .int .i64 n ∧ τ 13 = .int .i64 i ∧ ∀ f ∈ l.take i, isF f = true) ⟨0, by omega, by simp [go_sem]⟩ ?_
  rintro i τ _ hi ⟨rfl, t11, t12, t13, hall⟩
  unfold h65_2
  simp only [go_sem, t11, t12, t13]
  refine ⟨fun hlt => ?_, fun hge => ?_⟩
  · have hlt : i < n := by simpa using hlt
    obtain ⟨b, o, rfl, hc'⟩ := hcell (by omega)
    have hci := hc' i hlt
    rw [show (ints l)[i]? = some (.int .i64 l[i]) by simp [ints]] at hci
    unfold h65_3
    simp only [go_sem, t11, t12, t13, hci]
    refine ⟨⟨by omega, by omega⟩, is_ _ ?_⟩
    simp only [go_sem]
    refine ⟨fun hf => ?_, fun hf => ?_⟩
    · have hf : isF l[i] = false := by simpa using hf
      have : d.may l = 1 := by
        simp only [Dk.may, hd]
        rw [if_neg (by simp), if_neg]
        intro h
        have := List.all_eq_true.1 h _ (List.getElem_mem (by omega : i < l.length))
        rw [hf] at this; cases this
      rw [this] at k; exact k
    · have hf : isF l[i] = true := by simpa using hf
      unfold h65_4
      simp only [go_sem, t11, t12, t13]
      refine ⟨i + 1, by omega, by omega, ?_⟩
      rw [w64 (by omega) (by omega)]
      refine ⟨rfl, ?_⟩
      rw [List.take_succ_eq_append_getElem (by omega)]
      intro f hfm
      rcases List.mem_append.1 hfm with h | h
      · exact hall f h
      · rw [List.mem_singleton.1 h]; exact hf
  · have hge : n ≤ i := by simpa using hge
    unfold h65_5
    simp only [go_sem]
    have : d.may l = 0 := by
      simp only [Dk.may, hd]
      rw [if_neg (by simp), if_pos]
      rw [List.all_eq_true]
      intro f hf
      exact hall f (by rwa [List.take_of_length_le (by omega)])
    rw [this] at k; exact k

theorem DR.parts {w : World} {p : Nat} {d : Dk} {S : FP} (h : DR w p d S) : ∃ qv kv, Blk w p 86 (d.cells qv kv) ∧ Own w qv 91 3 d.queue.length (rows Pd.cells d.queue) ∧ Sl w kv 1 d.keep.length (ints d.keep) ∧
    (∀ k, qv.ownBlock = some k → S.W k ∧ k ≠ p) ∧ (0 < d.keep.length → ∀ k, kv.ownBlock = some k → S.R k ∧ ¬ S.W k) ∧
    w.cell? ⟨p, 24, none⟩ = some qv ∧ w.cell? ⟨p, 25, none⟩ = some (.int .i64 d.lost) ∧ w.cell? ⟨p, 26, none⟩ = some (.bool d.down) ∧ w.cell? ⟨p, 27, none⟩ = some (.int .i64 d.armed) ∧ w.cell? ⟨p, 28, none⟩ = some kv := by
  obtain ⟨ok, ⟨qv, kv, hb, hq, hk, h1, h2⟩, -, -, -⟩ := h
  refine ⟨qv, kv, hb, hq, hk, fun k hk => ⟨h1 k hk, ?_⟩, h2, ?_⟩
  · rintro rfl; exact own_neb hq hb (by decide) hk
  · have := cells_tail (qv := qv) (kv := kv) ok.nl ok.nf
    exact ⟨by rw [hb.cell, this 0]; rfl, by rw [hb.cell, this 1]; rfl, by rw [hb.cell, this 2]; rfl, by rw [hb.cell, this 3]; rfl, by rw [hb.cell, this 4]; rfl⟩

/-- the disk again, its own block alone written -/
theorem DR.again {w w' : World} {p : Nat} {d d' : Dk} {S : FP} {qv kv : Value} (h : DR w p d S) (m : Mod (fun k => k = p) w w') (ok : d'.OK) (hb : Blk w' p 86 (d'.cells qv kv)) (hq : Own w qv 91 3 d'.queue.length (rows Pd.cells d'.queue))
    (hk : Sl w kv 1 d'.keep.length (ints d'.keep)) (h1 : ∀ k, qv.ownBlock = some k → S.W k ∧ k ≠ p) (h2 : 0 < d'.keep.length → ∀ k, kv.ownBlock = some k → S.R k ∧ ¬ S.W k) : DR w' p d' S :=
  ⟨ok, ⟨qv, kv, hb, hq.mod m fun k hk => (h1 k hk).2, hk.mod' m fun hn k hk (e : k = p) => (h2 hn k hk).2 (e ▸ h.self), fun k hk => (h1 k hk).1, h2⟩, h.self, h.sub, fun k hk => Nat.lt_of_lt_of_le (h.lt k hk) m.size⟩

/-- a step that turned the disk: what it writes then was written before, or is new -/
def St (S : FP) (w w' : World) (p : Nat) (d : Dk) : Prop :=
  ∃ S' : FP, DR w' p d S' ∧ (∀ k, S'.R k → S.R k ∨ w.heap.size ≤ k) ∧ (∀ k, S'.W k → S.W k ∨ w.heap.size ≤ k) ∧ Mod S.W w w'

noncomputable def St.foot {S : FP} {w w' : World} {p : Nat} {d : Dk} (h : St S w w' p d) : FP := Classical.choose h
theorem St.dr {S : FP} {w w' : World} {p : Nat} {d : Dk} (h : St S w w' p d) : DR w' p d h.foot := (Classical.choose_spec h).1
theorem St.footR {S : FP} {w w' : World} {p : Nat} {d : Dk} (h : St S w w' p d) : ∀ k, h.foot.R k → S.R k ∨ w.heap.size ≤ k := (Classical.choose_spec h).2.1
theorem St.footW {S : FP} {w w' : World} {p : Nat} {d : Dk} (h : St S w w' p d) : ∀ k, h.foot.W k → S.W k ∨ w.heap.size ≤ k := (Classical.choose_spec h).2.2.1
theorem St.mod {S : FP} {w w' : World} {p : Nat} {d : Dk} (h : St S w w' p d) : Mod S.W w w' := (Classical.choose_spec h).2.2.2

theorem St.of {S : FP} {w w' : World} {p : Nat} {d : Dk} (h : DR w' p d S) (m : Mod S.W w w') : St S w w' p d := ⟨S, h, fun _ h => .inl h, fun _ h => .inl h, m⟩
theorem St.refl {S : FP} {w : World} {p : Nat} {d : Dk} (h : DR w p d S) : St S w w p d := .of h (Mod.refl _ _)
theorem St.trans {S : FP} {w w1 w2 : World} {p : Nat} {d d' : Dk} (h : St S w w1 p d) (h' : St h.foot w1 w2 p d') : St S w w2 p d' := by
  have m1 := h.mod.size
  refine ⟨h'.foot, h'.dr, fun k hk => ?_, fun k hk => ?_, h.mod.trans h'.mod fun i hi hg => ?_⟩
  · rcases h'.footR k hk with hk | hk
    · exact h.footR k hk
    · exact .inr (by omega)
  · rcases h'.footW k hk with hk | hk
    · exact h.footW k hk
    · exact .inr (by omega)
  · rcases h.footW i hg with hg | hg
    · exact hg
    · omega
theorem St.mod0 {S : FP} {w w1 w2 : World} {p : Nat} {d : Dk} (h : St S w w1 p d) (m : Mod none' w1 w2) : St S w w2 p d :=
  h.trans (.of (h.dr.mod0 m) (m.mono fun _ _ h => h.elim))
theorem St.after {S : FP} {w w0 w' : World} {p : Nat} {d : Dk} (m : Mod none' w w0) (h : St S w0 w' p d) : St S w w' p d := by
  have hs := m.size
  refine ⟨h.foot, h.dr, fun k hk => (h.footR k hk).imp id fun h => by omega, fun k hk => (h.footW k hk).imp id fun h => by omega, (m.mono (T := S.W) fun _ _ h => h.elim).trans h.mod fun _ _ h => h⟩
theorem St.drew {S : FP} {w w1 : World} {p : Nat} {d : Dk} (h : St S w w1 p d) : St S w w1.drew p d := h.mod0 (Mod.drew _ _)

theorem sz3 : szOf Try.prog 3 = some 1 := by kernel_rfl
theorem sz4 : szOf Try.prog 4 = some 1 := by kernel_rfl
theorem sz9 : szOf Try.prog 9 = some 1 := by kernel_rfl
theorem sz22 : szOf Try.prog 22 = some 1 := by kernel_rfl
theorem sz84 : szOf Try.prog 84 = some 1 := by kernel_rfl

theorem ends_ {p : Nat} {d : Dk} {S : FP} (h : DR w p d S) (k : ∀ w', DR w' p d.tick S → Mod S.W w w' → w'.heap.size = w.heap.size → next (.bool d.ends) w') :
    callvK Try.prog (.func (.func 63) #[] #[]) [ptr p] w next QP := by
  refine r63 rfl ?_
  obtain ⟨qv, kv, hb, hq, hk, h1, h2, c24, c25, c26, c27, c28⟩ := h.parts
  unfold h63
  simp only [go_sem, c26, c27]
  refine ⟨fun hd => ?_, fun hd => ?_⟩
  · have : d.tick = d ∧ d.ends = false := by
      rcases hdn : d.down with _ | _
      · have : d.armed = 0 := by simp [hdn] at hd; omega
        simp [Dk.tick, Dk.ends, hdn, this]
      · simp [Dk.tick, Dk.ends, hdn]
    rw [this.1, this.2] at k
    exact k _ h (Mod.refl _ _) rfl
  · have hdn : d.down = false ∧ d.armed ≠ 0 := by
      rcases hdn : d.down with _ | _
      · simp [hdn] at hd; exact ⟨rfl, by omega⟩
      · simp [hdn] at hd
    have ok := h.ok
    have : d.tick = { d with armed := d.armed - 1 } ∧ d.ends = decide (d.armed = 1) := by
      simp [Dk.tick, Dk.ends, hdn]
    have ha := ok.armed
    unfold h63_1
    simp only [go_sem, c26, c27]
    rw [w64 (by omega) (by omega)]
    refine store1 sz3 hb (by rw [cells_len ok.nl ok.nf]; omega) rfl ?_
    intro w' hb' m hsz
    have hcs : (d.cells qv kv).set 27 (.int .i64 ((d.armed : Int) - 1)) = d.tick.cells qv kv := by
      rw [show 27 = 24 + 3 from rfl, cells_set_tail ok.nl ok.nf, this.1, show (d.armed : Int) - 1 = ((d.armed - 1 : Nat) : Int) by omega]; rfl
    rw [hcs] at hb'
    have c27' : w'.cell? ⟨p, 27, none⟩ = some (.int .i64 (d.armed - 1 : Nat)) := by
      rw [hb'.cell, show 27 = 24 + 3 from rfl, cells_tail (by rw [this.1]; exact ok.nl) (by rw [this.1]; exact ok.nf), this.1]; rfl
    simp only [go_sem, c27']
    have k' := k w' (h.again m (by rw [this.1]; exact ⟨ok.nl, ok.nf, ok.bl, ok.bf, ok.bq, ok.lost, by show d.armed - 1 ≤ _; omega⟩) hb' (by rw [this.1]; exact hq) (by rw [this.1]; exact hk) h1 (by rw [this.1]; exact h2)) (m.mono fun k _ hk => by rw [hk]; exact h.self) hsz
    rw [this.2] at k'
    have e : decide (((d.armed - 1 : Nat) : Int) = 0) = decide (d.armed = 1) := by
      have := hdn.2; congr 1; apply propext; omega
    rw [e]; exact k'

theorem sl36 : SlTy Try.prog 36 5 1 1 (.int .u8 0) := ⟨by kernel_rfl, by kernel_rfl, rfl, by decide⟩
theorem sl22 : SlTy Try.prog 22 3 1 8 (.int .i64 0) := ⟨by kernel_rfl, by kernel_rfl, rfl, by decide⟩

theorem bys_rep (n : Nat) : bys (List.replicate n 0) = List.replicate n (.int .u8 0) := by simp [bys]

theorem put_ (s t : Bytes) (o : Nat) (h1 : s.length ≤ 16777216) (h2 : o + t.length ≤ 16777216) (k : ∀ w', Mod none' w w' → next (str (put s o t)) w') :
    callvK Try.prog (.func (.func 69) #[] #[]) [str s, .int .i64 o, str t] w next QP := by
  refine r69 rfl ?_
  unfold h69
  simp only [go_sem]
  rw [w64 (by omega) (by omega)]
  refine msl1 sl36 rfl (max s.length (o + t.length)) (by split <;> omega) (by omega) (by unfold maxLen; omega) ?_
  intro b w1 hb own1 blk1 m1 sz1
  refine copyS sl36 (o := 0) blk1 (fun _ => rfl) (by simp; omega) ?_
  intro w2 blk2 m2 sz2
  simp only [go_sem]
  refine ⟨⟨by omega, by omega⟩, ?_⟩
  refine copyS sl36 (g := b) (o := o) blk2 ?_ ?_ ?_
  · intro hp
    rw [if_neg (by omega)]
    simp [go_sem]
  · rw [lay_len (by rw [bys_len]; simp; omega)]; simp; omega
  intro w3 blk3 m3 sz3
  have hfull : s.take (max s.length (o + t.length)) = s := List.take_of_length_le (by omega)
  have hfull2 : t.take (max s.length (o + t.length) - o) = t := List.take_of_length_le (by omega)
  have hrow : lay (lay (List.replicate (max s.length (o + t.length)) (.int .u8 0)) 0 (bys (s.take (max s.length (o + t.length))))) o (bys (t.take (max s.length (o + t.length) - o))) = bys (put s o t) := by
    rw [hfull, hfull2]
    unfold put
    unfold bys
    rw [lay_map]
    congr 1
    simp [lay, bys]
  rw [hrow] at blk3
  have m : Mod none' w w3 := (m1.trans m2 fun i hi (e : i = b) => absurd hb (by omega)).trans m3 fun i hi (e : i = b) => absurd hb (by omega)
  refine b2s (e := 5) (by kernel_rfl) (by kernel_rfl) (by kernel_rfl) (n := max s.length (o + t.length)) (l := put s o t) ⟨by rw [bys_len, put_len]; omega, _, _, rfl, Nat.le_refl _, fun _ => ⟨b, 0, rfl, fun j hj => by rw [blk3.cell, Nat.zero_add]⟩⟩ ?_
  exact k _ m
end
end Go.Proofs.Y

/- DC: more walks of the disk: what reads it, what sets its marks. -/
namespace Go.Proofs.Y
open Go Go.HL Go.Proofs
section
variable {w : World} {next : Value → World → Prop} {QP : List PanicEntry → World → Prop}

theorem down_ {p : Nat} {d : Dk} {S : FP} (h : DR w p d S) (k : next (.bool d.down) w) : callvK Try.prog (.func (.func 27) #[] #[]) [ptr p] w next QP := by
  refine r27 rfl ?_
  obtain ⟨qv, kv, hb, hq, hk, h1, h2, c24, c25, c26, c27, c28⟩ := h.parts
  unfold h27
  simp only [go_sem, c26]
  exact k

theorem start_ {p : Nat} {d : Dk} {S : FP} (h : DR w p d S) (k : ∀ w', DR w' p d.start S → Mod S.W w w' → w'.heap.size = w.heap.size → next (.tuple #[]) w') : callvK Try.prog (.func (.func 22) #[] #[]) [ptr p] w next QP := by
  refine r22 rfl ?_
  obtain ⟨qv, kv, hb, hq, hk, h1, h2, c24, c25, c26, c27, c28⟩ := h.parts
  have ok := h.ok
  unfold h22
  simp only [go_sem, c26]
  refine store1 sz4 hb (by rw [cells_len ok.nl ok.nf]; omega) rfl ?_
  intro w' hb' m hsz
  have hcs : (d.cells qv kv).set 26 (.bool false) = d.start.cells qv kv := by
    rw [show 26 = 24 + 2 from rfl, cells_set_tail ok.nl ok.nf]; rfl
  rw [hcs] at hb'
  exact k w' (h.again m ⟨ok.nl, ok.nf, ok.bl, ok.bf, ok.bq, ok.lost, ok.armed⟩ hb' hq hk h1 h2) (m.mono fun k _ hk => by rw [hk]; exact h.self) hsz

theorem lose_ {p : Nat} {d : Dk} {S : FP} (h : DR w p d S) {n : Int} (hn : n ≤ 9223372036854775807) (k : ∀ w', DR w' p (d.lose n) S → Mod S.W w w' → w'.heap.size = w.heap.size → next (.tuple #[]) w') : callvK Try.prog (.func (.func 33) #[] #[]) [ptr p, .int .i64 n] w next QP := by
  refine r33 rfl ?_
  obtain ⟨qv, kv, hb, hq, hk, h1, h2, c24, c25, c26, c27, c28⟩ := h.parts
  have ok := h.ok
  unfold h33
  simp only [go_sem]
  refine store1 sz3 hb (by rw [cells_len ok.nl ok.nf]; omega) rfl ?_
  intro w' hb' m hsz
  have hcs : (d.cells qv kv).set 25 (.int .i64 (if n < 0 then 0 else n)) = (d.lose n).cells qv kv := by
    rw [show 25 = 24 + 1 from rfl, cells_set_tail ok.nl ok.nf]
    have : (if n < 0 then 0 else n) = ((n.toNat : Nat) : Int) := by split <;> omega
    rw [this]; rfl
  rw [hcs] at hb'
  exact k w' (h.again m ⟨ok.nl, ok.nf, ok.bl, ok.bf, ok.bq, by show n.toNat ≤ _; omega, ok.armed⟩ hb' hq hk h1 h2) (m.mono fun k _ hk => by rw [hk]; exact h.self) hsz

theorem size_ {p : Nat} {d : Dk} {S : FP} (h : DR w p d S) (f : Int) (k : next (.int .i64 (d.size f)) w) : callvK Try.prog (.func (.func 24) #[] #[]) [ptr p, .int .i64 f] w next QP := by
  refine r24 rfl ?_
  obtain ⟨qv, kv, hb, hq, hk, h1, h2, c24, c25, c26, c27, c28⟩ := h.parts
  have ok := h.ok
  unfold h24
  simp only [go_sem]
  refine is_ _ ?_
  simp only [go_sem]
  refine ⟨fun hf => ?_, fun hf => ?_⟩
  · have hf : isF f = false := by simpa using hf
    simpa [Dk.size, hf] using k
  · have hf : isF f = true := by simpa using hf
    have hf' : 0 ≤ f ∧ f < 12 := by simpa [isF] using hf
    obtain ⟨g, rfl⟩ : ∃ g : Nat, f = g := ⟨f.toNat, by omega⟩
    have hg : g < 12 := by omega
    have cf : w.cell? ⟨p, 12 + g, none⟩ = some (str (d.file g)) := by rw [hb.cell, cells_file ok.nl ok.nf hg]
    unfold h24_1
    simp only [go_sem, cf]
    refine ⟨⟨by omega, by omega⟩, ?_⟩
    simpa [Dk.size, hf] using k

theorem may1 {d : Dk} {f : Int} : d.may [f] = if d.down then 8 else if isF f then 0 else 1 := by simp [Dk.may]

theorem read_ {p : Nat} {d : Dk} {S : FP} (h : DR w p d S) (f : Int) (k : ∀ w', DR w' p d S → Mod none' w w' → next (.tuple #[str (d.read f), .int .i64 (d.may [f])]) w') :
    callvK Try.prog (.func (.func 23) #[] #[]) [ptr p, .int .i64 f] w next QP := by
  refine r23 rfl ?_
  have ok := h.ok
  unfold h23
  simp only [go_sem]
  refine bsl1 sl22 rfl rfl (by omega) ?_
  intro b w1 hbb own1 blk1 m1 sz1
  have h' := h.mod0 m1
  refine may_ h' (by omega) (l := [f]) own1.sl ?_
  simp only [go_sem]
  refine ⟨fun he => ?_, fun he => ?_⟩
  · have he : d.may [f] ≠ 0 := by simpa using he
    have := k w1 h' m1
    simpa [Dk.read, he] using this
  · have he : d.may [f] = 0 := by simpa using he
    have hf : isF f = true ∧ d.down = false := by
      rw [may1] at he
      rcases hd : d.down with _ | _
      · rcases hf : isF f with _ | _
        · simp [hd, hf] at he
        · exact ⟨rfl, rfl⟩
      · simp [hd] at he
    have hf' : 0 ≤ f ∧ f < 12 := by simpa [isF] using hf.1
    obtain ⟨g, rfl⟩ : ∃ g : Nat, f = g := ⟨f.toNat, by omega⟩
    have hg : g < 12 := by omega
    obtain ⟨qv, kv, hb, -⟩ := h'.parts
    have cf : w1.cell? ⟨p, 12 + g, none⟩ = some (str (d.file g)) := by rw [hb.cell, cells_file ok.nl ok.nf hg]
    unfold h23_1
    simp only [go_sem, cf]
    refine ⟨⟨by omega, by omega⟩, ?_⟩
    have := k w1 h' m1
    simpa [Dk.read, he] using this

theorem clone_ {v : Value} {l : List Int} {n : Nat} (hl : Sl w v 1 n (ints l)) (hn : n ≤ 9000000000000) (k : ∀ v' w', Own w' v' 3 1 n (ints l) → Mod none' w w' → (∀ k, v'.ownBlock = some k → w.heap.size ≤ k) → next v' w') :
    callvK Try.prog (.func (.func 71) #[] #[]) [v] w next QP := by
  refine r71 rfl ?_
  obtain ⟨a, c, rfl, hc, hcell⟩ := hl.form
  unfold h71
  simp only [go_sem]
  refine ⟨fun ha => ?_, fun ha => ?_⟩
  · have hn0 : n = 0 := by
      rcases Nat.eq_zero_or_pos n with h | h
      · exact h
      · obtain ⟨b, o, rfl, _⟩ := hcell h
        simp at ha
    subst hn0
    have hl0 : ints l = [] := List.eq_nil_of_length_eq_zero (by have := hl.len; simpa using this)
    rw [hl0] at k
    exact k _ _ (Own.nil _ _ _) (Mod.refl _ _) (fun k hk => by cases hk)
  · unfold h71_1
    simp only [go_sem]
    refine bsl0 sl22 ?_
    intro b w1 hbb own1 m1 sz1
    refine append_ sl22 (n := 0) (m := n) own1 (hl.mod m1 fun k _ h => h) (by intro u hu; obtain ⟨i, _, rfl⟩ := List.mem_map.1 hu; rfl) (by omega) (by unfold maxLen; omega) ?_
    intro v' w2 own2 m2 hb2 _
    simp only [Nat.zero_add, List.nil_append] at own2
    refine k _ _ own2 (m1.trans m2 fun i hi hS => ?_) ?_
    · simp only [ownS, Value.ownBlock, Option.some.injEq] at hS; omega
    · intro k hk
      rcases hb2 k hk with h | h
      · simp only [Value.ownBlock, Option.some.injEq] at h; omega
      · omega

theorem arm_ {p : Nat} {d : Dk} {S : FP} (h : DR w p d S) {n : Int} (hn : n ≤ 9223372036854775807) {v : Value} {l : List Int} {m : Nat} (hl : Sl w v 1 m (ints l)) (hm : m ≤ 9000000000000)
    (k : ∀ w', St S w w' p (d.arm n l) → next (.tuple #[]) w') : callvK Try.prog (.func (.func 32) #[] #[]) [ptr p, .int .i64 n, v] w next QP := by
  refine r32 rfl ?_
  unfold h32
  simp only [go_sem]
  refine clone_ hl hm ?_
  intro v' w1 own1 m1 hb1
  have h' := h.mod0 m1
  obtain ⟨qv, kv, hb, hq, hk, h1, h2, c24, c25, c26, c27, c28⟩ := h'.parts
  have ok := h.ok
  have hlm : l.length = m := by have := hl.len; rw [ints_len] at this; omega
  refine store1 sz3 hb (by rw [cells_len ok.nl ok.nf]; omega) rfl ?_
  intro w2 hb2 m2 hsz2
  obtain ⟨a, c, rfl, -⟩ := own1.form
  refine store1 sz22 hb2 (by rw [List.length_set, cells_len ok.nl ok.nf]; omega) rfl ?_
  intro w3 hb3 m3 hsz3
  have hcs : ((d.cells qv kv).set 27 (.int .i64 (if n < 0 then 0 else n))).set 28 (.slice a m c) = (d.arm n l).cells qv (.slice a m c) := by
    have : (if n < 0 then 0 else n) = ((n.toNat : Nat) : Int) := by split <;> omega
    rw [this]
    rw [show 27 = 24 + 3 from rfl, show 28 = 24 + 4 from rfl, cells_set_tail ok.nl ok.nf]
    rw [List.set_append_right _ _ (by simp [ok.nl]), List.set_append_right _ _ (by simp [ok.nl, ok.nf])]
    simp only [List.length_map, ok.nl, ok.nf]; rfl
  rw [hcs] at hb3
  have m23 := m2.trans' m3
  have hp := h.self
  have m13 : Mod S.W w w3 := (m1.mono (T := S.W) fun _ _ h => h.elim).trans m23 fun i _ (e : i = p) => by rw [e]; exact hp
  have hlt := own1.lt
  have hsz := m1.size
  refine k w3 ⟨⟨S.W, fun k => S.R k ∨ (w.heap.size ≤ k ∧ k < w3.heap.size)⟩, ⟨⟨ok.nl, ok.nf, ok.bl, ok.bf, ok.bq, ok.lost, by show n.toNat ≤ _; omega⟩, ⟨qv, .slice a m c, hb3, hq.mod m23 fun k hk => (h1 k hk).2, ?_, fun k hk => (h1 k hk).1, fun _ k hk => ⟨.inr ⟨hb1 k hk, ?_⟩, fun hW => ?_⟩⟩, hp, fun k hk => .inl (h.sub k hk), ?_⟩, fun k hk => hk.imp id fun h => h.1, fun k hk => .inl hk, m13⟩
  · show Sl w3 _ 1 l.length (ints l)
    rw [hlm]
    exact (own1.mod m23 fun k hk e => by have := hb1 k hk; have := h.plt; have : k = p := e; omega).sl
  · have := hlt k hk; omega
  · have := hb1 k hk; have := h.lt k (h.sub k hW); omega
  · intro k hk
    rcases hk with hk | hk
    · have := h.lt k hk; omega
    · exact hk.2

theorem new_ (k : ∀ p w', w.heap.size = p → St FP0 w w' p Dk.new → next (ptr p) w') : callvK Try.prog (.func (.func 17) #[] #[]) [] w next QP := by
  refine r17 rfl ?_
  unfold h17
  simp only [go_sem]
  refine box_ (cs := Dk.new.cells (.slice none 0 0) (.slice none 0 0)) rfl ?_
  intro p w1 hp hb m1 hsz
  refine k p w1 hp ⟨⟨fun k => k = p, fun k => k = p⟩, ⟨⟨rfl, rfl, ?_, ?_, ?_, ?_, ?_⟩, ⟨_, _, hb, Own.nil _ _ _, (Own.nil _ 3 1).sl, (fun k hk => nomatch (hk : none = some k)), (fun _ k hk => nomatch (hk : none = some k))⟩, rfl, fun k hk => hk, ?_⟩, ?_, ?_, m1⟩
  · intro s hs; rw [List.eq_of_mem_replicate hs]; simp
  · intro s hs; rw [List.eq_of_mem_replicate hs]; simp
  · intro p hp; cases hp
  · show (0 : Nat) ≤ _; omega
  · show (0 : Nat) ≤ _; omega
  · intro k (hk : k = p); omega
  · intro k (hk : k = p); exact .inr (by omega)
  · intro k (hk : k = p); exact .inr (by omega)
end
end Go.Proofs.Y
