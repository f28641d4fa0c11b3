/- the functions of the program as code over named slots, printed by hl.py -/
import Derived.Test.YtgalileklafbbaaHLH
import Derived.Test.YtgalileklafbbaaProg
import Derived.KernelRfl
set_option linter.unusedSimpArgs false
set_option linter.unusedVariables false
set_option maxRecDepth 100000
set_option maxRecDepth 100000
namespace Go.Proofs.Y
open Go Go.HL Go.Proofs
theorem mixed : Try.prog.follows .mixedOrders = true := by kernel_rfl
/- missive/missivelaw05.small -/
def l16_8 : List HS :=
  .need (.gif (.n3 .pick (.n3 .pick (.n3 .pick (.n3 .pick (.n3 .pick (.n3 .pick (.n3 .pick (.n3 .pick (.n3 .pick (.n3 .pick (.n3 .pick (.n3 .pick (.n3 .pick (.n3 .pick (.n3 .pick (.n2 (.bin .eql) (.slot 2) (.lit (.int .i64 0))) (.n2 (.bin .eql) (.slot 3) (.lit (.int .i64 0))) (.lit (.bool false))) (.n2 (.bin .eql) (.slot 4) (.lit (.int .i64 0))) (.lit (.bool false))) (.n2 (.bin .eql) (.slot 6) (.lit (.int .i64 8))) (.lit (.bool false))) (.slot 7) (.lit (.bool false))) (.n2 (.bin .eql) (.slot 9) (.lit (.int .i64 0))) (.lit (.bool false))) (.n2 (.sbin .eql) (.slot 8) (.lit (str [104, 101, 108, 108, 111, 121]))) (.lit (.bool false))) (.n2 (.bin .eql) (.slot 10) (.lit (.int .i64 9))) (.lit (.bool false))) (.n2 (.bin .eql) (.slot 11) (.lit (.int .i64 0))) (.lit (.bool false))) (.n2 (.bin .eql) (.slot 12) (.lit (.int .i64 7))) (.lit (.bool false))) (.n2 (.bin .eql) (.slot 13) (.lit (.int .i64 0))) (.lit (.bool false))) (.n2 (.bin .eql) (.slot 14) (.lit (.int .i64 0))) (.lit (.bool false))) (.n2 (.sbin .eql) (.slot 15) (.lit (str [120]))) (.lit (.bool false))) (.n2 (.bin .eql) (.slot 145) (.lit (.int .i64 0))) (.lit (.bool false))) (.n2 (.bin .eql) (.slot 150) (.lit (.int .i64 1))) (.lit (.bool false))) (.n2 (.bin .eql) (.slot 155) (.lit (.int .i64 1))) (.lit (.bool false))) true (.n2 (.bin .eql) (.slot 160) (.lit (.int .i64 1)))) ::
  .need (.n3 .pick (.n3 .pick (.n3 .pick (.n3 .pick (.n3 .pick (.n3 .pick (.n3 .pick (.n3 .pick (.n3 .pick (.n3 .pick (.n3 .pick (.n3 .pick (.n3 .pick (.n3 .pick (.n3 .pick (.n3 .pick (.n2 (.bin .eql) (.slot 2) (.lit (.int .i64 0))) (.n2 (.bin .eql) (.slot 3) (.lit (.int .i64 0))) (.lit (.bool false))) (.n2 (.bin .eql) (.slot 4) (.lit (.int .i64 0))) (.lit (.bool false))) (.n2 (.bin .eql) (.slot 6) (.lit (.int .i64 8))) (.lit (.bool false))) (.slot 7) (.lit (.bool false))) (.n2 (.bin .eql) (.slot 9) (.lit (.int .i64 0))) (.lit (.bool false))) (.n2 (.sbin .eql) (.slot 8) (.lit (str [104, 101, 108, 108, 111, 121]))) (.lit (.bool false))) (.n2 (.bin .eql) (.slot 10) (.lit (.int .i64 9))) (.lit (.bool false))) (.n2 (.bin .eql) (.slot 11) (.lit (.int .i64 0))) (.lit (.bool false))) (.n2 (.bin .eql) (.slot 12) (.lit (.int .i64 7))) (.lit (.bool false))) (.n2 (.bin .eql) (.slot 13) (.lit (.int .i64 0))) (.lit (.bool false))) (.n2 (.bin .eql) (.slot 14) (.lit (.int .i64 0))) (.lit (.bool false))) (.n2 (.sbin .eql) (.slot 15) (.lit (str [120]))) (.lit (.bool false))) (.n2 (.bin .eql) (.slot 145) (.lit (.int .i64 0))) (.lit (.bool false))) (.n2 (.bin .eql) (.slot 150) (.lit (.int .i64 1))) (.lit (.bool false))) (.n2 (.bin .eql) (.slot 155) (.lit (.int .i64 1))) (.lit (.bool false))) (.n2 (.bin .eql) (.slot 160) (.lit (.int .i64 1))) (.lit (.bool false))) ::
  .asg 0 (.n3 .pick (.n3 .pick (.n3 .pick (.n3 .pick (.n3 .pick (.n3 .pick (.n3 .pick (.n3 .pick (.n3 .pick (.n3 .pick (.n3 .pick (.n3 .pick (.n3 .pick (.n3 .pick (.n3 .pick (.n3 .pick (.n2 (.bin .eql) (.slot 2) (.lit (.int .i64 0))) (.n2 (.bin .eql) (.slot 3) (.lit (.int .i64 0))) (.lit (.bool false))) (.n2 (.bin .eql) (.slot 4) (.lit (.int .i64 0))) (.lit (.bool false))) (.n2 (.bin .eql) (.slot 6) (.lit (.int .i64 8))) (.lit (.bool false))) (.slot 7) (.lit (.bool false))) (.n2 (.bin .eql) (.slot 9) (.lit (.int .i64 0))) (.lit (.bool false))) (.n2 (.sbin .eql) (.slot 8) (.lit (str [104, 101, 108, 108, 111, 121]))) (.lit (.bool false))) (.n2 (.bin .eql) (.slot 10) (.lit (.int .i64 9))) (.lit (.bool false))) (.n2 (.bin .eql) (.slot 11) (.lit (.int .i64 0))) (.lit (.bool false))) (.n2 (.bin .eql) (.slot 12) (.lit (.int .i64 7))) (.lit (.bool false))) (.n2 (.bin .eql) (.slot 13) (.lit (.int .i64 0))) (.lit (.bool false))) (.n2 (.bin .eql) (.slot 14) (.lit (.int .i64 0))) (.lit (.bool false))) (.n2 (.sbin .eql) (.slot 15) (.lit (str [120]))) (.lit (.bool false))) (.n2 (.bin .eql) (.slot 145) (.lit (.int .i64 0))) (.lit (.bool false))) (.n2 (.bin .eql) (.slot 150) (.lit (.int .i64 1))) (.lit (.bool false))) (.n2 (.bin .eql) (.slot 155) (.lit (.int .i64 1))) (.lit (.bool false))) (.n2 (.bin .eql) (.slot 160) (.lit (.int .i64 1))) (.lit (.bool false))) ::
  []
def l16_9 : List HS :=
  .need (.gif (.n3 .pick (.n3 .pick (.n3 .pick (.n3 .pick (.n3 .pick (.n3 .pick (.n3 .pick (.n3 .pick (.n3 .pick (.n3 .pick (.n3 .pick (.n3 .pick (.n3 .pick (.n3 .pick (.n2 (.bin .eql) (.slot 2) (.lit (.int .i64 0))) (.n2 (.bin .eql) (.slot 3) (.lit (.int .i64 0))) (.lit (.bool false))) (.n2 (.bin .eql) (.slot 4) (.lit (.int .i64 0))) (.lit (.bool false))) (.n2 (.bin .eql) (.slot 6) (.lit (.int .i64 8))) (.lit (.bool false))) (.slot 7) (.lit (.bool false))) (.n2 (.bin .eql) (.slot 9) (.lit (.int .i64 0))) (.lit (.bool false))) (.n2 (.sbin .eql) (.slot 8) (.lit (str [104, 101, 108, 108, 111, 121]))) (.lit (.bool false))) (.n2 (.bin .eql) (.slot 10) (.lit (.int .i64 9))) (.lit (.bool false))) (.n2 (.bin .eql) (.slot 11) (.lit (.int .i64 0))) (.lit (.bool false))) (.n2 (.bin .eql) (.slot 12) (.lit (.int .i64 7))) (.lit (.bool false))) (.n2 (.bin .eql) (.slot 13) (.lit (.int .i64 0))) (.lit (.bool false))) (.n2 (.bin .eql) (.slot 14) (.lit (.int .i64 0))) (.lit (.bool false))) (.n2 (.sbin .eql) (.slot 15) (.lit (str [120]))) (.lit (.bool false))) (.n2 (.bin .eql) (.slot 145) (.lit (.int .i64 0))) (.lit (.bool false))) (.n2 (.bin .eql) (.slot 150) (.lit (.int .i64 1))) (.lit (.bool false))) true (.n2 (.bin .eql) (.slot 155) (.lit (.int .i64 1)))) ::
  .need (.n3 .pick (.n3 .pick (.n3 .pick (.n3 .pick (.n3 .pick (.n3 .pick (.n3 .pick (.n3 .pick (.n3 .pick (.n3 .pick (.n3 .pick (.n3 .pick (.n3 .pick (.n3 .pick (.n3 .pick (.n2 (.bin .eql) (.slot 2) (.lit (.int .i64 0))) (.n2 (.bin .eql) (.slot 3) (.lit (.int .i64 0))) (.lit (.bool false))) (.n2 (.bin .eql) (.slot 4) (.lit (.int .i64 0))) (.lit (.bool false))) (.n2 (.bin .eql) (.slot 6) (.lit (.int .i64 8))) (.lit (.bool false))) (.slot 7) (.lit (.bool false))) (.n2 (.bin .eql) (.slot 9) (.lit (.int .i64 0))) (.lit (.bool false))) (.n2 (.sbin .eql) (.slot 8) (.lit (str [104, 101, 108, 108, 111, 121]))) (.lit (.bool false))) (.n2 (.bin .eql) (.slot 10) (.lit (.int .i64 9))) (.lit (.bool false))) (.n2 (.bin .eql) (.slot 11) (.lit (.int .i64 0))) (.lit (.bool false))) (.n2 (.bin .eql) (.slot 12) (.lit (.int .i64 7))) (.lit (.bool false))) (.n2 (.bin .eql) (.slot 13) (.lit (.int .i64 0))) (.lit (.bool false))) (.n2 (.bin .eql) (.slot 14) (.lit (.int .i64 0))) (.lit (.bool false))) (.n2 (.sbin .eql) (.slot 15) (.lit (str [120]))) (.lit (.bool false))) (.n2 (.bin .eql) (.slot 145) (.lit (.int .i64 0))) (.lit (.bool false))) (.n2 (.bin .eql) (.slot 150) (.lit (.int .i64 1))) (.lit (.bool false))) (.n2 (.bin .eql) (.slot 155) (.lit (.int .i64 1))) (.lit (.bool false))) ::
  .eff (some 160) (.call { callee := .value (.func 42), args := #[.tmp 159, .const (.int .i64 1), .const (.int .i64 2)], argTypes := #[24, 3, 3] }) 26 [(159, .slot 1)] (some (.n3 .pick (.n3 .pick (.n3 .pick (.n3 .pick (.n3 .pick (.n3 .pick (.n3 .pick (.n3 .pick (.n3 .pick (.n3 .pick (.n3 .pick (.n3 .pick (.n3 .pick (.n3 .pick (.n3 .pick (.n2 (.bin .eql) (.slot 2) (.lit (.int .i64 0))) (.n2 (.bin .eql) (.slot 3) (.lit (.int .i64 0))) (.lit (.bool false))) (.n2 (.bin .eql) (.slot 4) (.lit (.int .i64 0))) (.lit (.bool false))) (.n2 (.bin .eql) (.slot 6) (.lit (.int .i64 8))) (.lit (.bool false))) (.slot 7) (.lit (.bool false))) (.n2 (.bin .eql) (.slot 9) (.lit (.int .i64 0))) (.lit (.bool false))) (.n2 (.sbin .eql) (.slot 8) (.lit (str [104, 101, 108, 108, 111, 121]))) (.lit (.bool false))) (.n2 (.bin .eql) (.slot 10) (.lit (.int .i64 9))) (.lit (.bool false))) (.n2 (.bin .eql) (.slot 11) (.lit (.int .i64 0))) (.lit (.bool false))) (.n2 (.bin .eql) (.slot 12) (.lit (.int .i64 7))) (.lit (.bool false))) (.n2 (.bin .eql) (.slot 13) (.lit (.int .i64 0))) (.lit (.bool false))) (.n2 (.bin .eql) (.slot 14) (.lit (.int .i64 0))) (.lit (.bool false))) (.n2 (.sbin .eql) (.slot 15) (.lit (str [120]))) (.lit (.bool false))) (.n2 (.bin .eql) (.slot 145) (.lit (.int .i64 0))) (.lit (.bool false))) (.n2 (.bin .eql) (.slot 150) (.lit (.int .i64 1))) (.lit (.bool false))) (.n2 (.bin .eql) (.slot 155) (.lit (.int .i64 1))) (.lit (.bool false)), true)) [] ::
  l16_8
def l16_10 : List HS :=
  .need (.gif (.n3 .pick (.n3 .pick (.n3 .pick (.n3 .pick (.n3 .pick (.n3 .pick (.n3 .pick (.n3 .pick (.n3 .pick (.n3 .pick (.n3 .pick (.n3 .pick (.n3 .pick (.n2 (.bin .eql) (.slot 2) (.lit (.int .i64 0))) (.n2 (.bin .eql) (.slot 3) (.lit (.int .i64 0))) (.lit (.bool false))) (.n2 (.bin .eql) (.slot 4) (.lit (.int .i64 0))) (.lit (.bool false))) (.n2 (.bin .eql) (.slot 6) (.lit (.int .i64 8))) (.lit (.bool false))) (.slot 7) (.lit (.bool false))) (.n2 (.bin .eql) (.slot 9) (.lit (.int .i64 0))) (.lit (.bool false))) (.n2 (.sbin .eql) (.slot 8) (.lit (str [104, 101, 108, 108, 111, 121]))) (.lit (.bool false))) (.n2 (.bin .eql) (.slot 10) (.lit (.int .i64 9))) (.lit (.bool false))) (.n2 (.bin .eql) (.slot 11) (.lit (.int .i64 0))) (.lit (.bool false))) (.n2 (.bin .eql) (.slot 12) (.lit (.int .i64 7))) (.lit (.bool false))) (.n2 (.bin .eql) (.slot 13) (.lit (.int .i64 0))) (.lit (.bool false))) (.n2 (.bin .eql) (.slot 14) (.lit (.int .i64 0))) (.lit (.bool false))) (.n2 (.sbin .eql) (.slot 15) (.lit (str [120]))) (.lit (.bool false))) (.n2 (.bin .eql) (.slot 145) (.lit (.int .i64 0))) (.lit (.bool false))) true (.n2 (.bin .eql) (.slot 150) (.lit (.int .i64 1)))) ::
  .need (.n3 .pick (.n3 .pick (.n3 .pick (.n3 .pick (.n3 .pick (.n3 .pick (.n3 .pick (.n3 .pick (.n3 .pick (.n3 .pick (.n3 .pick (.n3 .pick (.n3 .pick (.n3 .pick (.n2 (.bin .eql) (.slot 2) (.lit (.int .i64 0))) (.n2 (.bin .eql) (.slot 3) (.lit (.int .i64 0))) (.lit (.bool false))) (.n2 (.bin .eql) (.slot 4) (.lit (.int .i64 0))) (.lit (.bool false))) (.n2 (.bin .eql) (.slot 6) (.lit (.int .i64 8))) (.lit (.bool false))) (.slot 7) (.lit (.bool false))) (.n2 (.bin .eql) (.slot 9) (.lit (.int .i64 0))) (.lit (.bool false))) (.n2 (.sbin .eql) (.slot 8) (.lit (str [104, 101, 108, 108, 111, 121]))) (.lit (.bool false))) (.n2 (.bin .eql) (.slot 10) (.lit (.int .i64 9))) (.lit (.bool false))) (.n2 (.bin .eql) (.slot 11) (.lit (.int .i64 0))) (.lit (.bool false))) (.n2 (.bin .eql) (.slot 12) (.lit (.int .i64 7))) (.lit (.bool false))) (.n2 (.bin .eql) (.slot 13) (.lit (.int .i64 0))) (.lit (.bool false))) (.n2 (.bin .eql) (.slot 14) (.lit (.int .i64 0))) (.lit (.bool false))) (.n2 (.sbin .eql) (.slot 15) (.lit (str [120]))) (.lit (.bool false))) (.n2 (.bin .eql) (.slot 145) (.lit (.int .i64 0))) (.lit (.bool false))) (.n2 (.bin .eql) (.slot 150) (.lit (.int .i64 1))) (.lit (.bool false))) ::
  .eff (some 155) (.call { callee := .value (.func 18), args := #[.tmp 154, .const (.int .i64 0), .const (.int .i64 (-1)), .const (str [])], argTypes := #[24, 3, 3, 9] }) 26 [(154, .slot 1)] (some (.n3 .pick (.n3 .pick (.n3 .pick (.n3 .pick (.n3 .pick (.n3 .pick (.n3 .pick (.n3 .pick (.n3 .pick (.n3 .pick (.n3 .pick (.n3 .pick (.n3 .pick (.n3 .pick (.n2 (.bin .eql) (.slot 2) (.lit (.int .i64 0))) (.n2 (.bin .eql) (.slot 3) (.lit (.int .i64 0))) (.lit (.bool false))) (.n2 (.bin .eql) (.slot 4) (.lit (.int .i64 0))) (.lit (.bool false))) (.n2 (.bin .eql) (.slot 6) (.lit (.int .i64 8))) (.lit (.bool false))) (.slot 7) (.lit (.bool false))) (.n2 (.bin .eql) (.slot 9) (.lit (.int .i64 0))) (.lit (.bool false))) (.n2 (.sbin .eql) (.slot 8) (.lit (str [104, 101, 108, 108, 111, 121]))) (.lit (.bool false))) (.n2 (.bin .eql) (.slot 10) (.lit (.int .i64 9))) (.lit (.bool false))) (.n2 (.bin .eql) (.slot 11) (.lit (.int .i64 0))) (.lit (.bool false))) (.n2 (.bin .eql) (.slot 12) (.lit (.int .i64 7))) (.lit (.bool false))) (.n2 (.bin .eql) (.slot 13) (.lit (.int .i64 0))) (.lit (.bool false))) (.n2 (.bin .eql) (.slot 14) (.lit (.int .i64 0))) (.lit (.bool false))) (.n2 (.sbin .eql) (.slot 15) (.lit (str [120]))) (.lit (.bool false))) (.n2 (.bin .eql) (.slot 145) (.lit (.int .i64 0))) (.lit (.bool false))) (.n2 (.bin .eql) (.slot 150) (.lit (.int .i64 1))) (.lit (.bool false)), true)) [] ::
  l16_9
def l16_11 : List HS :=
  .need (.gif (.n3 .pick (.n3 .pick (.n3 .pick (.n3 .pick (.n3 .pick (.n3 .pick (.n3 .pick (.n3 .pick (.n3 .pick (.n3 .pick (.n3 .pick (.n3 .pick (.n2 (.bin .eql) (.slot 2) (.lit (.int .i64 0))) (.n2 (.bin .eql) (.slot 3) (.lit (.int .i64 0))) (.lit (.bool false))) (.n2 (.bin .eql) (.slot 4) (.lit (.int .i64 0))) (.lit (.bool false))) (.n2 (.bin .eql) (.slot 6) (.lit (.int .i64 8))) (.lit (.bool false))) (.slot 7) (.lit (.bool false))) (.n2 (.bin .eql) (.slot 9) (.lit (.int .i64 0))) (.lit (.bool false))) (.n2 (.sbin .eql) (.slot 8) (.lit (str [104, 101, 108, 108, 111, 121]))) (.lit (.bool false))) (.n2 (.bin .eql) (.slot 10) (.lit (.int .i64 9))) (.lit (.bool false))) (.n2 (.bin .eql) (.slot 11) (.lit (.int .i64 0))) (.lit (.bool false))) (.n2 (.bin .eql) (.slot 12) (.lit (.int .i64 7))) (.lit (.bool false))) (.n2 (.bin .eql) (.slot 13) (.lit (.int .i64 0))) (.lit (.bool false))) (.n2 (.bin .eql) (.slot 14) (.lit (.int .i64 0))) (.lit (.bool false))) (.n2 (.sbin .eql) (.slot 15) (.lit (str [120]))) (.lit (.bool false))) true (.n2 (.bin .eql) (.slot 145) (.lit (.int .i64 0)))) ::
  .need (.n3 .pick (.n3 .pick (.n3 .pick (.n3 .pick (.n3 .pick (.n3 .pick (.n3 .pick (.n3 .pick (.n3 .pick (.n3 .pick (.n3 .pick (.n3 .pick (.n3 .pick (.n2 (.bin .eql) (.slot 2) (.lit (.int .i64 0))) (.n2 (.bin .eql) (.slot 3) (.lit (.int .i64 0))) (.lit (.bool false))) (.n2 (.bin .eql) (.slot 4) (.lit (.int .i64 0))) (.lit (.bool false))) (.n2 (.bin .eql) (.slot 6) (.lit (.int .i64 8))) (.lit (.bool false))) (.slot 7) (.lit (.bool false))) (.n2 (.bin .eql) (.slot 9) (.lit (.int .i64 0))) (.lit (.bool false))) (.n2 (.sbin .eql) (.slot 8) (.lit (str [104, 101, 108, 108, 111, 121]))) (.lit (.bool false))) (.n2 (.bin .eql) (.slot 10) (.lit (.int .i64 9))) (.lit (.bool false))) (.n2 (.bin .eql) (.slot 11) (.lit (.int .i64 0))) (.lit (.bool false))) (.n2 (.bin .eql) (.slot 12) (.lit (.int .i64 7))) (.lit (.bool false))) (.n2 (.bin .eql) (.slot 13) (.lit (.int .i64 0))) (.lit (.bool false))) (.n2 (.bin .eql) (.slot 14) (.lit (.int .i64 0))) (.lit (.bool false))) (.n2 (.sbin .eql) (.slot 15) (.lit (str [120]))) (.lit (.bool false))) (.n2 (.bin .eql) (.slot 145) (.lit (.int .i64 0))) (.lit (.bool false))) ::
  .eff (some 150) (.call { callee := .value (.func 18), args := #[.tmp 149, .const (.int .i64 12), .const (.int .i64 0), .const (str [])], argTypes := #[24, 3, 3, 9] }) 26 [(149, .slot 1)] (some (.n3 .pick (.n3 .pick (.n3 .pick (.n3 .pick (.n3 .pick (.n3 .pick (.n3 .pick (.n3 .pick (.n3 .pick (.n3 .pick (.n3 .pick (.n3 .pick (.n3 .pick (.n2 (.bin .eql) (.slot 2) (.lit (.int .i64 0))) (.n2 (.bin .eql) (.slot 3) (.lit (.int .i64 0))) (.lit (.bool false))) (.n2 (.bin .eql) (.slot 4) (.lit (.int .i64 0))) (.lit (.bool false))) (.n2 (.bin .eql) (.slot 6) (.lit (.int .i64 8))) (.lit (.bool false))) (.slot 7) (.lit (.bool false))) (.n2 (.bin .eql) (.slot 9) (.lit (.int .i64 0))) (.lit (.bool false))) (.n2 (.sbin .eql) (.slot 8) (.lit (str [104, 101, 108, 108, 111, 121]))) (.lit (.bool false))) (.n2 (.bin .eql) (.slot 10) (.lit (.int .i64 9))) (.lit (.bool false))) (.n2 (.bin .eql) (.slot 11) (.lit (.int .i64 0))) (.lit (.bool false))) (.n2 (.bin .eql) (.slot 12) (.lit (.int .i64 7))) (.lit (.bool false))) (.n2 (.bin .eql) (.slot 13) (.lit (.int .i64 0))) (.lit (.bool false))) (.n2 (.bin .eql) (.slot 14) (.lit (.int .i64 0))) (.lit (.bool false))) (.n2 (.sbin .eql) (.slot 15) (.lit (str [120]))) (.lit (.bool false))) (.n2 (.bin .eql) (.slot 145) (.lit (.int .i64 0))) (.lit (.bool false)), true)) [] ::
  l16_10
def h16_7 : HC :=
  (.seq
  (.reg (.need (.n2 (.bin .eql) (.slot 2) (.lit (.int .i64 0))) ::
    .need (.gif (.n2 (.bin .eql) (.slot 2) (.lit (.int .i64 0))) true (.n2 (.bin .eql) (.slot 3) (.lit (.int .i64 0)))) ::
    .need (.n3 .pick (.n2 (.bin .eql) (.slot 2) (.lit (.int .i64 0))) (.n2 (.bin .eql) (.slot 3) (.lit (.int .i64 0))) (.lit (.bool false))) ::
    .need (.gif (.n3 .pick (.n2 (.bin .eql) (.slot 2) (.lit (.int .i64 0))) (.n2 (.bin .eql) (.slot 3) (.lit (.int .i64 0))) (.lit (.bool false))) true (.n2 (.bin .eql) (.slot 4) (.lit (.int .i64 0)))) ::
    .need (.n3 .pick (.n3 .pick (.n2 (.bin .eql) (.slot 2) (.lit (.int .i64 0))) (.n2 (.bin .eql) (.slot 3) (.lit (.int .i64 0))) (.lit (.bool false))) (.n2 (.bin .eql) (.slot 4) (.lit (.int .i64 0))) (.lit (.bool false))) ::
    .need (.gif (.n3 .pick (.n3 .pick (.n2 (.bin .eql) (.slot 2) (.lit (.int .i64 0))) (.n2 (.bin .eql) (.slot 3) (.lit (.int .i64 0))) (.lit (.bool false))) (.n2 (.bin .eql) (.slot 4) (.lit (.int .i64 0))) (.lit (.bool false))) true (.n2 (.bin .eql) (.slot 6) (.lit (.int .i64 8)))) ::
    .need (.n3 .pick (.n3 .pick (.n3 .pick (.n2 (.bin .eql) (.slot 2) (.lit (.int .i64 0))) (.n2 (.bin .eql) (.slot 3) (.lit (.int .i64 0))) (.lit (.bool false))) (.n2 (.bin .eql) (.slot 4) (.lit (.int .i64 0))) (.lit (.bool false))) (.n2 (.bin .eql) (.slot 6) (.lit (.int .i64 8))) (.lit (.bool false))) ::
    .need (.n3 .pick (.n3 .pick (.n3 .pick (.n3 .pick (.n2 (.bin .eql) (.slot 2) (.lit (.int .i64 0))) (.n2 (.bin .eql) (.slot 3) (.lit (.int .i64 0))) (.lit (.bool false))) (.n2 (.bin .eql) (.slot 4) (.lit (.int .i64 0))) (.lit (.bool false))) (.n2 (.bin .eql) (.slot 6) (.lit (.int .i64 8))) (.lit (.bool false))) (.slot 7) (.lit (.bool false))) ::
    .need (.gif (.n3 .pick (.n3 .pick (.n3 .pick (.n3 .pick (.n2 (.bin .eql) (.slot 2) (.lit (.int .i64 0))) (.n2 (.bin .eql) (.slot 3) (.lit (.int .i64 0))) (.lit (.bool false))) (.n2 (.bin .eql) (.slot 4) (.lit (.int .i64 0))) (.lit (.bool false))) (.n2 (.bin .eql) (.slot 6) (.lit (.int .i64 8))) (.lit (.bool false))) (.slot 7) (.lit (.bool false))) true (.n2 (.bin .eql) (.slot 9) (.lit (.int .i64 0)))) ::
    .need (.n3 .pick (.n3 .pick (.n3 .pick (.n3 .pick (.n3 .pick (.n2 (.bin .eql) (.slot 2) (.lit (.int .i64 0))) (.n2 (.bin .eql) (.slot 3) (.lit (.int .i64 0))) (.lit (.bool false))) (.n2 (.bin .eql) (.slot 4) (.lit (.int .i64 0))) (.lit (.bool false))) (.n2 (.bin .eql) (.slot 6) (.lit (.int .i64 8))) (.lit (.bool false))) (.slot 7) (.lit (.bool false))) (.n2 (.bin .eql) (.slot 9) (.lit (.int .i64 0))) (.lit (.bool false))) ::
    .need (.gif (.n3 .pick (.n3 .pick (.n3 .pick (.n3 .pick (.n3 .pick (.n2 (.bin .eql) (.slot 2) (.lit (.int .i64 0))) (.n2 (.bin .eql) (.slot 3) (.lit (.int .i64 0))) (.lit (.bool false))) (.n2 (.bin .eql) (.slot 4) (.lit (.int .i64 0))) (.lit (.bool false))) (.n2 (.bin .eql) (.slot 6) (.lit (.int .i64 8))) (.lit (.bool false))) (.slot 7) (.lit (.bool false))) (.n2 (.bin .eql) (.slot 9) (.lit (.int .i64 0))) (.lit (.bool false))) true (.n2 (.sbin .eql) (.slot 8) (.lit (str [104, 101, 108, 108, 111, 121])))) ::
    .need (.n3 .pick (.n3 .pick (.n3 .pick (.n3 .pick (.n3 .pick (.n3 .pick (.n2 (.bin .eql) (.slot 2) (.lit (.int .i64 0))) (.n2 (.bin .eql) (.slot 3) (.lit (.int .i64 0))) (.lit (.bool false))) (.n2 (.bin .eql) (.slot 4) (.lit (.int .i64 0))) (.lit (.bool false))) (.n2 (.bin .eql) (.slot 6) (.lit (.int .i64 8))) (.lit (.bool false))) (.slot 7) (.lit (.bool false))) (.n2 (.bin .eql) (.slot 9) (.lit (.int .i64 0))) (.lit (.bool false))) (.n2 (.sbin .eql) (.slot 8) (.lit (str [104, 101, 108, 108, 111, 121]))) (.lit (.bool false))) ::
    .need (.gif (.n3 .pick (.n3 .pick (.n3 .pick (.n3 .pick (.n3 .pick (.n3 .pick (.n2 (.bin .eql) (.slot 2) (.lit (.int .i64 0))) (.n2 (.bin .eql) (.slot 3) (.lit (.int .i64 0))) (.lit (.bool false))) (.n2 (.bin .eql) (.slot 4) (.lit (.int .i64 0))) (.lit (.bool false))) (.n2 (.bin .eql) (.slot 6) (.lit (.int .i64 8))) (.lit (.bool false))) (.slot 7) (.lit (.bool false))) (.n2 (.bin .eql) (.slot 9) (.lit (.int .i64 0))) (.lit (.bool false))) (.n2 (.sbin .eql) (.slot 8) (.lit (str [104, 101, 108, 108, 111, 121]))) (.lit (.bool false))) true (.n2 (.bin .eql) (.slot 10) (.lit (.int .i64 9)))) ::
    .need (.n3 .pick (.n3 .pick (.n3 .pick (.n3 .pick (.n3 .pick (.n3 .pick (.n3 .pick (.n2 (.bin .eql) (.slot 2) (.lit (.int .i64 0))) (.n2 (.bin .eql) (.slot 3) (.lit (.int .i64 0))) (.lit (.bool false))) (.n2 (.bin .eql) (.slot 4) (.lit (.int .i64 0))) (.lit (.bool false))) (.n2 (.bin .eql) (.slot 6) (.lit (.int .i64 8))) (.lit (.bool false))) (.slot 7) (.lit (.bool false))) (.n2 (.bin .eql) (.slot 9) (.lit (.int .i64 0))) (.lit (.bool false))) (.n2 (.sbin .eql) (.slot 8) (.lit (str [104, 101, 108, 108, 111, 121]))) (.lit (.bool false))) (.n2 (.bin .eql) (.slot 10) (.lit (.int .i64 9))) (.lit (.bool false))) ::
    .need (.gif (.n3 .pick (.n3 .pick (.n3 .pick (.n3 .pick (.n3 .pick (.n3 .pick (.n3 .pick (.n2 (.bin .eql) (.slot 2) (.lit (.int .i64 0))) (.n2 (.bin .eql) (.slot 3) (.lit (.int .i64 0))) (.lit (.bool false))) (.n2 (.bin .eql) (.slot 4) (.lit (.int .i64 0))) (.lit (.bool false))) (.n2 (.bin .eql) (.slot 6) (.lit (.int .i64 8))) (.lit (.bool false))) (.slot 7) (.lit (.bool false))) (.n2 (.bin .eql) (.slot 9) (.lit (.int .i64 0))) (.lit (.bool false))) (.n2 (.sbin .eql) (.slot 8) (.lit (str [104, 101, 108, 108, 111, 121]))) (.lit (.bool false))) (.n2 (.bin .eql) (.slot 10) (.lit (.int .i64 9))) (.lit (.bool false))) true (.n2 (.bin .eql) (.slot 11) (.lit (.int .i64 0)))) ::
    .need (.n3 .pick (.n3 .pick (.n3 .pick (.n3 .pick (.n3 .pick (.n3 .pick (.n3 .pick (.n3 .pick (.n2 (.bin .eql) (.slot 2) (.lit (.int .i64 0))) (.n2 (.bin .eql) (.slot 3) (.lit (.int .i64 0))) (.lit (.bool false))) (.n2 (.bin .eql) (.slot 4) (.lit (.int .i64 0))) (.lit (.bool false))) (.n2 (.bin .eql) (.slot 6) (.lit (.int .i64 8))) (.lit (.bool false))) (.slot 7) (.lit (.bool false))) (.n2 (.bin .eql) (.slot 9) (.lit (.int .i64 0))) (.lit (.bool false))) (.n2 (.sbin .eql) (.slot 8) (.lit (str [104, 101, 108, 108, 111, 121]))) (.lit (.bool false))) (.n2 (.bin .eql) (.slot 10) (.lit (.int .i64 9))) (.lit (.bool false))) (.n2 (.bin .eql) (.slot 11) (.lit (.int .i64 0))) (.lit (.bool false))) ::
    .need (.gif (.n3 .pick (.n3 .pick (.n3 .pick (.n3 .pick (.n3 .pick (.n3 .pick (.n3 .pick (.n3 .pick (.n2 (.bin .eql) (.slot 2) (.lit (.int .i64 0))) (.n2 (.bin .eql) (.slot 3) (.lit (.int .i64 0))) (.lit (.bool false))) (.n2 (.bin .eql) (.slot 4) (.lit (.int .i64 0))) (.lit (.bool false))) (.n2 (.bin .eql) (.slot 6) (.lit (.int .i64 8))) (.lit (.bool false))) (.slot 7) (.lit (.bool false))) (.n2 (.bin .eql) (.slot 9) (.lit (.int .i64 0))) (.lit (.bool false))) (.n2 (.sbin .eql) (.slot 8) (.lit (str [104, 101, 108, 108, 111, 121]))) (.lit (.bool false))) (.n2 (.bin .eql) (.slot 10) (.lit (.int .i64 9))) (.lit (.bool false))) (.n2 (.bin .eql) (.slot 11) (.lit (.int .i64 0))) (.lit (.bool false))) true (.n2 (.bin .eql) (.slot 12) (.lit (.int .i64 7)))) ::
    .need (.n3 .pick (.n3 .pick (.n3 .pick (.n3 .pick (.n3 .pick (.n3 .pick (.n3 .pick (.n3 .pick (.n3 .pick (.n2 (.bin .eql) (.slot 2) (.lit (.int .i64 0))) (.n2 (.bin .eql) (.slot 3) (.lit (.int .i64 0))) (.lit (.bool false))) (.n2 (.bin .eql) (.slot 4) (.lit (.int .i64 0))) (.lit (.bool false))) (.n2 (.bin .eql) (.slot 6) (.lit (.int .i64 8))) (.lit (.bool false))) (.slot 7) (.lit (.bool false))) (.n2 (.bin .eql) (.slot 9) (.lit (.int .i64 0))) (.lit (.bool false))) (.n2 (.sbin .eql) (.slot 8) (.lit (str [104, 101, 108, 108, 111, 121]))) (.lit (.bool false))) (.n2 (.bin .eql) (.slot 10) (.lit (.int .i64 9))) (.lit (.bool false))) (.n2 (.bin .eql) (.slot 11) (.lit (.int .i64 0))) (.lit (.bool false))) (.n2 (.bin .eql) (.slot 12) (.lit (.int .i64 7))) (.lit (.bool false))) ::
    .need (.gif (.n3 .pick (.n3 .pick (.n3 .pick (.n3 .pick (.n3 .pick (.n3 .pick (.n3 .pick (.n3 .pick (.n3 .pick (.n2 (.bin .eql) (.slot 2) (.lit (.int .i64 0))) (.n2 (.bin .eql) (.slot 3) (.lit (.int .i64 0))) (.lit (.bool false))) (.n2 (.bin .eql) (.slot 4) (.lit (.int .i64 0))) (.lit (.bool false))) (.n2 (.bin .eql) (.slot 6) (.lit (.int .i64 8))) (.lit (.bool false))) (.slot 7) (.lit (.bool false))) (.n2 (.bin .eql) (.slot 9) (.lit (.int .i64 0))) (.lit (.bool false))) (.n2 (.sbin .eql) (.slot 8) (.lit (str [104, 101, 108, 108, 111, 121]))) (.lit (.bool false))) (.n2 (.bin .eql) (.slot 10) (.lit (.int .i64 9))) (.lit (.bool false))) (.n2 (.bin .eql) (.slot 11) (.lit (.int .i64 0))) (.lit (.bool false))) (.n2 (.bin .eql) (.slot 12) (.lit (.int .i64 7))) (.lit (.bool false))) true (.n2 (.bin .eql) (.slot 13) (.lit (.int .i64 0)))) ::
    .need (.n3 .pick (.n3 .pick (.n3 .pick (.n3 .pick (.n3 .pick (.n3 .pick (.n3 .pick (.n3 .pick (.n3 .pick (.n3 .pick (.n2 (.bin .eql) (.slot 2) (.lit (.int .i64 0))) (.n2 (.bin .eql) (.slot 3) (.lit (.int .i64 0))) (.lit (.bool false))) (.n2 (.bin .eql) (.slot 4) (.lit (.int .i64 0))) (.lit (.bool false))) (.n2 (.bin .eql) (.slot 6) (.lit (.int .i64 8))) (.lit (.bool false))) (.slot 7) (.lit (.bool false))) (.n2 (.bin .eql) (.slot 9) (.lit (.int .i64 0))) (.lit (.bool false))) (.n2 (.sbin .eql) (.slot 8) (.lit (str [104, 101, 108, 108, 111, 121]))) (.lit (.bool false))) (.n2 (.bin .eql) (.slot 10) (.lit (.int .i64 9))) (.lit (.bool false))) (.n2 (.bin .eql) (.slot 11) (.lit (.int .i64 0))) (.lit (.bool false))) (.n2 (.bin .eql) (.slot 12) (.lit (.int .i64 7))) (.lit (.bool false))) (.n2 (.bin .eql) (.slot 13) (.lit (.int .i64 0))) (.lit (.bool false))) ::
    .need (.gif (.n3 .pick (.n3 .pick (.n3 .pick (.n3 .pick (.n3 .pick (.n3 .pick (.n3 .pick (.n3 .pick (.n3 .pick (.n3 .pick (.n2 (.bin .eql) (.slot 2) (.lit (.int .i64 0))) (.n2 (.bin .eql) (.slot 3) (.lit (.int .i64 0))) (.lit (.bool false))) (.n2 (.bin .eql) (.slot 4) (.lit (.int .i64 0))) (.lit (.bool false))) (.n2 (.bin .eql) (.slot 6) (.lit (.int .i64 8))) (.lit (.bool false))) (.slot 7) (.lit (.bool false))) (.n2 (.bin .eql) (.slot 9) (.lit (.int .i64 0))) (.lit (.bool false))) (.n2 (.sbin .eql) (.slot 8) (.lit (str [104, 101, 108, 108, 111, 121]))) (.lit (.bool false))) (.n2 (.bin .eql) (.slot 10) (.lit (.int .i64 9))) (.lit (.bool false))) (.n2 (.bin .eql) (.slot 11) (.lit (.int .i64 0))) (.lit (.bool false))) (.n2 (.bin .eql) (.slot 12) (.lit (.int .i64 7))) (.lit (.bool false))) (.n2 (.bin .eql) (.slot 13) (.lit (.int .i64 0))) (.lit (.bool false))) true (.n2 (.bin .eql) (.slot 14) (.lit (.int .i64 0)))) ::
    .need (.n3 .pick (.n3 .pick (.n3 .pick (.n3 .pick (.n3 .pick (.n3 .pick (.n3 .pick (.n3 .pick (.n3 .pick (.n3 .pick (.n3 .pick (.n2 (.bin .eql) (.slot 2) (.lit (.int .i64 0))) (.n2 (.bin .eql) (.slot 3) (.lit (.int .i64 0))) (.lit (.bool false))) (.n2 (.bin .eql) (.slot 4) (.lit (.int .i64 0))) (.lit (.bool false))) (.n2 (.bin .eql) (.slot 6) (.lit (.int .i64 8))) (.lit (.bool false))) (.slot 7) (.lit (.bool false))) (.n2 (.bin .eql) (.slot 9) (.lit (.int .i64 0))) (.lit (.bool false))) (.n2 (.sbin .eql) (.slot 8) (.lit (str [104, 101, 108, 108, 111, 121]))) (.lit (.bool false))) (.n2 (.bin .eql) (.slot 10) (.lit (.int .i64 9))) (.lit (.bool false))) (.n2 (.bin .eql) (.slot 11) (.lit (.int .i64 0))) (.lit (.bool false))) (.n2 (.bin .eql) (.slot 12) (.lit (.int .i64 7))) (.lit (.bool false))) (.n2 (.bin .eql) (.slot 13) (.lit (.int .i64 0))) (.lit (.bool false))) (.n2 (.bin .eql) (.slot 14) (.lit (.int .i64 0))) (.lit (.bool false))) ::
    .need (.gif (.n3 .pick (.n3 .pick (.n3 .pick (.n3 .pick (.n3 .pick (.n3 .pick (.n3 .pick (.n3 .pick (.n3 .pick (.n3 .pick (.n3 .pick (.n2 (.bin .eql) (.slot 2) (.lit (.int .i64 0))) (.n2 (.bin .eql) (.slot 3) (.lit (.int .i64 0))) (.lit (.bool false))) (.n2 (.bin .eql) (.slot 4) (.lit (.int .i64 0))) (.lit (.bool false))) (.n2 (.bin .eql) (.slot 6) (.lit (.int .i64 8))) (.lit (.bool false))) (.slot 7) (.lit (.bool false))) (.n2 (.bin .eql) (.slot 9) (.lit (.int .i64 0))) (.lit (.bool false))) (.n2 (.sbin .eql) (.slot 8) (.lit (str [104, 101, 108, 108, 111, 121]))) (.lit (.bool false))) (.n2 (.bin .eql) (.slot 10) (.lit (.int .i64 9))) (.lit (.bool false))) (.n2 (.bin .eql) (.slot 11) (.lit (.int .i64 0))) (.lit (.bool false))) (.n2 (.bin .eql) (.slot 12) (.lit (.int .i64 7))) (.lit (.bool false))) (.n2 (.bin .eql) (.slot 13) (.lit (.int .i64 0))) (.lit (.bool false))) (.n2 (.bin .eql) (.slot 14) (.lit (.int .i64 0))) (.lit (.bool false))) true (.n2 (.sbin .eql) (.slot 15) (.lit (str [120])))) ::
    .need (.n3 .pick (.n3 .pick (.n3 .pick (.n3 .pick (.n3 .pick (.n3 .pick (.n3 .pick (.n3 .pick (.n3 .pick (.n3 .pick (.n3 .pick (.n3 .pick (.n2 (.bin .eql) (.slot 2) (.lit (.int .i64 0))) (.n2 (.bin .eql) (.slot 3) (.lit (.int .i64 0))) (.lit (.bool false))) (.n2 (.bin .eql) (.slot 4) (.lit (.int .i64 0))) (.lit (.bool false))) (.n2 (.bin .eql) (.slot 6) (.lit (.int .i64 8))) (.lit (.bool false))) (.slot 7) (.lit (.bool false))) (.n2 (.bin .eql) (.slot 9) (.lit (.int .i64 0))) (.lit (.bool false))) (.n2 (.sbin .eql) (.slot 8) (.lit (str [104, 101, 108, 108, 111, 121]))) (.lit (.bool false))) (.n2 (.bin .eql) (.slot 10) (.lit (.int .i64 9))) (.lit (.bool false))) (.n2 (.bin .eql) (.slot 11) (.lit (.int .i64 0))) (.lit (.bool false))) (.n2 (.bin .eql) (.slot 12) (.lit (.int .i64 7))) (.lit (.bool false))) (.n2 (.bin .eql) (.slot 13) (.lit (.int .i64 0))) (.lit (.bool false))) (.n2 (.bin .eql) (.slot 14) (.lit (.int .i64 0))) (.lit (.bool false))) (.n2 (.sbin .eql) (.slot 15) (.lit (str [120]))) (.lit (.bool false))) ::
    .eff (some 145) (.call { callee := .value (.func 24), args := #[.tmp 144, .const (.int .i64 2)], argTypes := #[24, 3] }) 3 [(144, .slot 1)] (some (.n3 .pick (.n3 .pick (.n3 .pick (.n3 .pick (.n3 .pick (.n3 .pick (.n3 .pick (.n3 .pick (.n3 .pick (.n3 .pick (.n3 .pick (.n3 .pick (.n2 (.bin .eql) (.slot 2) (.lit (.int .i64 0))) (.n2 (.bin .eql) (.slot 3) (.lit (.int .i64 0))) (.lit (.bool false))) (.n2 (.bin .eql) (.slot 4) (.lit (.int .i64 0))) (.lit (.bool false))) (.n2 (.bin .eql) (.slot 6) (.lit (.int .i64 8))) (.lit (.bool false))) (.slot 7) (.lit (.bool false))) (.n2 (.bin .eql) (.slot 9) (.lit (.int .i64 0))) (.lit (.bool false))) (.n2 (.sbin .eql) (.slot 8) (.lit (str [104, 101, 108, 108, 111, 121]))) (.lit (.bool false))) (.n2 (.bin .eql) (.slot 10) (.lit (.int .i64 9))) (.lit (.bool false))) (.n2 (.bin .eql) (.slot 11) (.lit (.int .i64 0))) (.lit (.bool false))) (.n2 (.bin .eql) (.slot 12) (.lit (.int .i64 7))) (.lit (.bool false))) (.n2 (.bin .eql) (.slot 13) (.lit (.int .i64 0))) (.lit (.bool false))) (.n2 (.bin .eql) (.slot 14) (.lit (.int .i64 0))) (.lit (.bool false))) (.n2 (.sbin .eql) (.slot 15) (.lit (str [120]))) (.lit (.bool false)), true)) [] ::
    l16_11))
  .ret)
def h16_6 : HC :=
  (.seq
  (.reg [.eff (some 70) (.call { callee := .value (.func 22), args := #[.tmp 69], argTypes := #[24] }) 0 [(69, .slot 1)] none []])
  (.seq
  (.reg [.eff (some 73) (.call { callee := .value (.func 23), args := #[.tmp 72, .const (.int .i64 3)], argTypes := #[24, 3] }) 31 [(72, .slot 1)] none [],
    .need (.n1 (.ext 0) (.slot 73)),
    .need (.n1 (.ext 1) (.slot 73)),
    .asg 17 (.n1 (.ext 0) (.slot 73))])
  (.seq
  (.seq
  (.reg [.need (.n1 .lens (.slot 17)),
    .need (.n2 (.bin .neq) (.n1 .lens (.slot 17)) (.lit (.int .i64 66))),
    .need (.gif (.n2 (.bin .neq) (.n1 .lens (.slot 17)) (.lit (.int .i64 66))) false (.n3 (.sls true false) (.slot 17) (.lit (.int .i64 64)) (.lit (.tuple #[])))),
    .need (.gif (.n2 (.bin .neq) (.n1 .lens (.slot 17)) (.lit (.int .i64 66))) false (.n2 (.sbin .neq) (.n3 (.sls true false) (.slot 17) (.lit (.int .i64 64)) (.lit (.tuple #[]))) (.lit (str [99, 100])))),
    .need (.n3 .pick (.n2 (.bin .neq) (.n1 .lens (.slot 17)) (.lit (.int .i64 66))) (.lit (.bool true)) (.n2 (.sbin .neq) (.n3 (.sls true false) (.slot 17) (.lit (.int .i64 64)) (.lit (.tuple #[]))) (.lit (str [99, 100])))),
    .need (.gif (.n3 .pick (.n2 (.bin .neq) (.n1 .lens (.slot 17)) (.lit (.int .i64 66))) (.lit (.bool true)) (.n2 (.sbin .neq) (.n3 (.sls true false) (.slot 17) (.lit (.int .i64 64)) (.lit (.tuple #[]))) (.lit (str [99, 100])))) false (.n2 .idxs (.slot 17) (.lit (.int .i64 0)))),
    .need (.gif (.n3 .pick (.n2 (.bin .neq) (.n1 .lens (.slot 17)) (.lit (.int .i64 66))) (.lit (.bool true)) (.n2 (.sbin .neq) (.n3 (.sls true false) (.slot 17) (.lit (.int .i64 64)) (.lit (.tuple #[]))) (.lit (str [99, 100])))) false (.n2 (.bin .neq) (.n2 .idxs (.slot 17) (.lit (.int .i64 0))) (.lit (.int .u8 0)))),
    .need (.n3 .pick (.n3 .pick (.n2 (.bin .neq) (.n1 .lens (.slot 17)) (.lit (.int .i64 66))) (.lit (.bool true)) (.n2 (.sbin .neq) (.n3 (.sls true false) (.slot 17) (.lit (.int .i64 64)) (.lit (.tuple #[]))) (.lit (str [99, 100])))) (.lit (.bool true)) (.n2 (.bin .neq) (.n2 .idxs (.slot 17) (.lit (.int .i64 0))) (.lit (.int .u8 0)))),
    .need (.gif (.n3 .pick (.n3 .pick (.n2 (.bin .neq) (.n1 .lens (.slot 17)) (.lit (.int .i64 66))) (.lit (.bool true)) (.n2 (.sbin .neq) (.n3 (.sls true false) (.slot 17) (.lit (.int .i64 64)) (.lit (.tuple #[]))) (.lit (str [99, 100])))) (.lit (.bool true)) (.n2 (.bin .neq) (.n2 .idxs (.slot 17) (.lit (.int .i64 0))) (.lit (.int .u8 0)))) false (.n2 .idxs (.slot 17) (.lit (.int .i64 63)))),
    .need (.gif (.n3 .pick (.n3 .pick (.n2 (.bin .neq) (.n1 .lens (.slot 17)) (.lit (.int .i64 66))) (.lit (.bool true)) (.n2 (.sbin .neq) (.n3 (.sls true false) (.slot 17) (.lit (.int .i64 64)) (.lit (.tuple #[]))) (.lit (str [99, 100])))) (.lit (.bool true)) (.n2 (.bin .neq) (.n2 .idxs (.slot 17) (.lit (.int .i64 0))) (.lit (.int .u8 0)))) false (.n2 (.bin .neq) (.n2 .idxs (.slot 17) (.lit (.int .i64 63))) (.lit (.int .u8 0)))),
    .need (.n3 .pick (.n3 .pick (.n3 .pick (.n2 (.bin .neq) (.n1 .lens (.slot 17)) (.lit (.int .i64 66))) (.lit (.bool true)) (.n2 (.sbin .neq) (.n3 (.sls true false) (.slot 17) (.lit (.int .i64 64)) (.lit (.tuple #[]))) (.lit (str [99, 100])))) (.lit (.bool true)) (.n2 (.bin .neq) (.n2 .idxs (.slot 17) (.lit (.int .i64 0))) (.lit (.int .u8 0)))) (.lit (.bool true)) (.n2 (.bin .neq) (.n2 .idxs (.slot 17) (.lit (.int .i64 63))) (.lit (.int .u8 0)))),
    .asg 93 (.n3 .pick (.n3 .pick (.n3 .pick (.n2 (.bin .neq) (.n1 .lens (.slot 17)) (.lit (.int .i64 66))) (.lit (.bool true)) (.n2 (.sbin .neq) (.n3 (.sls true false) (.slot 17) (.lit (.int .i64 64)) (.lit (.tuple #[]))) (.lit (str [99, 100])))) (.lit (.bool true)) (.n2 (.bin .neq) (.n2 .idxs (.slot 17) (.lit (.int .i64 0))) (.lit (.int .u8 0)))) (.lit (.bool true)) (.n2 (.bin .neq) (.n2 .idxs (.slot 17) (.lit (.int .i64 63))) (.lit (.int .u8 0))))])
  (.cond (.slot 93)
    (.seq
    (.reg [.asg 0 (.lit (.bool false))])
    .ret)
    .skip))
  h16_7)))
def h16_5 : HC :=
  (.seq
  (.reg [.eff (some 61) (.call { callee := .value (.func 23), args := #[.tmp 60, .const (.int .i64 1)], argTypes := #[24, 3] }) 31 [(60, .slot 1)] none [],
    .need (.n1 (.ext 0) (.slot 61)),
    .need (.n1 (.ext 1) (.slot 61)),
    .asg 15 (.n1 (.ext 0) (.slot 61))])
  (.seq
  (.reg [.eff (some 65) (.call { callee := .value (.func 18), args := #[.tmp 64, .const (.int .i64 3), .const (.int .i64 62), .const (str [97, 98, 99, 100])], argTypes := #[24, 3, 3, 9] }) 26 [(64, .slot 1)] none []])
  (.seq
  (.reg [.eff (some 67) (.buildSlice 22 2 #[(0, .const (.int .i64 0)), (1, .const (.int .i64 1))]) 22 [] none [],
    .eff (some 68) (.call { callee := .value (.func 21), args := #[.tmp 66, .tmp 67], argTypes := #[24, 22] }) 0 [(66, .slot 1), (67, .slot 67)] none []])
  h16_6)))
def h16_4 : HC :=
  (.seq
  (.reg [.eff (some 52) (.call { callee := .value (.func 18), args := #[.tmp 51, .const (.int .i64 2), .const (.int .i64 0), .const (str [120])], argTypes := #[24, 3, 3, 9] }) 26 [(51, .slot 1)] none [],
    .asg 11 (.slot 52)])
  (.seq
  (.reg [.eff (some 54) (.call { callee := .value (.func 20), args := #[.tmp 53, .const (.int .i64 1), .const (.int .i64 2)], argTypes := #[24, 3, 3] }) 26 [(53, .slot 1)] none [],
    .asg 12 (.slot 54)])
  (.seq
  (.reg [.eff (some 56) (.call { callee := .value (.func 19), args := #[.tmp 55, .const (.int .i64 2)], argTypes := #[24, 3] }) 26 [(55, .slot 1)] none [],
    .asg 13 (.slot 56)])
  (.seq
  (.reg [.eff (some 58) (.call { callee := .value (.func 20), args := #[.tmp 57, .const (.int .i64 1), .const (.int .i64 2)], argTypes := #[24, 3, 3] }) 26 [(57, .slot 1)] none [],
    .asg 14 (.slot 58)])
  h16_5))))
def h16_3 : HC :=
  (.seq
  (.reg [.eff (some 41) (.call { callee := .value (.func 22), args := #[.tmp 40], argTypes := #[24] }) 0 [(40, .slot 1)] none []])
  (.seq
  (.reg [.eff (some 44) (.call { callee := .value (.func 23), args := #[.tmp 43, .const (.int .i64 1)], argTypes := #[24, 3] }) 31 [(43, .slot 1)] none [],
    .need (.n1 (.ext 0) (.slot 44)),
    .need (.n1 (.ext 1) (.slot 44)),
    .asg 8 (.n1 (.ext 0) (.slot 44)),
    .asg 9 (.n1 (.ext 1) (.slot 44))])
  (.seq
  (.reg [.eff (some 48) (.call { callee := .value (.func 33), args := #[.tmp 47, .const (.int .i64 1)], argTypes := #[24, 3] }) 0 [(47, .slot 1)] none []])
  (.seq
  (.reg [.eff (some 50) (.call { callee := .value (.func 19), args := #[.tmp 49, .const (.int .i64 1)], argTypes := #[24, 3] }) 26 [(49, .slot 1)] none [],
    .asg 10 (.slot 50)])
  h16_4))))
def h16_2 : HC :=
  (.seq
  (.reg [.eff (some 31) (.buildSlice 22 1 #[(0, .const (.int .i64 1))]) 22 [] none [],
    .eff (some 32) (.call { callee := .value (.func 21), args := #[.tmp 30, .tmp 31], argTypes := #[24, 22] }) 0 [(30, .slot 1), (31, .slot 31)] none []])
  (.seq
  (.reg [.eff (some 35) (.call { callee := .value (.func 23), args := #[.tmp 34, .const (.int .i64 1)], argTypes := #[24, 3] }) 31 [(34, .slot 1)] none [],
    .need (.n1 (.ext 0) (.slot 35)),
    .need (.n1 (.ext 1) (.slot 35)),
    .asg 6 (.n1 (.ext 1) (.slot 35))])
  (.seq
  (.reg [.eff (some 39) (.call { callee := .value (.func 27), args := #[.tmp 38], argTypes := #[24] }) 4 [(38, .slot 1)] none [],
    .asg 7 (.slot 39)])
  h16_3)))
def h16_1 : HC :=
  (.seq
  (.reg [.eff (some 23) (.call { callee := .value (.func 18), args := #[.tmp 22, .const (.int .i64 1), .const (.int .i64 0), .const (str [104, 101, 108, 108, 111])], argTypes := #[24, 3, 3, 9] }) 26 [(22, .slot 1)] none [],
    .asg 2 (.slot 23)])
  (.seq
  (.reg [.eff (some 25) (.call { callee := .value (.func 19), args := #[.tmp 24, .const (.int .i64 1)], argTypes := #[24, 3] }) 26 [(24, .slot 1)] none [],
    .asg 3 (.slot 25)])
  (.seq
  (.reg [.eff (some 27) (.call { callee := .value (.func 18), args := #[.tmp 26, .const (.int .i64 1), .const (.int .i64 5), .const (str [121])], argTypes := #[24, 3, 3, 9] }) 26 [(26, .slot 1)] none [],
    .asg 4 (.slot 27)])
  (.seq
  (.reg [.eff (some 29) (.call { callee := .value (.func 18), args := #[.tmp 28, .const (.int .i64 1), .const (.int .i64 8), .const (str [122])], argTypes := #[24, 3, 3, 9] }) 26 [(28, .slot 1)] none []])
  h16_2))))
def h16 : HC :=
  (.seq
  (.reg [.asg 0 (.lit (.bool false))])
  (.seq
  (.reg [.eff (some 19) (.call { callee := .value (.func 17), args := #[], argTypes := #[] }) 24 [] none [],
    .asg 1 (.slot 19)])
  (.seq
  (.seq
  (.reg [.need (.n2 (.pnil false) (.slot 1) (.lit (.pointer none))),
    .asg 21 (.n2 (.pnil false) (.slot 1) (.lit (.pointer none)))])
  (.cond (.slot 21)
    (.seq
    (.reg [.asg 0 (.lit (.bool false))])
    .ret)
    .skip))
  h16_1)))
theorem k16 : fnOK Try.prog 1508645412680596655534794872566574707186825101279 [] [.tmp 0] 0 Try.f16 = some h16 := by kernel_rfl
theorem c16 : callable Try.prog 16 = true := by kernel_rfl
theorem q16 {args : List Value} (ha : args.length = 0) {w : World} {next : Value → World → Prop} {QP : List PanicEntry → World → Prop} (H : hw Try.prog noPanic h16 (endV [.tmp 0] next) (σ0 args) w) : callK Try.prog 16 args w next QP := fn_rule Try.func16 mixed k16 ha H
theorem r16 {args : List Value} (ha : args.length = 0) {w : World} {next : Value → World → Prop} {QP : List PanicEntry → World → Prop} (H : hw Try.prog noPanic h16 (endV [.tmp 0] next) (σ0 args) w) : callvK Try.prog (.func (.func 16) #[] #[]) args w next QP := callf c16 (q16 ha H)

/- missive/disk.New -/
def h17 : HC :=
  (.seq
  (.reg [.asg 0 (.lit (.pointer none))])
  (.seq
  (.reg [.eff (some 2) (.box 86 (.tmp 1)) 24 [(1, .lit (.agg #[(str []), (str []), (str []), (str []), (str []), (str []), (str []), (str []), (str []), (str []), (str []), (str []), (str []), (str []), (str []), (str []), (str []), (str []), (str []), (str []), (str []), (str []), (str []), (str []), (.slice none 0 0), (.int .i64 0), (.bool false), (.int .i64 0), (.slice none 0 0)]))] none [],
    .asg 0 (.slot 2)])
  .ret))
theorem k17 : fnOK Try.prog 5 [] [.tmp 0] 0 Try.f17 = some h17 := by kernel_rfl
theorem c17 : callable Try.prog 17 = true := by kernel_rfl
theorem q17 {args : List Value} (ha : args.length = 0) {w : World} {next : Value → World → Prop} {QP : List PanicEntry → World → Prop} (H : hw Try.prog noPanic h17 (endV [.tmp 0] next) (σ0 args) w) : callK Try.prog 17 args w next QP := fn_rule Try.func17 mixed k17 ha H
theorem r17 {args : List Value} (ha : args.length = 0) {w : World} {next : Value → World → Prop} {QP : List PanicEntry → World → Prop} (H : hw Try.prog noPanic h17 (endV [.tmp 0] next) (σ0 args) w) : callvK Try.prog (.func (.func 17) #[] #[]) args w next QP := callf c17 (q17 ha H)

/- (*missive/disk.Disk).Write -/
def h18_1 : HC :=
  (.seq
  (.reg [.asg 8 (.slot 10)])
  .ret)
def h18 : HC :=
  (.seq
  (.reg [.asg 8 (.lit (.int .i64 0))])
  (.seq
  (.reg [.eff (some 12) (.call { callee := .value (.func 63), args := #[.tmp 11], argTypes := #[24] }) 4 [(11, .slot 0)] none [],
    .asg 9 (.slot 12)])
  (.seq
  (.reg [.eff (some 17) (.call { callee := .value (.func 64), args := #[.tmp 13, .tmp 14, .tmp 15, .tmp 16], argTypes := #[24, 3, 3, 9] }) 26 [(13, .slot 0), (14, .slot 1), (15, .slot 2), (16, .slot 3)] none [],
    .asg 10 (.slot 17)])
  (.seq
  (.seq
  (.reg [.asg 18 (.slot 9)])
  (.cond (.slot 18)
    (.seq
    (.reg [.need (.n1 .nilchk (.slot 0)),
      .need (.n1 (.faddr 28) (.n1 .nilchk (.slot 0))),
      .need (.n1 .ld (.n1 (.faddr 28) (.n1 .nilchk (.slot 0)))),
      .eff (some 24) (.call { callee := .value (.func 21), args := #[.tmp 19, .tmp 23], argTypes := #[24, 22] }) 0 [(19, .slot 0), (23, .n1 .ld (.n1 (.faddr 28) (.n1 .nilchk (.slot 0))))] none []])
    (.seq
    (.reg [.asg 8 (.lit (.int .i64 8))])
    .ret))
    .skip))
  h18_1))))
theorem k18 : fnOK Try.prog 17176335 [] [.tmp 8] 4 Try.f18 = some h18 := by kernel_rfl
theorem c18 : callable Try.prog 18 = true := by kernel_rfl
theorem q18 {args : List Value} (ha : args.length = 4) {w : World} {next : Value → World → Prop} {QP : List PanicEntry → World → Prop} (H : hw Try.prog noPanic h18 (endV [.tmp 8] next) (σ0 args) w) : callK Try.prog 18 args w next QP := fn_rule Try.func18 mixed k18 ha H
theorem r18 {args : List Value} (ha : args.length = 4) {w : World} {next : Value → World → Prop} {QP : List PanicEntry → World → Prop} (H : hw Try.prog noPanic h18 (endV [.tmp 8] next) (σ0 args) w) : callvK Try.prog (.func (.func 18) #[] #[]) args w next QP := callf c18 (q18 ha H)

/- (*missive/disk.Disk).Flush -/
def h19_3 : HC :=
  (.seq
  (.reg [.need (.n1 .nilchk (.slot 0)),
    .need (.n1 (.faddr 12) (.n1 .nilchk (.slot 0))),
    .need (.n2 (.iaddra 12 1) (.n1 (.faddr 12) (.n1 .nilchk (.slot 0))) (.slot 1)),
    .need (.n1 .ld (.n2 (.iaddra 12 1) (.n1 (.faddr 12) (.n1 .nilchk (.slot 0))) (.slot 1))),
    .eff (some 41) (.call { callee := .value (.func 66), args := #[.tmp 33, .tmp 34, .tmp 40], argTypes := #[24, 3, 9] }) 0 [(33, .slot 0), (34, .slot 1), (40, .n1 .ld (.n2 (.iaddra 12 1) (.n1 (.faddr 12) (.n1 .nilchk (.slot 0))) (.slot 1)))] none []])
  (.seq
  (.reg [.asg 4 (.lit (.int .i64 0))])
  .ret))
def h19_2 : HC :=
  (.seq
  (.seq
  (.reg [.need (.n1 .nilchk (.slot 0)),
    .need (.n1 (.faddr 25) (.n1 .nilchk (.slot 0))),
    .need (.n1 .ld (.n1 (.faddr 25) (.n1 .nilchk (.slot 0)))),
    .need (.n2 (.bin .gtr) (.n1 .ld (.n1 (.faddr 25) (.n1 .nilchk (.slot 0)))) (.lit (.int .i64 0))),
    .asg 25 (.n2 (.bin .gtr) (.n1 .ld (.n1 (.faddr 25) (.n1 .nilchk (.slot 0)))) (.lit (.int .i64 0)))])
  (.cond (.slot 25)
    (.seq
    (.reg [.need (.n1 .nilchk (.slot 0)),
      .need (.n1 (.faddr 25) (.n1 .nilchk (.slot 0))),
      .need (.n1 .ld (.n1 (.faddr 25) (.n1 .nilchk (.slot 0)))),
      .need (.n2 (.bin .sub) (.n1 .ld (.n1 (.faddr 25) (.n1 .nilchk (.slot 0)))) (.lit (.int .i64 1))),
      .need (.n1 .nilchk (.slot 0)),
      .need (.n1 (.faddr 25) (.n1 .nilchk (.slot 0))),
      .eff none (.store 3 (.tmp 32) (.tmp 30)) 0 [(32, .n1 (.faddr 25) (.n1 .nilchk (.slot 0))), (30, .n2 (.bin .sub) (.n1 .ld (.n1 (.faddr 25) (.n1 .nilchk (.slot 0)))) (.lit (.int .i64 1)))] none []])
    (.seq
    (.reg [.asg 4 (.lit (.int .i64 9))])
    .ret))
    .skip))
  h19_3)
def h19_1 : HC :=
  (.seq
  (.seq
  (.reg [.eff (some 16) (.buildSlice 22 1 #[(0, .tmp 15)]) 22 [(15, .slot 1)] none [],
    .eff (some 17) (.call { callee := .value (.func 65), args := #[.tmp 14, .tmp 16], argTypes := #[24, 22] }) 26 [(14, .slot 0), (16, .slot 16)] none [],
    .asg 5 (.slot 17)])
  (.seq
  (.reg [.need (.n2 (.bin .neq) (.slot 5) (.lit (.int .i64 0))),
    .asg 19 (.n2 (.bin .neq) (.slot 5) (.lit (.int .i64 0)))])
  (.cond (.slot 19)
    (.seq
    (.reg [.asg 4 (.slot 5)])
    .ret)
    .skip)))
  h19_2)
def h19 : HC :=
  (.seq
  (.reg [.asg 4 (.lit (.int .i64 0))])
  (.seq
  (.seq
  (.reg [.eff (some 7) (.call { callee := .value (.func 63), args := #[.tmp 6], argTypes := #[24] }) 4 [(6, .slot 0)] none []])
  (.cond (.slot 7)
    (.reg [.need (.n1 .nilchk (.slot 0)),
      .need (.n1 (.faddr 28) (.n1 .nilchk (.slot 0))),
      .need (.n1 .ld (.n1 (.faddr 28) (.n1 .nilchk (.slot 0)))),
      .eff (some 13) (.call { callee := .value (.func 21), args := #[.tmp 8, .tmp 12], argTypes := #[24, 22] }) 0 [(8, .slot 0), (12, .n1 .ld (.n1 (.faddr 28) (.n1 .nilchk (.slot 0))))] none []])
    .skip))
  h19_1))
theorem k19 : fnOK Try.prog 2199057539251 [] [.tmp 4] 2 Try.f19 = some h19 := by kernel_rfl
theorem c19 : callable Try.prog 19 = true := by kernel_rfl
theorem q19 {args : List Value} (ha : args.length = 2) {w : World} {next : Value → World → Prop} {QP : List PanicEntry → World → Prop} (H : hw Try.prog noPanic h19 (endV [.tmp 4] next) (σ0 args) w) : callK Try.prog 19 args w next QP := fn_rule Try.func19 mixed k19 ha H
theorem r19 {args : List Value} (ha : args.length = 2) {w : World} {next : Value → World → Prop} {QP : List PanicEntry → World → Prop} (H : hw Try.prog noPanic h19 (endV [.tmp 4] next) (σ0 args) w) : callvK Try.prog (.func (.func 19) #[] #[]) args w next QP := callf c19 (q19 ha H)

/- (*missive/disk.Disk).Turn -/
def h20_3 : HC :=
  (.seq
  (.draw [.need (.n1 .ld (.slot 5)),
    .need (.n1 .nilchk (.slot 0)),
    .need (.n1 (.faddr 0) (.n1 .nilchk (.slot 0))),
    .need (.n2 (.iaddra 12 1) (.n1 (.faddr 0) (.n1 .nilchk (.slot 0))) (.n1 .ld (.slot 5))),
    .need (.n1 .ld (.n2 (.iaddra 12 1) (.n1 (.faddr 0) (.n1 .nilchk (.slot 0))) (.n1 .ld (.slot 5)))),
    .eff (some 43) (.call { callee := .value (.func 66), args := #[.tmp 35, .tmp 36, .tmp 42], argTypes := #[24, 3, 9] }) 0 [(35, .slot 0), (36, .slot 1), (42, .n1 .ld (.n2 (.iaddra 12 1) (.n1 (.faddr 0) (.n1 .nilchk (.slot 0))) (.n1 .ld (.slot 5))))] none []])
  (.seq
  (.reg [.need (.n1 .ld (.slot 5)),
    .eff (some 46) (.call { callee := .value (.func 66), args := #[.tmp 44, .tmp 45, .const (str [])], argTypes := #[24, 3, 9] }) 0 [(44, .slot 0), (45, .n1 .ld (.slot 5))] none []])
  (.seq
  (.reg [.asg 6 (.lit (.int .i64 0))])
  .ret)))
def h20_2 : HC :=
  (.seq
  (.block 0
    (.seq
    (.reg [.need (.n1 .ld (.slot 5)),
      .need (.n2 (.bin .eql) (.slot 1) (.n1 .ld (.slot 5))),
      .asg 24 (.n2 (.bin .eql) (.slot 1) (.n1 .ld (.slot 5)))])
    (.cond (.slot 24)
      (.seq
      (.reg [.asg 6 (.lit (.int .i64 1))])
      .ret)
      (.seq
      (.reg [.need (.n1 .nilchk (.slot 0)),
        .need (.n1 (.faddr 24) (.n1 .nilchk (.slot 0))),
        .need (.n1 .ld (.n1 (.faddr 24) (.n1 .nilchk (.slot 0)))),
        .eff (some 34) (.call { callee := .value (.func 67), args := #[.tmp 32, .tmp 33], argTypes := #[84, 92] }) 4 [(32, .n1 .ld (.n1 (.faddr 24) (.n1 .nilchk (.slot 0)))), (33, .n2 .capt (.lit (.func (.func 68) #[] #[])) (.slot 5))] none [],
        .asg 28 (.slot 34)])
      (.cond (.slot 28)
        (.seq
        (.reg [.asg 6 (.lit (.int .i64 7))])
        .ret)
        .skip)))))
  h20_3)
def h20_1 : HC :=
  (.seq
  (.seq
  (.reg [.need (.n1 .ld (.slot 5)),
    .eff (some 19) (.buildSlice 22 2 #[(0, .tmp 17), (1, .tmp 18)]) 22 [(17, .slot 1), (18, .n1 .ld (.slot 5))] none [],
    .eff (some 20) (.call { callee := .value (.func 65), args := #[.tmp 16, .tmp 19], argTypes := #[24, 22] }) 26 [(16, .slot 0), (19, .slot 19)] none [],
    .asg 7 (.slot 20)])
  (.seq
  (.reg [.need (.n2 (.bin .neq) (.slot 7) (.lit (.int .i64 0))),
    .asg 22 (.n2 (.bin .neq) (.slot 7) (.lit (.int .i64 0)))])
  (.cond (.slot 22)
    (.seq
    (.reg [.asg 6 (.slot 7)])
    .ret)
    .skip)))
  h20_2)
def h20 : HC :=
  (.seq
  (.reg [.eff (some 5) (.box 3 (.tmp 2)) 0 [(2, .slot 2)] none [],
    .asg 6 (.lit (.int .i64 0))])
  (.seq
  (.seq
  (.reg [.eff (some 9) (.call { callee := .value (.func 63), args := #[.tmp 8], argTypes := #[24] }) 4 [(8, .slot 0)] none []])
  (.cond (.slot 9)
    (.reg [.need (.n1 .nilchk (.slot 0)),
      .need (.n1 (.faddr 28) (.n1 .nilchk (.slot 0))),
      .need (.n1 .ld (.n1 (.faddr 28) (.n1 .nilchk (.slot 0)))),
      .eff (some 15) (.call { callee := .value (.func 21), args := #[.tmp 10, .tmp 14], argTypes := #[24, 22] }) 0 [(10, .slot 0), (14, .n1 .ld (.n1 (.faddr 28) (.n1 .nilchk (.slot 0))))] none []])
    .skip))
  h20_1))
theorem k20 : fnOK Try.prog 79182308082407 [⟨10, [0, 0, 0, 0, 4, 20, 60, 124, 255], [(0, []), (1, []), (2, []), (3, []), (4, []), (5, []), (6, []), (7, []), (8, [])], none⟩] [.tmp 6] 3 Try.f20 = some h20 := by kernel_rfl
theorem c20 : callable Try.prog 20 = true := by kernel_rfl
theorem q20 {args : List Value} (ha : args.length = 3) {w : World} {next : Value → World → Prop} {QP : List PanicEntry → World → Prop} (H : hw Try.prog noPanic h20 (endV [.tmp 6] next) (σ0 args) w) : callK Try.prog 20 args w next QP := fn_rule Try.func20 mixed k20 ha H
theorem r20 {args : List Value} (ha : args.length = 3) {w : World} {next : Value → World → Prop} {QP : List PanicEntry → World → Prop} (H : hw Try.prog noPanic h20 (endV [.tmp 6] next) (σ0 args) w) : callvK Try.prog (.func (.func 20) #[] #[]) args w next QP := callf c20 (q20 ha H)

/- (*missive/disk.Disk).Crash -/
def h21_4 : HC :=
  (.reg [.need (.n2 (.bin .add) (.slot 22) (.lit (.int .i64 1))),
    .asg 22 (.n2 (.bin .add) (.slot 22) (.lit (.int .i64 1)))])
def h21_3 : HC :=
  (.seq
  (.block 1
    (.seq
    (.reg [.need (.n2 (.iaddr 3) (.slot 20) (.slot 22)),
      .need (.n1 (.ldn 3) (.n2 (.iaddr 3) (.slot 20) (.slot 22))),
      .asg 26 (.n1 (.ldn 3) (.n2 (.iaddr 3) (.slot 20) (.slot 22))),
      .eff (some 5) (.alloc 91) 0 [] none [],
      .asg 4 (.slot 22),
      .eff none (.store 91 (.tmp 5) (.tmp 26)) 0 [(5, .slot 5), (26, .slot 26)] none []])
    (.seq
    (.reg [.need (.n1 (.faddr 2) (.slot 5)),
      .need (.n1 .ld (.n1 (.faddr 2) (.slot 5))),
      .need (.n1 .lens (.n1 .ld (.n1 (.faddr 2) (.slot 5)))),
      .asg 6 (.n1 .lens (.n1 .ld (.n1 (.faddr 2) (.slot 5))))])
    (.block 2
      (.seq
      (.reg [.need (.n1 .lensl (.slot 1)),
        .need (.n2 (.bin .geq) (.slot 4) (.n1 .lensl (.slot 1))),
        .asg 30 (.n2 (.bin .geq) (.slot 4) (.n1 .lensl (.slot 1)))])
      (.cond (.slot 30)
        .skip
        (.seq
        (.reg [.need (.n2 (.iaddr 1) (.slot 1) (.slot 4)),
          .need (.n1 .ld (.n2 (.iaddr 1) (.slot 1) (.slot 4))),
          .need (.n2 (.bin .eql) (.n1 .ld (.n2 (.iaddr 1) (.slot 1) (.slot 4))) (.lit (.int .i64 1))),
          .asg 35 (.n2 (.bin .eql) (.n1 .ld (.n2 (.iaddr 1) (.slot 1) (.slot 4))) (.lit (.int .i64 1)))])
        (.cond (.slot 35)
          (.draw [.need (.n1 (.faddr 0) (.slot 5)),
            .need (.n1 .ld (.n1 (.faddr 0) (.slot 5))),
            .asg 43 (.n1 .ld (.n1 (.faddr 0) (.slot 5))),
            .need (.n1 (.faddr 0) (.slot 5)),
            .need (.n1 .ld (.n1 (.faddr 0) (.slot 5))),
            .need (.n1 .nilchk (.slot 0)),
            .need (.n1 (.faddr 0) (.n1 .nilchk (.slot 0))),
            .need (.n2 (.iaddra 12 1) (.n1 (.faddr 0) (.n1 .nilchk (.slot 0))) (.n1 .ld (.n1 (.faddr 0) (.slot 5)))),
            .need (.n1 .ld (.n2 (.iaddra 12 1) (.n1 (.faddr 0) (.n1 .nilchk (.slot 0))) (.n1 .ld (.n1 (.faddr 0) (.slot 5))))),
            .need (.n1 (.faddr 1) (.slot 5)),
            .need (.n1 .ld (.n1 (.faddr 1) (.slot 5))),
            .need (.n1 (.faddr 2) (.slot 5)),
            .need (.n1 .ld (.n1 (.faddr 2) (.slot 5))),
            .need (.n1 .nilchk (.slot 0)),
            .need (.n1 (.faddr 0) (.n1 .nilchk (.slot 0))),
            .eff (some 55) (.call { callee := .value (.func 69), args := #[.tmp 50, .tmp 52, .tmp 54], argTypes := #[9, 3, 9] }) 9 [(50, .n1 .ld (.n2 (.iaddra 12 1) (.n1 (.faddr 0) (.n1 .nilchk (.slot 0))) (.n1 .ld (.n1 (.faddr 0) (.slot 5))))), (52, .n1 .ld (.n1 (.faddr 1) (.slot 5))), (54, .n1 .ld (.n1 (.faddr 2) (.slot 5)))] none [⟨none, .ld, .n1 (.faddr 0) (.slot 5)⟩],
            .need (.n2 (.iaddra 12 1) (.n1 (.faddr 0) (.n1 .nilchk (.slot 0))) (.slot 43)),
            .eff none (.store 9 (.tmp 58) (.tmp 55)) 0 [(58, .n2 (.iaddra 12 1) (.n1 (.faddr 0) (.n1 .nilchk (.slot 0))) (.slot 43)), (55, .slot 55)] none []])
          (.seq
          (.reg [.need (.n2 (.iaddr 1) (.slot 1) (.slot 4)),
            .need (.n1 .ld (.n2 (.iaddr 1) (.slot 1) (.slot 4))),
            .need (.n2 (.bin .eql) (.n1 .ld (.n2 (.iaddr 1) (.slot 1) (.slot 4))) (.lit (.int .i64 2))),
            .asg 59 (.n2 (.bin .eql) (.n1 .ld (.n2 (.iaddr 1) (.slot 1) (.slot 4))) (.lit (.int .i64 2)))])
          (.cond (.slot 59)
            (.draw [.need (.n1 (.faddr 0) (.slot 5)),
              .need (.n1 .ld (.n1 (.faddr 0) (.slot 5))),
              .asg 67 (.n1 .ld (.n1 (.faddr 0) (.slot 5))),
              .need (.n1 (.faddr 0) (.slot 5)),
              .need (.n1 .ld (.n1 (.faddr 0) (.slot 5))),
              .need (.n1 .nilchk (.slot 0)),
              .need (.n1 (.faddr 0) (.n1 .nilchk (.slot 0))),
              .need (.n2 (.iaddra 12 1) (.n1 (.faddr 0) (.n1 .nilchk (.slot 0))) (.n1 .ld (.n1 (.faddr 0) (.slot 5)))),
              .need (.n1 .ld (.n2 (.iaddra 12 1) (.n1 (.faddr 0) (.n1 .nilchk (.slot 0))) (.n1 .ld (.n1 (.faddr 0) (.slot 5))))),
              .need (.n1 (.faddr 1) (.slot 5)),
              .need (.n1 .ld (.n1 (.faddr 1) (.slot 5))),
              .need (.n1 (.faddr 2) (.slot 5)),
              .need (.n1 .ld (.n1 (.faddr 2) (.slot 5))),
              .need (.n2 .mn (.slot 6) (.lit (.int .i64 24))),
              .need (.n3 (.sls false true) (.n1 .ld (.n1 (.faddr 2) (.slot 5))) (.lit (.tuple #[])) (.n2 .mn (.slot 6) (.lit (.int .i64 24)))),
              .need (.n1 .nilchk (.slot 0)),
              .need (.n1 (.faddr 0) (.n1 .nilchk (.slot 0))),
              .eff (some 82) (.call { callee := .value (.func 69), args := #[.tmp 74, .tmp 76, .tmp 81], argTypes := #[9, 3, 9] }) 9 [(74, .n1 .ld (.n2 (.iaddra 12 1) (.n1 (.faddr 0) (.n1 .nilchk (.slot 0))) (.n1 .ld (.n1 (.faddr 0) (.slot 5))))), (76, .n1 .ld (.n1 (.faddr 1) (.slot 5))), (81, .n3 (.sls false true) (.n1 .ld (.n1 (.faddr 2) (.slot 5))) (.lit (.tuple #[])) (.n2 .mn (.slot 6) (.lit (.int .i64 24))))] none [⟨none, .ld, .n1 (.faddr 0) (.slot 5)⟩],
              .need (.n2 (.iaddra 12 1) (.n1 (.faddr 0) (.n1 .nilchk (.slot 0))) (.slot 67)),
              .eff none (.store 9 (.tmp 85) (.tmp 82)) 0 [(85, .n2 (.iaddra 12 1) (.n1 (.faddr 0) (.n1 .nilchk (.slot 0))) (.slot 67)), (82, .slot 82)] none []])
            .skip))))))))))
  h21_4)
def h21_2 : HC :=
  (.seq
  (.reg [.need (.n2 (.bin .lss) (.slot 22) (.slot 21)),
    .asg 23 (.n2 (.bin .lss) (.slot 22) (.slot 21))])
  (.seq
  (.cond (.slot 23)
    .skip
    (.exit 0))
  h21_3))
def h21_5 : HC :=
  (.reg [.need (.n1 .nilchk (.slot 0)),
    .need (.n1 (.faddr 0) (.n1 .nilchk (.slot 0))),
    .need (.n1 (.ldn 12) (.n1 (.faddr 0) (.n1 .nilchk (.slot 0)))),
    .need (.n1 .nilchk (.slot 0)),
    .need (.n1 (.faddr 12) (.n1 .nilchk (.slot 0))),
    .eff none (.store 83 (.tmp 94) (.tmp 92)) 0 [(94, .n1 (.faddr 12) (.n1 .nilchk (.slot 0))), (92, .n1 (.ldn 12) (.n1 (.faddr 0) (.n1 .nilchk (.slot 0))))] none [],
    .need (.n1 .nilchk (.slot 0)),
    .need (.n1 (.faddr 24) (.n1 .nilchk (.slot 0))),
    .eff none (.store 84 (.tmp 96) (.const (.slice none 0 0))) 0 [(96, .n1 (.faddr 24) (.n1 .nilchk (.slot 0)))] none []])
def h21_1 : HC :=
  (.seq
  (.reg [.need (.n1 .nilchk (.slot 0)),
    .need (.n1 (.faddr 26) (.n1 .nilchk (.slot 0))),
    .eff none (.store 4 (.tmp 14) (.const (.bool true))) 0 [(14, .n1 (.faddr 26) (.n1 .nilchk (.slot 0)))] none [],
    .need (.n1 .nilchk (.slot 0)),
    .need (.n1 (.faddr 27) (.n1 .nilchk (.slot 0))),
    .eff none (.store 3 (.tmp 16) (.const (.int .i64 0))) 0 [(16, .n1 (.faddr 27) (.n1 .nilchk (.slot 0)))] none []])
  (.seq
  (.seq
  (.reg [.need (.n1 .nilchk (.slot 0)),
    .need (.n1 (.faddr 24) (.n1 .nilchk (.slot 0))),
    .need (.n1 .ld (.n1 (.faddr 24) (.n1 .nilchk (.slot 0)))),
    .asg 20 (.n1 .ld (.n1 (.faddr 24) (.n1 .nilchk (.slot 0)))),
    .need (.n1 .lensl (.slot 20)),
    .asg 21 (.n1 .lensl (.slot 20)),
    .asg 22 (.lit (.int .i64 0))])
  (.block 0
    (.loop
      h21_2)))
  h21_5))
def h21 : HC :=
  (.seq
  (.seq
  (.reg [.need (.n1 .nilchk (.slot 0)),
    .need (.n1 (.faddr 26) (.n1 .nilchk (.slot 0))),
    .need (.n1 .ld (.n1 (.faddr 26) (.n1 .nilchk (.slot 0)))),
    .asg 10 (.n1 .ld (.n1 (.faddr 26) (.n1 .nilchk (.slot 0))))])
  (.cond (.slot 10)
    .ret
    .skip))
  h21_1)
theorem k21 : fnOK Try.prog 4835851464909487306966131 [⟨8, [0, 0, 2, 0, 0, 16, 8, 72, 248, 504, 0, 1024, 0, 4096, 16376, 1, 32769, 131071, 262143], [(0, []), (1, []), (2, []), (3, []), (4, []), (5, []), (6, []), (7, []), (8, []), (9, []), (10, []), (11, []), (12, []), (13, []), (15, []), (16, []), (14, [2]), (17, []), (18, [])], none⟩, ⟨10, [0, 0, 2, 0, 0, 16, 8, 72, 248, 504, 0, 1024, 0, 4096, 0, 16384, 61440, 131064, 1, 262145, 1048575, 2097151], [(0, []), (1, []), (2, []), (3, []), (4, []), (5, []), (6, []), (7, []), (8, []), (9, []), (10, []), (11, []), (12, []), (13, []), (14, []), (15, []), (16, []), (18, []), (19, []), (17, [2]), (20, []), (21, [])], none⟩] [] 2 Try.f21 = some h21 := by kernel_rfl
theorem c21 : callable Try.prog 21 = true := by kernel_rfl
theorem q21 {args : List Value} (ha : args.length = 2) {w : World} {next : Value → World → Prop} {QP : List PanicEntry → World → Prop} (H : hw Try.prog noPanic h21 (endV [] next) (σ0 args) w) : callK Try.prog 21 args w next QP := fn_rule Try.func21 mixed k21 ha H
theorem r21 {args : List Value} (ha : args.length = 2) {w : World} {next : Value → World → Prop} {QP : List PanicEntry → World → Prop} (H : hw Try.prog noPanic h21 (endV [] next) (σ0 args) w) : callvK Try.prog (.func (.func 21) #[] #[]) args w next QP := callf c21 (q21 ha H)

/- (*missive/disk.Disk).Start -/
def h22 : HC :=
  (.reg [.need (.n1 .nilchk (.slot 0)),
    .need (.n1 (.faddr 26) (.n1 .nilchk (.slot 0))),
    .eff none (.store 4 (.tmp 4) (.const (.bool false))) 0 [(4, .n1 (.faddr 26) (.n1 .nilchk (.slot 0)))] none []])
theorem k22 : fnOK Try.prog 1 [] [] 1 Try.f22 = some h22 := by kernel_rfl
theorem c22 : callable Try.prog 22 = true := by kernel_rfl
theorem q22 {args : List Value} (ha : args.length = 1) {w : World} {next : Value → World → Prop} {QP : List PanicEntry → World → Prop} (H : hw Try.prog noPanic h22 (endV [] next) (σ0 args) w) : callK Try.prog 22 args w next QP := fn_rule Try.func22 mixed k22 ha H
theorem r22 {args : List Value} (ha : args.length = 1) {w : World} {next : Value → World → Prop} {QP : List PanicEntry → World → Prop} (H : hw Try.prog noPanic h22 (endV [] next) (σ0 args) w) : callvK Try.prog (.func (.func 22) #[] #[]) args w next QP := callf c22 (q22 ha H)

/- (*missive/disk.Disk).Read -/
def h23_1 : HC :=
  (.seq
  (.reg [.need (.n1 .nilchk (.slot 0)),
    .need (.n1 (.faddr 12) (.n1 .nilchk (.slot 0))),
    .need (.n2 (.iaddra 12 1) (.n1 (.faddr 12) (.n1 .nilchk (.slot 0))) (.slot 1)),
    .need (.n1 .ld (.n2 (.iaddra 12 1) (.n1 (.faddr 12) (.n1 .nilchk (.slot 0))) (.slot 1))),
    .asg 4 (.n1 .ld (.n2 (.iaddra 12 1) (.n1 (.faddr 12) (.n1 .nilchk (.slot 0))) (.slot 1))),
    .asg 5 (.lit (.int .i64 0))])
  .ret)
def h23 : HC :=
  (.seq
  (.reg [.asg 4 (.lit (str [])),
    .asg 5 (.lit (.int .i64 0))])
  (.seq
  (.seq
  (.reg [.eff (some 9) (.buildSlice 22 1 #[(0, .tmp 8)]) 22 [(8, .slot 1)] none [],
    .eff (some 10) (.call { callee := .value (.func 65), args := #[.tmp 7, .tmp 9], argTypes := #[24, 22] }) 26 [(7, .slot 0), (9, .slot 9)] none [],
    .asg 6 (.slot 10)])
  (.seq
  (.reg [.need (.n2 (.bin .neq) (.slot 6) (.lit (.int .i64 0))),
    .asg 12 (.n2 (.bin .neq) (.slot 6) (.lit (.int .i64 0)))])
  (.cond (.slot 12)
    (.seq
    (.reg [.asg 4 (.lit (str [])),
      .asg 5 (.slot 6)])
    .ret)
    .skip)))
  h23_1))
theorem k23 : fnOK Try.prog 5747 [] [.tmp 4, .tmp 5] 2 Try.f23 = some h23 := by kernel_rfl
theorem c23 : callable Try.prog 23 = true := by kernel_rfl
theorem q23 {args : List Value} (ha : args.length = 2) {w : World} {next : Value → World → Prop} {QP : List PanicEntry → World → Prop} (H : hw Try.prog noPanic h23 (endV [.tmp 4, .tmp 5] next) (σ0 args) w) : callK Try.prog 23 args w next QP := fn_rule Try.func23 mixed k23 ha H
theorem r23 {args : List Value} (ha : args.length = 2) {w : World} {next : Value → World → Prop} {QP : List PanicEntry → World → Prop} (H : hw Try.prog noPanic h23 (endV [.tmp 4, .tmp 5] next) (σ0 args) w) : callvK Try.prog (.func (.func 23) #[] #[]) args w next QP := callf c23 (q23 ha H)

/- (*missive/disk.Disk).Size -/
def h24_1 : HC :=
  (.seq
  (.reg [.need (.n1 .nilchk (.slot 0)),
    .need (.n1 (.faddr 12) (.n1 .nilchk (.slot 0))),
    .need (.n2 (.iaddra 12 1) (.n1 (.faddr 12) (.n1 .nilchk (.slot 0))) (.slot 1)),
    .need (.n1 .ld (.n2 (.iaddra 12 1) (.n1 (.faddr 12) (.n1 .nilchk (.slot 0))) (.slot 1))),
    .need (.n1 .lens (.n1 .ld (.n2 (.iaddra 12 1) (.n1 (.faddr 12) (.n1 .nilchk (.slot 0))) (.slot 1)))),
    .asg 4 (.n1 .lens (.n1 .ld (.n2 (.iaddra 12 1) (.n1 (.faddr 12) (.n1 .nilchk (.slot 0))) (.slot 1))))])
  .ret)
def h24 : HC :=
  (.seq
  (.reg [.asg 4 (.lit (.int .i64 0))])
  (.seq
  (.seq
  (.reg [.eff (some 6) (.call { callee := .value (.func 70), args := #[.tmp 5], argTypes := #[3] }) 4 [(5, .slot 1)] none [],
    .need (.n1 .bnot (.slot 6)),
    .asg 7 (.n1 .bnot (.slot 6))])
  (.cond (.slot 7)
    (.seq
    (.reg [.asg 4 (.lit (.int .i64 0))])
    .ret)
    .skip))
  h24_1))
theorem k24 : fnOK Try.prog 211 [] [.tmp 4] 2 Try.f24 = some h24 := by kernel_rfl
theorem c24 : callable Try.prog 24 = true := by kernel_rfl
theorem q24 {args : List Value} (ha : args.length = 2) {w : World} {next : Value → World → Prop} {QP : List PanicEntry → World → Prop} (H : hw Try.prog noPanic h24 (endV [.tmp 4] next) (σ0 args) w) : callK Try.prog 24 args w next QP := fn_rule Try.func24 mixed k24 ha H
theorem r24 {args : List Value} (ha : args.length = 2) {w : World} {next : Value → World → Prop} {QP : List PanicEntry → World → Prop} (H : hw Try.prog noPanic h24 (endV [.tmp 4] next) (σ0 args) w) : callvK Try.prog (.func (.func 24) #[] #[]) args w next QP := callf c24 (q24 ha H)

/- missive/missivelaw05.few -/
def h26_3 : HC :=
  (.draw [.need (.n2 (.iaddr 6) (.slot 0) (.slot 4)),
    .need (.n1 (.faddr 4) (.n2 (.iaddr 6) (.slot 0) (.slot 4))),
    .need (.n1 .ld (.n1 (.faddr 4) (.n2 (.iaddr 6) (.slot 0) (.slot 4)))),
    .need (.n1 .lens (.n1 .ld (.n1 (.faddr 4) (.n2 (.iaddr 6) (.slot 0) (.slot 4))))),
    .need (.n2 (.bin .add) (.slot 3) (.n1 .lens (.n1 .ld (.n1 (.faddr 4) (.n2 (.iaddr 6) (.slot 0) (.slot 4)))))),
    .need (.n2 (.iaddr 6) (.slot 0) (.slot 4)),
    .need (.n1 (.faddr 5) (.n2 (.iaddr 6) (.slot 0) (.slot 4))),
    .need (.n1 .ld (.n1 (.faddr 5) (.n2 (.iaddr 6) (.slot 0) (.slot 4)))),
    .need (.n1 .lensl (.n1 .ld (.n1 (.faddr 5) (.n2 (.iaddr 6) (.slot 0) (.slot 4))))),
    .need (.n2 (.bin .add) (.n2 (.bin .add) (.slot 3) (.n1 .lens (.n1 .ld (.n1 (.faddr 4) (.n2 (.iaddr 6) (.slot 0) (.slot 4)))))) (.n1 .lensl (.n1 .ld (.n1 (.faddr 5) (.n2 (.iaddr 6) (.slot 0) (.slot 4)))))),
    .asg 3 (.n2 (.bin .add) (.n2 (.bin .add) (.slot 3) (.n1 .lens (.n1 .ld (.n1 (.faddr 4) (.n2 (.iaddr 6) (.slot 0) (.slot 4)))))) (.n1 .lensl (.n1 .ld (.n1 (.faddr 5) (.n2 (.iaddr 6) (.slot 0) (.slot 4))))))])
def h26_4 : HC :=
  (.reg [.need (.n2 (.bin .add) (.slot 4) (.lit (.int .i64 1))),
    .asg 4 (.n2 (.bin .add) (.slot 4) (.lit (.int .i64 1)))])
def h26_2 : HC :=
  (.seq
  (.block 1
    (.seq
    (.seq
    (.reg [.need (.n2 (.iaddr 6) (.slot 0) (.slot 4)),
      .need (.n1 (.faddr 3) (.n2 (.iaddr 6) (.slot 0) (.slot 4))),
      .need (.n1 .ld (.n1 (.faddr 3) (.n2 (.iaddr 6) (.slot 0) (.slot 4)))),
      .need (.n2 (.bin .geq) (.n1 .ld (.n1 (.faddr 3) (.n2 (.iaddr 6) (.slot 0) (.slot 4)))) (.lit (.int .i64 4000))),
      .need (.gif (.n2 (.bin .geq) (.n1 .ld (.n1 (.faddr 3) (.n2 (.iaddr 6) (.slot 0) (.slot 4)))) (.lit (.int .i64 4000))) true (.n2 (.iaddr 6) (.slot 0) (.slot 4))),
      .need (.gif (.n2 (.bin .geq) (.n1 .ld (.n1 (.faddr 3) (.n2 (.iaddr 6) (.slot 0) (.slot 4)))) (.lit (.int .i64 4000))) true (.n1 (.faddr 3) (.n2 (.iaddr 6) (.slot 0) (.slot 4)))),
      .need (.gif (.n2 (.bin .geq) (.n1 .ld (.n1 (.faddr 3) (.n2 (.iaddr 6) (.slot 0) (.slot 4)))) (.lit (.int .i64 4000))) true (.n1 .ld (.n1 (.faddr 3) (.n2 (.iaddr 6) (.slot 0) (.slot 4))))),
      .need (.gif (.n2 (.bin .geq) (.n1 .ld (.n1 (.faddr 3) (.n2 (.iaddr 6) (.slot 0) (.slot 4)))) (.lit (.int .i64 4000))) true (.n2 (.bin .leq) (.n1 .ld (.n1 (.faddr 3) (.n2 (.iaddr 6) (.slot 0) (.slot 4)))) (.lit (.int .i64 16777216)))),
      .need (.n3 .pick (.n2 (.bin .geq) (.n1 .ld (.n1 (.faddr 3) (.n2 (.iaddr 6) (.slot 0) (.slot 4)))) (.lit (.int .i64 4000))) (.n2 (.bin .leq) (.n1 .ld (.n1 (.faddr 3) (.n2 (.iaddr 6) (.slot 0) (.slot 4)))) (.lit (.int .i64 16777216))) (.lit (.bool false))),
      .asg 24 (.n3 .pick (.n2 (.bin .geq) (.n1 .ld (.n1 (.faddr 3) (.n2 (.iaddr 6) (.slot 0) (.slot 4)))) (.lit (.int .i64 4000))) (.n2 (.bin .leq) (.n1 .ld (.n1 (.faddr 3) (.n2 (.iaddr 6) (.slot 0) (.slot 4)))) (.lit (.int .i64 16777216))) (.lit (.bool false)))])
    (.cond (.slot 24)
      (.seq
      (.reg [.asg 2 (.lit (.bool false))])
      .ret)
      .skip))
    h26_3))
  h26_4)
def h26_1 : HC :=
  (.seq
  (.seq
  (.reg [.need (.n1 .lensl (.slot 0)),
    .need (.n2 (.bin .lss) (.slot 4) (.n1 .lensl (.slot 0))),
    .asg 8 (.n2 (.bin .lss) (.slot 4) (.n1 .lensl (.slot 0)))])
  (.cond (.slot 8)
    .skip
    (.exit 0)))
  h26_2)
def h26_5 : HC :=
  (.seq
  (.reg [.need (.n1 .lensl (.slot 0)),
    .need (.n2 (.bin .leq) (.n1 .lensl (.slot 0)) (.lit (.int .i64 200))),
    .need (.gif (.n2 (.bin .leq) (.n1 .lensl (.slot 0)) (.lit (.int .i64 200))) true (.n2 (.bin .leq) (.slot 3) (.lit (.int .i64 5000)))),
    .need (.n3 .pick (.n2 (.bin .leq) (.n1 .lensl (.slot 0)) (.lit (.int .i64 200))) (.n2 (.bin .leq) (.slot 3) (.lit (.int .i64 5000))) (.lit (.bool false))),
    .asg 2 (.n3 .pick (.n2 (.bin .leq) (.n1 .lensl (.slot 0)) (.lit (.int .i64 200))) (.n2 (.bin .leq) (.slot 3) (.lit (.int .i64 5000))) (.lit (.bool false)))])
  .ret)
def h26 : HC :=
  (.seq
  (.reg [.asg 2 (.lit (.bool false))])
  (.seq
  (.reg [.asg 3 (.lit (.int .i64 0))])
  (.seq
  (.seq
  (.reg [.asg 4 (.lit (.int .i64 0))])
  (.block 0
    (.loop
      h26_1)))
  h26_5)))
theorem k26 : fnOK Try.prog 16777501 [⟨7, [0, 0, 0, 6, 14, 30, 62, 127, 0, 0, 768, 1792, 3840, 7936, 16383, 32767], [(0, []), (1, []), (2, []), (3, []), (4, []), (5, []), (6, []), (7, []), (8, []), (9, []), (10, []), (11, []), (12, []), (13, []), (14, []), (15, [])], none⟩] [.tmp 2] 1 Try.f26 = some h26 := by kernel_rfl
theorem c26 : callable Try.prog 26 = true := by kernel_rfl
theorem q26 {args : List Value} (ha : args.length = 1) {w : World} {next : Value → World → Prop} {QP : List PanicEntry → World → Prop} (H : hw Try.prog noPanic h26 (endV [.tmp 2] next) (σ0 args) w) : callK Try.prog 26 args w next QP := fn_rule Try.func26 mixed k26 ha H
theorem r26 {args : List Value} (ha : args.length = 1) {w : World} {next : Value → World → Prop} {QP : List PanicEntry → World → Prop} (H : hw Try.prog noPanic h26 (endV [.tmp 2] next) (σ0 args) w) : callvK Try.prog (.func (.func 26) #[] #[]) args w next QP := callf c26 (q26 ha H)

/- (*missive/disk.Disk).Down -/
def h27 : HC :=
  (.seq
  (.reg [.asg 2 (.lit (.bool false))])
  (.seq
  (.reg [.need (.n1 .nilchk (.slot 0)),
    .need (.n1 (.faddr 26) (.n1 .nilchk (.slot 0))),
    .need (.n1 .ld (.n1 (.faddr 26) (.n1 .nilchk (.slot 0)))),
    .asg 2 (.n1 .ld (.n1 (.faddr 26) (.n1 .nilchk (.slot 0))))])
  .ret))
theorem k27 : fnOK Try.prog 5 [] [.tmp 2] 1 Try.f27 = some h27 := by kernel_rfl
theorem c27 : callable Try.prog 27 = true := by kernel_rfl
theorem q27 {args : List Value} (ha : args.length = 1) {w : World} {next : Value → World → Prop} {QP : List PanicEntry → World → Prop} (H : hw Try.prog noPanic h27 (endV [.tmp 2] next) (σ0 args) w) : callK Try.prog 27 args w next QP := fn_rule Try.func27 mixed k27 ha H
theorem r27 {args : List Value} (ha : args.length = 1) {w : World} {next : Value → World → Prop} {QP : List PanicEntry → World → Prop} (H : hw Try.prog noPanic h27 (endV [.tmp 2] next) (σ0 args) w) : callvK Try.prog (.func (.func 27) #[] #[]) args w next QP := callf c27 (q27 ha H)

/- missive/missivelaw05.pick -/
def h28_1 : HC :=
  (.seq
  (.reg [.asg 2 (.slot 0)])
  .ret)
def h28 : HC :=
  (.seq
  (.reg [.asg 2 (.lit (.int .i64 0))])
  (.seq
  (.reg [.need (.n2 (.bin .rem) (.slot 0) (.lit (.int .i64 11))),
    .asg 0 (.n2 (.bin .rem) (.slot 0) (.lit (.int .i64 11)))])
  (.seq
  (.seq
  (.reg [.need (.n2 (.bin .lss) (.slot 0) (.lit (.int .i64 0))),
    .asg 6 (.n2 (.bin .lss) (.slot 0) (.lit (.int .i64 0)))])
  (.cond (.slot 6)
    (.reg [.need (.n2 (.bin .add) (.slot 0) (.lit (.int .i64 11))),
      .asg 0 (.n2 (.bin .add) (.slot 0) (.lit (.int .i64 11)))])
    .skip))
  h28_1)))
theorem k28 : fnOK Try.prog 69 [] [.tmp 2] 1 Try.f28 = some h28 := by kernel_rfl
theorem c28 : callable Try.prog 28 = true := by kernel_rfl
theorem q28 {args : List Value} (ha : args.length = 1) {w : World} {next : Value → World → Prop} {QP : List PanicEntry → World → Prop} (H : hw Try.prog noPanic h28 (endV [.tmp 2] next) (σ0 args) w) : callK Try.prog 28 args w next QP := fn_rule Try.func28 mixed k28 ha H
theorem r28 {args : List Value} (ha : args.length = 1) {w : World} {next : Value → World → Prop} {QP : List PanicEntry → World → Prop} (H : hw Try.prog noPanic h28 (endV [.tmp 2] next) (σ0 args) w) : callvK Try.prog (.func (.func 28) #[] #[]) args w next QP := callf c28 (q28 ha H)

/- missive/missivelaw05.do -/
def h29_1 : HC :=
  (.cond (.slot 9)
    (.seq
    (.reg [.need (.n1 (.faddr 1) (.slot 3)),
      .need (.n1 .ld (.n1 (.faddr 1) (.slot 3))),
      .need (.n1 (.faddr 3) (.slot 3)),
      .need (.n1 .ld (.n1 (.faddr 3) (.slot 3))),
      .need (.n1 (.faddr 4) (.slot 3)),
      .need (.n1 .ld (.n1 (.faddr 4) (.slot 3))),
      .eff (some 19) (.call { callee := .value (.func 18), args := #[.tmp 12, .tmp 14, .tmp 16, .tmp 18], argTypes := #[24, 3, 3, 9] }) 26 [(12, .slot 0), (14, .n1 .ld (.n1 (.faddr 1) (.slot 3))), (16, .n1 .ld (.n1 (.faddr 3) (.slot 3))), (18, .n1 .ld (.n1 (.faddr 4) (.slot 3)))] none [],
      .asg 4 (.lit (str [])),
      .asg 5 (.slot 19)])
    .ret)
    (.seq
    (.reg [.need (.n2 (.bin .eql) (.slot 8) (.lit (.int .i64 2))),
      .asg 20 (.n2 (.bin .eql) (.slot 8) (.lit (.int .i64 2)))])
    (.cond (.slot 20)
      (.seq
      (.reg [.need (.n1 (.faddr 1) (.slot 3)),
        .need (.n1 .ld (.n1 (.faddr 1) (.slot 3))),
        .eff (some 25) (.call { callee := .value (.func 19), args := #[.tmp 22, .tmp 24], argTypes := #[24, 3] }) 26 [(22, .slot 0), (24, .n1 .ld (.n1 (.faddr 1) (.slot 3)))] none [],
        .asg 4 (.lit (str [])),
        .asg 5 (.slot 25)])
      .ret)
      (.seq
      (.reg [.need (.n2 (.bin .eql) (.slot 8) (.lit (.int .i64 3))),
        .asg 26 (.n2 (.bin .eql) (.slot 8) (.lit (.int .i64 3)))])
      (.cond (.slot 26)
        (.seq
        (.reg [.need (.n1 (.faddr 1) (.slot 3)),
          .need (.n1 .ld (.n1 (.faddr 1) (.slot 3))),
          .need (.n1 (.faddr 3) (.slot 3)),
          .need (.n1 .ld (.n1 (.faddr 3) (.slot 3))),
          .eff (some 33) (.call { callee := .value (.func 42), args := #[.tmp 28, .tmp 30, .tmp 32], argTypes := #[24, 3, 3] }) 26 [(28, .slot 0), (30, .n1 .ld (.n1 (.faddr 1) (.slot 3))), (32, .n1 .ld (.n1 (.faddr 3) (.slot 3)))] none [],
          .asg 4 (.lit (str [])),
          .asg 5 (.slot 33)])
        .ret)
        (.seq
        (.reg [.need (.n2 (.bin .eql) (.slot 8) (.lit (.int .i64 4))),
          .asg 34 (.n2 (.bin .eql) (.slot 8) (.lit (.int .i64 4)))])
        (.cond (.slot 34)
          (.seq
          (.reg [.need (.n1 (.faddr 1) (.slot 3)),
            .need (.n1 .ld (.n1 (.faddr 1) (.slot 3))),
            .need (.n1 (.faddr 2) (.slot 3)),
            .need (.n1 .ld (.n1 (.faddr 2) (.slot 3))),
            .eff (some 41) (.call { callee := .value (.func 20), args := #[.tmp 36, .tmp 38, .tmp 40], argTypes := #[24, 3, 3] }) 26 [(36, .slot 0), (38, .n1 .ld (.n1 (.faddr 1) (.slot 3))), (40, .n1 .ld (.n1 (.faddr 2) (.slot 3)))] none [],
            .asg 4 (.lit (str [])),
            .asg 5 (.slot 41)])
          .ret)
          (.seq
          (.reg [.need (.n2 (.bin .eql) (.slot 8) (.lit (.int .i64 5))),
            .asg 42 (.n2 (.bin .eql) (.slot 8) (.lit (.int .i64 5)))])
          (.cond (.slot 42)
            (.reg [.need (.n1 (.faddr 5) (.slot 3)),
              .need (.n1 .ld (.n1 (.faddr 5) (.slot 3))),
              .eff (some 47) (.call { callee := .value (.func 21), args := #[.tmp 44, .tmp 46], argTypes := #[24, 22] }) 0 [(44, .slot 0), (46, .n1 .ld (.n1 (.faddr 5) (.slot 3)))] none []])
            (.seq
            (.reg [.need (.n2 (.bin .eql) (.slot 8) (.lit (.int .i64 6))),
              .asg 48 (.n2 (.bin .eql) (.slot 8) (.lit (.int .i64 6)))])
            (.cond (.slot 48)
              (.reg [.need (.n1 (.faddr 3) (.slot 3)),
                .need (.n1 .ld (.n1 (.faddr 3) (.slot 3))),
                .eff (some 53) (.call { callee := .value (.func 33), args := #[.tmp 50, .tmp 52], argTypes := #[24, 3] }) 0 [(50, .slot 0), (52, .n1 .ld (.n1 (.faddr 3) (.slot 3)))] none []])
              (.seq
              (.reg [.need (.n2 (.bin .eql) (.slot 8) (.lit (.int .i64 7))),
                .asg 54 (.n2 (.bin .eql) (.slot 8) (.lit (.int .i64 7)))])
              (.cond (.slot 54)
                (.reg [.eff (some 57) (.call { callee := .value (.func 22), args := #[.tmp 56], argTypes := #[24] }) 0 [(56, .slot 0)] none []])
                (.seq
                (.reg [.need (.n2 (.bin .eql) (.slot 8) (.lit (.int .i64 8))),
                  .asg 58 (.n2 (.bin .eql) (.slot 8) (.lit (.int .i64 8)))])
                (.cond (.slot 58)
                  (.seq
                  (.reg [.need (.n1 (.faddr 1) (.slot 3)),
                    .need (.n1 .ld (.n1 (.faddr 1) (.slot 3))),
                    .eff (some 63) (.call { callee := .value (.func 23), args := #[.tmp 60, .tmp 62], argTypes := #[24, 3] }) 31 [(60, .slot 0), (62, .n1 .ld (.n1 (.faddr 1) (.slot 3)))] none [],
                    .need (.n1 (.ext 0) (.slot 63)),
                    .need (.n1 (.ext 1) (.slot 63)),
                    .asg 4 (.n1 (.ext 0) (.slot 63)),
                    .asg 5 (.n1 (.ext 1) (.slot 63))])
                  .ret)
                  (.seq
                  (.reg [.need (.n2 (.bin .eql) (.slot 8) (.lit (.int .i64 10))),
                    .asg 66 (.n2 (.bin .eql) (.slot 8) (.lit (.int .i64 10)))])
                  (.cond (.slot 66)
                    (.reg [.need (.n1 (.faddr 3) (.slot 3)),
                      .need (.n1 .ld (.n1 (.faddr 3) (.slot 3))),
                      .need (.n1 (.faddr 5) (.slot 3)),
                      .need (.n1 .ld (.n1 (.faddr 5) (.slot 3))),
                      .eff (some 73) (.call { callee := .value (.func 32), args := #[.tmp 68, .tmp 70, .tmp 72], argTypes := #[24, 3, 22] }) 0 [(68, .slot 0), (70, .n1 .ld (.n1 (.faddr 3) (.slot 3))), (72, .n1 .ld (.n1 (.faddr 5) (.slot 3)))] none []])
                    .skip)))))))))))))))))
def h29_2 : HC :=
  (.seq
  (.reg [.asg 4 (.lit (str [])),
    .asg 5 (.lit (.int .i64 0))])
  .ret)
def h29 : HC :=
  (.seq
  (.reg [.eff (some 3) (.box 42 (.tmp 1)) 0 [(1, .slot 1)] none [],
    .asg 4 (.lit (str [])),
    .asg 5 (.lit (.int .i64 0))])
  (.seq
  (.seq
  (.reg [.need (.n1 (.faddr 0) (.slot 3)),
    .need (.n1 .ld (.n1 (.faddr 0) (.slot 3))),
    .eff (some 8) (.call { callee := .value (.func 28), args := #[.tmp 7], argTypes := #[3] }) 3 [(7, .n1 .ld (.n1 (.faddr 0) (.slot 3)))] none []])
  (.block 0
    (.seq
    (.seq
    (.reg [.need (.n2 (.bin .eql) (.slot 8) (.lit (.int .i64 0))),
      .asg 9 (.n2 (.bin .eql) (.slot 8) (.lit (.int .i64 0)))])
    (.cond (.slot 9)
      .skip
      (.reg [.need (.n2 (.bin .eql) (.slot 8) (.lit (.int .i64 1))),
        .asg 9 (.n2 (.bin .eql) (.slot 8) (.lit (.int .i64 1)))])))
    h29_1)))
  h29_2))
theorem k29 : fnOK Try.prog 9528203110068382073659 [] [.tmp 4, .tmp 5] 2 Try.f29 = some h29 := by kernel_rfl
theorem c29 : callable Try.prog 29 = true := by kernel_rfl
theorem q29 {args : List Value} (ha : args.length = 2) {w : World} {next : Value → World → Prop} {QP : List PanicEntry → World → Prop} (H : hw Try.prog noPanic h29 (endV [.tmp 4, .tmp 5] next) (σ0 args) w) : callK Try.prog 29 args w next QP := fn_rule Try.func29 mixed k29 ha H
theorem r29 {args : List Value} (ha : args.length = 2) {w : World} {next : Value → World → Prop} {QP : List PanicEntry → World → Prop} (H : hw Try.prog noPanic h29 (endV [.tmp 4, .tmp 5] next) (σ0 args) w) : callvK Try.prog (.func (.func 29) #[] #[]) args w next QP := callf c29 (q29 ha H)

/- (*missive/disk.Disk).Arm -/
def h32 : HC :=
  (.reg [.need (.n2 .mx (.slot 1) (.lit (.int .i64 0))),
    .eff (some 11) (.call { callee := .value (.func 71), args := #[.tmp 10], argTypes := #[22] }) 22 [(10, .slot 2)] none [],
    .need (.n1 .nilchk (.slot 0)),
    .need (.n1 (.faddr 27) (.n1 .nilchk (.slot 0))),
    .eff none (.store 3 (.tmp 13) (.tmp 9)) 0 [(13, .n1 (.faddr 27) (.n1 .nilchk (.slot 0))), (9, .n2 .mx (.slot 1) (.lit (.int .i64 0)))] none [],
    .need (.n1 .nilchk (.slot 0)),
    .need (.n1 (.faddr 28) (.n1 .nilchk (.slot 0))),
    .eff none (.store 22 (.tmp 15) (.tmp 11)) 0 [(15, .n1 (.faddr 28) (.n1 .nilchk (.slot 0))), (11, .slot 11)] none []])
theorem k32 : fnOK Try.prog 2055 [] [] 3 Try.f32 = some h32 := by kernel_rfl
theorem c32 : callable Try.prog 32 = true := by kernel_rfl
theorem q32 {args : List Value} (ha : args.length = 3) {w : World} {next : Value → World → Prop} {QP : List PanicEntry → World → Prop} (H : hw Try.prog noPanic h32 (endV [] next) (σ0 args) w) : callK Try.prog 32 args w next QP := fn_rule Try.func32 mixed k32 ha H
theorem r32 {args : List Value} (ha : args.length = 3) {w : World} {next : Value → World → Prop} {QP : List PanicEntry → World → Prop} (H : hw Try.prog noPanic h32 (endV [] next) (σ0 args) w) : callvK Try.prog (.func (.func 32) #[] #[]) args w next QP := callf c32 (q32 ha H)

/- (*missive/disk.Disk).Lose -/
def h33 : HC :=
  (.reg [.need (.n2 .mx (.slot 1) (.lit (.int .i64 0))),
    .need (.n1 .nilchk (.slot 0)),
    .need (.n1 (.faddr 25) (.n1 .nilchk (.slot 0))),
    .eff none (.store 3 (.tmp 8) (.tmp 6)) 0 [(8, .n1 (.faddr 25) (.n1 .nilchk (.slot 0))), (6, .n2 .mx (.slot 1) (.lit (.int .i64 0)))] none []])
theorem k33 : fnOK Try.prog 3 [] [] 2 Try.f33 = some h33 := by kernel_rfl
theorem c33 : callable Try.prog 33 = true := by kernel_rfl
theorem q33 {args : List Value} (ha : args.length = 2) {w : World} {next : Value → World → Prop} {QP : List PanicEntry → World → Prop} (H : hw Try.prog noPanic h33 (endV [] next) (σ0 args) w) : callK Try.prog 33 args w next QP := fn_rule Try.func33 mixed k33 ha H
theorem r33 {args : List Value} (ha : args.length = 2) {w : World} {next : Value → World → Prop} {QP : List PanicEntry → World → Prop} (H : hw Try.prog noPanic h33 (endV [] next) (σ0 args) w) : callvK Try.prog (.func (.func 33) #[] #[]) args w next QP := callf c33 (q33 ha H)

/- (*missive/disk.Disk).Copy -/
def h34_1 : HC :=
  (.seq
  (.reg [.asg 2 (.slot 3)])
  .ret)
def h34 : HC :=
  (.seq
  (.reg [.asg 2 (.lit (.pointer none))])
  (.seq
  (.reg [.need (.n1 .nilchk (.slot 0)),
    .need (.n1 (.ldn 29) (.n1 .nilchk (.slot 0))),
    .asg 6 (.n1 (.ldn 29) (.n1 .nilchk (.slot 0))),
    .eff (some 3) (.alloc 86) 0 [] none [],
    .eff none (.store 86 (.tmp 3) (.tmp 6)) 0 [(3, .slot 3), (6, .slot 6)] none []])
  (.seq
  (.reg [.need (.n1 .nilchk (.slot 0)),
    .need (.n1 (.faddr 24) (.n1 .nilchk (.slot 0))),
    .need (.n1 .ld (.n1 (.faddr 24) (.n1 .nilchk (.slot 0)))),
    .eff (some 11) (.call { callee := .value (.func 72), args := #[.tmp 10], argTypes := #[84] }) 84 [(10, .n1 .ld (.n1 (.faddr 24) (.n1 .nilchk (.slot 0))))] none [],
    .need (.n1 (.faddr 24) (.slot 3)),
    .eff none (.store 84 (.tmp 12) (.tmp 11)) 0 [(12, .n1 (.faddr 24) (.slot 3)), (11, .slot 11)] none []])
  h34_1)))
theorem k34 : fnOK Try.prog 2125 [] [.tmp 2] 1 Try.f34 = some h34 := by kernel_rfl
theorem c34 : callable Try.prog 34 = true := by kernel_rfl
theorem q34 {args : List Value} (ha : args.length = 1) {w : World} {next : Value → World → Prop} {QP : List PanicEntry → World → Prop} (H : hw Try.prog noPanic h34 (endV [.tmp 2] next) (σ0 args) w) : callK Try.prog 34 args w next QP := fn_rule Try.func34 mixed k34 ha H
theorem r34 {args : List Value} (ha : args.length = 1) {w : World} {next : Value → World → Prop} {QP : List PanicEntry → World → Prop} (H : hw Try.prog noPanic h34 (endV [.tmp 2] next) (σ0 args) w) : callvK Try.prog (.func (.func 34) #[] #[]) args w next QP := callf c34 (q34 ha H)

/- (*missive/disk.Disk).Cut -/
def h42_3 : HC :=
  (.seq
  (.reg [.need (.n1 .nilchk (.slot 0)),
    .need (.n1 (.faddr 12) (.n1 .nilchk (.slot 0))),
    .need (.n2 (.iaddra 12 1) (.n1 (.faddr 12) (.n1 .nilchk (.slot 0))) (.slot 1)),
    .need (.n1 .ld (.n2 (.iaddra 12 1) (.n1 (.faddr 12) (.n1 .nilchk (.slot 0))) (.slot 1))),
    .need (.n3 (.sls false true) (.n1 .ld (.n2 (.iaddra 12 1) (.n1 (.faddr 12) (.n1 .nilchk (.slot 0))) (.slot 1))) (.lit (.tuple #[])) (.slot 2)),
    .eff (some 42) (.call { callee := .value (.func 66), args := #[.tmp 32, .tmp 33, .tmp 41], argTypes := #[24, 3, 9] }) 0 [(32, .slot 0), (33, .slot 1), (41, .n3 (.sls false true) (.n1 .ld (.n2 (.iaddra 12 1) (.n1 (.faddr 12) (.n1 .nilchk (.slot 0))) (.slot 1))) (.lit (.tuple #[])) (.slot 2))] none []])
  (.seq
  (.reg [.asg 6 (.lit (.int .i64 0))])
  .ret))
def h42_2 : HC :=
  (.seq
  (.seq
  (.reg [.need (.n2 (.bin .lss) (.slot 2) (.lit (.int .i64 0))),
    .eff (some 29) (.call { callee := .value (.func 24), args := #[.tmp 27, .tmp 28], argTypes := #[24, 3] }) 3 [(27, .slot 0), (28, .slot 1)] (some (.n2 (.bin .lss) (.slot 2) (.lit (.int .i64 0)), false)) [],
    .need (.gif (.n2 (.bin .lss) (.slot 2) (.lit (.int .i64 0))) false (.n2 (.bin .gtr) (.slot 2) (.slot 29))),
    .need (.n3 .pick (.n2 (.bin .lss) (.slot 2) (.lit (.int .i64 0))) (.lit (.bool true)) (.n2 (.bin .gtr) (.slot 2) (.slot 29))),
    .asg 31 (.n3 .pick (.n2 (.bin .lss) (.slot 2) (.lit (.int .i64 0))) (.lit (.bool true)) (.n2 (.bin .gtr) (.slot 2) (.slot 29)))])
  (.cond (.slot 31)
    (.seq
    (.reg [.asg 6 (.lit (.int .i64 1))])
    .ret)
    .skip))
  h42_3)
def h42_1 : HC :=
  (.seq
  (.seq
  (.reg [.eff (some 18) (.buildSlice 22 1 #[(0, .tmp 17)]) 22 [(17, .slot 1)] none [],
    .eff (some 19) (.call { callee := .value (.func 65), args := #[.tmp 16, .tmp 18], argTypes := #[24, 22] }) 26 [(16, .slot 0), (18, .slot 18)] none [],
    .asg 7 (.slot 19)])
  (.seq
  (.reg [.need (.n2 (.bin .neq) (.slot 7) (.lit (.int .i64 0))),
    .asg 21 (.n2 (.bin .neq) (.slot 7) (.lit (.int .i64 0)))])
  (.cond (.slot 21)
    (.seq
    (.reg [.asg 6 (.slot 7)])
    .ret)
    .skip)))
  h42_2)
def h42 : HC :=
  (.seq
  (.reg [.asg 6 (.lit (.int .i64 0))])
  (.seq
  (.seq
  (.reg [.eff (some 9) (.call { callee := .value (.func 63), args := #[.tmp 8], argTypes := #[24] }) 4 [(8, .slot 0)] none []])
  (.cond (.slot 9)
    (.reg [.need (.n1 .nilchk (.slot 0)),
      .need (.n1 (.faddr 28) (.n1 .nilchk (.slot 0))),
      .need (.n1 .ld (.n1 (.faddr 28) (.n1 .nilchk (.slot 0)))),
      .eff (some 15) (.call { callee := .value (.func 21), args := #[.tmp 10, .tmp 14], argTypes := #[24, 22] }) 0 [(10, .slot 0), (14, .n1 .ld (.n1 (.faddr 28) (.n1 .nilchk (.slot 0))))] none []])
    .skip))
  h42_1))
theorem k42 : fnOK Try.prog 4400733782727 [] [.tmp 6] 3 Try.f42 = some h42 := by kernel_rfl
theorem c42 : callable Try.prog 42 = true := by kernel_rfl
theorem q42 {args : List Value} (ha : args.length = 3) {w : World} {next : Value → World → Prop} {QP : List PanicEntry → World → Prop} (H : hw Try.prog noPanic h42 (endV [.tmp 6] next) (σ0 args) w) : callK Try.prog 42 args w next QP := fn_rule Try.func42 mixed k42 ha H
theorem r42 {args : List Value} (ha : args.length = 3) {w : World} {next : Value → World → Prop} {QP : List PanicEntry → World → Prop} (H : hw Try.prog noPanic h42 (endV [.tmp 6] next) (σ0 args) w) : callvK Try.prog (.func (.func 42) #[] #[]) args w next QP := callf c42 (q42 ha H)

/- (*missive/disk.Disk).ends -/
def h63_1 : HC :=
  (.seq
  (.reg [.need (.n1 .nilchk (.slot 0)),
    .need (.n1 (.faddr 27) (.n1 .nilchk (.slot 0))),
    .need (.n1 .ld (.n1 (.faddr 27) (.n1 .nilchk (.slot 0)))),
    .need (.n2 (.bin .sub) (.n1 .ld (.n1 (.faddr 27) (.n1 .nilchk (.slot 0)))) (.lit (.int .i64 1))),
    .need (.n1 .nilchk (.slot 0)),
    .need (.n1 (.faddr 27) (.n1 .nilchk (.slot 0))),
    .eff none (.store 3 (.tmp 20) (.tmp 18)) 0 [(20, .n1 (.faddr 27) (.n1 .nilchk (.slot 0))), (18, .n2 (.bin .sub) (.n1 .ld (.n1 (.faddr 27) (.n1 .nilchk (.slot 0)))) (.lit (.int .i64 1)))] none []])
  (.seq
  (.reg [.need (.n1 .nilchk (.slot 0)),
    .need (.n1 (.faddr 27) (.n1 .nilchk (.slot 0))),
    .need (.n1 .ld (.n1 (.faddr 27) (.n1 .nilchk (.slot 0)))),
    .need (.n2 (.bin .eql) (.n1 .ld (.n1 (.faddr 27) (.n1 .nilchk (.slot 0)))) (.lit (.int .i64 0))),
    .asg 2 (.n2 (.bin .eql) (.n1 .ld (.n1 (.faddr 27) (.n1 .nilchk (.slot 0)))) (.lit (.int .i64 0)))])
  .ret))
def h63 : HC :=
  (.seq
  (.reg [.asg 2 (.lit (.bool false))])
  (.seq
  (.seq
  (.reg [.need (.n1 .nilchk (.slot 0)),
    .need (.n1 (.faddr 26) (.n1 .nilchk (.slot 0))),
    .need (.n1 .ld (.n1 (.faddr 26) (.n1 .nilchk (.slot 0)))),
    .need (.gif (.n1 .ld (.n1 (.faddr 26) (.n1 .nilchk (.slot 0)))) false (.n1 .nilchk (.slot 0))),
    .need (.gif (.n1 .ld (.n1 (.faddr 26) (.n1 .nilchk (.slot 0)))) false (.n1 (.faddr 27) (.n1 .nilchk (.slot 0)))),
    .need (.gif (.n1 .ld (.n1 (.faddr 26) (.n1 .nilchk (.slot 0)))) false (.n1 .ld (.n1 (.faddr 27) (.n1 .nilchk (.slot 0))))),
    .need (.gif (.n1 .ld (.n1 (.faddr 26) (.n1 .nilchk (.slot 0)))) false (.n2 (.bin .eql) (.n1 .ld (.n1 (.faddr 27) (.n1 .nilchk (.slot 0)))) (.lit (.int .i64 0)))),
    .need (.n3 .pick (.n1 .ld (.n1 (.faddr 26) (.n1 .nilchk (.slot 0)))) (.lit (.bool true)) (.n2 (.bin .eql) (.n1 .ld (.n1 (.faddr 27) (.n1 .nilchk (.slot 0)))) (.lit (.int .i64 0)))),
    .asg 13 (.n3 .pick (.n1 .ld (.n1 (.faddr 26) (.n1 .nilchk (.slot 0)))) (.lit (.bool true)) (.n2 (.bin .eql) (.n1 .ld (.n1 (.faddr 27) (.n1 .nilchk (.slot 0)))) (.lit (.int .i64 0))))])
  (.cond (.slot 13)
    (.seq
    (.reg [.asg 2 (.lit (.bool false))])
    .ret)
    .skip))
  h63_1))
theorem k63 : fnOK Try.prog 8197 [] [.tmp 2] 1 Try.f63 = some h63 := by kernel_rfl
theorem c63 : callable Try.prog 63 = true := by kernel_rfl
theorem q63 {args : List Value} (ha : args.length = 1) {w : World} {next : Value → World → Prop} {QP : List PanicEntry → World → Prop} (H : hw Try.prog noPanic h63 (endV [.tmp 2] next) (σ0 args) w) : callK Try.prog 63 args w next QP := fn_rule Try.func63 mixed k63 ha H
theorem r63 {args : List Value} (ha : args.length = 1) {w : World} {next : Value → World → Prop} {QP : List PanicEntry → World → Prop} (H : hw Try.prog noPanic h63 (endV [.tmp 2] next) (σ0 args) w) : callvK Try.prog (.func (.func 63) #[] #[]) args w next QP := callf c63 (q63 ha H)

/- (*missive/disk.Disk).write -/
def h64_4 : HC :=
  (.block 2
    (.seq
    (.reg [.need (.n1 .lens (.slot 3)),
      .need (.n2 (.bin .rem) (.slot 2) (.lit (.int .i64 64))),
      .need (.n2 (.bin .sub) (.lit (.int .i64 64)) (.n2 (.bin .rem) (.slot 2) (.lit (.int .i64 64)))),
      .need (.n2 .mn (.n1 .lens (.slot 3)) (.n2 (.bin .sub) (.lit (.int .i64 64)) (.n2 (.bin .rem) (.slot 2) (.lit (.int .i64 64))))),
      .asg 10 (.n2 .mn (.n1 .lens (.slot 3)) (.n2 (.bin .sub) (.lit (.int .i64 64)) (.n2 (.bin .rem) (.slot 2) (.lit (.int .i64 64)))))])
    (.seq
    (.draw [.need (.n1 .nilchk (.slot 0)),
      .need (.n1 (.faddr 24) (.n1 .nilchk (.slot 0))),
      .need (.n1 .ld (.n1 (.faddr 24) (.n1 .nilchk (.slot 0)))),
      .asg 60 (.n1 .ld (.n1 (.faddr 24) (.n1 .nilchk (.slot 0)))),
      .need (.n3 (.sls false true) (.slot 3) (.lit (.tuple #[])) (.slot 10)),
      .need (.n2 (.put 0 1) (.lit (.agg #[(.int .i64 0), (.int .i64 0), (str [])])) (.slot 1)),
      .need (.n2 (.put 1 1) (.n2 (.put 0 1) (.lit (.agg #[(.int .i64 0), (.int .i64 0), (str [])])) (.slot 1)) (.slot 2)),
      .need (.n2 (.put 2 1) (.n2 (.put 1 1) (.n2 (.put 0 1) (.lit (.agg #[(.int .i64 0), (.int .i64 0), (str [])])) (.slot 1)) (.slot 2)) (.n3 (.sls false true) (.slot 3) (.lit (.tuple #[])) (.slot 10))),
      .eff (some 67) (.buildSlice 84 1 #[(0, .tmp 66)]) 84 [(66, .n2 (.put 2 1) (.n2 (.put 1 1) (.n2 (.put 0 1) (.lit (.agg #[(.int .i64 0), (.int .i64 0), (str [])])) (.slot 1)) (.slot 2)) (.n3 (.sls false true) (.slot 3) (.lit (.tuple #[])) (.slot 10)))] none [⟨none, .ld, .n1 (.faddr 24) (.n1 .nilchk (.slot 0))⟩],
      .eff (some 68) (.call { callee := .builtin .append, args := #[.tmp 60, .tmp 67], argTypes := #[84, 84] }) 84 [(60, .slot 60), (67, .slot 67)] none [],
      .need (.n1 .nilchk (.slot 0)),
      .need (.n1 (.faddr 24) (.n1 .nilchk (.slot 0))),
      .eff none (.store 84 (.tmp 70) (.tmp 68)) 0 [(70, .n1 (.faddr 24) (.n1 .nilchk (.slot 0))), (68, .slot 68)] none []])
    (.draw [.need (.n2 (.bin .add) (.slot 2) (.slot 10)),
      .need (.n3 (.sls true false) (.slot 3) (.slot 10) (.lit (.tuple #[]))),
      .asg 2 (.n2 (.bin .add) (.slot 2) (.slot 10)),
      .asg 3 (.n3 (.sls true false) (.slot 3) (.slot 10) (.lit (.tuple #[])))]))))
def h64_3 : HC :=
  (.seq
  (.seq
  (.reg [.need (.n2 (.sbin .neq) (.slot 3) (.lit (str []))),
    .asg 49 (.n2 (.sbin .neq) (.slot 3) (.lit (str [])))])
  (.cond (.slot 49)
    .skip
    (.exit 1)))
  h64_4)
def h64_5 : HC :=
  (.seq
  (.reg [.asg 8 (.lit (.int .i64 0))])
  .ret)
def h64_2 : HC :=
  (.seq
  (.draw [.need (.n1 .nilchk (.slot 0)),
    .need (.n1 (.faddr 12) (.n1 .nilchk (.slot 0))),
    .need (.n2 (.iaddra 12 1) (.n1 (.faddr 12) (.n1 .nilchk (.slot 0))) (.slot 1)),
    .need (.n1 .ld (.n2 (.iaddra 12 1) (.n1 (.faddr 12) (.n1 .nilchk (.slot 0))) (.slot 1))),
    .need (.n1 .nilchk (.slot 0)),
    .need (.n1 (.faddr 12) (.n1 .nilchk (.slot 0))),
    .eff (some 44) (.call { callee := .value (.func 69), args := #[.tmp 41, .tmp 42, .tmp 43], argTypes := #[9, 3, 9] }) 9 [(41, .n1 .ld (.n2 (.iaddra 12 1) (.n1 (.faddr 12) (.n1 .nilchk (.slot 0))) (.slot 1))), (42, .slot 2), (43, .slot 3)] none [],
    .need (.n2 (.iaddra 12 1) (.n1 (.faddr 12) (.n1 .nilchk (.slot 0))) (.slot 1)),
    .eff none (.store 9 (.tmp 47) (.tmp 44)) 0 [(47, .n2 (.iaddra 12 1) (.n1 (.faddr 12) (.n1 .nilchk (.slot 0))) (.slot 1)), (44, .slot 44)] none []])
  (.seq
  (.block 1
    (.loop
      h64_3))
  h64_5))
def h64_1 : HC :=
  (.seq
  (.block 0
    (.seq
    (.reg [.need (.n2 (.bin .lss) (.slot 2) (.lit (.int .i64 0))),
      .asg 18 (.n2 (.bin .lss) (.slot 2) (.lit (.int .i64 0)))])
    (.cond (.slot 18)
      (.seq
      (.reg [.asg 8 (.lit (.int .i64 1))])
      .ret)
      (.seq
      (.reg [.need (.n2 (.bin .gtr) (.slot 2) (.lit (.int .i64 16777216))),
        .need (.gif (.n2 (.bin .gtr) (.slot 2) (.lit (.int .i64 16777216))) false (.n1 .lens (.slot 3))),
        .need (.gif (.n2 (.bin .gtr) (.slot 2) (.lit (.int .i64 16777216))) false (.n2 (.bin .sub) (.lit (.int .i64 16777216)) (.slot 2))),
        .need (.gif (.n2 (.bin .gtr) (.slot 2) (.lit (.int .i64 16777216))) false (.n2 (.bin .gtr) (.n1 .lens (.slot 3)) (.n2 (.bin .sub) (.lit (.int .i64 16777216)) (.slot 2)))),
        .need (.n3 .pick (.n2 (.bin .gtr) (.slot 2) (.lit (.int .i64 16777216))) (.lit (.bool true)) (.n2 (.bin .gtr) (.n1 .lens (.slot 3)) (.n2 (.bin .sub) (.lit (.int .i64 16777216)) (.slot 2)))),
        .asg 21 (.n3 .pick (.n2 (.bin .gtr) (.slot 2) (.lit (.int .i64 16777216))) (.lit (.bool true)) (.n2 (.bin .gtr) (.n1 .lens (.slot 3)) (.n2 (.bin .sub) (.lit (.int .i64 16777216)) (.slot 2))))])
      (.cond (.slot 21)
        (.seq
        (.reg [.asg 8 (.lit (.int .i64 6))])
        .ret)
        (.seq
        (.reg [.need (.n2 (.sbin .eql) (.slot 3) (.lit (str []))),
          .asg 31 (.n2 (.sbin .eql) (.slot 3) (.lit (str [])))])
        (.cond (.slot 31)
          (.seq
          (.reg [.asg 8 (.lit (.int .i64 0))])
          .ret)
          .skip)))))))
  h64_2)
def h64 : HC :=
  (.seq
  (.reg [.asg 8 (.lit (.int .i64 0))])
  (.seq
  (.seq
  (.reg [.eff (some 13) (.buildSlice 22 1 #[(0, .tmp 12)]) 22 [(12, .slot 1)] none [],
    .eff (some 14) (.call { callee := .value (.func 65), args := #[.tmp 11, .tmp 13], argTypes := #[24, 22] }) 26 [(11, .slot 0), (13, .slot 13)] none [],
    .asg 9 (.slot 14)])
  (.seq
  (.reg [.need (.n2 (.bin .neq) (.slot 9) (.lit (.int .i64 0))),
    .asg 16 (.n2 (.bin .neq) (.slot 9) (.lit (.int .i64 0)))])
  (.cond (.slot 16)
    (.seq
    (.reg [.asg 8 (.slot 9)])
    .ret)
    .skip)))
  h64_1))
theorem k64 : fnOK Try.prog 443875359817925486351 [⟨10, [0, 0, 0, 0, 4, 20, 60, 124, 0, 0, 1020, 1, 2049, 8191, 16383], [(0, []), (1, []), (2, []), (3, []), (4, []), (5, []), (6, []), (7, []), (8, []), (9, []), (11, []), (12, []), (10, []), (13, []), (14, [])], none⟩, ⟨13, [0, 0, 2, 6, 14, 0, 0, 0, 0, 384, 992, 2016, 4094, 8191, 16383, 32767], [(0, []), (1, []), (2, []), (3, []), (4, []), (5, []), (6, []), (7, []), (8, []), (9, []), (10, []), (11, [4]), (12, []), (13, []), (14, []), (15, [])], none⟩, ⟨14, [0, 0, 3, 0, 0, 24, 7, 127], [(0, []), (1, []), (2, []), (3, []), (4, []), (5, []), (6, []), (7, [])], none⟩] [.tmp 8] 4 Try.f64 = some h64 := by kernel_rfl
theorem c64 : callable Try.prog 64 = true := by kernel_rfl
theorem q64 {args : List Value} (ha : args.length = 4) {w : World} {next : Value → World → Prop} {QP : List PanicEntry → World → Prop} (H : hw Try.prog noPanic h64 (endV [.tmp 8] next) (σ0 args) w) : callK Try.prog 64 args w next QP := fn_rule Try.func64 mixed k64 ha H
theorem r64 {args : List Value} (ha : args.length = 4) {w : World} {next : Value → World → Prop} {QP : List PanicEntry → World → Prop} (H : hw Try.prog noPanic h64 (endV [.tmp 8] next) (σ0 args) w) : callvK Try.prog (.func (.func 64) #[] #[]) args w next QP := callf c64 (q64 ha H)

/- (*missive/disk.Disk).may -/
def h65_4 : HC :=
  (.reg [.need (.n2 (.bin .add) (.slot 13) (.lit (.int .i64 1))),
    .asg 13 (.n2 (.bin .add) (.slot 13) (.lit (.int .i64 1)))])
def h65_3 : HC :=
  (.seq
  (.block 1
    (.seq
    (.reg [.need (.n2 (.iaddr 1) (.slot 11) (.slot 13)),
      .need (.n1 .ld (.n2 (.iaddr 1) (.slot 11) (.slot 13))),
      .asg 6 (.n1 .ld (.n2 (.iaddr 1) (.slot 11) (.slot 13)))])
    (.seq
    (.reg [.eff (some 18) (.call { callee := .value (.func 70), args := #[.tmp 17], argTypes := #[3] }) 4 [(17, .slot 6)] none [],
      .need (.n1 .bnot (.slot 18)),
      .asg 19 (.n1 .bnot (.slot 18))])
    (.cond (.slot 19)
      (.seq
      (.reg [.asg 4 (.lit (.int .i64 1))])
      .ret)
      .skip))))
  h65_4)
def h65_2 : HC :=
  (.seq
  (.reg [.need (.n2 (.bin .lss) (.slot 13) (.slot 12)),
    .asg 14 (.n2 (.bin .lss) (.slot 13) (.slot 12))])
  (.seq
  (.cond (.slot 14)
    .skip
    (.exit 0))
  h65_3))
def h65_5 : HC :=
  (.seq
  (.reg [.asg 4 (.lit (.int .i64 0))])
  .ret)
def h65_1 : HC :=
  (.seq
  (.seq
  (.reg [.asg 11 (.slot 1),
    .need (.n1 .lensl (.slot 11)),
    .asg 12 (.n1 .lensl (.slot 11)),
    .asg 13 (.lit (.int .i64 0))])
  (.block 0
    (.loop
      h65_2)))
  h65_5)
def h65 : HC :=
  (.seq
  (.reg [.asg 4 (.lit (.int .i64 0))])
  (.seq
  (.seq
  (.reg [.need (.n1 .nilchk (.slot 0)),
    .need (.n1 (.faddr 26) (.n1 .nilchk (.slot 0))),
    .need (.n1 .ld (.n1 (.faddr 26) (.n1 .nilchk (.slot 0)))),
    .asg 10 (.n1 .ld (.n1 (.faddr 26) (.n1 .nilchk (.slot 0))))])
  (.cond (.slot 10)
    (.seq
    (.reg [.asg 4 (.lit (.int .i64 8))])
    .ret)
    .skip))
  h65_1))
theorem k65 : fnOK Try.prog 818259 [] [.tmp 4] 2 Try.f65 = some h65 := by kernel_rfl
theorem c65 : callable Try.prog 65 = true := by kernel_rfl
theorem q65 {args : List Value} (ha : args.length = 2) {w : World} {next : Value → World → Prop} {QP : List PanicEntry → World → Prop} (H : hw Try.prog noPanic h65 (endV [.tmp 4] next) (σ0 args) w) : callK Try.prog 65 args w next QP := fn_rule Try.func65 mixed k65 ha H
theorem r65 {args : List Value} (ha : args.length = 2) {w : World} {next : Value → World → Prop} {QP : List PanicEntry → World → Prop} (H : hw Try.prog noPanic h65 (endV [.tmp 4] next) (σ0 args) w) : callvK Try.prog (.func (.func 65) #[] #[]) args w next QP := callf c65 (q65 ha H)

/- (*missive/disk.Disk).settle -/
def h66 : HC :=
  (.seq
  (.reg [.eff (some 4) (.box 3 (.tmp 1)) 0 [(1, .slot 1)] none []])
  (.seq
  (.draw [.need (.n1 .ld (.slot 4)),
    .need (.n1 .ld (.slot 4)),
    .asg 9 (.n1 .ld (.slot 4)),
    .need (.n1 .nilchk (.slot 0)),
    .need (.n1 (.faddr 0) (.n1 .nilchk (.slot 0))),
    .need (.n2 (.iaddra 12 1) (.n1 (.faddr 0) (.n1 .nilchk (.slot 0))) (.n1 .ld (.slot 4))),
    .need (.n1 .nilchk (.slot 0)),
    .need (.n1 (.faddr 12) (.n1 .nilchk (.slot 0))),
    .eff none (.store 9 (.tmp 14) (.tmp 10)) 0 [(14, .n2 (.iaddra 12 1) (.n1 (.faddr 0) (.n1 .nilchk (.slot 0))) (.n1 .ld (.slot 4))), (10, .slot 2)] none [⟨none, .ld, .slot 4⟩],
    .need (.n2 (.iaddra 12 1) (.n1 (.faddr 12) (.n1 .nilchk (.slot 0))) (.slot 9)),
    .eff none (.store 9 (.tmp 17) (.tmp 11)) 0 [(17, .n2 (.iaddra 12 1) (.n1 (.faddr 12) (.n1 .nilchk (.slot 0))) (.slot 9)), (11, .slot 2)] none []])
  (.reg [.need (.n1 .nilchk (.slot 0)),
    .need (.n1 (.faddr 24) (.n1 .nilchk (.slot 0))),
    .need (.n1 .ld (.n1 (.faddr 24) (.n1 .nilchk (.slot 0)))),
    .eff (some 24) (.call { callee := .value (.func 98), args := #[.tmp 22, .tmp 23], argTypes := #[84, 92] }) 84 [(22, .n1 .ld (.n1 (.faddr 24) (.n1 .nilchk (.slot 0)))), (23, .n2 .capt (.lit (.func (.func 99) #[] #[])) (.slot 4))] none [],
    .need (.n1 .nilchk (.slot 0)),
    .need (.n1 (.faddr 24) (.n1 .nilchk (.slot 0))),
    .eff none (.store 84 (.tmp 26) (.tmp 24)) 0 [(26, .n1 (.faddr 24) (.n1 .nilchk (.slot 0))), (24, .slot 24)] none []])))
theorem k66 : fnOK Try.prog 16777751 [⟨1, [0, 0, 0, 0, 0, 0, 1, 65, 211, 467, 4, 1028, 4095, 8191], [(0, []), (1, []), (2, []), (3, []), (4, []), (5, []), (6, []), (7, []), (8, []), (10, []), (11, []), (9, [3]), (12, []), (13, [])], none⟩] [] 3 Try.f66 = some h66 := by kernel_rfl
theorem c66 : callable Try.prog 66 = true := by kernel_rfl
theorem q66 {args : List Value} (ha : args.length = 3) {w : World} {next : Value → World → Prop} {QP : List PanicEntry → World → Prop} (H : hw Try.prog noPanic h66 (endV [] next) (σ0 args) w) : callK Try.prog 66 args w next QP := fn_rule Try.func66 mixed k66 ha H
theorem r66 {args : List Value} (ha : args.length = 3) {w : World} {next : Value → World → Prop} {QP : List PanicEntry → World → Prop} (H : hw Try.prog noPanic h66 (endV [] next) (σ0 args) w) : callvK Try.prog (.func (.func 66) #[] #[]) args w next QP := callf c66 (q66 ha H)

/- slices.ContainsFunc(()missive/disk.pending,missive/disk.pending) -/
def h67 : HC :=
  (.seq
  (.reg [.asg 4 (.lit (.bool false))])
  (.seq
  (.reg [.eff (some 7) (.call { callee := .value (.func 100), args := #[.tmp 5, .tmp 6], argTypes := #[84, 92] }) 3 [(5, .slot 0), (6, .slot 1)] none [],
    .need (.n2 (.bin .geq) (.slot 7) (.lit (.int .i64 0))),
    .asg 4 (.n2 (.bin .geq) (.slot 7) (.lit (.int .i64 0)))])
  .ret))
theorem k67 : fnOK Try.prog 147 [] [.tmp 4] 2 Try.f67 = some h67 := by kernel_rfl
theorem c67 : callable Try.prog 67 = true := by kernel_rfl
theorem q67 {args : List Value} (ha : args.length = 2) {w : World} {next : Value → World → Prop} {QP : List PanicEntry → World → Prop} (H : hw Try.prog noPanic h67 (endV [.tmp 4] next) (σ0 args) w) : callK Try.prog 67 args w next QP := fn_rule Try.func67 mixed k67 ha H
theorem r67 {args : List Value} (ha : args.length = 2) {w : World} {next : Value → World → Prop} {QP : List PanicEntry → World → Prop} (H : hw Try.prog noPanic h67 (endV [.tmp 4] next) (σ0 args) w) : callvK Try.prog (.func (.func 67) #[] #[]) args w next QP := callf c67 (q67 ha H)

/- (*missive/disk.Disk).Turn$1 -/
def h68 : HC :=
  (.seq
  (.reg [.eff (some 2) (.box 91 (.tmp 0)) 0 [(0, .slot 0)] none [],
    .asg 3 (.lit (.bool false))])
  (.seq
  (.reg [.need (.n1 (.faddr 0) (.slot 2)),
    .need (.n1 .ld (.n1 (.faddr 0) (.slot 2))),
    .need (.n1 .ld (.slot 1)),
    .need (.n2 (.bin .eql) (.n1 .ld (.n1 (.faddr 0) (.slot 2))) (.n1 .ld (.slot 1))),
    .asg 3 (.n2 (.bin .eql) (.n1 .ld (.n1 (.faddr 0) (.slot 2))) (.n1 .ld (.slot 1)))])
  .ret))
theorem k68 : fnOK Try.prog 15 [] [.tmp 3] 2 Try.f68 = some h68 := by kernel_rfl
theorem c68 : callable Try.prog 68 = true := by kernel_rfl
theorem q68 {args : List Value} (ha : args.length = 2) {w : World} {next : Value → World → Prop} {QP : List PanicEntry → World → Prop} (H : hw Try.prog noPanic h68 (endV [.tmp 3] next) (σ0 args) w) : callK Try.prog 68 args w next QP := fn_rule Try.func68 mixed k68 ha H
theorem r68 {args : List Value} (ha : args.length = 2) {w : World} {next : Value → World → Prop} {QP : List PanicEntry → World → Prop} (H : hw Try.prog noPanic h68 (endV [.tmp 3] next) (σ0 args) w) : callvK Try.prog (.func (.func 68) #[] #[]) args w next QP := callf c68 (q68 ha H)

/- missive/disk.put -/
def h69 : HC :=
  (.seq
  (.reg [.asg 6 (.lit (str []))])
  (.seq
  (.reg [.need (.n1 .lens (.slot 0)),
    .need (.n1 .lens (.slot 2)),
    .need (.n2 (.bin .add) (.slot 1) (.n1 .lens (.slot 2))),
    .need (.n2 .mx (.n1 .lens (.slot 0)) (.n2 (.bin .add) (.slot 1) (.n1 .lens (.slot 2)))),
    .eff (some 15) (.makeSlice 36 (.tmp 14) (.tmp 14)) 36 [(14, .n2 .mx (.n1 .lens (.slot 0)) (.n2 (.bin .add) (.slot 1) (.n1 .lens (.slot 2)))), (14, .n2 .mx (.n1 .lens (.slot 0)) (.n2 (.bin .add) (.slot 1) (.n1 .lens (.slot 2))))] none [],
    .asg 7 (.slot 15)])
  (.seq
  (.reg [.eff (some 18) (.call { callee := .builtin .copy, args := #[.tmp 16, .tmp 17], argTypes := #[36, 9] }) 3 [(16, .slot 7), (17, .slot 0)] none []])
  (.seq
  (.reg [.need (.n3 (.slv 1 true false) (.slot 7) (.slot 1) (.lit (.tuple #[]))),
    .eff (some 23) (.call { callee := .builtin .copy, args := #[.tmp 21, .tmp 22], argTypes := #[36, 9] }) 3 [(21, .n3 (.slv 1 true false) (.slot 7) (.slot 1) (.lit (.tuple #[]))), (22, .slot 2)] none []])
  (.seq
  (.reg [.eff (some 25) (.convert 36 9 (.tmp 24)) 9 [(24, .slot 7)] none [],
    .asg 6 (.slot 25)])
  .ret)))))
theorem k69 : fnOK Try.prog 42238151 [] [.tmp 6] 3 Try.f69 = some h69 := by kernel_rfl
theorem c69 : callable Try.prog 69 = true := by kernel_rfl
theorem q69 {args : List Value} (ha : args.length = 3) {w : World} {next : Value → World → Prop} {QP : List PanicEntry → World → Prop} (H : hw Try.prog noPanic h69 (endV [.tmp 6] next) (σ0 args) w) : callK Try.prog 69 args w next QP := fn_rule Try.func69 mixed k69 ha H
theorem r69 {args : List Value} (ha : args.length = 3) {w : World} {next : Value → World → Prop} {QP : List PanicEntry → World → Prop} (H : hw Try.prog noPanic h69 (endV [.tmp 6] next) (σ0 args) w) : callvK Try.prog (.func (.func 69) #[] #[]) args w next QP := callf c69 (q69 ha H)

/- missive/disk.is -/
def h70 : HC :=
  (.seq
  (.reg [.asg 2 (.lit (.bool false))])
  (.seq
  (.reg [.need (.n2 (.bin .geq) (.slot 0) (.lit (.int .i64 0))),
    .need (.gif (.n2 (.bin .geq) (.slot 0) (.lit (.int .i64 0))) true (.n2 (.bin .lss) (.slot 0) (.lit (.int .i64 12)))),
    .need (.n3 .pick (.n2 (.bin .geq) (.slot 0) (.lit (.int .i64 0))) (.n2 (.bin .lss) (.slot 0) (.lit (.int .i64 12))) (.lit (.bool false))),
    .asg 2 (.n3 .pick (.n2 (.bin .geq) (.slot 0) (.lit (.int .i64 0))) (.n2 (.bin .lss) (.slot 0) (.lit (.int .i64 12))) (.lit (.bool false)))])
  .ret))
theorem k70 : fnOK Try.prog 5 [] [.tmp 2] 1 Try.f70 = some h70 := by kernel_rfl
theorem c70 : callable Try.prog 70 = true := by kernel_rfl
theorem q70 {args : List Value} (ha : args.length = 1) {w : World} {next : Value → World → Prop} {QP : List PanicEntry → World → Prop} (H : hw Try.prog noPanic h70 (endV [.tmp 2] next) (σ0 args) w) : callK Try.prog 70 args w next QP := fn_rule Try.func70 mixed k70 ha H
theorem r70 {args : List Value} (ha : args.length = 1) {w : World} {next : Value → World → Prop} {QP : List PanicEntry → World → Prop} (H : hw Try.prog noPanic h70 (endV [.tmp 2] next) (σ0 args) w) : callvK Try.prog (.func (.func 70) #[] #[]) args w next QP := callf c70 (q70 ha H)

/- slices.Clone(()int,int) -/
def h71_1 : HC :=
  (.seq
  (.reg [.eff (some 5) (.buildSlice 22 0 #[]) 22 [] none [],
    .eff (some 7) (.call { callee := .builtin .append, args := #[.tmp 5, .tmp 6], argTypes := #[22, 22] }) 22 [(5, .slot 5), (6, .slot 0)] none [],
    .asg 2 (.slot 7)])
  .ret)
def h71 : HC :=
  (.seq
  (.reg [.asg 2 (.lit (.slice none 0 0))])
  (.seq
  (.seq
  (.reg [.need (.n2 (.slnil false) (.slot 0) (.lit (.slice none 0 0))),
    .asg 4 (.n2 (.slnil false) (.slot 0) (.lit (.slice none 0 0)))])
  (.cond (.slot 4)
    (.seq
    (.reg [.asg 2 (.lit (.slice none 0 0))])
    .ret)
    .skip))
  h71_1))
theorem k71 : fnOK Try.prog 181 [] [.tmp 2] 1 Try.f71 = some h71 := by kernel_rfl
theorem c71 : callable Try.prog 71 = true := by kernel_rfl
theorem q71 {args : List Value} (ha : args.length = 1) {w : World} {next : Value → World → Prop} {QP : List PanicEntry → World → Prop} (H : hw Try.prog noPanic h71 (endV [.tmp 2] next) (σ0 args) w) : callK Try.prog 71 args w next QP := fn_rule Try.func71 mixed k71 ha H
theorem r71 {args : List Value} (ha : args.length = 1) {w : World} {next : Value → World → Prop} {QP : List PanicEntry → World → Prop} (H : hw Try.prog noPanic h71 (endV [.tmp 2] next) (σ0 args) w) : callvK Try.prog (.func (.func 71) #[] #[]) args w next QP := callf c71 (q71 ha H)

/- slices.Clone(()missive/disk.pending,missive/disk.pending) -/
def h72_1 : HC :=
  (.seq
  (.reg [.eff (some 5) (.buildSlice 84 0 #[]) 84 [] none [],
    .eff (some 7) (.call { callee := .builtin .append, args := #[.tmp 5, .tmp 6], argTypes := #[84, 84] }) 84 [(5, .slot 5), (6, .slot 0)] none [],
    .asg 2 (.slot 7)])
  .ret)
def h72 : HC :=
  (.seq
  (.reg [.asg 2 (.lit (.slice none 0 0))])
  (.seq
  (.seq
  (.reg [.need (.n2 (.slnil false) (.slot 0) (.lit (.slice none 0 0))),
    .asg 4 (.n2 (.slnil false) (.slot 0) (.lit (.slice none 0 0)))])
  (.cond (.slot 4)
    (.seq
    (.reg [.asg 2 (.lit (.slice none 0 0))])
    .ret)
    .skip))
  h72_1))
theorem k72 : fnOK Try.prog 181 [] [.tmp 2] 1 Try.f72 = some h72 := by kernel_rfl
theorem c72 : callable Try.prog 72 = true := by kernel_rfl
theorem q72 {args : List Value} (ha : args.length = 1) {w : World} {next : Value → World → Prop} {QP : List PanicEntry → World → Prop} (H : hw Try.prog noPanic h72 (endV [.tmp 2] next) (σ0 args) w) : callK Try.prog 72 args w next QP := fn_rule Try.func72 mixed k72 ha H
theorem r72 {args : List Value} (ha : args.length = 1) {w : World} {next : Value → World → Prop} {QP : List PanicEntry → World → Prop} (H : hw Try.prog noPanic h72 (endV [.tmp 2] next) (σ0 args) w) : callvK Try.prog (.func (.func 72) #[] #[]) args w next QP := callf c72 (q72 ha H)

/- slices.DeleteFunc(()missive/disk.pending,missive/disk.pending) -/
def h98_4 : HC :=
  (.reg [.need (.n2 (.bin .add) (.slot 6) (.lit (.int .i64 1))),
    .asg 6 (.n2 (.bin .add) (.slot 6) (.lit (.int .i64 1)))])
def h98_3 : HC :=
  (.seq
  (.block 1
    (.seq
    (.reg [.need (.n2 (.iaddr 3) (.slot 0) (.slot 6)),
      .need (.n1 (.ldn 3) (.n2 (.iaddr 3) (.slot 0) (.slot 6))),
      .asg 25 (.n1 (.ldn 3) (.n2 (.iaddr 3) (.slot 0) (.slot 6))),
      .eff (some 7) (.alloc 91) 0 [] none [],
      .eff none (.store 91 (.tmp 7) (.tmp 25)) 0 [(7, .slot 7), (25, .slot 25)] none []])
    (.seq
    (.reg [.need (.n1 (.ldn 3) (.slot 7)),
      .eff (some 28) (.call { callee := .value (.tmp 26), args := #[.tmp 27], argTypes := #[91] }) 4 [(26, .slot 1), (27, .n1 (.ldn 3) (.slot 7))] none [],
      .need (.n1 .bnot (.slot 28)),
      .asg 29 (.n1 .bnot (.slot 28))])
    (.cond (.slot 29)
      (.seq
      (.reg [.need (.n1 (.ldn 3) (.slot 7)),
        .need (.n2 (.iaddr 3) (.slot 0) (.slot 5)),
        .eff none (.store 91 (.tmp 33) (.tmp 32)) 0 [(33, .n2 (.iaddr 3) (.slot 0) (.slot 5)), (32, .n1 (.ldn 3) (.slot 7))] none []])
      (.reg [.need (.n2 (.bin .add) (.slot 5) (.lit (.int .i64 1))),
        .asg 5 (.n2 (.bin .add) (.slot 5) (.lit (.int .i64 1)))]))
      .skip))))
  h98_4)
def h98_2 : HC :=
  (.seq
  (.seq
  (.reg [.need (.n1 .lensl (.slot 0)),
    .need (.n2 (.bin .lss) (.slot 6) (.n1 .lensl (.slot 0))),
    .asg 19 (.n2 (.bin .lss) (.slot 6) (.n1 .lensl (.slot 0)))])
  (.cond (.slot 19)
    .skip
    (.exit 0)))
  h98_3)
def h98_5 : HC :=
  (.seq
  (.reg [.need (.n3 (.slv 3 true false) (.slot 0) (.slot 5) (.lit (.tuple #[]))),
    .eff none (.call { callee := .builtin .clear, args := #[.tmp 38], argTypes := #[84] }) 0 [(38, .n3 (.slv 3 true false) (.slot 0) (.slot 5) (.lit (.tuple #[])))] none []])
  (.seq
  (.reg [.need (.n3 (.slv 3 false true) (.slot 0) (.lit (.tuple #[])) (.slot 5)),
    .asg 4 (.n3 (.slv 3 false true) (.slot 0) (.lit (.tuple #[])) (.slot 5))])
  .ret))
def h98_1 : HC :=
  (.seq
  (.seq
  (.reg [.need (.n2 (.bin .add) (.slot 5) (.lit (.int .i64 1))),
    .asg 6 (.n2 (.bin .add) (.slot 5) (.lit (.int .i64 1)))])
  (.block 0
    (.loop
      h98_2)))
  h98_5)
def h98 : HC :=
  (.seq
  (.reg [.asg 4 (.lit (.slice none 0 0))])
  (.seq
  (.reg [.eff (some 10) (.call { callee := .value (.func 100), args := #[.tmp 8, .tmp 9], argTypes := #[84, 92] }) 3 [(8, .slot 0), (9, .slot 1)] none [],
    .asg 5 (.slot 10)])
  (.seq
  (.seq
  (.reg [.need (.n2 (.bin .eql) (.slot 5) (.lit (.int .i64 (-1)))),
    .asg 12 (.n2 (.bin .eql) (.slot 5) (.lit (.int .i64 (-1))))])
  (.cond (.slot 12)
    (.seq
    (.reg [.asg 4 (.slot 0)])
    .ret)
    .skip))
  h98_1)))
theorem k98 : fnOK Try.prog 839390451 [] [.tmp 4] 2 Try.f98 = some h98 := by kernel_rfl
theorem c98 : callable Try.prog 98 = true := by kernel_rfl
theorem q98 {args : List Value} (ha : args.length = 2) {w : World} {next : Value → World → Prop} {QP : List PanicEntry → World → Prop} (H : hw Try.prog noPanic h98 (endV [.tmp 4] next) (σ0 args) w) : callK Try.prog 98 args w next QP := fn_rule Try.func98 mixed k98 ha H
theorem r98 {args : List Value} (ha : args.length = 2) {w : World} {next : Value → World → Prop} {QP : List PanicEntry → World → Prop} (H : hw Try.prog noPanic h98 (endV [.tmp 4] next) (σ0 args) w) : callvK Try.prog (.func (.func 98) #[] #[]) args w next QP := callf c98 (q98 ha H)

/- (*missive/disk.Disk).settle$1 -/
def h99 : HC :=
  (.seq
  (.reg [.eff (some 2) (.box 91 (.tmp 0)) 0 [(0, .slot 0)] none [],
    .asg 3 (.lit (.bool false))])
  (.seq
  (.reg [.need (.n1 (.faddr 0) (.slot 2)),
    .need (.n1 .ld (.n1 (.faddr 0) (.slot 2))),
    .need (.n1 .ld (.slot 1)),
    .need (.n2 (.bin .eql) (.n1 .ld (.n1 (.faddr 0) (.slot 2))) (.n1 .ld (.slot 1))),
    .asg 3 (.n2 (.bin .eql) (.n1 .ld (.n1 (.faddr 0) (.slot 2))) (.n1 .ld (.slot 1)))])
  .ret))
theorem k99 : fnOK Try.prog 15 [] [.tmp 3] 2 Try.f99 = some h99 := by kernel_rfl
theorem c99 : callable Try.prog 99 = true := by kernel_rfl
theorem q99 {args : List Value} (ha : args.length = 2) {w : World} {next : Value → World → Prop} {QP : List PanicEntry → World → Prop} (H : hw Try.prog noPanic h99 (endV [.tmp 3] next) (σ0 args) w) : callK Try.prog 99 args w next QP := fn_rule Try.func99 mixed k99 ha H
theorem r99 {args : List Value} (ha : args.length = 2) {w : World} {next : Value → World → Prop} {QP : List PanicEntry → World → Prop} (H : hw Try.prog noPanic h99 (endV [.tmp 3] next) (σ0 args) w) : callvK Try.prog (.func (.func 99) #[] #[]) args w next QP := callf c99 (q99 ha H)

/- slices.IndexFunc(()missive/disk.pending,missive/disk.pending) -/
def h100_3 : HC :=
  (.reg [.need (.n2 (.bin .add) (.slot 8) (.lit (.int .i64 1))),
    .asg 8 (.n2 (.bin .add) (.slot 8) (.lit (.int .i64 1)))])
def h100_2 : HC :=
  (.seq
  (.block 1
    (.seq
    (.reg [.asg 5 (.slot 8)])
    (.seq
    (.reg [.need (.n2 (.iaddr 3) (.slot 0) (.slot 5)),
      .need (.n1 (.ldn 3) (.n2 (.iaddr 3) (.slot 0) (.slot 5))),
      .eff (some 16) (.call { callee := .value (.tmp 11), args := #[.tmp 15], argTypes := #[91] }) 4 [(11, .slot 1), (15, .n1 (.ldn 3) (.n2 (.iaddr 3) (.slot 0) (.slot 5)))] none []])
    (.cond (.slot 16)
      (.seq
      (.reg [.asg 4 (.slot 5)])
      .ret)
      .skip))))
  h100_3)
def h100_1 : HC :=
  (.seq
  (.reg [.need (.n2 (.bin .lss) (.slot 8) (.slot 7)),
    .asg 9 (.n2 (.bin .lss) (.slot 8) (.slot 7))])
  (.seq
  (.cond (.slot 9)
    .skip
    (.exit 0))
  h100_2))
def h100_4 : HC :=
  (.seq
  (.reg [.asg 4 (.lit (.int .i64 (-1)))])
  .ret)
def h100 : HC :=
  (.seq
  (.reg [.asg 4 (.lit (.int .i64 0))])
  (.seq
  (.seq
  (.reg [.need (.n1 .lensl (.slot 0)),
    .asg 7 (.n1 .lensl (.slot 0)),
    .asg 8 (.lit (.int .i64 0))])
  (.block 0
    (.loop
      h100_1)))
  h100_4))
theorem k100 : fnOK Try.prog 66483 [] [.tmp 4] 2 Try.f100 = some h100 := by kernel_rfl
theorem c100 : callable Try.prog 100 = true := by kernel_rfl
theorem q100 {args : List Value} (ha : args.length = 2) {w : World} {next : Value → World → Prop} {QP : List PanicEntry → World → Prop} (H : hw Try.prog noPanic h100 (endV [.tmp 4] next) (σ0 args) w) : callK Try.prog 100 args w next QP := fn_rule Try.func100 mixed k100 ha H
theorem r100 {args : List Value} (ha : args.length = 2) {w : World} {next : Value → World → Prop} {QP : List PanicEntry → World → Prop} (H : hw Try.prog noPanic h100 (endV [.tmp 4] next) (σ0 args) w) : callvK Try.prog (.func (.func 100) #[] #[]) args w next QP := callf c100 (q100 ha H)

end Go.Proofs.Y
