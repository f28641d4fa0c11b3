/- the functions of the program as code over named slots, printed by hl.py -/
import Derived.Test.YthenjelndjlnfaaTCode
set_option linter.unusedSimpArgs false
set_option linter.unusedVariables false
set_option maxRecDepth 100000
set_option maxRecDepth 100000
namespace Go.Proofs.Y
open Go Go.HL Go.Proofs
/- slices.pdqsortCmpFunc(int) -/
def h53_7 : HC :=
  (.seq
  (.reg [.eff (some 111) (.call { callee := .value (.func 78), args := #[.tmp 106, .tmp 107, .tmp 108, .tmp 109, .tmp 110], argTypes := #[60, 3, 3, 3, 71] }) 54 [(106, .slot 0), (107, .slot 1), (108, .slot 2), (109, .slot 13), (110, .slot 4)] none [],
    .need (.n1 (.ext 0) (.slot 111)),
    .need (.n1 (.ext 1) (.slot 111)),
    .asg 16 (.n1 (.ext 0) (.slot 111)),
    .asg 17 (.n1 (.ext 1) (.slot 111))])
  (.seq
  (.reg [.asg 11 (.slot 17)])
  (.seq
  (.reg [.need (.n2 (.bin .sub) (.slot 16) (.slot 1)),
    .need (.n2 (.bin .sub) (.slot 2) (.slot 16)),
    .asg 18 (.n2 (.bin .sub) (.slot 16) (.slot 1)),
    .asg 19 (.n2 (.bin .sub) (.slot 2) (.slot 16))])
  (.seq
  (.reg [.need (.n2 (.bin .quo) (.slot 12) (.lit (.int .i64 8))),
    .asg 20 (.n2 (.bin .quo) (.slot 12) (.lit (.int .i64 8)))])
  (.seq
  (.reg [.need (.n2 (.bin .lss) (.slot 18) (.slot 19)),
    .asg 125 (.n2 (.bin .lss) (.slot 18) (.slot 19))])
  (.cond (.slot 125)
    (.seq
    (.reg [.need (.n2 (.bin .geq) (.slot 18) (.slot 20)),
      .asg 10 (.n2 (.bin .geq) (.slot 18) (.slot 20))])
    (.seq
    (.reg [.eff (some 134) (.call { callee := .value (.func 53), args := #[.tmp 129, .tmp 130, .tmp 131, .tmp 132, .tmp 133], argTypes := #[60, 3, 3, 3, 71] }) 0 [(129, .slot 0), (130, .slot 1), (131, .slot 16), (132, .slot 3), (133, .slot 4)] none []])
    (.reg [.need (.n2 (.bin .add) (.slot 16) (.lit (.int .i64 1))),
      .asg 1 (.n2 (.bin .add) (.slot 16) (.lit (.int .i64 1)))])))
    (.seq
    (.reg [.need (.n2 (.bin .geq) (.slot 19) (.slot 20)),
      .asg 10 (.n2 (.bin .geq) (.slot 19) (.slot 20))])
    (.seq
    (.reg [.need (.n2 (.bin .add) (.slot 16) (.lit (.int .i64 1))),
      .eff (some 146) (.call { callee := .value (.func 53), args := #[.tmp 140, .tmp 142, .tmp 143, .tmp 144, .tmp 145], argTypes := #[60, 3, 3, 3, 71] }) 0 [(140, .slot 0), (142, .n2 (.bin .add) (.slot 16) (.lit (.int .i64 1))), (143, .slot 2), (144, .slot 3), (145, .slot 4)] none []])
    (.reg [.asg 2 (.slot 16)])))))))))
def h53_6 : HC :=
  (.seq
  (.seq
  (.draw [.need (.n2 (.bin .gtr) (.slot 1) (.lit (.int .i64 0))),
    .need (.gif (.n2 (.bin .gtr) (.slot 1) (.lit (.int .i64 0))) true (.n2 (.bin .sub) (.slot 1) (.lit (.int .i64 1)))),
    .need (.gif (.n2 (.bin .gtr) (.slot 1) (.lit (.int .i64 0))) true (.n2 (.iaddr 1) (.slot 0) (.n2 (.bin .sub) (.slot 1) (.lit (.int .i64 1))))),
    .need (.gif (.n2 (.bin .gtr) (.slot 1) (.lit (.int .i64 0))) true (.n1 .ld (.n2 (.iaddr 1) (.slot 0) (.n2 (.bin .sub) (.slot 1) (.lit (.int .i64 1)))))),
    .need (.gif (.n2 (.bin .gtr) (.slot 1) (.lit (.int .i64 0))) true (.n2 (.iaddr 1) (.slot 0) (.slot 13))),
    .need (.gif (.n2 (.bin .gtr) (.slot 1) (.lit (.int .i64 0))) true (.n1 .ld (.n2 (.iaddr 1) (.slot 0) (.slot 13)))),
    .eff (some 94) (.call { callee := .value (.tmp 84), args := #[.tmp 89, .tmp 93], argTypes := #[3, 3] }) 3 [(84, .slot 4), (89, .n1 .ld (.n2 (.iaddr 1) (.slot 0) (.n2 (.bin .sub) (.slot 1) (.lit (.int .i64 1))))), (93, .n1 .ld (.n2 (.iaddr 1) (.slot 0) (.slot 13)))] (some (.n2 (.bin .gtr) (.slot 1) (.lit (.int .i64 0)), true)) [],
    .need (.gif (.n2 (.bin .gtr) (.slot 1) (.lit (.int .i64 0))) true (.n2 (.bin .lss) (.slot 94) (.lit (.int .i64 0)))),
    .need (.gif (.n2 (.bin .gtr) (.slot 1) (.lit (.int .i64 0))) true (.n1 .bnot (.n2 (.bin .lss) (.slot 94) (.lit (.int .i64 0))))),
    .need (.n3 .pick (.n2 (.bin .gtr) (.slot 1) (.lit (.int .i64 0))) (.n1 .bnot (.n2 (.bin .lss) (.slot 94) (.lit (.int .i64 0)))) (.lit (.bool false))),
    .asg 97 (.n3 .pick (.n2 (.bin .gtr) (.slot 1) (.lit (.int .i64 0))) (.n1 .bnot (.n2 (.bin .lss) (.slot 94) (.lit (.int .i64 0)))) (.lit (.bool false)))])
  (.cond (.slot 97)
    (.seq
    (.reg [.eff (some 103) (.call { callee := .value (.func 77), args := #[.tmp 98, .tmp 99, .tmp 100, .tmp 101, .tmp 102], argTypes := #[60, 3, 3, 3, 71] }) 3 [(98, .slot 0), (99, .slot 1), (100, .slot 2), (101, .slot 13), (102, .slot 4)] none [],
      .asg 15 (.slot 103)])
    (.seq
    (.reg [.asg 1 (.slot 15)])
    (.exit 1)))
    .skip))
  h53_7)
def h53_5 : HC :=
  (.seq
  (.seq
  (.reg [.need (.n3 .pick (.slot 10) (.slot 11) (.lit (.bool false))),
    .need (.gif (.n3 .pick (.slot 10) (.slot 11) (.lit (.bool false))) true (.n2 (.bin .eql) (.slot 14) (.lit (.int .i64 1)))),
    .need (.n3 .pick (.n3 .pick (.slot 10) (.slot 11) (.lit (.bool false))) (.n2 (.bin .eql) (.slot 14) (.lit (.int .i64 1))) (.lit (.bool false))),
    .asg 75 (.n3 .pick (.n3 .pick (.slot 10) (.slot 11) (.lit (.bool false))) (.n2 (.bin .eql) (.slot 14) (.lit (.int .i64 1))) (.lit (.bool false)))])
  (.cond (.slot 75)
    (.seq
    (.reg [.eff (some 80) (.call { callee := .value (.func 76), args := #[.tmp 76, .tmp 77, .tmp 78, .tmp 79], argTypes := #[60, 3, 3, 71] }) 4 [(76, .slot 0), (77, .slot 1), (78, .slot 2), (79, .slot 4)] none []])
    (.cond (.slot 80)
      .ret
      .skip))
    .skip))
  h53_6)
def h53_4 : HC :=
  (.seq
  (.reg [.eff (some 52) (.call { callee := .value (.func 74), args := #[.tmp 48, .tmp 49, .tmp 50, .tmp 51], argTypes := #[60, 3, 3, 71] }) 91 [(48, .slot 0), (49, .slot 1), (50, .slot 2), (51, .slot 4)] none [],
    .need (.n1 (.ext 0) (.slot 52)),
    .need (.n1 (.ext 1) (.slot 52)),
    .asg 13 (.n1 (.ext 0) (.slot 52)),
    .asg 14 (.n1 (.ext 1) (.slot 52))])
  (.seq
  (.seq
  (.reg [.need (.n2 (.bin .eql) (.slot 14) (.lit (.int .i64 2))),
    .asg 56 (.n2 (.bin .eql) (.slot 14) (.lit (.int .i64 2)))])
  (.cond (.slot 56)
    (.seq
    (.reg [.eff (some 61) (.call { callee := .value (.func 75), args := #[.tmp 57, .tmp 58, .tmp 59, .tmp 60], argTypes := #[60, 3, 3, 71] }) 0 [(57, .slot 0), (58, .slot 1), (59, .slot 2), (60, .slot 4)] none []])
    (.seq
    (.reg [.need (.n2 (.bin .sub) (.slot 2) (.lit (.int .i64 1))),
      .need (.n2 (.bin .sub) (.slot 13) (.slot 1)),
      .need (.n2 (.bin .sub) (.n2 (.bin .sub) (.slot 2) (.lit (.int .i64 1))) (.n2 (.bin .sub) (.slot 13) (.slot 1))),
      .asg 13 (.n2 (.bin .sub) (.n2 (.bin .sub) (.slot 2) (.lit (.int .i64 1))) (.n2 (.bin .sub) (.slot 13) (.slot 1)))])
    (.reg [.asg 14 (.lit (.int .i64 1))])))
    .skip))
  h53_5))
def h53_3 : HC :=
  (.seq
  (.seq
  (.reg [.need (.n1 .bnot (.slot 10)),
    .asg 39 (.n1 .bnot (.slot 10))])
  (.cond (.slot 39)
    (.seq
    (.reg [.eff (some 44) (.call { callee := .value (.func 73), args := #[.tmp 40, .tmp 41, .tmp 42, .tmp 43], argTypes := #[60, 3, 3, 71] }) 0 [(40, .slot 0), (41, .slot 1), (42, .slot 2), (43, .slot 4)] none []])
    (.reg [.need (.n2 (.bin .sub) (.slot 3) (.lit (.int .i64 1))),
      .asg 3 (.n2 (.bin .sub) (.slot 3) (.lit (.int .i64 1)))]))
    .skip))
  h53_4)
def h53_2 : HC :=
  (.seq
  (.seq
  (.reg [.need (.n2 (.bin .eql) (.slot 3) (.lit (.int .i64 0))),
    .asg 32 (.n2 (.bin .eql) (.slot 3) (.lit (.int .i64 0)))])
  (.cond (.slot 32)
    (.seq
    (.reg [.eff (some 37) (.call { callee := .value (.func 72), args := #[.tmp 33, .tmp 34, .tmp 35, .tmp 36], argTypes := #[60, 3, 3, 71] }) 0 [(33, .slot 0), (34, .slot 1), (35, .slot 2), (36, .slot 4)] none []])
    .ret)
    .skip))
  h53_3)
def h53_1 : HC :=
  (.block 1
    (.seq
    (.reg [.need (.n2 (.bin .sub) (.slot 2) (.slot 1)),
      .asg 12 (.n2 (.bin .sub) (.slot 2) (.slot 1))])
    (.seq
    (.seq
    (.reg [.need (.n2 (.bin .leq) (.slot 12) (.lit (.int .i64 12))),
      .asg 25 (.n2 (.bin .leq) (.slot 12) (.lit (.int .i64 12)))])
    (.cond (.slot 25)
      (.seq
      (.reg [.eff (some 30) (.call { callee := .value (.func 71), args := #[.tmp 26, .tmp 27, .tmp 28, .tmp 29], argTypes := #[60, 3, 3, 71] }) 0 [(26, .slot 0), (27, .slot 1), (28, .slot 2), (29, .slot 4)] none []])
      .ret)
      .skip))
    h53_2)))
def h53 : HC :=
  (.seq
  (.reg [.asg 10 (.lit (.bool true))])
  (.seq
  (.reg [.asg 11 (.lit (.bool true))])
  (.block 0
    (.loop
      h53_1))))
theorem k53 : fnOK Try.prog 89224801403507765643794065865431889425202207 [⟨17, [0, 1, 3, 7, 7, 7, 39, 119, 247, 7, 7, 1543, 3591, 8191, 16383, 32767, 65535], [(0, []), (1, []), (2, []), (3, []), (4, []), (5, []), (6, []), (7, []), (8, []), (9, []), (10, []), (11, []), (12, []), (13, []), (14, []), (15, []), (16, [])], none⟩] [] 5 Try.f53 = some h53 := by kernel_rfl
theorem c53 : callable Try.prog 53 = true := by kernel_rfl
theorem q53 {args : List Value} (ha : args.length = 5) {w : World} {next : Value → World → Prop} {QP : List PanicEntry → World → Prop} (H : hw Try.prog noPanic h53 (endV [] next) (σ0 args) w) : callK Try.prog 53 args w next QP := fn_rule Try.func53 mixed k53 ha H
theorem r53 {args : List Value} (ha : args.length = 5) {w : World} {next : Value → World → Prop} {QP : List PanicEntry → World → Prop} (H : hw Try.prog noPanic h53 (endV [] next) (σ0 args) w) : callvK Try.prog (.func (.func 53) #[] #[]) args w next QP := callf c53 (q53 ha H)

/- slices.insertionSortCmpFunc(int) -/
def h71_5 : HC :=
  (.reg [.need (.n2 (.bin .sub) (.slot 9) (.lit (.int .i64 1))),
    .asg 9 (.n2 (.bin .sub) (.slot 9) (.lit (.int .i64 1)))])
def h71_4 : HC :=
  (.seq
  (.block 3
    (.draw [.need (.n2 (.bin .sub) (.slot 9) (.lit (.int .i64 1))),
      .need (.n2 (.bin .sub) (.slot 9) (.lit (.int .i64 1))),
      .need (.n2 (.iaddr 1) (.slot 0) (.n2 (.bin .sub) (.slot 9) (.lit (.int .i64 1)))),
      .need (.n1 .ld (.n2 (.iaddr 1) (.slot 0) (.n2 (.bin .sub) (.slot 9) (.lit (.int .i64 1))))),
      .need (.n2 (.iaddr 1) (.slot 0) (.slot 9)),
      .need (.n1 .ld (.n2 (.iaddr 1) (.slot 0) (.slot 9))),
      .asg 50 (.n1 .ld (.n2 (.iaddr 1) (.slot 0) (.slot 9))),
      .need (.n2 (.iaddr 1) (.slot 0) (.slot 9)),
      .eff none (.store 3 (.tmp 51) (.tmp 46)) 0 [(51, .n2 (.iaddr 1) (.slot 0) (.slot 9)), (46, .n1 .ld (.n2 (.iaddr 1) (.slot 0) (.n2 (.bin .sub) (.slot 9) (.lit (.int .i64 1)))))] none [],
      .need (.n2 (.iaddr 1) (.slot 0) (.n2 (.bin .sub) (.slot 9) (.lit (.int .i64 1)))),
      .eff none (.store 3 (.tmp 52) (.tmp 50)) 0 [(52, .n2 (.iaddr 1) (.slot 0) (.n2 (.bin .sub) (.slot 9) (.lit (.int .i64 1)))), (50, .slot 50)] none []]))
  h71_5)
def h71_3 : HC :=
  (.seq
  (.seq
  (.draw [.need (.n2 (.bin .gtr) (.slot 9) (.slot 1)),
    .need (.gif (.n2 (.bin .gtr) (.slot 9) (.slot 1)) true (.n2 (.iaddr 1) (.slot 0) (.slot 9))),
    .need (.gif (.n2 (.bin .gtr) (.slot 9) (.slot 1)) true (.n1 .ld (.n2 (.iaddr 1) (.slot 0) (.slot 9)))),
    .need (.gif (.n2 (.bin .gtr) (.slot 9) (.slot 1)) true (.n2 (.bin .sub) (.slot 9) (.lit (.int .i64 1)))),
    .need (.gif (.n2 (.bin .gtr) (.slot 9) (.slot 1)) true (.n2 (.iaddr 1) (.slot 0) (.n2 (.bin .sub) (.slot 9) (.lit (.int .i64 1))))),
    .need (.gif (.n2 (.bin .gtr) (.slot 9) (.slot 1)) true (.n1 .ld (.n2 (.iaddr 1) (.slot 0) (.n2 (.bin .sub) (.slot 9) (.lit (.int .i64 1)))))),
    .eff (some 32) (.call { callee := .value (.tmp 22), args := #[.tmp 26, .tmp 31], argTypes := #[3, 3] }) 3 [(22, .slot 3), (26, .n1 .ld (.n2 (.iaddr 1) (.slot 0) (.slot 9))), (31, .n1 .ld (.n2 (.iaddr 1) (.slot 0) (.n2 (.bin .sub) (.slot 9) (.lit (.int .i64 1)))))] (some (.n2 (.bin .gtr) (.slot 9) (.slot 1), true)) [],
    .need (.gif (.n2 (.bin .gtr) (.slot 9) (.slot 1)) true (.n2 (.bin .lss) (.slot 32) (.lit (.int .i64 0)))),
    .need (.n3 .pick (.n2 (.bin .gtr) (.slot 9) (.slot 1)) (.n2 (.bin .lss) (.slot 32) (.lit (.int .i64 0))) (.lit (.bool false))),
    .asg 34 (.n3 .pick (.n2 (.bin .gtr) (.slot 9) (.slot 1)) (.n2 (.bin .lss) (.slot 32) (.lit (.int .i64 0))) (.lit (.bool false)))])
  (.cond (.slot 34)
    .skip
    (.exit 2)))
  h71_4)
def h71_6 : HC :=
  (.reg [.need (.n2 (.bin .add) (.slot 8) (.lit (.int .i64 1))),
    .asg 8 (.n2 (.bin .add) (.slot 8) (.lit (.int .i64 1)))])
def h71_2 : HC :=
  (.seq
  (.block 1
    (.seq
    (.reg [.asg 9 (.slot 8)])
    (.block 2
      (.loop
        h71_3))))
  h71_6)
def h71_1 : HC :=
  (.seq
  (.seq
  (.reg [.need (.n2 (.bin .lss) (.slot 8) (.slot 2)),
    .asg 14 (.n2 (.bin .lss) (.slot 8) (.slot 2))])
  (.cond (.slot 14)
    .skip
    (.exit 0)))
  h71_2)
def h71 : HC :=
  (.seq
  (.reg [.need (.n2 (.bin .add) (.slot 1) (.lit (.int .i64 1))),
    .asg 8 (.n2 (.bin .add) (.slot 1) (.lit (.int .i64 1)))])
  (.block 0
    (.loop
      h71_1)))
theorem k71 : fnOK Try.prog 1125921381696271 [⟨4, [0, 0, 3, 7, 15, 15, 15, 111, 239, 15, 15, 1039, 3599, 7695, 16383, 32767, 65535], [(0, []), (1, []), (2, []), (3, []), (4, []), (5, []), (6, []), (7, []), (8, []), (9, []), (10, []), (11, []), (12, []), (13, []), (14, []), (15, []), (16, [])], none⟩, ⟨6, [0, 0, 0, 0, 8, 0, 0, 64, 224, 480, 0, 0, 3072, 7168, 16355, 32739, 65535, 131071], [(0, []), (1, []), (2, []), (3, []), (4, []), (5, []), (6, []), (7, []), (8, []), (9, []), (10, []), (11, []), (12, []), (13, []), (14, []), (15, []), (16, []), (17, [])], none⟩] [] 4 Try.f71 = some h71 := by kernel_rfl
theorem c71 : callable Try.prog 71 = true := by kernel_rfl
theorem q71 {args : List Value} (ha : args.length = 4) {w : World} {next : Value → World → Prop} {QP : List PanicEntry → World → Prop} (H : hw Try.prog noPanic h71 (endV [] next) (σ0 args) w) : callK Try.prog 71 args w next QP := fn_rule Try.func71 mixed k71 ha H
theorem r71 {args : List Value} (ha : args.length = 4) {w : World} {next : Value → World → Prop} {QP : List PanicEntry → World → Prop} (H : hw Try.prog noPanic h71 (endV [] next) (σ0 args) w) : callvK Try.prog (.func (.func 71) #[] #[]) args w next QP := callf c71 (q71 ha H)

/- slices.heapSortCmpFunc(int) -/
def h72_3 : HC :=
  (.reg [.need (.n2 (.bin .sub) (.slot 11) (.lit (.int .i64 1))),
    .asg 11 (.n2 (.bin .sub) (.slot 11) (.lit (.int .i64 1)))])
def h72_2 : HC :=
  (.seq
  (.block 1
    (.reg [.eff (some 29) (.call { callee := .value (.func 85), args := #[.tmp 24, .tmp 25, .tmp 26, .tmp 27, .tmp 28], argTypes := #[60, 3, 3, 3, 71] }) 0 [(24, .slot 0), (25, .slot 11), (26, .slot 10), (27, .slot 8), (28, .slot 3)] none []]))
  h72_3)
def h72_1 : HC :=
  (.seq
  (.seq
  (.reg [.need (.n2 (.bin .geq) (.slot 11) (.lit (.int .i64 0))),
    .asg 21 (.n2 (.bin .geq) (.slot 11) (.lit (.int .i64 0)))])
  (.cond (.slot 21)
    .skip
    (.exit 0)))
  h72_2)
def h72_7 : HC :=
  (.reg [.need (.n2 (.bin .sub) (.slot 12) (.lit (.int .i64 1))),
    .asg 12 (.n2 (.bin .sub) (.slot 12) (.lit (.int .i64 1)))])
def h72_6 : HC :=
  (.seq
  (.block 3
    (.seq
    (.draw [.need (.n2 (.bin .add) (.slot 8) (.slot 12)),
      .need (.n2 (.bin .add) (.slot 8) (.slot 12)),
      .need (.n2 (.iaddr 1) (.slot 0) (.n2 (.bin .add) (.slot 8) (.slot 12))),
      .need (.n1 .ld (.n2 (.iaddr 1) (.slot 0) (.n2 (.bin .add) (.slot 8) (.slot 12)))),
      .need (.n2 (.iaddr 1) (.slot 0) (.slot 8)),
      .need (.n1 .ld (.n2 (.iaddr 1) (.slot 0) (.slot 8))),
      .asg 51 (.n1 .ld (.n2 (.iaddr 1) (.slot 0) (.slot 8))),
      .need (.n2 (.iaddr 1) (.slot 0) (.slot 8)),
      .eff none (.store 3 (.tmp 52) (.tmp 47)) 0 [(52, .n2 (.iaddr 1) (.slot 0) (.slot 8)), (47, .n1 .ld (.n2 (.iaddr 1) (.slot 0) (.n2 (.bin .add) (.slot 8) (.slot 12))))] none [],
      .need (.n2 (.iaddr 1) (.slot 0) (.n2 (.bin .add) (.slot 8) (.slot 12))),
      .eff none (.store 3 (.tmp 53) (.tmp 51)) 0 [(53, .n2 (.iaddr 1) (.slot 0) (.n2 (.bin .add) (.slot 8) (.slot 12))), (51, .slot 51)] none []])
    (.reg [.eff (some 59) (.call { callee := .value (.func 85), args := #[.tmp 54, .tmp 55, .tmp 56, .tmp 57, .tmp 58], argTypes := #[60, 3, 3, 3, 71] }) 0 [(54, .slot 0), (55, .slot 9), (56, .slot 12), (57, .slot 8), (58, .slot 3)] none []])))
  h72_7)
def h72_5 : HC :=
  (.seq
  (.seq
  (.reg [.need (.n2 (.bin .geq) (.slot 12) (.lit (.int .i64 0))),
    .asg 33 (.n2 (.bin .geq) (.slot 12) (.lit (.int .i64 0)))])
  (.cond (.slot 33)
    .skip
    (.exit 2)))
  h72_6)
def h72_4 : HC :=
  (.seq
  (.reg [.need (.n2 (.bin .sub) (.slot 10) (.lit (.int .i64 1))),
    .asg 12 (.n2 (.bin .sub) (.slot 10) (.lit (.int .i64 1)))])
  (.block 2
    (.loop
      h72_5)))
def h72 : HC :=
  (.seq
  (.reg [.asg 8 (.slot 1)])
  (.seq
  (.reg [.asg 9 (.lit (.int .i64 0))])
  (.seq
  (.reg [.need (.n2 (.bin .sub) (.slot 2) (.slot 1)),
    .asg 10 (.n2 (.bin .sub) (.slot 2) (.slot 1))])
  (.seq
  (.seq
  (.reg [.need (.n2 (.bin .sub) (.slot 10) (.lit (.int .i64 1))),
    .need (.n2 (.bin .quo) (.n2 (.bin .sub) (.slot 10) (.lit (.int .i64 1))) (.lit (.int .i64 2))),
    .asg 11 (.n2 (.bin .quo) (.n2 (.bin .sub) (.slot 10) (.lit (.int .i64 1))) (.lit (.int .i64 2)))])
  (.block 0
    (.loop
      h72_1)))
  h72_4))))
theorem k72 : fnOK Try.prog 578712561246019343 [⟨10, [0, 0, 0, 0, 0, 24, 0, 0, 0, 384, 960, 1984, 0, 0, 12288, 28672, 65475, 131011, 262143, 524287], [(0, []), (1, []), (2, []), (3, []), (4, []), (5, []), (6, []), (7, []), (8, []), (9, []), (10, []), (11, []), (12, []), (13, []), (14, []), (15, []), (16, []), (17, []), (18, []), (19, [])], none⟩] [] 4 Try.f72 = some h72 := by kernel_rfl
theorem c72 : callable Try.prog 72 = true := by kernel_rfl
theorem q72 {args : List Value} (ha : args.length = 4) {w : World} {next : Value → World → Prop} {QP : List PanicEntry → World → Prop} (H : hw Try.prog noPanic h72 (endV [] next) (σ0 args) w) : callK Try.prog 72 args w next QP := fn_rule Try.func72 mixed k72 ha H
theorem r72 {args : List Value} (ha : args.length = 4) {w : World} {next : Value → World → Prop} {QP : List PanicEntry → World → Prop} (H : hw Try.prog noPanic h72 (endV [] next) (σ0 args) w) : callvK Try.prog (.func (.func 72) #[] #[]) args w next QP := callf c72 (q72 ha H)

/- slices.breakPatternsCmpFunc(int) -/
def h73_3 : HC :=
  (.draw [.need (.n2 (.bin .add) (.slot 1) (.slot 12)),
    .need (.n2 (.bin .add) (.slot 1) (.slot 12)),
    .need (.n2 (.iaddr 1) (.slot 0) (.n2 (.bin .add) (.slot 1) (.slot 12))),
    .need (.n1 .ld (.n2 (.iaddr 1) (.slot 0) (.n2 (.bin .add) (.slot 1) (.slot 12)))),
    .need (.n2 (.iaddr 1) (.slot 0) (.slot 11)),
    .need (.n1 .ld (.n2 (.iaddr 1) (.slot 0) (.slot 11))),
    .asg 64 (.n1 .ld (.n2 (.iaddr 1) (.slot 0) (.slot 11))),
    .need (.n2 (.iaddr 1) (.slot 0) (.slot 11)),
    .eff none (.store 3 (.tmp 65) (.tmp 60)) 0 [(65, .n2 (.iaddr 1) (.slot 0) (.slot 11)), (60, .n1 .ld (.n2 (.iaddr 1) (.slot 0) (.n2 (.bin .add) (.slot 1) (.slot 12))))] none [],
    .need (.n2 (.iaddr 1) (.slot 0) (.n2 (.bin .add) (.slot 1) (.slot 12))),
    .eff none (.store 3 (.tmp 66) (.tmp 64)) 0 [(66, .n2 (.iaddr 1) (.slot 0) (.n2 (.bin .add) (.slot 1) (.slot 12))), (64, .slot 64)] none []])
def h73_4 : HC :=
  (.reg [.need (.n2 (.bin .add) (.slot 11) (.lit (.int .i64 1))),
    .asg 11 (.n2 (.bin .add) (.slot 11) (.lit (.int .i64 1)))])
def h73_2 : HC :=
  (.seq
  (.block 1
    (.seq
    (.reg [.eff (some 38) (.call { callee := .value (.func 81), args := #[.tmp 9], argTypes := #[108] }) 99 [(9, .slot 9)] none [],
      .need (.n2 (.bin .sub) (.slot 10) (.lit (.int .u64 1))),
      .need (.n2 (.bin .and) (.slot 38) (.n2 (.bin .sub) (.slot 10) (.lit (.int .u64 1)))),
      .need (.n1 (.conv .i64) (.n2 (.bin .and) (.slot 38) (.n2 (.bin .sub) (.slot 10) (.lit (.int .u64 1))))),
      .asg 12 (.n1 (.conv .i64) (.n2 (.bin .and) (.slot 38) (.n2 (.bin .sub) (.slot 10) (.lit (.int .u64 1)))))])
    (.seq
    (.seq
    (.reg [.need (.n2 (.bin .geq) (.slot 12) (.slot 8)),
      .asg 45 (.n2 (.bin .geq) (.slot 12) (.slot 8))])
    (.cond (.slot 45)
      (.reg [.need (.n2 (.bin .sub) (.slot 12) (.slot 8)),
        .asg 12 (.n2 (.bin .sub) (.slot 12) (.slot 8))])
      .skip))
    h73_3)))
  h73_4)
def h73_1 : HC :=
  (.seq
  (.seq
  (.reg [.need (.n2 (.bin .quo) (.slot 8) (.lit (.int .i64 4))),
    .need (.n2 (.bin .mul) (.n2 (.bin .quo) (.slot 8) (.lit (.int .i64 4))) (.lit (.int .i64 2))),
    .need (.n2 (.bin .add) (.slot 1) (.n2 (.bin .mul) (.n2 (.bin .quo) (.slot 8) (.lit (.int .i64 4))) (.lit (.int .i64 2)))),
    .need (.n2 (.bin .add) (.n2 (.bin .add) (.slot 1) (.n2 (.bin .mul) (.n2 (.bin .quo) (.slot 8) (.lit (.int .i64 4))) (.lit (.int .i64 2)))) (.lit (.int .i64 1))),
    .need (.n2 (.bin .leq) (.slot 11) (.n2 (.bin .add) (.n2 (.bin .add) (.slot 1) (.n2 (.bin .mul) (.n2 (.bin .quo) (.slot 8) (.lit (.int .i64 4))) (.lit (.int .i64 2)))) (.lit (.int .i64 1)))),
    .asg 35 (.n2 (.bin .leq) (.slot 11) (.n2 (.bin .add) (.n2 (.bin .add) (.slot 1) (.n2 (.bin .mul) (.n2 (.bin .quo) (.slot 8) (.lit (.int .i64 4))) (.lit (.int .i64 2)))) (.lit (.int .i64 1))))])
  (.cond (.slot 35)
    .skip
    (.exit 0)))
  h73_2)
def h73 : HC :=
  (.seq
  (.reg [.need (.n2 (.bin .sub) (.slot 2) (.slot 1)),
    .asg 8 (.n2 (.bin .sub) (.slot 2) (.slot 1))])
  (.seq
  (.reg [.need (.n2 (.bin .geq) (.slot 8) (.lit (.int .i64 8))),
    .asg 17 (.n2 (.bin .geq) (.slot 8) (.lit (.int .i64 8)))])
  (.cond (.slot 17)
    (.seq
    (.reg [.need (.n1 (.conv .u64) (.slot 8)),
      .eff (some 9) (.alloc 108) 0 [] none [],
      .eff none (.store 108 (.tmp 9) (.tmp 19)) 0 [(9, .slot 9), (19, .n1 (.conv .u64) (.slot 8))] none []])
    (.seq
    (.reg [.eff (some 21) (.call { callee := .value (.func 80), args := #[.tmp 20], argTypes := #[3] }) 74 [(20, .slot 8)] none [],
      .asg 10 (.slot 21)])
    (.seq
    (.reg [.need (.n2 (.bin .quo) (.slot 8) (.lit (.int .i64 4))),
      .need (.n2 (.bin .mul) (.n2 (.bin .quo) (.slot 8) (.lit (.int .i64 4))) (.lit (.int .i64 2))),
      .need (.n2 (.bin .add) (.slot 1) (.n2 (.bin .mul) (.n2 (.bin .quo) (.slot 8) (.lit (.int .i64 4))) (.lit (.int .i64 2)))),
      .need (.n2 (.bin .sub) (.n2 (.bin .add) (.slot 1) (.n2 (.bin .mul) (.n2 (.bin .quo) (.slot 8) (.lit (.int .i64 4))) (.lit (.int .i64 2)))) (.lit (.int .i64 1))),
      .asg 11 (.n2 (.bin .sub) (.n2 (.bin .add) (.slot 1) (.n2 (.bin .mul) (.n2 (.bin .quo) (.slot 8) (.lit (.int .i64 4))) (.lit (.int .i64 2)))) (.lit (.int .i64 1)))])
    (.block 0
      (.loop
        h73_1)))))
    .skip)))
theorem k73 : fnOK Try.prog 18446779567321521935 [⟨10, [0, 0, 0, 0, 0, 24, 0, 0, 0, 384, 960, 1984, 0, 0, 12288, 28672, 65475, 131011, 262143, 524287], [(0, []), (1, []), (2, []), (3, []), (4, []), (5, []), (6, []), (7, []), (8, []), (9, []), (10, []), (11, []), (12, []), (13, []), (14, []), (15, []), (16, []), (17, []), (18, []), (19, [])], none⟩] [] 4 Try.f73 = some h73 := by kernel_rfl
theorem c73 : callable Try.prog 73 = true := by kernel_rfl
theorem q73 {args : List Value} (ha : args.length = 4) {w : World} {next : Value → World → Prop} {QP : List PanicEntry → World → Prop} (H : hw Try.prog noPanic h73 (endV [] next) (σ0 args) w) : callK Try.prog 73 args w next QP := fn_rule Try.func73 mixed k73 ha H
theorem r73 {args : List Value} (ha : args.length = 4) {w : World} {next : Value → World → Prop} {QP : List PanicEntry → World → Prop} (H : hw Try.prog noPanic h73 (endV [] next) (σ0 args) w) : callvK Try.prog (.func (.func 73) #[] #[]) args w next QP := callf c73 (q73 ha H)

/- slices.choosePivotCmpFunc(int) -/
def h74_1 : HC :=
  (.reg [.eff (some 54) (.call { callee := .value (.func 87), args := #[.tmp 49, .tmp 50, .tmp 51, .tmp 52, .tmp 11, .tmp 53], argTypes := #[60, 3, 3, 3, 112, 71] }) 3 [(49, .slot 0), (50, .slot 12), (51, .slot 13), (52, .slot 14), (11, .slot 11), (53, .slot 3)] none [],
    .asg 13 (.slot 54)])
def h74_2 : HC :=
  (.seq
  (.reg [.need (.n1 .ld (.slot 11)),
    .asg 55 (.n1 .ld (.slot 11))])
  (.block 0
    (.seq
    (.reg [.need (.n2 (.bin .eql) (.slot 55) (.lit (.int .i64 0))),
      .asg 57 (.n2 (.bin .eql) (.slot 55) (.lit (.int .i64 0)))])
    (.cond (.slot 57)
      (.seq
      (.reg [.asg 8 (.slot 13),
        .asg 9 (.lit (.int .i64 1))])
      .ret)
      (.seq
      (.reg [.need (.n2 (.bin .eql) (.slot 55) (.lit (.int .i64 12))),
        .asg 60 (.n2 (.bin .eql) (.slot 55) (.lit (.int .i64 12)))])
      (.cond (.slot 60)
        (.seq
        (.reg [.asg 8 (.slot 13),
          .asg 9 (.lit (.int .i64 2))])
        .ret)
        (.seq
        (.reg [.asg 8 (.slot 13),
          .asg 9 (.lit (.int .i64 0))])
        .ret)))))))
def h74 : HC :=
  (.seq
  (.reg [.asg 8 (.lit (.int .i64 0)),
    .asg 9 (.lit (.int .i64 0))])
  (.seq
  (.reg [.need (.n2 (.bin .sub) (.slot 2) (.slot 1)),
    .asg 10 (.n2 (.bin .sub) (.slot 2) (.slot 1))])
  (.seq
  (.reg [.eff (some 11) (.alloc 3) 0 [] none []])
  (.seq
  (.reg [.need (.n2 (.bin .quo) (.slot 10) (.lit (.int .i64 4))),
    .need (.n2 (.bin .mul) (.n2 (.bin .quo) (.slot 10) (.lit (.int .i64 4))) (.lit (.int .i64 1))),
    .need (.n2 (.bin .add) (.slot 1) (.n2 (.bin .mul) (.n2 (.bin .quo) (.slot 10) (.lit (.int .i64 4))) (.lit (.int .i64 1)))),
    .asg 12 (.n2 (.bin .add) (.slot 1) (.n2 (.bin .mul) (.n2 (.bin .quo) (.slot 10) (.lit (.int .i64 4))) (.lit (.int .i64 1))))])
  (.seq
  (.reg [.need (.n2 (.bin .quo) (.slot 10) (.lit (.int .i64 4))),
    .need (.n2 (.bin .mul) (.n2 (.bin .quo) (.slot 10) (.lit (.int .i64 4))) (.lit (.int .i64 2))),
    .need (.n2 (.bin .add) (.slot 1) (.n2 (.bin .mul) (.n2 (.bin .quo) (.slot 10) (.lit (.int .i64 4))) (.lit (.int .i64 2)))),
    .asg 13 (.n2 (.bin .add) (.slot 1) (.n2 (.bin .mul) (.n2 (.bin .quo) (.slot 10) (.lit (.int .i64 4))) (.lit (.int .i64 2))))])
  (.seq
  (.reg [.need (.n2 (.bin .quo) (.slot 10) (.lit (.int .i64 4))),
    .need (.n2 (.bin .mul) (.n2 (.bin .quo) (.slot 10) (.lit (.int .i64 4))) (.lit (.int .i64 3))),
    .need (.n2 (.bin .add) (.slot 1) (.n2 (.bin .mul) (.n2 (.bin .quo) (.slot 10) (.lit (.int .i64 4))) (.lit (.int .i64 3)))),
    .asg 14 (.n2 (.bin .add) (.slot 1) (.n2 (.bin .mul) (.n2 (.bin .quo) (.slot 10) (.lit (.int .i64 4))) (.lit (.int .i64 3))))])
  (.seq
  (.seq
  (.reg [.need (.n2 (.bin .geq) (.slot 10) (.lit (.int .i64 8))),
    .asg 34 (.n2 (.bin .geq) (.slot 10) (.lit (.int .i64 8)))])
  (.cond (.slot 34)
    (.seq
    (.seq
    (.reg [.need (.n2 (.bin .geq) (.slot 10) (.lit (.int .i64 50))),
      .asg 36 (.n2 (.bin .geq) (.slot 10) (.lit (.int .i64 50)))])
    (.cond (.slot 36)
      (.seq
      (.reg [.eff (some 40) (.call { callee := .value (.func 86), args := #[.tmp 37, .tmp 38, .tmp 11, .tmp 39], argTypes := #[60, 3, 112, 71] }) 3 [(37, .slot 0), (38, .slot 12), (11, .slot 11), (39, .slot 3)] none [],
        .asg 12 (.slot 40)])
      (.seq
      (.reg [.eff (some 44) (.call { callee := .value (.func 86), args := #[.tmp 41, .tmp 42, .tmp 11, .tmp 43], argTypes := #[60, 3, 112, 71] }) 3 [(41, .slot 0), (42, .slot 13), (11, .slot 11), (43, .slot 3)] none [],
        .asg 13 (.slot 44)])
      (.reg [.eff (some 48) (.call { callee := .value (.func 86), args := #[.tmp 45, .tmp 46, .tmp 11, .tmp 47], argTypes := #[60, 3, 112, 71] }) 3 [(45, .slot 0), (46, .slot 14), (11, .slot 11), (47, .slot 3)] none [],
        .asg 14 (.slot 48)])))
      .skip))
    h74_1)
    .skip))
  h74_2)))))))
theorem k74 : fnOK Try.prog 1351380140784910095 [] [.tmp 8, .tmp 9] 4 Try.f74 = some h74 := by kernel_rfl
theorem c74 : callable Try.prog 74 = true := by kernel_rfl
theorem q74 {args : List Value} (ha : args.length = 4) {w : World} {next : Value → World → Prop} {QP : List PanicEntry → World → Prop} (H : hw Try.prog noPanic h74 (endV [.tmp 8, .tmp 9] next) (σ0 args) w) : callK Try.prog 74 args w next QP := fn_rule Try.func74 mixed k74 ha H
theorem r74 {args : List Value} (ha : args.length = 4) {w : World} {next : Value → World → Prop} {QP : List PanicEntry → World → Prop} (H : hw Try.prog noPanic h74 (endV [.tmp 8, .tmp 9] next) (σ0 args) w) : callvK Try.prog (.func (.func 74) #[] #[]) args w next QP := callf c74 (q74 ha H)

/- slices.reverseRangeCmpFunc(int) -/
def h75_2 : HC :=
  (.block 1
    (.seq
    (.draw [.need (.n2 (.iaddr 1) (.slot 0) (.slot 9)),
      .need (.n1 .ld (.n2 (.iaddr 1) (.slot 0) (.slot 9))),
      .need (.n2 (.iaddr 1) (.slot 0) (.slot 8)),
      .need (.n1 .ld (.n2 (.iaddr 1) (.slot 0) (.slot 8))),
      .asg 27 (.n1 .ld (.n2 (.iaddr 1) (.slot 0) (.slot 8))),
      .need (.n2 (.iaddr 1) (.slot 0) (.slot 8)),
      .eff none (.store 3 (.tmp 28) (.tmp 23)) 0 [(28, .n2 (.iaddr 1) (.slot 0) (.slot 8)), (23, .n1 .ld (.n2 (.iaddr 1) (.slot 0) (.slot 9)))] none [],
      .need (.n2 (.iaddr 1) (.slot 0) (.slot 9)),
      .eff none (.store 3 (.tmp 29) (.tmp 27)) 0 [(29, .n2 (.iaddr 1) (.slot 0) (.slot 9)), (27, .slot 27)] none []])
    (.seq
    (.reg [.need (.n2 (.bin .add) (.slot 8) (.lit (.int .i64 1))),
      .asg 8 (.n2 (.bin .add) (.slot 8) (.lit (.int .i64 1)))])
    (.reg [.need (.n2 (.bin .sub) (.slot 9) (.lit (.int .i64 1))),
      .asg 9 (.n2 (.bin .sub) (.slot 9) (.lit (.int .i64 1)))]))))
def h75_1 : HC :=
  (.seq
  (.seq
  (.reg [.need (.n2 (.bin .lss) (.slot 8) (.slot 9)),
    .asg 15 (.n2 (.bin .lss) (.slot 8) (.slot 9))])
  (.cond (.slot 15)
    .skip
    (.exit 0)))
  h75_2)
def h75 : HC :=
  (.seq
  (.reg [.asg 8 (.slot 1)])
  (.seq
  (.reg [.need (.n2 (.bin .sub) (.slot 2) (.lit (.int .i64 1))),
    .asg 9 (.n2 (.bin .sub) (.slot 2) (.lit (.int .i64 1)))])
  (.block 0
    (.loop
      h75_1))))
theorem k75 : fnOK Try.prog 134251279 [⟨3, [0, 0, 0, 0, 0, 0, 48, 112, 0, 0, 768, 1792, 4083, 8179, 16383, 32767], [(0, []), (1, []), (2, []), (3, []), (4, []), (5, []), (6, []), (7, []), (8, []), (9, []), (10, []), (11, []), (12, []), (13, []), (14, []), (15, [])], none⟩] [] 4 Try.f75 = some h75 := by kernel_rfl
theorem c75 : callable Try.prog 75 = true := by kernel_rfl
theorem q75 {args : List Value} (ha : args.length = 4) {w : World} {next : Value → World → Prop} {QP : List PanicEntry → World → Prop} (H : hw Try.prog noPanic h75 (endV [] next) (σ0 args) w) : callK Try.prog 75 args w next QP := fn_rule Try.func75 mixed k75 ha H
theorem r75 {args : List Value} (ha : args.length = 4) {w : World} {next : Value → World → Prop} {QP : List PanicEntry → World → Prop} (H : hw Try.prog noPanic h75 (endV [] next) (σ0 args) w) : callvK Try.prog (.func (.func 75) #[] #[]) args w next QP := callf c75 (q75 ha H)

/- slices.partialInsertionSortCmpFunc(int) -/
def h76_4 : HC :=
  (.block 3
    (.reg [.need (.n2 (.bin .add) (.slot 9) (.lit (.int .i64 1))),
      .asg 9 (.n2 (.bin .add) (.slot 9) (.lit (.int .i64 1)))]))
def h76_3 : HC :=
  (.seq
  (.seq
  (.draw [.need (.n2 (.bin .lss) (.slot 9) (.slot 2)),
    .need (.gif (.n2 (.bin .lss) (.slot 9) (.slot 2)) true (.n2 (.iaddr 1) (.slot 0) (.slot 9))),
    .need (.gif (.n2 (.bin .lss) (.slot 9) (.slot 2)) true (.n1 .ld (.n2 (.iaddr 1) (.slot 0) (.slot 9)))),
    .need (.gif (.n2 (.bin .lss) (.slot 9) (.slot 2)) true (.n2 (.bin .sub) (.slot 9) (.lit (.int .i64 1)))),
    .need (.gif (.n2 (.bin .lss) (.slot 9) (.slot 2)) true (.n2 (.iaddr 1) (.slot 0) (.n2 (.bin .sub) (.slot 9) (.lit (.int .i64 1))))),
    .need (.gif (.n2 (.bin .lss) (.slot 9) (.slot 2)) true (.n1 .ld (.n2 (.iaddr 1) (.slot 0) (.n2 (.bin .sub) (.slot 9) (.lit (.int .i64 1)))))),
    .eff (some 33) (.call { callee := .value (.tmp 23), args := #[.tmp 27, .tmp 32], argTypes := #[3, 3] }) 3 [(23, .slot 3), (27, .n1 .ld (.n2 (.iaddr 1) (.slot 0) (.slot 9))), (32, .n1 .ld (.n2 (.iaddr 1) (.slot 0) (.n2 (.bin .sub) (.slot 9) (.lit (.int .i64 1)))))] (some (.n2 (.bin .lss) (.slot 9) (.slot 2), true)) [],
    .need (.gif (.n2 (.bin .lss) (.slot 9) (.slot 2)) true (.n2 (.bin .lss) (.slot 33) (.lit (.int .i64 0)))),
    .need (.gif (.n2 (.bin .lss) (.slot 9) (.slot 2)) true (.n1 .bnot (.n2 (.bin .lss) (.slot 33) (.lit (.int .i64 0))))),
    .need (.n3 .pick (.n2 (.bin .lss) (.slot 9) (.slot 2)) (.n1 .bnot (.n2 (.bin .lss) (.slot 33) (.lit (.int .i64 0)))) (.lit (.bool false))),
    .asg 36 (.n3 .pick (.n2 (.bin .lss) (.slot 9) (.slot 2)) (.n1 .bnot (.n2 (.bin .lss) (.slot 33) (.lit (.int .i64 0)))) (.lit (.bool false)))])
  (.cond (.slot 36)
    .skip
    (.exit 2)))
  h76_4)
def h76_10 : HC :=
  (.draw [.need (.n2 (.bin .sub) (.slot 11) (.lit (.int .i64 1))),
    .need (.n2 (.bin .sub) (.slot 11) (.lit (.int .i64 1))),
    .need (.n2 (.iaddr 1) (.slot 0) (.n2 (.bin .sub) (.slot 11) (.lit (.int .i64 1)))),
    .need (.n1 .ld (.n2 (.iaddr 1) (.slot 0) (.n2 (.bin .sub) (.slot 11) (.lit (.int .i64 1))))),
    .need (.n2 (.iaddr 1) (.slot 0) (.slot 11)),
    .need (.n1 .ld (.n2 (.iaddr 1) (.slot 0) (.slot 11))),
    .asg 98 (.n1 .ld (.n2 (.iaddr 1) (.slot 0) (.slot 11))),
    .need (.n2 (.iaddr 1) (.slot 0) (.slot 11)),
    .eff none (.store 3 (.tmp 99) (.tmp 94)) 0 [(99, .n2 (.iaddr 1) (.slot 0) (.slot 11)), (94, .n1 .ld (.n2 (.iaddr 1) (.slot 0) (.n2 (.bin .sub) (.slot 11) (.lit (.int .i64 1)))))] none [],
    .need (.n2 (.iaddr 1) (.slot 0) (.n2 (.bin .sub) (.slot 11) (.lit (.int .i64 1)))),
    .eff none (.store 3 (.tmp 100) (.tmp 98)) 0 [(100, .n2 (.iaddr 1) (.slot 0) (.n2 (.bin .sub) (.slot 11) (.lit (.int .i64 1)))), (98, .slot 98)] none []])
def h76_11 : HC :=
  (.reg [.need (.n2 (.bin .sub) (.slot 11) (.lit (.int .i64 1))),
    .asg 11 (.n2 (.bin .sub) (.slot 11) (.lit (.int .i64 1)))])
def h76_9 : HC :=
  (.seq
  (.block 5
    (.seq
    (.seq
    (.draw [.need (.n2 (.iaddr 1) (.slot 0) (.slot 11)),
      .need (.n1 .ld (.n2 (.iaddr 1) (.slot 0) (.slot 11))),
      .need (.n2 (.bin .sub) (.slot 11) (.lit (.int .i64 1))),
      .need (.n2 (.iaddr 1) (.slot 0) (.n2 (.bin .sub) (.slot 11) (.lit (.int .i64 1)))),
      .need (.n1 .ld (.n2 (.iaddr 1) (.slot 0) (.n2 (.bin .sub) (.slot 11) (.lit (.int .i64 1))))),
      .eff (some 82) (.call { callee := .value (.tmp 72), args := #[.tmp 76, .tmp 81], argTypes := #[3, 3] }) 3 [(72, .slot 3), (76, .n1 .ld (.n2 (.iaddr 1) (.slot 0) (.slot 11))), (81, .n1 .ld (.n2 (.iaddr 1) (.slot 0) (.n2 (.bin .sub) (.slot 11) (.lit (.int .i64 1)))))] none [],
      .need (.n2 (.bin .lss) (.slot 82) (.lit (.int .i64 0))),
      .need (.n1 .bnot (.n2 (.bin .lss) (.slot 82) (.lit (.int .i64 0)))),
      .asg 84 (.n1 .bnot (.n2 (.bin .lss) (.slot 82) (.lit (.int .i64 0))))])
    (.cond (.slot 84)
      (.exit 4)
      .skip))
    h76_10))
  h76_11)
def h76_8 : HC :=
  (.seq
  (.seq
  (.reg [.need (.n2 (.bin .geq) (.slot 11) (.lit (.int .i64 1))),
    .asg 69 (.n2 (.bin .geq) (.slot 11) (.lit (.int .i64 1)))])
  (.cond (.slot 69)
    .skip
    (.exit 4)))
  h76_9)
def h76_15 : HC :=
  (.draw [.need (.n2 (.bin .sub) (.slot 12) (.lit (.int .i64 1))),
    .need (.n2 (.bin .sub) (.slot 12) (.lit (.int .i64 1))),
    .need (.n2 (.iaddr 1) (.slot 0) (.n2 (.bin .sub) (.slot 12) (.lit (.int .i64 1)))),
    .need (.n1 .ld (.n2 (.iaddr 1) (.slot 0) (.n2 (.bin .sub) (.slot 12) (.lit (.int .i64 1))))),
    .need (.n2 (.iaddr 1) (.slot 0) (.slot 12)),
    .need (.n1 .ld (.n2 (.iaddr 1) (.slot 0) (.slot 12))),
    .asg 138 (.n1 .ld (.n2 (.iaddr 1) (.slot 0) (.slot 12))),
    .need (.n2 (.iaddr 1) (.slot 0) (.slot 12)),
    .eff none (.store 3 (.tmp 139) (.tmp 134)) 0 [(139, .n2 (.iaddr 1) (.slot 0) (.slot 12)), (134, .n1 .ld (.n2 (.iaddr 1) (.slot 0) (.n2 (.bin .sub) (.slot 12) (.lit (.int .i64 1)))))] none [],
    .need (.n2 (.iaddr 1) (.slot 0) (.n2 (.bin .sub) (.slot 12) (.lit (.int .i64 1)))),
    .eff none (.store 3 (.tmp 140) (.tmp 138)) 0 [(140, .n2 (.iaddr 1) (.slot 0) (.n2 (.bin .sub) (.slot 12) (.lit (.int .i64 1)))), (138, .slot 138)] none []])
def h76_16 : HC :=
  (.reg [.need (.n2 (.bin .add) (.slot 12) (.lit (.int .i64 1))),
    .asg 12 (.n2 (.bin .add) (.slot 12) (.lit (.int .i64 1)))])
def h76_14 : HC :=
  (.seq
  (.block 7
    (.seq
    (.seq
    (.draw [.need (.n2 (.iaddr 1) (.slot 0) (.slot 12)),
      .need (.n1 .ld (.n2 (.iaddr 1) (.slot 0) (.slot 12))),
      .need (.n2 (.bin .sub) (.slot 12) (.lit (.int .i64 1))),
      .need (.n2 (.iaddr 1) (.slot 0) (.n2 (.bin .sub) (.slot 12) (.lit (.int .i64 1)))),
      .need (.n1 .ld (.n2 (.iaddr 1) (.slot 0) (.n2 (.bin .sub) (.slot 12) (.lit (.int .i64 1))))),
      .eff (some 122) (.call { callee := .value (.tmp 112), args := #[.tmp 116, .tmp 121], argTypes := #[3, 3] }) 3 [(112, .slot 3), (116, .n1 .ld (.n2 (.iaddr 1) (.slot 0) (.slot 12))), (121, .n1 .ld (.n2 (.iaddr 1) (.slot 0) (.n2 (.bin .sub) (.slot 12) (.lit (.int .i64 1)))))] none [],
      .need (.n2 (.bin .lss) (.slot 122) (.lit (.int .i64 0))),
      .need (.n1 .bnot (.n2 (.bin .lss) (.slot 122) (.lit (.int .i64 0)))),
      .asg 124 (.n1 .bnot (.n2 (.bin .lss) (.slot 122) (.lit (.int .i64 0))))])
    (.cond (.slot 124)
      (.exit 6)
      .skip))
    h76_15))
  h76_16)
def h76_13 : HC :=
  (.seq
  (.seq
  (.reg [.need (.n2 (.bin .lss) (.slot 12) (.slot 2)),
    .asg 109 (.n2 (.bin .lss) (.slot 12) (.slot 2))])
  (.cond (.slot 109)
    .skip
    (.exit 6)))
  h76_14)
def h76_12 : HC :=
  (.seq
  (.reg [.need (.n2 (.bin .sub) (.slot 2) (.slot 9)),
    .need (.n2 (.bin .geq) (.n2 (.bin .sub) (.slot 2) (.slot 9)) (.lit (.int .i64 2))),
    .asg 104 (.n2 (.bin .geq) (.n2 (.bin .sub) (.slot 2) (.slot 9)) (.lit (.int .i64 2)))])
  (.cond (.slot 104)
    (.seq
    (.reg [.need (.n2 (.bin .add) (.slot 9) (.lit (.int .i64 1))),
      .asg 12 (.n2 (.bin .add) (.slot 9) (.lit (.int .i64 1)))])
    (.block 6
      (.loop
        h76_13)))
    .skip))
def h76_7 : HC :=
  (.seq
  (.draw [.need (.n2 (.bin .sub) (.slot 9) (.lit (.int .i64 1))),
    .need (.n2 (.bin .sub) (.slot 9) (.lit (.int .i64 1))),
    .need (.n2 (.iaddr 1) (.slot 0) (.n2 (.bin .sub) (.slot 9) (.lit (.int .i64 1)))),
    .need (.n1 .ld (.n2 (.iaddr 1) (.slot 0) (.n2 (.bin .sub) (.slot 9) (.lit (.int .i64 1))))),
    .need (.n2 (.iaddr 1) (.slot 0) (.slot 9)),
    .need (.n1 .ld (.n2 (.iaddr 1) (.slot 0) (.slot 9))),
    .asg 59 (.n1 .ld (.n2 (.iaddr 1) (.slot 0) (.slot 9))),
    .need (.n2 (.iaddr 1) (.slot 0) (.slot 9)),
    .eff none (.store 3 (.tmp 60) (.tmp 55)) 0 [(60, .n2 (.iaddr 1) (.slot 0) (.slot 9)), (55, .n1 .ld (.n2 (.iaddr 1) (.slot 0) (.n2 (.bin .sub) (.slot 9) (.lit (.int .i64 1)))))] none [],
    .need (.n2 (.iaddr 1) (.slot 0) (.n2 (.bin .sub) (.slot 9) (.lit (.int .i64 1)))),
    .eff none (.store 3 (.tmp 61) (.tmp 59)) 0 [(61, .n2 (.iaddr 1) (.slot 0) (.n2 (.bin .sub) (.slot 9) (.lit (.int .i64 1)))), (59, .slot 59)] none []])
  (.seq
  (.seq
  (.reg [.need (.n2 (.bin .sub) (.slot 9) (.slot 1)),
    .need (.n2 (.bin .geq) (.n2 (.bin .sub) (.slot 9) (.slot 1)) (.lit (.int .i64 2))),
    .asg 65 (.n2 (.bin .geq) (.n2 (.bin .sub) (.slot 9) (.slot 1)) (.lit (.int .i64 2)))])
  (.cond (.slot 65)
    (.seq
    (.reg [.need (.n2 (.bin .sub) (.slot 9) (.lit (.int .i64 1))),
      .asg 11 (.n2 (.bin .sub) (.slot 9) (.lit (.int .i64 1)))])
    (.block 4
      (.loop
        h76_8)))
    .skip))
  h76_12))
def h76_6 : HC :=
  (.seq
  (.seq
  (.reg [.need (.n2 (.bin .sub) (.slot 2) (.slot 1)),
    .need (.n2 (.bin .lss) (.n2 (.bin .sub) (.slot 2) (.slot 1)) (.lit (.int .i64 50))),
    .asg 45 (.n2 (.bin .lss) (.n2 (.bin .sub) (.slot 2) (.slot 1)) (.lit (.int .i64 50)))])
  (.cond (.slot 45)
    (.seq
    (.reg [.asg 8 (.lit (.bool false))])
    .ret)
    .skip))
  h76_7)
def h76_5 : HC :=
  (.seq
  (.seq
  (.reg [.need (.n2 (.bin .eql) (.slot 9) (.slot 2)),
    .asg 41 (.n2 (.bin .eql) (.slot 9) (.slot 2))])
  (.cond (.slot 41)
    (.seq
    (.reg [.asg 8 (.lit (.bool true))])
    .ret)
    .skip))
  h76_6)
def h76_17 : HC :=
  (.reg [.need (.n2 (.bin .add) (.slot 10) (.lit (.int .i64 1))),
    .asg 10 (.n2 (.bin .add) (.slot 10) (.lit (.int .i64 1)))])
def h76_2 : HC :=
  (.seq
  (.block 1
    (.seq
    (.block 2
      (.loop
        h76_3))
    h76_5))
  h76_17)
def h76_1 : HC :=
  (.seq
  (.seq
  (.reg [.need (.n2 (.bin .lss) (.slot 10) (.lit (.int .i64 5))),
    .asg 16 (.n2 (.bin .lss) (.slot 10) (.lit (.int .i64 5)))])
  (.cond (.slot 16)
    .skip
    (.exit 0)))
  h76_2)
def h76_18 : HC :=
  (.seq
  (.reg [.asg 8 (.lit (.bool false))])
  .ret)
def h76 : HC :=
  (.seq
  (.reg [.asg 8 (.lit (.bool false))])
  (.seq
  (.reg [.need (.n2 (.bin .add) (.slot 1) (.lit (.int .i64 1))),
    .asg 9 (.n2 (.bin .add) (.slot 1) (.lit (.int .i64 1)))])
  (.seq
  (.seq
  (.reg [.asg 10 (.lit (.int .i64 0))])
  (.block 0
    (.loop
      h76_1)))
  h76_18)))
theorem k76 : fnOK Try.prog 348475728956593138653660013581272350793487 [⟨5, [0, 0, 3, 7, 15, 15, 15, 111, 239, 15, 15, 1039, 3599, 7695, 16383, 32767, 65535, 131071], [(0, []), (1, []), (2, []), (3, []), (4, []), (5, []), (6, []), (7, []), (8, []), (9, []), (10, []), (11, []), (12, []), (13, []), (14, []), (15, []), (16, []), (17, [])], none⟩, ⟨11, [0, 0, 0, 0, 8, 0, 0, 64, 224, 480, 0, 0, 3072, 7168, 16355, 32739, 65535, 131071], [(0, []), (1, []), (2, []), (3, []), (4, []), (5, []), (6, []), (7, []), (8, []), (9, []), (10, []), (11, []), (12, []), (13, []), (14, []), (15, []), (16, []), (17, [])], none⟩, ⟨16, [0, 0, 0, 6, 14, 0, 0, 64, 224, 480, 1023, 2047, 4095], [(0, []), (1, []), (2, []), (3, []), (4, []), (5, []), (6, []), (7, []), (8, []), (9, []), (10, []), (11, []), (12, [])], none⟩, ⟨17, [0, 0, 0, 0, 8, 0, 0, 64, 224, 480, 0, 0, 3072, 7168, 16355, 32739, 65535, 131071], [(0, []), (1, []), (2, []), (3, []), (4, []), (5, []), (6, []), (7, []), (8, []), (9, []), (10, []), (11, []), (12, []), (13, []), (14, []), (15, []), (16, []), (17, [])], none⟩, ⟨22, [0, 0, 0, 6, 14, 0, 0, 64, 224, 480, 1023, 2047, 4095], [(0, []), (1, []), (2, []), (3, []), (4, []), (5, []), (6, []), (7, []), (8, []), (9, []), (10, []), (11, []), (12, [])], none⟩, ⟨23, [0, 0, 0, 0, 8, 0, 0, 64, 224, 480, 0, 0, 3072, 7168, 16355, 32739, 65535, 131071], [(0, []), (1, []), (2, []), (3, []), (4, []), (5, []), (6, []), (7, []), (8, []), (9, []), (10, []), (11, []), (12, []), (13, []), (14, []), (15, []), (16, []), (17, [])], none⟩] [.tmp 8] 4 Try.f76 = some h76 := by kernel_rfl
theorem c76 : callable Try.prog 76 = true := by kernel_rfl
theorem q76 {args : List Value} (ha : args.length = 4) {w : World} {next : Value → World → Prop} {QP : List PanicEntry → World → Prop} (H : hw Try.prog noPanic h76 (endV [.tmp 8] next) (σ0 args) w) : callK Try.prog 76 args w next QP := fn_rule Try.func76 mixed k76 ha H
theorem r76 {args : List Value} (ha : args.length = 4) {w : World} {next : Value → World → Prop} {QP : List PanicEntry → World → Prop} (H : hw Try.prog noPanic h76 (endV [.tmp 8] next) (σ0 args) w) : callvK Try.prog (.func (.func 76) #[] #[]) args w next QP := callf c76 (q76 ha H)

/- slices.partitionEqualCmpFunc(int) -/
def h77_3 : HC :=
  (.block 3
    (.reg [.need (.n2 (.bin .add) (.slot 11) (.lit (.int .i64 1))),
      .asg 11 (.n2 (.bin .add) (.slot 11) (.lit (.int .i64 1)))]))
def h77_2 : HC :=
  (.seq
  (.seq
  (.draw [.need (.n2 (.bin .leq) (.slot 11) (.slot 12)),
    .need (.gif (.n2 (.bin .leq) (.slot 11) (.slot 12)) true (.n2 (.iaddr 1) (.slot 0) (.slot 1))),
    .need (.gif (.n2 (.bin .leq) (.slot 11) (.slot 12)) true (.n1 .ld (.n2 (.iaddr 1) (.slot 0) (.slot 1)))),
    .need (.gif (.n2 (.bin .leq) (.slot 11) (.slot 12)) true (.n2 (.iaddr 1) (.slot 0) (.slot 11))),
    .need (.gif (.n2 (.bin .leq) (.slot 11) (.slot 12)) true (.n1 .ld (.n2 (.iaddr 1) (.slot 0) (.slot 11)))),
    .eff (some 44) (.call { callee := .value (.tmp 35), args := #[.tmp 39, .tmp 43], argTypes := #[3, 3] }) 3 [(35, .slot 4), (39, .n1 .ld (.n2 (.iaddr 1) (.slot 0) (.slot 1))), (43, .n1 .ld (.n2 (.iaddr 1) (.slot 0) (.slot 11)))] (some (.n2 (.bin .leq) (.slot 11) (.slot 12), true)) [],
    .need (.gif (.n2 (.bin .leq) (.slot 11) (.slot 12)) true (.n2 (.bin .lss) (.slot 44) (.lit (.int .i64 0)))),
    .need (.gif (.n2 (.bin .leq) (.slot 11) (.slot 12)) true (.n1 .bnot (.n2 (.bin .lss) (.slot 44) (.lit (.int .i64 0))))),
    .need (.n3 .pick (.n2 (.bin .leq) (.slot 11) (.slot 12)) (.n1 .bnot (.n2 (.bin .lss) (.slot 44) (.lit (.int .i64 0)))) (.lit (.bool false))),
    .asg 47 (.n3 .pick (.n2 (.bin .leq) (.slot 11) (.slot 12)) (.n1 .bnot (.n2 (.bin .lss) (.slot 44) (.lit (.int .i64 0)))) (.lit (.bool false)))])
  (.cond (.slot 47)
    .skip
    (.exit 2)))
  h77_3)
def h77_6 : HC :=
  (.block 5
    (.reg [.need (.n2 (.bin .sub) (.slot 12) (.lit (.int .i64 1))),
      .asg 12 (.n2 (.bin .sub) (.slot 12) (.lit (.int .i64 1)))]))
def h77_5 : HC :=
  (.seq
  (.seq
  (.draw [.need (.n2 (.bin .leq) (.slot 11) (.slot 12)),
    .need (.gif (.n2 (.bin .leq) (.slot 11) (.slot 12)) true (.n2 (.iaddr 1) (.slot 0) (.slot 1))),
    .need (.gif (.n2 (.bin .leq) (.slot 11) (.slot 12)) true (.n1 .ld (.n2 (.iaddr 1) (.slot 0) (.slot 1)))),
    .need (.gif (.n2 (.bin .leq) (.slot 11) (.slot 12)) true (.n2 (.iaddr 1) (.slot 0) (.slot 12))),
    .need (.gif (.n2 (.bin .leq) (.slot 11) (.slot 12)) true (.n1 .ld (.n2 (.iaddr 1) (.slot 0) (.slot 12)))),
    .eff (some 63) (.call { callee := .value (.tmp 54), args := #[.tmp 58, .tmp 62], argTypes := #[3, 3] }) 3 [(54, .slot 4), (58, .n1 .ld (.n2 (.iaddr 1) (.slot 0) (.slot 1))), (62, .n1 .ld (.n2 (.iaddr 1) (.slot 0) (.slot 12)))] (some (.n2 (.bin .leq) (.slot 11) (.slot 12), true)) [],
    .need (.gif (.n2 (.bin .leq) (.slot 11) (.slot 12)) true (.n2 (.bin .lss) (.slot 63) (.lit (.int .i64 0)))),
    .need (.n3 .pick (.n2 (.bin .leq) (.slot 11) (.slot 12)) (.n2 (.bin .lss) (.slot 63) (.lit (.int .i64 0))) (.lit (.bool false))),
    .asg 65 (.n3 .pick (.n2 (.bin .leq) (.slot 11) (.slot 12)) (.n2 (.bin .lss) (.slot 63) (.lit (.int .i64 0))) (.lit (.bool false)))])
  (.cond (.slot 65)
    .skip
    (.exit 4)))
  h77_6)
def h77_8 : HC :=
  (.seq
  (.draw [.need (.n2 (.iaddr 1) (.slot 0) (.slot 12)),
    .need (.n1 .ld (.n2 (.iaddr 1) (.slot 0) (.slot 12))),
    .need (.n2 (.iaddr 1) (.slot 0) (.slot 11)),
    .need (.n1 .ld (.n2 (.iaddr 1) (.slot 0) (.slot 11))),
    .asg 82 (.n1 .ld (.n2 (.iaddr 1) (.slot 0) (.slot 11))),
    .need (.n2 (.iaddr 1) (.slot 0) (.slot 11)),
    .eff none (.store 3 (.tmp 83) (.tmp 78)) 0 [(83, .n2 (.iaddr 1) (.slot 0) (.slot 11)), (78, .n1 .ld (.n2 (.iaddr 1) (.slot 0) (.slot 12)))] none [],
    .need (.n2 (.iaddr 1) (.slot 0) (.slot 12)),
    .eff none (.store 3 (.tmp 84) (.tmp 82)) 0 [(84, .n2 (.iaddr 1) (.slot 0) (.slot 12)), (82, .slot 82)] none []])
  (.seq
  (.reg [.need (.n2 (.bin .add) (.slot 11) (.lit (.int .i64 1))),
    .asg 11 (.n2 (.bin .add) (.slot 11) (.lit (.int .i64 1)))])
  (.reg [.need (.n2 (.bin .sub) (.slot 12) (.lit (.int .i64 1))),
    .asg 12 (.n2 (.bin .sub) (.slot 12) (.lit (.int .i64 1)))])))
def h77_7 : HC :=
  (.seq
  (.seq
  (.reg [.need (.n2 (.bin .gtr) (.slot 11) (.slot 12)),
    .asg 70 (.n2 (.bin .gtr) (.slot 11) (.slot 12))])
  (.cond (.slot 70)
    (.exit 0)
    .skip))
  h77_8)
def h77_4 : HC :=
  (.seq
  (.block 4
    (.loop
      h77_5))
  h77_7)
def h77_1 : HC :=
  (.block 1
    (.seq
    (.block 2
      (.loop
        h77_2))
    h77_4))
def h77_9 : HC :=
  (.seq
  (.reg [.asg 10 (.slot 11)])
  .ret)
def h77 : HC :=
  (.seq
  (.reg [.asg 10 (.lit (.int .i64 0))])
  (.seq
  (.draw [.need (.n2 (.iaddr 1) (.slot 0) (.slot 3)),
    .need (.n1 .ld (.n2 (.iaddr 1) (.slot 0) (.slot 3))),
    .need (.n2 (.iaddr 1) (.slot 0) (.slot 1)),
    .need (.n1 .ld (.n2 (.iaddr 1) (.slot 0) (.slot 1))),
    .asg 24 (.n1 .ld (.n2 (.iaddr 1) (.slot 0) (.slot 1))),
    .need (.n2 (.iaddr 1) (.slot 0) (.slot 1)),
    .eff none (.store 3 (.tmp 25) (.tmp 20)) 0 [(25, .n2 (.iaddr 1) (.slot 0) (.slot 1)), (20, .n1 .ld (.n2 (.iaddr 1) (.slot 0) (.slot 3)))] none [],
    .need (.n2 (.iaddr 1) (.slot 0) (.slot 3)),
    .eff none (.store 3 (.tmp 26) (.tmp 24)) 0 [(26, .n2 (.iaddr 1) (.slot 0) (.slot 3)), (24, .slot 24)] none []])
  (.seq
  (.reg [.need (.n2 (.bin .add) (.slot 1) (.lit (.int .i64 1))),
    .need (.n2 (.bin .sub) (.slot 2) (.lit (.int .i64 1))),
    .asg 11 (.n2 (.bin .add) (.slot 1) (.lit (.int .i64 1))),
    .asg 12 (.n2 (.bin .sub) (.slot 2) (.lit (.int .i64 1)))])
  (.seq
  (.block 0
    (.loop
      h77_1))
  h77_9))))
theorem k77 : fnOK Try.prog 4836929987097748075191327 [⟨1, [0, 0, 0, 0, 0, 0, 48, 112, 0, 0, 768, 1792, 4083, 8179, 16383, 32767], [(0, []), (1, []), (2, []), (3, []), (4, []), (5, []), (6, []), (7, []), (8, []), (9, []), (10, []), (11, []), (12, []), (13, []), (14, []), (15, [])], none⟩, ⟨3, [0, 0, 3, 7, 15, 15, 15, 111, 239, 15, 15, 1551, 3599, 8191, 16383, 32767, 65535], [(0, []), (1, []), (2, []), (3, []), (4, []), (5, []), (6, []), (7, []), (8, []), (9, []), (10, []), (11, []), (12, []), (13, []), (14, []), (15, []), (16, [])], none⟩, ⟨5, [0, 0, 3, 7, 15, 15, 15, 111, 239, 15, 15, 1551, 3599, 8191, 16383, 32767], [(0, []), (1, []), (2, []), (3, []), (4, []), (5, []), (6, []), (7, []), (8, []), (9, []), (10, []), (11, []), (12, []), (13, []), (14, []), (15, [])], none⟩, ⟨8, [0, 0, 0, 0, 0, 0, 48, 112, 0, 0, 768, 1792, 4083, 8179, 16383, 32767], [(0, []), (1, []), (2, []), (3, []), (4, []), (5, []), (6, []), (7, []), (8, []), (9, []), (10, []), (11, []), (12, []), (13, []), (14, []), (15, [])], none⟩] [.tmp 10] 5 Try.f77 = some h77 := by kernel_rfl
theorem c77 : callable Try.prog 77 = true := by kernel_rfl
theorem q77 {args : List Value} (ha : args.length = 5) {w : World} {next : Value → World → Prop} {QP : List PanicEntry → World → Prop} (H : hw Try.prog noPanic h77 (endV [.tmp 10] next) (σ0 args) w) : callK Try.prog 77 args w next QP := fn_rule Try.func77 mixed k77 ha H
theorem r77 {args : List Value} (ha : args.length = 5) {w : World} {next : Value → World → Prop} {QP : List PanicEntry → World → Prop} (H : hw Try.prog noPanic h77 (endV [.tmp 10] next) (σ0 args) w) : callvK Try.prog (.func (.func 77) #[] #[]) args w next QP := callf c77 (q77 ha H)

/- slices.partitionCmpFunc(int) -/
def h78_2 : HC :=
  (.block 1
    (.reg [.need (.n2 (.bin .add) (.slot 12) (.lit (.int .i64 1))),
      .asg 12 (.n2 (.bin .add) (.slot 12) (.lit (.int .i64 1)))]))
def h78_1 : HC :=
  (.seq
  (.seq
  (.draw [.need (.n2 (.bin .leq) (.slot 12) (.slot 13)),
    .need (.gif (.n2 (.bin .leq) (.slot 12) (.slot 13)) true (.n2 (.iaddr 1) (.slot 0) (.slot 12))),
    .need (.gif (.n2 (.bin .leq) (.slot 12) (.slot 13)) true (.n1 .ld (.n2 (.iaddr 1) (.slot 0) (.slot 12)))),
    .need (.gif (.n2 (.bin .leq) (.slot 12) (.slot 13)) true (.n2 (.iaddr 1) (.slot 0) (.slot 1))),
    .need (.gif (.n2 (.bin .leq) (.slot 12) (.slot 13)) true (.n1 .ld (.n2 (.iaddr 1) (.slot 0) (.slot 1)))),
    .eff (some 45) (.call { callee := .value (.tmp 36), args := #[.tmp 40, .tmp 44], argTypes := #[3, 3] }) 3 [(36, .slot 4), (40, .n1 .ld (.n2 (.iaddr 1) (.slot 0) (.slot 12))), (44, .n1 .ld (.n2 (.iaddr 1) (.slot 0) (.slot 1)))] (some (.n2 (.bin .leq) (.slot 12) (.slot 13), true)) [],
    .need (.gif (.n2 (.bin .leq) (.slot 12) (.slot 13)) true (.n2 (.bin .lss) (.slot 45) (.lit (.int .i64 0)))),
    .need (.n3 .pick (.n2 (.bin .leq) (.slot 12) (.slot 13)) (.n2 (.bin .lss) (.slot 45) (.lit (.int .i64 0))) (.lit (.bool false))),
    .asg 47 (.n3 .pick (.n2 (.bin .leq) (.slot 12) (.slot 13)) (.n2 (.bin .lss) (.slot 45) (.lit (.int .i64 0))) (.lit (.bool false)))])
  (.cond (.slot 47)
    .skip
    (.exit 0)))
  h78_2)
def h78_5 : HC :=
  (.block 3
    (.reg [.need (.n2 (.bin .sub) (.slot 13) (.lit (.int .i64 1))),
      .asg 13 (.n2 (.bin .sub) (.slot 13) (.lit (.int .i64 1)))]))
def h78_4 : HC :=
  (.seq
  (.seq
  (.draw [.need (.n2 (.bin .leq) (.slot 12) (.slot 13)),
    .need (.gif (.n2 (.bin .leq) (.slot 12) (.slot 13)) true (.n2 (.iaddr 1) (.slot 0) (.slot 13))),
    .need (.gif (.n2 (.bin .leq) (.slot 12) (.slot 13)) true (.n1 .ld (.n2 (.iaddr 1) (.slot 0) (.slot 13)))),
    .need (.gif (.n2 (.bin .leq) (.slot 12) (.slot 13)) true (.n2 (.iaddr 1) (.slot 0) (.slot 1))),
    .need (.gif (.n2 (.bin .leq) (.slot 12) (.slot 13)) true (.n1 .ld (.n2 (.iaddr 1) (.slot 0) (.slot 1)))),
    .eff (some 63) (.call { callee := .value (.tmp 54), args := #[.tmp 58, .tmp 62], argTypes := #[3, 3] }) 3 [(54, .slot 4), (58, .n1 .ld (.n2 (.iaddr 1) (.slot 0) (.slot 13))), (62, .n1 .ld (.n2 (.iaddr 1) (.slot 0) (.slot 1)))] (some (.n2 (.bin .leq) (.slot 12) (.slot 13), true)) [],
    .need (.gif (.n2 (.bin .leq) (.slot 12) (.slot 13)) true (.n2 (.bin .lss) (.slot 63) (.lit (.int .i64 0)))),
    .need (.gif (.n2 (.bin .leq) (.slot 12) (.slot 13)) true (.n1 .bnot (.n2 (.bin .lss) (.slot 63) (.lit (.int .i64 0))))),
    .need (.n3 .pick (.n2 (.bin .leq) (.slot 12) (.slot 13)) (.n1 .bnot (.n2 (.bin .lss) (.slot 63) (.lit (.int .i64 0)))) (.lit (.bool false))),
    .asg 66 (.n3 .pick (.n2 (.bin .leq) (.slot 12) (.slot 13)) (.n1 .bnot (.n2 (.bin .lss) (.slot 63) (.lit (.int .i64 0)))) (.lit (.bool false)))])
  (.cond (.slot 66)
    .skip
    (.exit 2)))
  h78_5)
def h78_10 : HC :=
  (.block 7
    (.reg [.need (.n2 (.bin .add) (.slot 12) (.lit (.int .i64 1))),
      .asg 12 (.n2 (.bin .add) (.slot 12) (.lit (.int .i64 1)))]))
def h78_9 : HC :=
  (.seq
  (.seq
  (.draw [.need (.n2 (.bin .leq) (.slot 12) (.slot 13)),
    .need (.gif (.n2 (.bin .leq) (.slot 12) (.slot 13)) true (.n2 (.iaddr 1) (.slot 0) (.slot 12))),
    .need (.gif (.n2 (.bin .leq) (.slot 12) (.slot 13)) true (.n1 .ld (.n2 (.iaddr 1) (.slot 0) (.slot 12)))),
    .need (.gif (.n2 (.bin .leq) (.slot 12) (.slot 13)) true (.n2 (.iaddr 1) (.slot 0) (.slot 1))),
    .need (.gif (.n2 (.bin .leq) (.slot 12) (.slot 13)) true (.n1 .ld (.n2 (.iaddr 1) (.slot 0) (.slot 1)))),
    .eff (some 118) (.call { callee := .value (.tmp 109), args := #[.tmp 113, .tmp 117], argTypes := #[3, 3] }) 3 [(109, .slot 4), (113, .n1 .ld (.n2 (.iaddr 1) (.slot 0) (.slot 12))), (117, .n1 .ld (.n2 (.iaddr 1) (.slot 0) (.slot 1)))] (some (.n2 (.bin .leq) (.slot 12) (.slot 13), true)) [],
    .need (.gif (.n2 (.bin .leq) (.slot 12) (.slot 13)) true (.n2 (.bin .lss) (.slot 118) (.lit (.int .i64 0)))),
    .need (.n3 .pick (.n2 (.bin .leq) (.slot 12) (.slot 13)) (.n2 (.bin .lss) (.slot 118) (.lit (.int .i64 0))) (.lit (.bool false))),
    .asg 120 (.n3 .pick (.n2 (.bin .leq) (.slot 12) (.slot 13)) (.n2 (.bin .lss) (.slot 118) (.lit (.int .i64 0))) (.lit (.bool false)))])
  (.cond (.slot 120)
    .skip
    (.exit 6)))
  h78_10)
def h78_13 : HC :=
  (.block 9
    (.reg [.need (.n2 (.bin .sub) (.slot 13) (.lit (.int .i64 1))),
      .asg 13 (.n2 (.bin .sub) (.slot 13) (.lit (.int .i64 1)))]))
def h78_12 : HC :=
  (.seq
  (.seq
  (.draw [.need (.n2 (.bin .leq) (.slot 12) (.slot 13)),
    .need (.gif (.n2 (.bin .leq) (.slot 12) (.slot 13)) true (.n2 (.iaddr 1) (.slot 0) (.slot 13))),
    .need (.gif (.n2 (.bin .leq) (.slot 12) (.slot 13)) true (.n1 .ld (.n2 (.iaddr 1) (.slot 0) (.slot 13)))),
    .need (.gif (.n2 (.bin .leq) (.slot 12) (.slot 13)) true (.n2 (.iaddr 1) (.slot 0) (.slot 1))),
    .need (.gif (.n2 (.bin .leq) (.slot 12) (.slot 13)) true (.n1 .ld (.n2 (.iaddr 1) (.slot 0) (.slot 1)))),
    .eff (some 136) (.call { callee := .value (.tmp 127), args := #[.tmp 131, .tmp 135], argTypes := #[3, 3] }) 3 [(127, .slot 4), (131, .n1 .ld (.n2 (.iaddr 1) (.slot 0) (.slot 13))), (135, .n1 .ld (.n2 (.iaddr 1) (.slot 0) (.slot 1)))] (some (.n2 (.bin .leq) (.slot 12) (.slot 13), true)) [],
    .need (.gif (.n2 (.bin .leq) (.slot 12) (.slot 13)) true (.n2 (.bin .lss) (.slot 136) (.lit (.int .i64 0)))),
    .need (.gif (.n2 (.bin .leq) (.slot 12) (.slot 13)) true (.n1 .bnot (.n2 (.bin .lss) (.slot 136) (.lit (.int .i64 0))))),
    .need (.n3 .pick (.n2 (.bin .leq) (.slot 12) (.slot 13)) (.n1 .bnot (.n2 (.bin .lss) (.slot 136) (.lit (.int .i64 0)))) (.lit (.bool false))),
    .asg 139 (.n3 .pick (.n2 (.bin .leq) (.slot 12) (.slot 13)) (.n1 .bnot (.n2 (.bin .lss) (.slot 136) (.lit (.int .i64 0)))) (.lit (.bool false)))])
  (.cond (.slot 139)
    .skip
    (.exit 8)))
  h78_13)
def h78_15 : HC :=
  (.seq
  (.draw [.need (.n2 (.iaddr 1) (.slot 0) (.slot 13)),
    .need (.n1 .ld (.n2 (.iaddr 1) (.slot 0) (.slot 13))),
    .need (.n2 (.iaddr 1) (.slot 0) (.slot 12)),
    .need (.n1 .ld (.n2 (.iaddr 1) (.slot 0) (.slot 12))),
    .asg 156 (.n1 .ld (.n2 (.iaddr 1) (.slot 0) (.slot 12))),
    .need (.n2 (.iaddr 1) (.slot 0) (.slot 12)),
    .eff none (.store 3 (.tmp 157) (.tmp 152)) 0 [(157, .n2 (.iaddr 1) (.slot 0) (.slot 12)), (152, .n1 .ld (.n2 (.iaddr 1) (.slot 0) (.slot 13)))] none [],
    .need (.n2 (.iaddr 1) (.slot 0) (.slot 13)),
    .eff none (.store 3 (.tmp 158) (.tmp 156)) 0 [(158, .n2 (.iaddr 1) (.slot 0) (.slot 13)), (156, .slot 156)] none []])
  (.seq
  (.reg [.need (.n2 (.bin .add) (.slot 12) (.lit (.int .i64 1))),
    .asg 12 (.n2 (.bin .add) (.slot 12) (.lit (.int .i64 1)))])
  (.reg [.need (.n2 (.bin .sub) (.slot 13) (.lit (.int .i64 1))),
    .asg 13 (.n2 (.bin .sub) (.slot 13) (.lit (.int .i64 1)))])))
def h78_14 : HC :=
  (.seq
  (.seq
  (.reg [.need (.n2 (.bin .gtr) (.slot 12) (.slot 13)),
    .asg 144 (.n2 (.bin .gtr) (.slot 12) (.slot 13))])
  (.cond (.slot 144)
    (.exit 4)
    .skip))
  h78_15)
def h78_11 : HC :=
  (.seq
  (.block 8
    (.loop
      h78_12))
  h78_14)
def h78_8 : HC :=
  (.block 5
    (.seq
    (.block 6
      (.loop
        h78_9))
    h78_11))
def h78_16 : HC :=
  (.seq
  (.draw [.need (.n2 (.iaddr 1) (.slot 0) (.slot 1)),
    .need (.n1 .ld (.n2 (.iaddr 1) (.slot 0) (.slot 1))),
    .need (.n2 (.iaddr 1) (.slot 0) (.slot 13)),
    .need (.n1 .ld (.n2 (.iaddr 1) (.slot 0) (.slot 13))),
    .asg 174 (.n1 .ld (.n2 (.iaddr 1) (.slot 0) (.slot 13))),
    .need (.n2 (.iaddr 1) (.slot 0) (.slot 13)),
    .eff none (.store 3 (.tmp 175) (.tmp 170)) 0 [(175, .n2 (.iaddr 1) (.slot 0) (.slot 13)), (170, .n1 .ld (.n2 (.iaddr 1) (.slot 0) (.slot 1)))] none [],
    .need (.n2 (.iaddr 1) (.slot 0) (.slot 1)),
    .eff none (.store 3 (.tmp 176) (.tmp 174)) 0 [(176, .n2 (.iaddr 1) (.slot 0) (.slot 1)), (174, .slot 174)] none []])
  (.seq
  (.reg [.asg 10 (.slot 13),
    .asg 11 (.lit (.bool false))])
  .ret))
def h78_7 : HC :=
  (.seq
  (.draw [.need (.n2 (.iaddr 1) (.slot 0) (.slot 13)),
    .need (.n1 .ld (.n2 (.iaddr 1) (.slot 0) (.slot 13))),
    .need (.n2 (.iaddr 1) (.slot 0) (.slot 12)),
    .need (.n1 .ld (.n2 (.iaddr 1) (.slot 0) (.slot 12))),
    .asg 98 (.n1 .ld (.n2 (.iaddr 1) (.slot 0) (.slot 12))),
    .need (.n2 (.iaddr 1) (.slot 0) (.slot 12)),
    .eff none (.store 3 (.tmp 99) (.tmp 94)) 0 [(99, .n2 (.iaddr 1) (.slot 0) (.slot 12)), (94, .n1 .ld (.n2 (.iaddr 1) (.slot 0) (.slot 13)))] none [],
    .need (.n2 (.iaddr 1) (.slot 0) (.slot 13)),
    .eff none (.store 3 (.tmp 100) (.tmp 98)) 0 [(100, .n2 (.iaddr 1) (.slot 0) (.slot 13)), (98, .slot 98)] none []])
  (.seq
  (.reg [.need (.n2 (.bin .add) (.slot 12) (.lit (.int .i64 1))),
    .asg 12 (.n2 (.bin .add) (.slot 12) (.lit (.int .i64 1)))])
  (.seq
  (.reg [.need (.n2 (.bin .sub) (.slot 13) (.lit (.int .i64 1))),
    .asg 13 (.n2 (.bin .sub) (.slot 13) (.lit (.int .i64 1)))])
  (.seq
  (.block 4
    (.loop
      h78_8))
  h78_16))))
def h78_6 : HC :=
  (.seq
  (.seq
  (.reg [.need (.n2 (.bin .gtr) (.slot 12) (.slot 13)),
    .asg 71 (.n2 (.bin .gtr) (.slot 12) (.slot 13))])
  (.cond (.slot 71)
    (.seq
    (.draw [.need (.n2 (.iaddr 1) (.slot 0) (.slot 1)),
      .need (.n1 .ld (.n2 (.iaddr 1) (.slot 0) (.slot 1))),
      .need (.n2 (.iaddr 1) (.slot 0) (.slot 13)),
      .need (.n1 .ld (.n2 (.iaddr 1) (.slot 0) (.slot 13))),
      .asg 83 (.n1 .ld (.n2 (.iaddr 1) (.slot 0) (.slot 13))),
      .need (.n2 (.iaddr 1) (.slot 0) (.slot 13)),
      .eff none (.store 3 (.tmp 84) (.tmp 79)) 0 [(84, .n2 (.iaddr 1) (.slot 0) (.slot 13)), (79, .n1 .ld (.n2 (.iaddr 1) (.slot 0) (.slot 1)))] none [],
      .need (.n2 (.iaddr 1) (.slot 0) (.slot 1)),
      .eff none (.store 3 (.tmp 85) (.tmp 83)) 0 [(85, .n2 (.iaddr 1) (.slot 0) (.slot 1)), (83, .slot 83)] none []])
    (.seq
    (.reg [.asg 10 (.slot 13),
      .asg 11 (.lit (.bool true))])
    .ret))
    .skip))
  h78_7)
def h78_3 : HC :=
  (.seq
  (.block 2
    (.loop
      h78_4))
  h78_6)
def h78 : HC :=
  (.seq
  (.reg [.asg 10 (.lit (.int .i64 0)),
    .asg 11 (.lit (.bool false))])
  (.seq
  (.draw [.need (.n2 (.iaddr 1) (.slot 0) (.slot 3)),
    .need (.n1 .ld (.n2 (.iaddr 1) (.slot 0) (.slot 3))),
    .need (.n2 (.iaddr 1) (.slot 0) (.slot 1)),
    .need (.n1 .ld (.n2 (.iaddr 1) (.slot 0) (.slot 1))),
    .asg 25 (.n1 .ld (.n2 (.iaddr 1) (.slot 0) (.slot 1))),
    .need (.n2 (.iaddr 1) (.slot 0) (.slot 1)),
    .eff none (.store 3 (.tmp 26) (.tmp 21)) 0 [(26, .n2 (.iaddr 1) (.slot 0) (.slot 1)), (21, .n1 .ld (.n2 (.iaddr 1) (.slot 0) (.slot 3)))] none [],
    .need (.n2 (.iaddr 1) (.slot 0) (.slot 3)),
    .eff none (.store 3 (.tmp 27) (.tmp 25)) 0 [(27, .n2 (.iaddr 1) (.slot 0) (.slot 3)), (25, .slot 25)] none []])
  (.seq
  (.reg [.need (.n2 (.bin .add) (.slot 1) (.lit (.int .i64 1))),
    .need (.n2 (.bin .sub) (.slot 2) (.lit (.int .i64 1))),
    .asg 12 (.n2 (.bin .add) (.slot 1) (.lit (.int .i64 1))),
    .asg 13 (.n2 (.bin .sub) (.slot 2) (.lit (.int .i64 1)))])
  (.seq
  (.block 0
    (.loop
      h78_1))
  h78_3))))
theorem k78 : fnOK Try.prog 23945334192966604026733337044349708067694604078562335 [⟨1, [0, 0, 0, 0, 0, 0, 48, 112, 0, 0, 768, 1792, 4083, 8179, 16383, 32767], [(0, []), (1, []), (2, []), (3, []), (4, []), (5, []), (6, []), (7, []), (8, []), (9, []), (10, []), (11, []), (12, []), (13, []), (14, []), (15, [])], none⟩, ⟨3, [0, 0, 3, 7, 15, 15, 15, 111, 239, 15, 15, 1551, 3599, 8191, 16383, 32767], [(0, []), (1, []), (2, []), (3, []), (4, []), (5, []), (6, []), (7, []), (8, []), (9, []), (10, []), (11, []), (12, []), (13, []), (14, []), (15, [])], none⟩, ⟨5, [0, 0, 3, 7, 15, 15, 15, 111, 239, 15, 15, 1551, 3599, 8191, 16383, 32767, 65535], [(0, []), (1, []), (2, []), (3, []), (4, []), (5, []), (6, []), (7, []), (8, []), (9, []), (10, []), (11, []), (12, []), (13, []), (14, []), (15, []), (16, [])], none⟩, ⟨8, [0, 0, 0, 0, 0, 0, 48, 112, 0, 0, 768, 1792, 4083, 8179, 16383, 32767], [(0, []), (1, []), (2, []), (3, []), (4, []), (5, []), (6, []), (7, []), (8, []), (9, []), (10, []), (11, []), (12, []), (13, []), (14, []), (15, [])], none⟩, ⟨10, [0, 0, 0, 0, 0, 0, 48, 112, 0, 0, 768, 1792, 4083, 8179, 16383, 32767], [(0, []), (1, []), (2, []), (3, []), (4, []), (5, []), (6, []), (7, []), (8, []), (9, []), (10, []), (11, []), (12, []), (13, []), (14, []), (15, [])], none⟩, ⟨13, [0, 0, 3, 7, 15, 15, 15, 111, 239, 15, 15, 1551, 3599, 8191, 16383, 32767], [(0, []), (1, []), (2, []), (3, []), (4, []), (5, []), (6, []), (7, []), (8, []), (9, []), (10, []), (11, []), (12, []), (13, []), (14, []), (15, [])], none⟩, ⟨15, [0, 0, 3, 7, 15, 15, 15, 111, 239, 15, 15, 1551, 3599, 8191, 16383, 32767, 65535], [(0, []), (1, []), (2, []), (3, []), (4, []), (5, []), (6, []), (7, []), (8, []), (9, []), (10, []), (11, []), (12, []), (13, []), (14, []), (15, []), (16, [])], none⟩, ⟨18, [0, 0, 0, 0, 0, 0, 48, 112, 0, 0, 768, 1792, 4083, 8179, 16383, 32767], [(0, []), (1, []), (2, []), (3, []), (4, []), (5, []), (6, []), (7, []), (8, []), (9, []), (10, []), (11, []), (12, []), (13, []), (14, []), (15, [])], none⟩, ⟨21, [0, 0, 0, 0, 0, 0, 48, 112, 0, 0, 768, 1792, 4083, 8179, 16383, 32767], [(0, []), (1, []), (2, []), (3, []), (4, []), (5, []), (6, []), (7, []), (8, []), (9, []), (10, []), (11, []), (12, []), (13, []), (14, []), (15, [])], none⟩] [.tmp 10, .tmp 11] 5 Try.f78 = some h78 := by kernel_rfl
theorem c78 : callable Try.prog 78 = true := by kernel_rfl
theorem q78 {args : List Value} (ha : args.length = 5) {w : World} {next : Value → World → Prop} {QP : List PanicEntry → World → Prop} (H : hw Try.prog noPanic h78 (endV [.tmp 10, .tmp 11] next) (σ0 args) w) : callK Try.prog 78 args w next QP := fn_rule Try.func78 mixed k78 ha H
theorem r78 {args : List Value} (ha : args.length = 5) {w : World} {next : Value → World → Prop} {QP : List PanicEntry → World → Prop} (H : hw Try.prog noPanic h78 (endV [.tmp 10, .tmp 11] next) (σ0 args) w) : callvK Try.prog (.func (.func 78) #[] #[]) args w next QP := callf c78 (q78 ha H)

/- slices.siftDownCmpFunc(int) -/
def h85_4 : HC :=
  (.seq
  (.draw [.need (.n2 (.bin .add) (.slot 3) (.slot 10)),
    .need (.n2 (.bin .add) (.slot 3) (.slot 11)),
    .need (.n2 (.bin .add) (.slot 3) (.slot 11)),
    .need (.n2 (.iaddr 1) (.slot 0) (.n2 (.bin .add) (.slot 3) (.slot 11))),
    .need (.n1 .ld (.n2 (.iaddr 1) (.slot 0) (.n2 (.bin .add) (.slot 3) (.slot 11)))),
    .need (.n2 (.bin .add) (.slot 3) (.slot 10)),
    .need (.n2 (.iaddr 1) (.slot 0) (.n2 (.bin .add) (.slot 3) (.slot 10))),
    .need (.n1 .ld (.n2 (.iaddr 1) (.slot 0) (.n2 (.bin .add) (.slot 3) (.slot 10)))),
    .asg 78 (.n1 .ld (.n2 (.iaddr 1) (.slot 0) (.n2 (.bin .add) (.slot 3) (.slot 10)))),
    .need (.n2 (.iaddr 1) (.slot 0) (.n2 (.bin .add) (.slot 3) (.slot 10))),
    .eff none (.store 3 (.tmp 79) (.tmp 72)) 0 [(79, .n2 (.iaddr 1) (.slot 0) (.n2 (.bin .add) (.slot 3) (.slot 10))), (72, .n1 .ld (.n2 (.iaddr 1) (.slot 0) (.n2 (.bin .add) (.slot 3) (.slot 11))))] none [],
    .need (.n2 (.iaddr 1) (.slot 0) (.n2 (.bin .add) (.slot 3) (.slot 11))),
    .eff none (.store 3 (.tmp 80) (.tmp 78)) 0 [(80, .n2 (.iaddr 1) (.slot 0) (.n2 (.bin .add) (.slot 3) (.slot 11))), (78, .slot 78)] none []])
  (.reg [.asg 10 (.slot 11)]))
def h85_3 : HC :=
  (.seq
  (.seq
  (.draw [.need (.n2 (.bin .add) (.slot 3) (.slot 10)),
    .need (.n2 (.iaddr 1) (.slot 0) (.n2 (.bin .add) (.slot 3) (.slot 10))),
    .need (.n1 .ld (.n2 (.iaddr 1) (.slot 0) (.n2 (.bin .add) (.slot 3) (.slot 10)))),
    .need (.n2 (.bin .add) (.slot 3) (.slot 11)),
    .need (.n2 (.iaddr 1) (.slot 0) (.n2 (.bin .add) (.slot 3) (.slot 11))),
    .need (.n1 .ld (.n2 (.iaddr 1) (.slot 0) (.n2 (.bin .add) (.slot 3) (.slot 11)))),
    .eff (some 56) (.call { callee := .value (.tmp 43), args := #[.tmp 49, .tmp 55], argTypes := #[3, 3] }) 3 [(43, .slot 4), (49, .n1 .ld (.n2 (.iaddr 1) (.slot 0) (.n2 (.bin .add) (.slot 3) (.slot 10)))), (55, .n1 .ld (.n2 (.iaddr 1) (.slot 0) (.n2 (.bin .add) (.slot 3) (.slot 11))))] none [],
    .need (.n2 (.bin .lss) (.slot 56) (.lit (.int .i64 0))),
    .need (.n1 .bnot (.n2 (.bin .lss) (.slot 56) (.lit (.int .i64 0)))),
    .asg 58 (.n1 .bnot (.n2 (.bin .lss) (.slot 56) (.lit (.int .i64 0))))])
  (.cond (.slot 58)
    .ret
    .skip))
  h85_4)
def h85_2 : HC :=
  (.seq
  (.seq
  (.draw [.need (.n2 (.bin .add) (.slot 11) (.lit (.int .i64 1))),
    .need (.n2 (.bin .lss) (.n2 (.bin .add) (.slot 11) (.lit (.int .i64 1))) (.slot 2)),
    .need (.gif (.n2 (.bin .lss) (.n2 (.bin .add) (.slot 11) (.lit (.int .i64 1))) (.slot 2)) true (.n2 (.bin .add) (.slot 3) (.slot 11))),
    .need (.gif (.n2 (.bin .lss) (.n2 (.bin .add) (.slot 11) (.lit (.int .i64 1))) (.slot 2)) true (.n2 (.iaddr 1) (.slot 0) (.n2 (.bin .add) (.slot 3) (.slot 11)))),
    .need (.gif (.n2 (.bin .lss) (.n2 (.bin .add) (.slot 11) (.lit (.int .i64 1))) (.slot 2)) true (.n1 .ld (.n2 (.iaddr 1) (.slot 0) (.n2 (.bin .add) (.slot 3) (.slot 11))))),
    .need (.gif (.n2 (.bin .lss) (.n2 (.bin .add) (.slot 11) (.lit (.int .i64 1))) (.slot 2)) true (.n2 (.bin .add) (.slot 3) (.slot 11))),
    .need (.gif (.n2 (.bin .lss) (.n2 (.bin .add) (.slot 11) (.lit (.int .i64 1))) (.slot 2)) true (.n2 (.bin .add) (.n2 (.bin .add) (.slot 3) (.slot 11)) (.lit (.int .i64 1)))),
    .need (.gif (.n2 (.bin .lss) (.n2 (.bin .add) (.slot 11) (.lit (.int .i64 1))) (.slot 2)) true (.n2 (.iaddr 1) (.slot 0) (.n2 (.bin .add) (.n2 (.bin .add) (.slot 3) (.slot 11)) (.lit (.int .i64 1))))),
    .need (.gif (.n2 (.bin .lss) (.n2 (.bin .add) (.slot 11) (.lit (.int .i64 1))) (.slot 2)) true (.n1 .ld (.n2 (.iaddr 1) (.slot 0) (.n2 (.bin .add) (.n2 (.bin .add) (.slot 3) (.slot 11)) (.lit (.int .i64 1)))))),
    .eff (some 38) (.call { callee := .value (.tmp 24), args := #[.tmp 30, .tmp 37], argTypes := #[3, 3] }) 3 [(24, .slot 4), (30, .n1 .ld (.n2 (.iaddr 1) (.slot 0) (.n2 (.bin .add) (.slot 3) (.slot 11)))), (37, .n1 .ld (.n2 (.iaddr 1) (.slot 0) (.n2 (.bin .add) (.n2 (.bin .add) (.slot 3) (.slot 11)) (.lit (.int .i64 1)))))] (some (.n2 (.bin .lss) (.n2 (.bin .add) (.slot 11) (.lit (.int .i64 1))) (.slot 2), true)) [],
    .need (.gif (.n2 (.bin .lss) (.n2 (.bin .add) (.slot 11) (.lit (.int .i64 1))) (.slot 2)) true (.n2 (.bin .lss) (.slot 38) (.lit (.int .i64 0)))),
    .need (.n3 .pick (.n2 (.bin .lss) (.n2 (.bin .add) (.slot 11) (.lit (.int .i64 1))) (.slot 2)) (.n2 (.bin .lss) (.slot 38) (.lit (.int .i64 0))) (.lit (.bool false))),
    .asg 40 (.n3 .pick (.n2 (.bin .lss) (.n2 (.bin .add) (.slot 11) (.lit (.int .i64 1))) (.slot 2)) (.n2 (.bin .lss) (.slot 38) (.lit (.int .i64 0))) (.lit (.bool false)))])
  (.cond (.slot 40)
    (.reg [.need (.n2 (.bin .add) (.slot 11) (.lit (.int .i64 1))),
      .asg 11 (.n2 (.bin .add) (.slot 11) (.lit (.int .i64 1)))])
    .skip))
  h85_3)
def h85_1 : HC :=
  (.block 1
    (.seq
    (.reg [.need (.n2 (.bin .mul) (.lit (.int .i64 2)) (.slot 10)),
      .need (.n2 (.bin .add) (.n2 (.bin .mul) (.lit (.int .i64 2)) (.slot 10)) (.lit (.int .i64 1))),
      .asg 11 (.n2 (.bin .add) (.n2 (.bin .mul) (.lit (.int .i64 2)) (.slot 10)) (.lit (.int .i64 1)))])
    (.seq
    (.seq
    (.reg [.need (.n2 (.bin .geq) (.slot 11) (.slot 2)),
      .asg 18 (.n2 (.bin .geq) (.slot 11) (.slot 2))])
    (.cond (.slot 18)
      (.exit 0)
      .skip))
    h85_2)))
def h85 : HC :=
  (.seq
  (.reg [.asg 10 (.slot 1)])
  (.block 0
    (.loop
      h85_1)))
theorem k85 : fnOK Try.prog 302231815193001873116191 [⟨3, [0, 1, 0, 7, 15, 31, 31, 31, 31, 415, 991, 2015, 31, 31, 31, 24607, 57375, 127007, 258079, 524287, 1048575, 2097151], [(0, []), (1, []), (2, []), (3, []), (4, []), (5, []), (6, []), (7, []), (8, []), (9, []), (10, []), (11, []), (12, []), (13, []), (14, []), (15, []), (16, []), (17, []), (18, []), (19, []), (20, []), (21, [])], none⟩, ⟨5, [0, 0, 0, 0, 12, 30, 62, 0, 0, 0, 768, 1920, 3968, 8191, 16383, 32767], [(0, []), (1, []), (2, []), (3, []), (4, []), (5, []), (6, []), (7, []), (8, []), (9, []), (10, []), (11, []), (12, []), (13, []), (14, []), (15, [])], none⟩, ⟨6, [0, 0, 0, 6, 0, 0, 0, 96, 0, 0, 0, 1536, 3840, 7936, 0, 0, 0, 98304, 245760, 507904, 1048335, 2096911, 4194303, 8388607], [(0, []), (1, []), (2, []), (3, []), (4, []), (5, []), (6, []), (7, []), (8, []), (9, []), (10, []), (11, []), (12, []), (13, []), (14, []), (15, []), (16, []), (17, []), (18, []), (19, []), (20, []), (21, []), (22, []), (23, [])], none⟩] [] 5 Try.f85 = some h85 := by kernel_rfl
theorem c85 : callable Try.prog 85 = true := by kernel_rfl
theorem q85 {args : List Value} (ha : args.length = 5) {w : World} {next : Value → World → Prop} {QP : List PanicEntry → World → Prop} (H : hw Try.prog noPanic h85 (endV [] next) (σ0 args) w) : callK Try.prog 85 args w next QP := fn_rule Try.func85 mixed k85 ha H
theorem r85 {args : List Value} (ha : args.length = 5) {w : World} {next : Value → World → Prop} {QP : List PanicEntry → World → Prop} (H : hw Try.prog noPanic h85 (endV [] next) (σ0 args) w) : callvK Try.prog (.func (.func 85) #[] #[]) args w next QP := callf c85 (q85 ha H)

/- slices.medianAdjacentCmpFunc(int) -/
def h86 : HC :=
  (.seq
  (.reg [.asg 8 (.lit (.int .i64 0))])
  (.seq
  (.reg [.need (.n2 (.bin .sub) (.slot 1) (.lit (.int .i64 1))),
    .need (.n2 (.bin .add) (.slot 1) (.lit (.int .i64 1))),
    .eff (some 17) (.call { callee := .value (.func 87), args := #[.tmp 9, .tmp 11, .tmp 12, .tmp 14, .tmp 15, .tmp 16], argTypes := #[60, 3, 3, 3, 112, 71] }) 3 [(9, .slot 0), (11, .n2 (.bin .sub) (.slot 1) (.lit (.int .i64 1))), (12, .slot 1), (14, .n2 (.bin .add) (.slot 1) (.lit (.int .i64 1))), (15, .slot 2), (16, .slot 3)] none [],
    .asg 8 (.slot 17)])
  .ret))
theorem k86 : fnOK Try.prog 131343 [] [.tmp 8] 4 Try.f86 = some h86 := by kernel_rfl
theorem c86 : callable Try.prog 86 = true := by kernel_rfl
theorem q86 {args : List Value} (ha : args.length = 4) {w : World} {next : Value → World → Prop} {QP : List PanicEntry → World → Prop} (H : hw Try.prog noPanic h86 (endV [.tmp 8] next) (σ0 args) w) : callK Try.prog 86 args w next QP := fn_rule Try.func86 mixed k86 ha H
theorem r86 {args : List Value} (ha : args.length = 4) {w : World} {next : Value → World → Prop} {QP : List PanicEntry → World → Prop} (H : hw Try.prog noPanic h86 (endV [.tmp 8] next) (σ0 args) w) : callvK Try.prog (.func (.func 86) #[] #[]) args w next QP := callf c86 (q86 ha H)

/- slices.medianCmpFunc(int) -/
def h87 : HC :=
  (.seq
  (.reg [.asg 12 (.lit (.int .i64 0))])
  (.seq
  (.reg [.eff (some 19) (.call { callee := .value (.func 90), args := #[.tmp 14, .tmp 15, .tmp 16, .tmp 17, .tmp 18], argTypes := #[60, 3, 3, 112, 71] }) 117 [(14, .slot 0), (15, .slot 1), (16, .slot 2), (17, .slot 4), (18, .slot 5)] none [],
    .need (.n1 (.ext 0) (.slot 19)),
    .need (.n1 (.ext 1) (.slot 19)),
    .asg 1 (.n1 (.ext 0) (.slot 19)),
    .asg 2 (.n1 (.ext 1) (.slot 19))])
  (.seq
  (.reg [.eff (some 28) (.call { callee := .value (.func 90), args := #[.tmp 23, .tmp 24, .tmp 25, .tmp 26, .tmp 27], argTypes := #[60, 3, 3, 112, 71] }) 117 [(23, .slot 0), (24, .slot 2), (25, .slot 3), (26, .slot 4), (27, .slot 5)] none [],
    .need (.n1 (.ext 0) (.slot 28)),
    .need (.n1 (.ext 1) (.slot 28)),
    .asg 2 (.n1 (.ext 0) (.slot 28)),
    .asg 3 (.n1 (.ext 1) (.slot 28))])
  (.seq
  (.reg [.eff (some 37) (.call { callee := .value (.func 90), args := #[.tmp 32, .tmp 33, .tmp 34, .tmp 35, .tmp 36], argTypes := #[60, 3, 3, 112, 71] }) 117 [(32, .slot 0), (33, .slot 1), (34, .slot 2), (35, .slot 4), (36, .slot 5)] none [],
    .need (.n1 (.ext 0) (.slot 37)),
    .need (.n1 (.ext 1) (.slot 37)),
    .asg 1 (.n1 (.ext 0) (.slot 37)),
    .asg 2 (.n1 (.ext 1) (.slot 37))])
  (.seq
  (.reg [.asg 12 (.slot 2)])
  .ret)))))
theorem k87 : fnOK Try.prog 137707917375 [] [.tmp 12] 6 Try.f87 = some h87 := by kernel_rfl
theorem c87 : callable Try.prog 87 = true := by kernel_rfl
theorem q87 {args : List Value} (ha : args.length = 6) {w : World} {next : Value → World → Prop} {QP : List PanicEntry → World → Prop} (H : hw Try.prog noPanic h87 (endV [.tmp 12] next) (σ0 args) w) : callK Try.prog 87 args w next QP := fn_rule Try.func87 mixed k87 ha H
theorem r87 {args : List Value} (ha : args.length = 6) {w : World} {next : Value → World → Prop} {QP : List PanicEntry → World → Prop} (H : hw Try.prog noPanic h87 (endV [.tmp 12] next) (σ0 args) w) : callvK Try.prog (.func (.func 87) #[] #[]) args w next QP := callf c87 (q87 ha H)

/- slices.order2CmpFunc(int) -/
def h90_1 : HC :=
  (.seq
  (.reg [.asg 10 (.slot 1),
    .asg 11 (.slot 2)])
  .ret)
def h90 : HC :=
  (.seq
  (.reg [.asg 10 (.lit (.int .i64 0)),
    .asg 11 (.lit (.int .i64 0))])
  (.seq
  (.seq
  (.draw [.need (.n2 (.iaddr 1) (.slot 0) (.slot 2)),
    .need (.n1 .ld (.n2 (.iaddr 1) (.slot 0) (.slot 2))),
    .need (.n2 (.iaddr 1) (.slot 0) (.slot 1)),
    .need (.n1 .ld (.n2 (.iaddr 1) (.slot 0) (.slot 1))),
    .eff (some 21) (.call { callee := .value (.tmp 12), args := #[.tmp 16, .tmp 20], argTypes := #[3, 3] }) 3 [(12, .slot 4), (16, .n1 .ld (.n2 (.iaddr 1) (.slot 0) (.slot 2))), (20, .n1 .ld (.n2 (.iaddr 1) (.slot 0) (.slot 1)))] none [],
    .need (.n2 (.bin .lss) (.slot 21) (.lit (.int .i64 0))),
    .asg 22 (.n2 (.bin .lss) (.slot 21) (.lit (.int .i64 0)))])
  (.cond (.slot 22)
    (.seq
    (.reg [.need (.n1 .nilchk (.slot 3)),
      .need (.n1 .ld (.n1 .nilchk (.slot 3))),
      .need (.n2 (.bin .add) (.n1 .ld (.n1 .nilchk (.slot 3))) (.lit (.int .i64 1))),
      .need (.n1 .nilchk (.slot 3)),
      .eff none (.store 3 (.tmp 27) (.tmp 26)) 0 [(27, .n1 .nilchk (.slot 3)), (26, .n2 (.bin .add) (.n1 .ld (.n1 .nilchk (.slot 3))) (.lit (.int .i64 1)))] none []])
    (.seq
    (.reg [.asg 10 (.slot 2),
      .asg 11 (.slot 1)])
    .ret))
    .skip))
  h90_1))
theorem k90 : fnOK Try.prog 6294559 [⟨1, [0, 0, 0, 6, 14, 0, 0, 96, 224, 511, 1023], [(0, []), (1, []), (2, []), (3, []), (4, []), (5, []), (6, []), (7, []), (8, []), (9, []), (10, [])], none⟩] [.tmp 10, .tmp 11] 5 Try.f90 = some h90 := by kernel_rfl
theorem c90 : callable Try.prog 90 = true := by kernel_rfl
theorem q90 {args : List Value} (ha : args.length = 5) {w : World} {next : Value → World → Prop} {QP : List PanicEntry → World → Prop} (H : hw Try.prog noPanic h90 (endV [.tmp 10, .tmp 11] next) (σ0 args) w) : callK Try.prog 90 args w next QP := fn_rule Try.func90 mixed k90 ha H
theorem r90 {args : List Value} (ha : args.length = 5) {w : World} {next : Value → World → Prop} {QP : List PanicEntry → World → Prop} (H : hw Try.prog noPanic h90 (endV [.tmp 10, .tmp 11] next) (σ0 args) w) : callvK Try.prog (.func (.func 90) #[] #[]) args w next QP := callf c90 (q90 ha H)

end Go.Proofs.Y

/- TWI: thread: Go's sort of slices, walked: the parts. -/
namespace Go.Proofs.Y
open Go Go.HL Go.Proofs
open Go.Sort (swp insInner insOuter insertionSort siftDown heapBuild heapPop heapSort scanUp scanDown partLoop partition partEqLoop partitionEqual scanSorted shiftDown shiftUp partialIns partialInsertionSort reverseLoop reverseRange PermIn SortedIn Below SWO size_swp)

theorem szi : szOf Try.prog 3 = some 1 := by kernel_rfl
section
variable {α : Type} [Inhabited α] {w : World} {v : α → Value} {c : α → α → Int} {f : Value} {I : World → Prop} {g n cap B0 : Nat} {d : Array α} {next : Value → World → Prop} {QP : List PanicEntry → World → Prop}
/-- 'data[i], data[j] = data[j], data[i]' -/
theorem iswap_ {i j : Nat} {B : Prop} (hd : Dt (fun x => [v x]) 3 1 w g n cap d) (h1 : ∀ x, (v x).oneCell' = true) (hi : i < n) (hj : j < n) (hB : B) {nx : Value → World → Prop}
    (k : ∀ w', Dt (fun x => [v x]) 3 1 w' g n cap (swp d i j) → Mod (fun k => k = g) w w' → nx undef w') :
    storeK Try.prog 3 (.pointer (some ⟨g, i, none⟩)) (v d[j]!) w.drew (fun _ w' => B ∧ storeK Try.prog 3 (.pointer (some ⟨g, j, none⟩)) (v d[i]!) w' nx QP) QP := by
  have hd0 := hd.mod (Mod.drew none' _) (fun h => h)
  refine Dt.st1 hd0 h1 szi hi ?_
  intro w1 hd1 m1 _
  refine ⟨hB, ?_⟩
  refine Dt.st1 hd1 h1 szi hj ?_
  intro w2 hd2 m2 _
  exact k w2 hd2 (((Mod.drew _ _).trans' m1).trans' m2)
/-- a call of the comparison -/
theorem icmp_ {x y : α} (hd : Dt (fun x => [v x]) 3 1 w g n cap d) (C : Cmp Try.prog f v c g B0 I) (hI : I w) {nx : Value → World → Prop}
    (k : ∀ w', Dt (fun x => [v x]) 3 1 w' g n cap d → Mod (fun k => k = g) w w' → nx (.int .i64 (c x y)) w') : callvK Try.prog f [v x, v y] w.drew nx QP := by
  have _h := (default : α)
  refine C.call _ _ _ _ _ (C.inv0 hI (Mod.drew _ _)) ?_
  intro w1 m1
  have m := (Mod.drew none' w).trans' m1
  exact k w1 (hd.mod m fun h => h) m.up

theorem iins_ {a b : Nat} (hd : Dt (fun x => [v x]) 3 1 w g n cap d) (h1 : ∀ x, (v x).oneCell' = true) (C : Cmp Try.prog f v c g B0 I) (hI : I w) (hb : b ≤ n) (hab : a ≤ b) (hn : n < 4611686018427387904)
    (k : ∀ w', Dt (fun x => [v x]) 3 1 w' g n cap (insertionSort (ltc c) d a b) → Mod (fun k => k = g) w w' → next (.tuple #[]) w') : callvK Try.prog (.func (.func 71) #[] #[]) [.slice (some ⟨g, 0, none⟩) n cap, .int .i64 a, .int .i64 b, f] w next QP := by
  refine r71 rfl ?_
  unfold h71
  try simp only [go_sem]
  rw [w64 (by omega) (by omega)]
  refine loopN (n + 1) (fun i τ w' => ∃ d', τ 0 = .slice (some ⟨g, 0, none⟩) n cap ∧ τ 1 = .int .i64 a ∧ τ 2 = .int .i64 b ∧ τ 3 = f ∧ τ 8 = .int .i64 i ∧ a < i ∧ Dt (fun x => [v x]) 3 1 w' g n cap d' ∧ Mod (fun k => k = g) w w' ∧ insOuter (ltc c) a b i d' = insertionSort (ltc c) d a b) ⟨a + 1, by omega, d, rfl, rfl, rfl, rfl, rfl, by omega, hd, Mod.refl _ _, rfl⟩ ?_
  rintro i τ w1 hi ⟨d1, t0, t1, t2, t3, t8, hai, hd1, m1, e1⟩
  unfold h71_1
  try simp only [go_sem, t0, t1, t2, t3, t8]
  refine ⟨fun hlt => ?_, fun hge => ?_⟩
  · have hib : i < b := by
      have : (i : Int) < b := by simpa using hlt
      omega
    rw [insOuter, if_pos hib] at e1
    unfold h71_2
    try simp only [go_sem, t0, t1, t2, t3, t8]
    refine ⟨fun j τ w' => ∃ d', j < n ∧ τ 0 = .slice (some ⟨g, 0, none⟩) n cap ∧ τ 1 = .int .i64 a ∧ τ 2 = .int .i64 b ∧ τ 3 = f ∧ τ 8 = .int .i64 i ∧ τ 9 = .int .i64 j ∧ a ≤ j ∧ Dt (fun x => [v x]) 3 1 w' g n cap d' ∧ Mod (fun k => k = g) w w' ∧ insInner (ltc c) a j d' = insInner (ltc c) a i d1, i, ⟨d1, by omega, t0, t1, t2, t3, t8, rfl, by omega, hd1, m1, rfl⟩, ?_⟩
    rintro j τ w2 ⟨d2, hjn, t0, t1, t2, t3, t8, t9, haj, hd2, m2, e2⟩
    unfold h71_3
    have hwI : I w2 := C.inv _ _ hI m2
    by_cases hja : a < j
    · obtain ⟨j, rfl⟩ : ∃ q, j = q + 1 := ⟨j - 1, by omega⟩
      have ew : IntKind.i64.wrap (((j + 1 : Nat) : Int) - 1) = (j : Nat) := by rw [w64 (by omega) (by omega)]; omega
      have eg : decide ((a : Int) < ((j + 1 : Nat) : Int)) = true := by simpa using (by omega : (a : Int) < ((j + 1 : Nat) : Int))
      have x1 := Dt.ld1 hd2 hjn; have x2 := Nat.zero_add 0
      have y1 := Dt.ld1 hd2 (show j < n by omega); have y2 := Nat.zero_add 0
      try simp only [go_sem, t0, t1, t2, t3, t8, t9, ew, eg, x1, x2, y1, y2]
      repeat refine ⟨⟨by omega, by omega⟩, ?_⟩
      refine icmp_ hd2 C hwI ?_
      intro w3 hd3 m3
      have m23 := m2.trans' m3
      try simp only [go_sem]
      refine ⟨fun hc => ?_, fun hc => ?_⟩
      · rw [insInner, if_pos (by rw [Bool.and_eq_true]; exact ⟨by simp; omega, hc⟩)] at e2
        have x1 := Dt.ld1 hd3 hjn; have x2 := Nat.zero_add 0
        have y1 := Dt.ld1 hd3 (show j < n by omega); have y2 := Nat.zero_add 0
        unfold h71_4
        try simp only [go_sem, t0, t1, t2, t3, t8, t9, ew, x1, x2, y1, y2]
        repeat refine ⟨⟨by omega, by omega⟩, ?_⟩
        refine iswap_ hd3 h1 hjn (by omega) (by omega) ?_
        intro w4 hd4 m4
        have m24 := m23.trans' m4
        unfold h71_5
        try simp only [go_sem, t0, t1, t2, t3, t8, t9, ew]
        refine ⟨j, by omega, swp d2 (j + 1) j, ?_⟩
        (and_intros <;> first | rfl | assumption | omega)
      · rw [insInner, if_neg (by rw [Bool.and_eq_true]; rintro ⟨-, h⟩; rw [show ltc c d2[j + 1]! d2[j]! = false from hc] at h; cases h)] at e2
        unfold h71_6
        try simp only [go_sem, t0, t1, t2, t3, t8, t9]
        rw [w64 (by omega) (by omega)]
        rw [← e2] at e1
        refine ⟨i + 1, by omega, by omega, d2, ?_⟩
        (and_intros <;> first | rfl | assumption | omega)
    · have eg : decide ((a : Int) < (j : Int)) = false := by simpa using (by omega : (j : Int) ≤ a)
      have hj : j = a := by omega
      have e3 : insInner (ltc c) a j d2 = d2 := by
        cases j with
        | zero => rfl
        | succ q => rw [insInner, if_neg (by rw [Bool.and_eq_true]; rintro ⟨h, -⟩; simp at h; omega)]
      rw [e3] at e2
      try simp only [go_sem, t0, t1, t2, t3, t8, t9, eg]
      unfold h71_6
      try simp only [go_sem, t0, t1, t2, t3, t8, t9]
      rw [w64 (by omega) (by omega)]
      rw [← e2] at e1
      have m2' := m2.trans' (Mod.drew (fun k => k = g) w2)
      have hd2' := hd2.mod (Mod.drew none' _) (fun h => h)
      refine ⟨i + 1, by omega, by omega, d2, ?_⟩
      (and_intros <;> first | rfl | assumption | omega)
  · have hib : ¬ i < b := by
      have : ¬ (i : Int) < b := by simpa using hge
      omega
    rw [insOuter, if_neg hib] at e1
    subst e1
    exact k _ hd1 m1

theorem isift3_ {τ : Env} {r ch F hi : Nat} {Q : HX → Env → World → Prop} (hd : Dt (fun x => [v x]) 3 1 w g n cap d) (h1 : ∀ x, (v x).oneCell' = true) (C : Cmp Try.prog f v c g B0 I) (hI : I w) (hr : F + r < n) (hch : F + ch < n) (hn : n < 4611686018427387904)
    (t0 : τ 0 = .slice (some ⟨g, 0, none⟩) n cap) (t2 : τ 2 = .int .i64 hi) (t3 : τ 3 = .int .i64 F) (t4 : τ 4 = f) (t10 : τ 10 = .int .i64 r) (t11 : τ 11 = .int .i64 ch)
    (k1 : ltc c d[F + r]! d[F + ch]! = false → ∀ σ w', Dt (fun x => [v x]) 3 1 w' g n cap d → Mod (fun k => k = g) w w' → Q .ret σ w')
    (k2 : ltc c d[F + r]! d[F + ch]! = true → ∀ σ w', σ 0 = .slice (some ⟨g, 0, none⟩) n cap → σ 2 = .int .i64 hi → σ 3 = .int .i64 F → σ 4 = f → σ 10 = .int .i64 ch → Dt (fun x => [v x]) 3 1 w' g n cap (swp d (F + r) (F + ch)) → Mod (fun k => k = g) w w' → Q .normal σ w') :
    hw Try.prog noPanic h85_3 Q τ w := by
  unfold h85_3
  have e1 : IntKind.i64.wrap ((F : Int) + (r : Int)) = ((F + r : Nat) : Int) := by rw [w64 (by omega) (by omega)]; omega
  have e2 : IntKind.i64.wrap ((F : Int) + (ch : Int)) = ((F + ch : Nat) : Int) := by rw [w64 (by omega) (by omega)]; omega
  have x1 := Dt.ld1 hd hr; have x2 := Nat.zero_add 0
  have y1 := Dt.ld1 hd hch; have y2 := Nat.zero_add 0
  try simp only [go_sem, t0, t2, t3, t4, t10, t11, e1, e2, x1, x2, y1, y2]
  repeat refine ⟨⟨by omega, by omega⟩, ?_⟩
  refine icmp_ hd C hI ?_
  intro w3 hd3 m3
  try simp only [go_sem]
  refine ⟨fun hc => ?_, fun hc => ?_⟩
  · exact k1 (by simpa [ltc] using hc) _ _ hd3 m3
  · have x1 := Dt.ld1 hd3 hr; have x2 := Nat.zero_add 0
    have y1 := Dt.ld1 hd3 hch; have y2 := Nat.zero_add 0
    unfold h85_4
    try simp only [go_sem, t0, t2, t3, t4, t10, t11, e1, e2, x1, x2, y1, y2]
    repeat refine ⟨⟨by omega, by omega⟩, ?_⟩
    refine iswap_ hd3 h1 hr hch (by omega) ?_
    intro w4 hd4 m4
    try simp only [go_sem, t0, t2, t3, t4, t10, t11]
    exact k2 (by simpa [ltc] using hc) _ _ t0 t2 t3 t4 rfl hd4 (m3.trans' m4)

theorem isift_ {lo hi F : Nat} (hd : Dt (fun x => [v x]) 3 1 w g n cap d) (h1 : ∀ x, (v x).oneCell' = true) (C : Cmp Try.prog f v c g B0 I) (hI : I w) (hF : F + hi ≤ n) (hlo : lo ≤ n) (hn : n < 4611686018427387904)
    (k : ∀ w', Dt (fun x => [v x]) 3 1 w' g n cap (siftDown (ltc c) hi F lo d) → Mod (fun k => k = g) w w' → next (.tuple #[]) w') : callvK Try.prog (.func (.func 85) #[] #[]) [.slice (some ⟨g, 0, none⟩) n cap, .int .i64 lo, .int .i64 hi, .int .i64 F, f] w next QP := by
  refine r85 rfl ?_
  unfold h85
  try simp only [go_sem]
  refine loopN (lo + hi) (fun r τ w' => ∃ d', r ≤ n ∧ τ 0 = .slice (some ⟨g, 0, none⟩) n cap ∧ τ 2 = .int .i64 hi ∧ τ 3 = .int .i64 F ∧ τ 4 = f ∧ τ 10 = .int .i64 r ∧ Dt (fun x => [v x]) 3 1 w' g n cap d' ∧ Mod (fun k => k = g) w w' ∧ siftDown (ltc c) hi F r d' = siftDown (ltc c) hi F lo d) ⟨lo, by omega, d, by omega, rfl, rfl, rfl, rfl, rfl, hd, Mod.refl _ _, rfl⟩ ?_
  rintro r τ w1 hr ⟨d1, hrn, t0, t2, t3, t4, t10, hd1, m1, e1⟩
  have hwI : I w1 := C.inv _ _ hI m1
  have ea : IntKind.i64.wrap (IntKind.i64.wrap (2 * (r : Int)) + 1) = ((2 * r + 1 : Nat) : Int) := by rw [w64 (x := 2 * (r : Int)) (by omega) (by omega), w64 (by omega) (by omega)]; omega
  unfold h85_1
  try simp only [go_sem, t0, t2, t3, t4, t10, ea]
  refine ⟨fun hge => ?_, fun hlt => ?_⟩
  · have hge' : 2 * r + 1 ≥ hi := by
      have := of_decide_eq_true hge
      omega
    rw [siftDown, dif_pos hge'] at e1
    subst e1
    exact k _ hd1 m1
  · have hlt' : ¬ 2 * r + 1 ≥ hi := by
      have := of_decide_eq_false hlt
      omega
    rw [siftDown, dif_neg hlt'] at e1
    unfold h85_2
    have eb : IntKind.i64.wrap (((2 * r + 1 : Nat) : Int) + 1) = ((2 * r + 1 + 1 : Nat) : Int) := by rw [w64 (by omega) (by omega)]; omega
    have ec : IntKind.i64.wrap ((F : Int) + ((2 * r + 1 : Nat) : Int)) = ((F + (2 * r + 1) : Nat) : Int) := by rw [w64 (by omega) (by omega)]; omega
    have ed : IntKind.i64.wrap (((F + (2 * r + 1) : Nat) : Int) + 1) = ((F + (2 * r + 1) + 1 : Nat) : Int) := by rw [w64 (by omega) (by omega)]; omega
    by_cases hch : 2 * r + 1 + 1 < hi
    · have eg : decide (((2 * r + 1 + 1 : Nat) : Int) < (hi : Int)) = true := by simpa using (by omega : ((2 * r + 1 + 1 : Nat) : Int) < (hi : Int))
      have x1 := Dt.ld1 hd1 (show F + (2 * r + 1) < n by omega); have x2 := Nat.zero_add 0
      have y1 := Dt.ld1 hd1 (show F + (2 * r + 1) + 1 < n by omega); have y2 := Nat.zero_add 0
      try simp only [go_sem, t0, t2, t3, t4, t10, eb, ec, ed, eg, x1, x2, y1, y2]
      repeat refine ⟨⟨by omega, by omega⟩, ?_⟩
      refine icmp_ hd1 C hwI ?_
      intro w2 hd2 m2
      have m12 := m1.trans' m2
      have hwI2 : I w2 := C.inv _ _ hI m12
      try simp only [go_sem]
      refine ⟨fun hc => ?_, fun hc => ?_⟩
      · have hc' : ltc c d1[F + (2 * r + 1)]! d1[F + (2 * r + 1) + 1]! = true := hc
        rw [if_pos (by rw [Bool.and_eq_true]; exact ⟨by simpa using hch, hc'⟩)] at e1
        try simp only [go_sem, t0, t2, t3, t4, t10, eb]
        refine isift3_ (r := r) (ch := 2 * r + 2) (F := F) (hi := hi) hd2 h1 C hwI2 (by omega) (by omega) hn t0 t2 t3 t4 t10 rfl ?_ ?_
        · intro hl σ w' hd' m'
          rw [hl] at e1
          simp only [Bool.not_false, if_true] at e1
          subst e1
          try simp only [go_sem]
          exact k _ hd' (m12.trans' m')
        · intro hl σ w' s0 s2 s3 s4 s10 hd' m'
          rw [hl] at e1
          simp only [Bool.not_true, Bool.false_eq_true, if_false] at e1
          rw [dif_pos (by omega)] at e1
          have mm := m12.trans' m'
          refine ⟨2 * r + 2, by omega, by omega, swp d1 (F + r) (F + (2 * r + 2)), ?_⟩
          (and_intros <;> first | rfl | assumption | omega)
      · have hc' : ltc c d1[F + (2 * r + 1)]! d1[F + (2 * r + 1) + 1]! = false := hc
        rw [if_neg (by rw [Bool.and_eq_true]; rintro ⟨-, h⟩; rw [hc'] at h; cases h)] at e1
        try simp only [go_sem, t0, t2, t3, t4, t10]
        refine isift3_ (r := r) (ch := 2 * r + 1) (F := F) (hi := hi) hd2 h1 C hwI2 (by omega) (by omega) hn t0 t2 t3 t4 t10 rfl ?_ ?_
        · intro hl σ w' hd' m'
          rw [hl] at e1
          simp only [Bool.not_false, if_true] at e1
          subst e1
          try simp only [go_sem]
          exact k _ hd' (m12.trans' m')
        · intro hl σ w' s0 s2 s3 s4 s10 hd' m'
          rw [hl] at e1
          simp only [Bool.not_true, Bool.false_eq_true, if_false] at e1
          have mm := m12.trans' m'
          refine ⟨2 * r + 1, by omega, by omega, swp d1 (F + r) (F + (2 * r + 1)), ?_⟩
          (and_intros <;> first | rfl | assumption | omega)
    · have eg : decide (((2 * r + 1 + 1 : Nat) : Int) < (hi : Int)) = false := by simpa using (by omega : (hi : Int) ≤ ((2 * r + 1 + 1 : Nat) : Int))
      rw [if_neg (by rw [Bool.and_eq_true]; rintro ⟨h, -⟩; simp at h; omega)] at e1
      try simp only [go_sem, t0, t2, t3, t4, t10, eb, eg]
      have m2 := m1.trans' (Mod.drew (fun k => k = g) w1)
      refine isift3_ (r := r) (ch := 2 * r + 1) (F := F) (hi := hi) (hd1.mod (Mod.drew none' _) (fun h => h)) h1 C (C.inv _ _ hI m2) (by omega) (by omega) hn t0 t2 t3 t4 t10 rfl ?_ ?_
      · intro hl σ w' hd' m'
        rw [hl] at e1
        simp only [Bool.not_false, if_true] at e1
        subst e1
        try simp only [go_sem]
        exact k _ hd' (m2.trans' m')
      · intro hl σ w' s0 s2 s3 s4 s10 hd' m'
        rw [hl] at e1
        simp only [Bool.not_true, Bool.false_eq_true, if_false] at e1
        have mm := m2.trans' m'
        refine ⟨2 * r + 1, by omega, by omega, swp d1 (F + r) (F + (2 * r + 1)), ?_⟩
        (and_intros <;> first | rfl | assumption | omega)

theorem isift_size (lt : α → α → Bool) (hi F r : Nat) (d : Array α) : (siftDown lt hi F r d).size = d.size := by
  fun_induction siftDown lt hi F r d <;> simp_all [size_swp]
theorem ibuild_size (lt : α → α → Bool) (hi F : Nat) : ∀ (k : Nat) (d : Array α), (heapBuild lt hi F k d).size = d.size
  | 0, d => rfl
  | k + 1, d => by rw [heapBuild, ibuild_size lt hi F k, isift_size]

theorem iheap_ {a b : Nat} (hd : Dt (fun x => [v x]) 3 1 w g n cap d) (h1 : ∀ x, (v x).oneCell' = true) (C : Cmp Try.prog f v c g B0 I) (hI : I w) (hb : b ≤ n) (hab : a < b) (hn : n < 4611686018427387904)
    (k : ∀ w', Dt (fun x => [v x]) 3 1 w' g n cap (heapSort (ltc c) d a b) → Mod (fun k => k = g) w w' → next (.tuple #[]) w') : callvK Try.prog (.func (.func 72) #[] #[]) [.slice (some ⟨g, 0, none⟩) n cap, .int .i64 a, .int .i64 b, f] w next QP := by
  refine r72 rfl ?_
  have ea : IntKind.i64.wrap ((b : Int) - (a : Int)) = ((b - a : Nat) : Int) := by rw [w64 (by omega) (by omega)]; omega
  have eb : IntKind.i64.wrap ((((b - a : Nat) : Int)) - 1) = ((b - a - 1 : Nat) : Int) := by rw [w64 (by omega) (by omega)]; omega
  have ec : IntKind.i64.wrap (Int.tdiv (((b - a - 1 : Nat) : Int)) 2) = (((b - a - 1) / 2 : Nat) : Int) := by
    rw [Int.tdiv_eq_ediv_of_nonneg (by omega), w64 (by omega) (by omega)]; omega
  unfold h72
  try simp only [go_sem, ea, eb, ec]
  refine ⟨by omega, ?_⟩
  refine ⟨fun i τ w' => ∃ d', i ≤ (b - a - 1) / 2 + 1 ∧ τ 0 = .slice (some ⟨g, 0, none⟩) n cap ∧ τ 3 = f ∧ τ 8 = .int .i64 a ∧ τ 9 = .int .i64 0 ∧ τ 10 = .int .i64 (b - a : Nat) ∧ τ 11 = .int .i64 ((i : Int) - 1) ∧ Dt (fun x => [v x]) 3 1 w' g n cap d' ∧ Mod (fun k => k = g) w w' ∧ heapBuild (ltc c) (b - a) a i d' = heapBuild (ltc c) (b - a) a ((b - a - 1) / 2 + 1) d, (b - a - 1) / 2 + 1, ⟨d, by omega, rfl, rfl, rfl, rfl, rfl, by simp [upd], hd, Mod.refl _ _, rfl⟩, ?_⟩
  rintro i τ w1 ⟨d1, hi, t0, t3, t8, t9, t10, t11, hd1, m1, e1⟩
  unfold h72_1
  have hwI : I w1 := C.inv _ _ hI m1
  cases i with
  | succ i =>
    have eg : ((i + 1 : Nat) : Int) - 1 = (i : Nat) := by omega
    rw [eg] at t11
    have e0 : decide ((0 : Int) ≤ (i : Int)) = true := by simp
    try simp only [go_sem, t0, t3, t8, t9, t10, t11, e0]
    unfold h72_2
    try simp only [go_sem, t0, t3, t8, t9, t10, t11]
    refine isift_ (lo := i) (hi := b - a) (F := a) hd1 h1 C hwI (by omega) (by omega) hn ?_
    intro w2 hd2 m2
    have mm := m1.trans' m2
    unfold h72_3
    try simp only [go_sem, t0, t3, t8, t9, t10, t11]
    rw [w64 (by omega) (by omega)]
    rw [heapBuild] at e1
    refine ⟨i, by omega, siftDown (ltc c) (b - a) a i d1, ?_⟩
    (and_intros <;> first | rfl | assumption | omega)
  | zero =>
    have e0 : decide ((0 : Int) ≤ 0 - 1) = false := rfl
    try simp only [go_sem, t0, t3, t8, t9, t10, t11, e0]
    rw [heapBuild] at e1
    unfold h72_4
    try simp only [go_sem, t0, t3, t8, t9, t10, t11, eb]
    have hsz : d1.size = n := hd1.size
    refine ⟨fun i τ w' => ∃ d', i ≤ b - a ∧ τ 0 = .slice (some ⟨g, 0, none⟩) n cap ∧ τ 3 = f ∧ τ 8 = .int .i64 a ∧ τ 9 = .int .i64 0 ∧ τ 10 = .int .i64 (b - a : Nat) ∧ τ 12 = .int .i64 ((i : Int) - 1) ∧ Dt (fun x => [v x]) 3 1 w' g n cap d' ∧ Mod (fun k => k = g) w w' ∧ heapPop (ltc c) a i d' = heapPop (ltc c) a (b - a) d1, b - a, ⟨d1, by omega, t0, t3, t8, t9, t10, by simp only [upd]; simp; omega, hd1, m1, rfl⟩, ?_⟩
    rintro i τ w3 ⟨d3, hi, t0, t3, t8, t9, t10, t12, hd3, m3, e3⟩
    unfold h72_5
    have hwI : I w3 := C.inv _ _ hI m3
    cases i with
    | succ i =>
      have eg : ((i + 1 : Nat) : Int) - 1 = (i : Nat) := by omega
      rw [eg] at t12
      have e0 : decide ((0 : Int) ≤ (i : Int)) = true := by simp
      try simp only [go_sem, t0, t3, t8, t9, t10, t12, e0]
      unfold h72_6
      have ef : IntKind.i64.wrap ((a : Int) + (i : Int)) = ((a + i : Nat) : Int) := by rw [w64 (by omega) (by omega)]; omega
      have x1 := Dt.ld1 hd3 (show a < n by omega); have x2 := Nat.zero_add 0
      have y1 := Dt.ld1 hd3 (show a + i < n by omega); have y2 := Nat.zero_add 0
      try simp only [go_sem, t0, t3, t8, t9, t10, t12, ef, x1, x2, y1, y2]
      repeat refine ⟨⟨by omega, by omega⟩, ?_⟩
      refine iswap_ hd3 h1 (show a < n by omega) (show a + i < n by omega) (by omega) ?_
      intro w4 hd4 m4
      have m34 := m3.trans' m4
      try simp only [go_sem]
      refine isift_ (lo := 0) (hi := i) (F := a) hd4 h1 C (C.inv _ _ hI m34) (by omega) (by omega) hn ?_
      intro w5 hd5 m5
      have mm := m34.trans' m5
      unfold h72_7
      try simp only [go_sem, t0, t3, t8, t9, t10, t12]
      rw [w64 (by omega) (by omega)]
      rw [heapPop] at e3
      refine ⟨i, by omega, siftDown (ltc c) i a 0 (swp d3 a (a + i)), ?_⟩
      (and_intros <;> first | rfl | assumption | omega)
    | zero =>
      have e0 : decide ((0 : Int) ≤ 0 - 1) = false := rfl
      try simp only [go_sem, t0, t3, t8, t9, t10, t12, e0]
      rw [heapPop] at e3
      refine k _ ?_ m3
      rw [heapSort, ← e1, ← e3]
      exact hd3

theorem irev_ {a b : Nat} (hd : Dt (fun x => [v x]) 3 1 w g n cap d) (h1 : ∀ x, (v x).oneCell' = true) (hb : b ≤ n) (hab : a < b) (hn : n < 4611686018427387904)
    (k : ∀ w', Dt (fun x => [v x]) 3 1 w' g n cap (reverseRange d a b) → Mod (fun k => k = g) w w' → next (.tuple #[]) w') : callvK Try.prog (.func (.func 75) #[] #[]) [.slice (some ⟨g, 0, none⟩) n cap, .int .i64 a, .int .i64 b, f] w next QP := by
  refine r75 rfl ?_
  have ea : IntKind.i64.wrap ((b : Int) - 1) = ((b - 1 : Nat) : Int) := by rw [w64 (by omega) (by omega)]; omega
  unfold h75
  try simp only [go_sem, ea]
  refine loopN n (fun i τ w' => ∃ d' j, j < n ∧ τ 0 = .slice (some ⟨g, 0, none⟩) n cap ∧ τ 8 = .int .i64 i ∧ τ 9 = .int .i64 j ∧ Dt (fun x => [v x]) 3 1 w' g n cap d' ∧ Mod (fun k => k = g) w w' ∧ reverseLoop i j d' = reverseRange d a b) ⟨a, by omega, d, b - 1, by omega, rfl, rfl, rfl, hd, Mod.refl _ _, rfl⟩ ?_
  rintro i τ w1 hi ⟨d1, j, hj, t0, t8, t9, hd1, m1, e1⟩
  unfold h75_1
  try simp only [go_sem, t0, t8, t9]
  refine ⟨fun hlt => ?_, fun hge => ?_⟩
  · have hij : i < j := by
      have := of_decide_eq_true hlt
      omega
    rw [reverseLoop, if_pos hij] at e1
    have x1 := Dt.ld1 hd1 (show i < n by omega); have x2 := Nat.zero_add 0
    have y1 := Dt.ld1 hd1 hj; have y2 := Nat.zero_add 0
    unfold h75_2
    try simp only [go_sem, t0, t8, t9, x1, x2, y1, y2]
    repeat refine ⟨⟨by omega, by omega⟩, ?_⟩
    refine iswap_ hd1 h1 (show i < n by omega) hj (by omega) ?_
    intro w2 hd2 m2
    have mm := m1.trans' m2
    try simp only [go_sem, t0, t8, t9]
    rw [w64 (by omega) (by omega), w64 (by omega) (by omega)]
    refine ⟨i + 1, by omega, by omega, swp d1 i j, j - 1, ?_⟩
    have ej : (j : Int) - 1 = ((j - 1 : Nat) : Int) := by omega
    rw [ej]
    (and_intros <;> first | rfl | assumption | omega)
  · have hij : ¬ i < j := by
      have := of_decide_eq_false hge
      omega
    rw [reverseLoop, if_neg hij] at e1
    subst e1
    exact k _ hd1 m1
end
end Go.Proofs.Y

/- TXI: thread: Go's sort of slices, walked: the parts. -/
namespace Go.Proofs.Y
open Go Go.HL Go.Proofs
open Go.Sort (swp insInner insOuter insertionSort siftDown heapBuild heapPop heapSort scanUp scanDown partLoop partition partEqLoop partitionEqual scanSorted shiftDown shiftUp partialIns partialInsertionSort reverseLoop reverseRange PermIn SortedIn Below SWO size_swp)

section
variable {α : Type} [Inhabited α] {w : World} {v : α → Value} {c : α → α → Int} {f : Value} {I : World → Prop} {g n cap B0 : Nat} {d : Array α} {next : Value → World → Prop} {QP : List PanicEntry → World → Prop}

theorem iua_ {a i j : Nat} {τ : Env} {Q : HX → Env → World → Prop} (hd : Dt (fun x => [v x]) 3 1 w g n cap d) (h1 : ∀ x, (v x).oneCell' = true) (C : Cmp Try.prog f v c g B0 I) (hI : I w) (ha : a < n) (hj : j < n) (hi : a < i) (hij : i ≤ j + 1) (hn : n < 4611686018427387904)
    (t0 : τ 0 = .slice (some ⟨g, 0, none⟩) n cap) (t1 : τ 1 = .int .i64 a) (t4 : τ 4 = f) (ti : τ 12 = .int .i64 i) (tj : τ 13 = .int .i64 j)
    (k : ∀ σ w', σ 0 = .slice (some ⟨g, 0, none⟩) n cap → σ 1 = .int .i64 a → σ 4 = f → σ 12 = .int .i64 ((scanUp (fun x => ltc c x d[a]!) d j i : Nat)) → σ 13 = .int .i64 (j) → Dt (fun x => [v x]) 3 1 w' g n cap d → Mod (fun k => k = g) w w' → Q (.exit 0) σ w') :
    hloop (hw Try.prog noPanic h78_1) Q τ w := by
  refine loopN (j + 1) (fun i' τ w' => i ≤ i' ∧ τ 0 = .slice (some ⟨g, 0, none⟩) n cap ∧ τ 1 = .int .i64 a ∧ τ 4 = f ∧ τ 12 = .int .i64 i' ∧ τ 13 = .int .i64 j ∧ Dt (fun x => [v x]) 3 1 w' g n cap d ∧ Mod (fun k => k = g) w w' ∧ scanUp (fun x => ltc c x d[a]!) d j i' = scanUp (fun x => ltc c x d[a]!) d j i) ⟨i, by omega, by omega, t0, t1, t4, ti, tj, hd, Mod.refl _ _, rfl⟩ ?_
  rintro i' τ w1 hi' ⟨hii, t0, t1, t4, ti, tj, hd1, m1, e1⟩
  have hwI : I w1 := C.inv _ _ hI m1
  unfold h78_1
  by_cases hc : i' ≤ j
  · have eg : decide ((i' : Int) ≤ (j : Int)) = true := by simpa using (by omega : (i' : Int) ≤ (j : Int))
    have x1 := Dt.ld1 hd1 (show i' < n by omega); have x2 := Nat.zero_add 0
    have y1 := Dt.ld1 hd1 ha; have y2 := Nat.zero_add 0
    try simp only [go_sem, t0, t1, t4, ti, tj, eg, x1, x2, y1, y2]
    repeat refine ⟨⟨by omega, by omega⟩, ?_⟩
    refine icmp_ hd1 C hwI ?_
    intro w2 hd2 m2
    have mm := m1.trans' m2
    try simp only [go_sem]
    refine ⟨fun hb => ?_, fun hb => ?_⟩
    · have hp : (ltc c d[i']! d[a]!) = true := by simpa [ltc] using hb
      rw [scanUp, if_pos (by rw [Bool.and_eq_true]; exact ⟨by simpa using hc, hp⟩)] at e1
      unfold h78_2
      try simp only [go_sem, t0, t1, t4, ti, tj]
      rw [w64 (by omega) (by omega)]
      refine ⟨i' + 1, by omega, by omega, ?_⟩
      (and_intros <;> first | rfl | assumption | omega)
    · have hp : (ltc c d[i']! d[a]!) = false := by simpa [ltc] using hb
      rw [scanUp, if_neg (by rw [Bool.and_eq_true]; rintro ⟨-, h⟩; simp only [hp] at h; cases h)] at e1
      try simp only [go_sem, t0, t1, t4, ti, tj]
      exact k _ _ t0 t1 t4 (by rw [← e1]; exact ti) tj hd2 mm
  · have eg : decide ((i' : Int) ≤ (j : Int)) = false := by simpa using (by omega : (j : Int) < (i' : Int))
    rw [scanUp, if_neg (by rw [Bool.and_eq_true]; rintro ⟨h, -⟩; simp at h; omega)] at e1
    try simp only [go_sem, t0, t1, t4, ti, tj, eg]
    exact k _ _ t0 t1 t4 (by rw [← e1]; exact ti) tj (hd1.mod (Mod.drew none' _) (fun h => h)) (m1.trans' (Mod.drew _ _))

theorem ida_ {a i j : Nat} {τ : Env} {Q : HX → Env → World → Prop} (hd : Dt (fun x => [v x]) 3 1 w g n cap d) (h1 : ∀ x, (v x).oneCell' = true) (C : Cmp Try.prog f v c g B0 I) (hI : I w) (ha : a < n) (hj : j < n) (hi : a < i) (hij : i ≤ j + 1) (hn : n < 4611686018427387904)
    (t0 : τ 0 = .slice (some ⟨g, 0, none⟩) n cap) (t1 : τ 1 = .int .i64 a) (t4 : τ 4 = f) (ti : τ 12 = .int .i64 i) (tj : τ 13 = .int .i64 j)
    (k : ∀ σ w', σ 0 = .slice (some ⟨g, 0, none⟩) n cap → σ 1 = .int .i64 a → σ 4 = f → σ 12 = .int .i64 (i) → σ 13 = .int .i64 ((scanDown (fun x => !ltc c x d[a]!) d i j : Nat)) → Dt (fun x => [v x]) 3 1 w' g n cap d → Mod (fun k => k = g) w w' → Q (.exit 2) σ w') :
    hloop (hw Try.prog noPanic h78_4) Q τ w := by
  refine ⟨fun j' τ w' => i ≤ j' + 1 ∧ j' ≤ j ∧ τ 0 = .slice (some ⟨g, 0, none⟩) n cap ∧ τ 1 = .int .i64 a ∧ τ 4 = f ∧ τ 12 = .int .i64 i ∧ τ 13 = .int .i64 j' ∧ Dt (fun x => [v x]) 3 1 w' g n cap d ∧ Mod (fun k => k = g) w w' ∧ scanDown (fun x => !ltc c x d[a]!) d i j' = scanDown (fun x => !ltc c x d[a]!) d i j, j, ⟨hij, by omega, t0, t1, t4, ti, tj, hd, Mod.refl _ _, rfl⟩, ?_⟩
  rintro j' τ w1 ⟨hij', hjj, t0, t1, t4, ti, tj, hd1, m1, e1⟩
  have hwI : I w1 := C.inv _ _ hI m1
  unfold h78_4
  by_cases hc : i ≤ j'
  · obtain ⟨j', rfl⟩ : ∃ q, j' = q + 1 := ⟨j' - 1, by omega⟩
    have eg : decide ((i : Int) ≤ ((j' + 1 : Nat) : Int)) = true := by simpa using (by omega : (i : Int) ≤ ((j' + 1 : Nat) : Int))
    have x1 := Dt.ld1 hd1 (show j' + 1 < n by omega); have x2 := Nat.zero_add 0
    have y1 := Dt.ld1 hd1 ha; have y2 := Nat.zero_add 0
    try simp only [go_sem, t0, t1, t4, ti, tj, eg, x1, x2, y1, y2]
    repeat refine ⟨⟨by omega, by omega⟩, ?_⟩
    refine icmp_ hd1 C hwI ?_
    intro w2 hd2 m2
    have mm := m1.trans' m2
    try simp only [go_sem]
    refine ⟨fun hb => ?_, fun hb => ?_⟩
    · have hp : (!ltc c d[j' + 1]! d[a]!) = true := by simpa [ltc] using hb
      rw [scanDown, if_pos (by rw [Bool.and_eq_true]; exact ⟨by simpa using hc, hp⟩)] at e1
      unfold h78_5
      try simp only [go_sem, t0, t1, t4, ti, tj]
      rw [w64 (by omega) (by omega)]
      have ej : ((j' + 1 : Nat) : Int) - 1 = (j' : Int) := by omega
      rw [ej]
      refine ⟨j', by omega, ?_⟩
      (and_intros <;> first | rfl | assumption | omega)
    · have hp : (!ltc c d[j' + 1]! d[a]!) = false := by simpa [ltc] using hb
      rw [scanDown, if_neg (by rw [Bool.and_eq_true]; rintro ⟨-, h⟩; simp only [hp] at h; cases h)] at e1
      try simp only [go_sem, t0, t1, t4, ti, tj]
      exact k _ _ t0 t1 t4 ti (by rw [← e1]; exact tj) hd2 mm
  · have eg : decide ((i : Int) ≤ (j' : Int)) = false := by simpa using (by omega : (j' : Int) < (i : Int))
    have e2 : scanDown (fun x => !ltc c x d[a]!) d i j' = j' := by
      cases j' with
      | zero => rfl
      | succ q => rw [scanDown, if_neg (by rw [Bool.and_eq_true]; rintro ⟨h, -⟩; simp at h; omega)]
    rw [e2] at e1
    try simp only [go_sem, t0, t1, t4, ti, tj, eg]
    exact k _ _ t0 t1 t4 ti (by rw [← e1]; exact tj) (hd1.mod (Mod.drew none' _) (fun h => h)) (m1.trans' (Mod.drew _ _))

theorem iub_ {a i j : Nat} {τ : Env} {Q : HX → Env → World → Prop} (hd : Dt (fun x => [v x]) 3 1 w g n cap d) (h1 : ∀ x, (v x).oneCell' = true) (C : Cmp Try.prog f v c g B0 I) (hI : I w) (ha : a < n) (hj : j < n) (hi : a < i) (hij : i ≤ j + 1) (hn : n < 4611686018427387904)
    (t0 : τ 0 = .slice (some ⟨g, 0, none⟩) n cap) (t1 : τ 1 = .int .i64 a) (t4 : τ 4 = f) (ti : τ 12 = .int .i64 i) (tj : τ 13 = .int .i64 j)
    (k : ∀ σ w', σ 0 = .slice (some ⟨g, 0, none⟩) n cap → σ 1 = .int .i64 a → σ 4 = f → σ 12 = .int .i64 ((scanUp (fun x => ltc c x d[a]!) d j i : Nat)) → σ 13 = .int .i64 (j) → Dt (fun x => [v x]) 3 1 w' g n cap d → Mod (fun k => k = g) w w' → Q (.exit 6) σ w') :
    hloop (hw Try.prog noPanic h78_9) Q τ w := by
  refine loopN (j + 1) (fun i' τ w' => i ≤ i' ∧ τ 0 = .slice (some ⟨g, 0, none⟩) n cap ∧ τ 1 = .int .i64 a ∧ τ 4 = f ∧ τ 12 = .int .i64 i' ∧ τ 13 = .int .i64 j ∧ Dt (fun x => [v x]) 3 1 w' g n cap d ∧ Mod (fun k => k = g) w w' ∧ scanUp (fun x => ltc c x d[a]!) d j i' = scanUp (fun x => ltc c x d[a]!) d j i) ⟨i, by omega, by omega, t0, t1, t4, ti, tj, hd, Mod.refl _ _, rfl⟩ ?_
  rintro i' τ w1 hi' ⟨hii, t0, t1, t4, ti, tj, hd1, m1, e1⟩
  have hwI : I w1 := C.inv _ _ hI m1
  unfold h78_9
  by_cases hc : i' ≤ j
  · have eg : decide ((i' : Int) ≤ (j : Int)) = true := by simpa using (by omega : (i' : Int) ≤ (j : Int))
    have x1 := Dt.ld1 hd1 (show i' < n by omega); have x2 := Nat.zero_add 0
    have y1 := Dt.ld1 hd1 ha; have y2 := Nat.zero_add 0
    try simp only [go_sem, t0, t1, t4, ti, tj, eg, x1, x2, y1, y2]
    repeat refine ⟨⟨by omega, by omega⟩, ?_⟩
    refine icmp_ hd1 C hwI ?_
    intro w2 hd2 m2
    have mm := m1.trans' m2
    try simp only [go_sem]
    refine ⟨fun hb => ?_, fun hb => ?_⟩
    · have hp : (ltc c d[i']! d[a]!) = true := by simpa [ltc] using hb
      rw [scanUp, if_pos (by rw [Bool.and_eq_true]; exact ⟨by simpa using hc, hp⟩)] at e1
      unfold h78_10
      try simp only [go_sem, t0, t1, t4, ti, tj]
      rw [w64 (by omega) (by omega)]
      refine ⟨i' + 1, by omega, by omega, ?_⟩
      (and_intros <;> first | rfl | assumption | omega)
    · have hp : (ltc c d[i']! d[a]!) = false := by simpa [ltc] using hb
      rw [scanUp, if_neg (by rw [Bool.and_eq_true]; rintro ⟨-, h⟩; simp only [hp] at h; cases h)] at e1
      try simp only [go_sem, t0, t1, t4, ti, tj]
      exact k _ _ t0 t1 t4 (by rw [← e1]; exact ti) tj hd2 mm
  · have eg : decide ((i' : Int) ≤ (j : Int)) = false := by simpa using (by omega : (j : Int) < (i' : Int))
    rw [scanUp, if_neg (by rw [Bool.and_eq_true]; rintro ⟨h, -⟩; simp at h; omega)] at e1
    try simp only [go_sem, t0, t1, t4, ti, tj, eg]
    exact k _ _ t0 t1 t4 (by rw [← e1]; exact ti) tj (hd1.mod (Mod.drew none' _) (fun h => h)) (m1.trans' (Mod.drew _ _))

theorem idb_ {a i j : Nat} {τ : Env} {Q : HX → Env → World → Prop} (hd : Dt (fun x => [v x]) 3 1 w g n cap d) (h1 : ∀ x, (v x).oneCell' = true) (C : Cmp Try.prog f v c g B0 I) (hI : I w) (ha : a < n) (hj : j < n) (hi : a < i) (hij : i ≤ j + 1) (hn : n < 4611686018427387904)
    (t0 : τ 0 = .slice (some ⟨g, 0, none⟩) n cap) (t1 : τ 1 = .int .i64 a) (t4 : τ 4 = f) (ti : τ 12 = .int .i64 i) (tj : τ 13 = .int .i64 j)
    (k : ∀ σ w', σ 0 = .slice (some ⟨g, 0, none⟩) n cap → σ 1 = .int .i64 a → σ 4 = f → σ 12 = .int .i64 (i) → σ 13 = .int .i64 ((scanDown (fun x => !ltc c x d[a]!) d i j : Nat)) → Dt (fun x => [v x]) 3 1 w' g n cap d → Mod (fun k => k = g) w w' → Q (.exit 8) σ w') :
    hloop (hw Try.prog noPanic h78_12) Q τ w := by
  refine ⟨fun j' τ w' => i ≤ j' + 1 ∧ j' ≤ j ∧ τ 0 = .slice (some ⟨g, 0, none⟩) n cap ∧ τ 1 = .int .i64 a ∧ τ 4 = f ∧ τ 12 = .int .i64 i ∧ τ 13 = .int .i64 j' ∧ Dt (fun x => [v x]) 3 1 w' g n cap d ∧ Mod (fun k => k = g) w w' ∧ scanDown (fun x => !ltc c x d[a]!) d i j' = scanDown (fun x => !ltc c x d[a]!) d i j, j, ⟨hij, by omega, t0, t1, t4, ti, tj, hd, Mod.refl _ _, rfl⟩, ?_⟩
  rintro j' τ w1 ⟨hij', hjj, t0, t1, t4, ti, tj, hd1, m1, e1⟩
  have hwI : I w1 := C.inv _ _ hI m1
  unfold h78_12
  by_cases hc : i ≤ j'
  · obtain ⟨j', rfl⟩ : ∃ q, j' = q + 1 := ⟨j' - 1, by omega⟩
    have eg : decide ((i : Int) ≤ ((j' + 1 : Nat) : Int)) = true := by simpa using (by omega : (i : Int) ≤ ((j' + 1 : Nat) : Int))
    have x1 := Dt.ld1 hd1 (show j' + 1 < n by omega); have x2 := Nat.zero_add 0
    have y1 := Dt.ld1 hd1 ha; have y2 := Nat.zero_add 0
    try simp only [go_sem, t0, t1, t4, ti, tj, eg, x1, x2, y1, y2]
    repeat refine ⟨⟨by omega, by omega⟩, ?_⟩
    refine icmp_ hd1 C hwI ?_
    intro w2 hd2 m2
    have mm := m1.trans' m2
    try simp only [go_sem]
    refine ⟨fun hb => ?_, fun hb => ?_⟩
    · have hp : (!ltc c d[j' + 1]! d[a]!) = true := by simpa [ltc] using hb
      rw [scanDown, if_pos (by rw [Bool.and_eq_true]; exact ⟨by simpa using hc, hp⟩)] at e1
      unfold h78_13
      try simp only [go_sem, t0, t1, t4, ti, tj]
      rw [w64 (by omega) (by omega)]
      have ej : ((j' + 1 : Nat) : Int) - 1 = (j' : Int) := by omega
      rw [ej]
      refine ⟨j', by omega, ?_⟩
      (and_intros <;> first | rfl | assumption | omega)
    · have hp : (!ltc c d[j' + 1]! d[a]!) = false := by simpa [ltc] using hb
      rw [scanDown, if_neg (by rw [Bool.and_eq_true]; rintro ⟨-, h⟩; simp only [hp] at h; cases h)] at e1
      try simp only [go_sem, t0, t1, t4, ti, tj]
      exact k _ _ t0 t1 t4 ti (by rw [← e1]; exact tj) hd2 mm
  · have eg : decide ((i : Int) ≤ (j' : Int)) = false := by simpa using (by omega : (j' : Int) < (i : Int))
    have e2 : scanDown (fun x => !ltc c x d[a]!) d i j' = j' := by
      cases j' with
      | zero => rfl
      | succ q => rw [scanDown, if_neg (by rw [Bool.and_eq_true]; rintro ⟨h, -⟩; simp at h; omega)]
    rw [e2] at e1
    try simp only [go_sem, t0, t1, t4, ti, tj, eg]
    exact k _ _ t0 t1 t4 ti (by rw [← e1]; exact tj) (hd1.mod (Mod.drew none' _) (fun h => h)) (m1.trans' (Mod.drew _ _))

theorem iuc_ {a i j : Nat} {τ : Env} {Q : HX → Env → World → Prop} (hd : Dt (fun x => [v x]) 3 1 w g n cap d) (h1 : ∀ x, (v x).oneCell' = true) (C : Cmp Try.prog f v c g B0 I) (hI : I w) (ha : a < n) (hj : j < n) (hi : a < i) (hij : i ≤ j + 1) (hn : n < 4611686018427387904)
    (t0 : τ 0 = .slice (some ⟨g, 0, none⟩) n cap) (t1 : τ 1 = .int .i64 a) (t4 : τ 4 = f) (ti : τ 11 = .int .i64 i) (tj : τ 12 = .int .i64 j)
    (k : ∀ σ w', σ 0 = .slice (some ⟨g, 0, none⟩) n cap → σ 1 = .int .i64 a → σ 4 = f → σ 11 = .int .i64 ((scanUp (fun x => !ltc c d[a]! x) d j i : Nat)) → σ 12 = .int .i64 (j) → Dt (fun x => [v x]) 3 1 w' g n cap d → Mod (fun k => k = g) w w' → Q (.exit 2) σ w') :
    hloop (hw Try.prog noPanic h77_2) Q τ w := by
  refine loopN (j + 1) (fun i' τ w' => i ≤ i' ∧ τ 0 = .slice (some ⟨g, 0, none⟩) n cap ∧ τ 1 = .int .i64 a ∧ τ 4 = f ∧ τ 11 = .int .i64 i' ∧ τ 12 = .int .i64 j ∧ Dt (fun x => [v x]) 3 1 w' g n cap d ∧ Mod (fun k => k = g) w w' ∧ scanUp (fun x => !ltc c d[a]! x) d j i' = scanUp (fun x => !ltc c d[a]! x) d j i) ⟨i, by omega, by omega, t0, t1, t4, ti, tj, hd, Mod.refl _ _, rfl⟩ ?_
  rintro i' τ w1 hi' ⟨hii, t0, t1, t4, ti, tj, hd1, m1, e1⟩
  have hwI : I w1 := C.inv _ _ hI m1
  unfold h77_2
  by_cases hc : i' ≤ j
  · have eg : decide ((i' : Int) ≤ (j : Int)) = true := by simpa using (by omega : (i' : Int) ≤ (j : Int))
    have x1 := Dt.ld1 hd1 (show i' < n by omega); have x2 := Nat.zero_add 0
    have y1 := Dt.ld1 hd1 ha; have y2 := Nat.zero_add 0
    try simp only [go_sem, t0, t1, t4, ti, tj, eg, x1, x2, y1, y2]
    repeat refine ⟨⟨by omega, by omega⟩, ?_⟩
    refine icmp_ hd1 C hwI ?_
    intro w2 hd2 m2
    have mm := m1.trans' m2
    try simp only [go_sem]
    refine ⟨fun hb => ?_, fun hb => ?_⟩
    · have hp : (!ltc c d[a]! d[i']!) = true := by simpa [ltc] using hb
      rw [scanUp, if_pos (by rw [Bool.and_eq_true]; exact ⟨by simpa using hc, hp⟩)] at e1
      unfold h77_3
      try simp only [go_sem, t0, t1, t4, ti, tj]
      rw [w64 (by omega) (by omega)]
      refine ⟨i' + 1, by omega, by omega, ?_⟩
      (and_intros <;> first | rfl | assumption | omega)
    · have hp : (!ltc c d[a]! d[i']!) = false := by simpa [ltc] using hb
      rw [scanUp, if_neg (by rw [Bool.and_eq_true]; rintro ⟨-, h⟩; simp only [hp] at h; cases h)] at e1
      try simp only [go_sem, t0, t1, t4, ti, tj]
      exact k _ _ t0 t1 t4 (by rw [← e1]; exact ti) tj hd2 mm
  · have eg : decide ((i' : Int) ≤ (j : Int)) = false := by simpa using (by omega : (j : Int) < (i' : Int))
    rw [scanUp, if_neg (by rw [Bool.and_eq_true]; rintro ⟨h, -⟩; simp at h; omega)] at e1
    try simp only [go_sem, t0, t1, t4, ti, tj, eg]
    exact k _ _ t0 t1 t4 (by rw [← e1]; exact ti) tj (hd1.mod (Mod.drew none' _) (fun h => h)) (m1.trans' (Mod.drew _ _))

theorem idc_ {a i j : Nat} {τ : Env} {Q : HX → Env → World → Prop} (hd : Dt (fun x => [v x]) 3 1 w g n cap d) (h1 : ∀ x, (v x).oneCell' = true) (C : Cmp Try.prog f v c g B0 I) (hI : I w) (ha : a < n) (hj : j < n) (hi : a < i) (hij : i ≤ j + 1) (hn : n < 4611686018427387904)
    (t0 : τ 0 = .slice (some ⟨g, 0, none⟩) n cap) (t1 : τ 1 = .int .i64 a) (t4 : τ 4 = f) (ti : τ 11 = .int .i64 i) (tj : τ 12 = .int .i64 j)
    (k : ∀ σ w', σ 0 = .slice (some ⟨g, 0, none⟩) n cap → σ 1 = .int .i64 a → σ 4 = f → σ 11 = .int .i64 (i) → σ 12 = .int .i64 ((scanDown (fun x => ltc c d[a]! x) d i j : Nat)) → Dt (fun x => [v x]) 3 1 w' g n cap d → Mod (fun k => k = g) w w' → Q (.exit 4) σ w') :
    hloop (hw Try.prog noPanic h77_5) Q τ w := by
  refine ⟨fun j' τ w' => i ≤ j' + 1 ∧ j' ≤ j ∧ τ 0 = .slice (some ⟨g, 0, none⟩) n cap ∧ τ 1 = .int .i64 a ∧ τ 4 = f ∧ τ 11 = .int .i64 i ∧ τ 12 = .int .i64 j' ∧ Dt (fun x => [v x]) 3 1 w' g n cap d ∧ Mod (fun k => k = g) w w' ∧ scanDown (fun x => ltc c d[a]! x) d i j' = scanDown (fun x => ltc c d[a]! x) d i j, j, ⟨hij, by omega, t0, t1, t4, ti, tj, hd, Mod.refl _ _, rfl⟩, ?_⟩
  rintro j' τ w1 ⟨hij', hjj, t0, t1, t4, ti, tj, hd1, m1, e1⟩
  have hwI : I w1 := C.inv _ _ hI m1
  unfold h77_5
  by_cases hc : i ≤ j'
  · obtain ⟨j', rfl⟩ : ∃ q, j' = q + 1 := ⟨j' - 1, by omega⟩
    have eg : decide ((i : Int) ≤ ((j' + 1 : Nat) : Int)) = true := by simpa using (by omega : (i : Int) ≤ ((j' + 1 : Nat) : Int))
    have x1 := Dt.ld1 hd1 (show j' + 1 < n by omega); have x2 := Nat.zero_add 0
    have y1 := Dt.ld1 hd1 ha; have y2 := Nat.zero_add 0
    try simp only [go_sem, t0, t1, t4, ti, tj, eg, x1, x2, y1, y2]
    repeat refine ⟨⟨by omega, by omega⟩, ?_⟩
    refine icmp_ hd1 C hwI ?_
    intro w2 hd2 m2
    have mm := m1.trans' m2
    try simp only [go_sem]
    refine ⟨fun hb => ?_, fun hb => ?_⟩
    · have hp : (ltc c d[a]! d[j' + 1]!) = true := by simpa [ltc] using hb
      rw [scanDown, if_pos (by rw [Bool.and_eq_true]; exact ⟨by simpa using hc, hp⟩)] at e1
      unfold h77_6
      try simp only [go_sem, t0, t1, t4, ti, tj]
      rw [w64 (by omega) (by omega)]
      have ej : ((j' + 1 : Nat) : Int) - 1 = (j' : Int) := by omega
      rw [ej]
      refine ⟨j', by omega, ?_⟩
      (and_intros <;> first | rfl | assumption | omega)
    · have hp : (ltc c d[a]! d[j' + 1]!) = false := by simpa [ltc] using hb
      rw [scanDown, if_neg (by rw [Bool.and_eq_true]; rintro ⟨-, h⟩; simp only [hp] at h; cases h)] at e1
      try simp only [go_sem, t0, t1, t4, ti, tj]
      exact k _ _ t0 t1 t4 ti (by rw [← e1]; exact tj) hd2 mm
  · have eg : decide ((i : Int) ≤ (j' : Int)) = false := by simpa using (by omega : (j' : Int) < (i : Int))
    have e2 : scanDown (fun x => ltc c d[a]! x) d i j' = j' := by
      cases j' with
      | zero => rfl
      | succ q => rw [scanDown, if_neg (by rw [Bool.and_eq_true]; rintro ⟨h, -⟩; simp at h; omega)]
    rw [e2] at e1
    try simp only [go_sem, t0, t1, t4, ti, tj, eg]
    exact k _ _ t0 t1 t4 ti (by rw [← e1]; exact tj) (hd1.mod (Mod.drew none' _) (fun h => h)) (m1.trans' (Mod.drew _ _))

/-- what the two scans come to -/
theorem icross_ {p q : α → Bool} (hq : ∀ x, q x = !p x) {i j : Nat} (hi : 1 ≤ i) (hij : i ≤ j + 1) :
    i ≤ scanUp p d j i ∧ scanUp p d j i ≤ j + 1 ∧ scanDown q d (scanUp p d j i) j ≤ j ∧ scanUp p d j i ≤ scanDown q d (scanUp p d j i) j + 1 ∧ scanUp p d j i ≠ scanDown q d (scanUp p d j i) j := by
  obtain ⟨u1, u2, u3, u4⟩ := Sort.scanUp_spec p d j _ i rfl
  obtain ⟨v1, v2, v3, v4⟩ := Sort.scanDown_spec q d (scanUp p d j i) j
  have hu := u2 hij
  refine ⟨u1, hu, v1, v2 hu, fun e => ?_⟩
  have h1 := v4 (by omega) (by omega)
  rw [← e, hq, u4 (by omega)] at h1
  cases h1

theorem ipart_ {a b p : Nat} (hd : Dt (fun x => [v x]) 3 1 w g n cap d) (h1 : ∀ x, (v x).oneCell' = true) (C : Cmp Try.prog f v c g B0 I) (hI : I w) (hap : a ≤ p) (hpb : p < b) (hb : b ≤ n) (hn : n < 4611686018427387904)
    (k : ∀ w', Dt (fun x => [v x]) 3 1 w' g n cap (partition (ltc c) d a b p).2.2 → Mod (fun k => k = g) w w' → next (.tuple #[.int .i64 (partition (ltc c) d a b p).1, .bool (partition (ltc c) d a b p).2.1]) w') :
    callvK Try.prog (.func (.func 78) #[] #[]) [.slice (some ⟨g, 0, none⟩) n cap, .int .i64 a, .int .i64 b, .int .i64 p, f] w next QP := by
  refine r78 rfl ?_
  have ea : IntKind.i64.wrap ((a : Int) + 1) = ((a + 1 : Nat) : Int) := by rw [w64 (by omega) (by omega)]; omega
  have eb : IntKind.i64.wrap ((b : Int) - 1) = ((b - 1 : Nat) : Int) := by rw [w64 (by omega) (by omega)]; omega
  unfold h78
  have x1 := Dt.ld1 hd (show a < n by omega); have x2 := Nat.zero_add 0
  have y1 := Dt.ld1 hd (show p < n by omega); have y2 := Nat.zero_add 0
  try simp only [go_sem, x1, x2, y1, y2]
  repeat refine ⟨⟨by omega, by omega⟩, ?_⟩
  refine iswap_ hd h1 (show a < n by omega) (show p < n by omega) (by omega) ?_
  intro w1 hd1 m1
  try simp only [go_sem, ea, eb]
  unfold partition at k
  simp only [] at k
  generalize hD : swp d a p = d1 at k hd1
  obtain ⟨c1, c2, c3, c4, c5⟩ := icross_ (d := d1) (p := fun x => ltc c x d1[a]!) (q := fun x => !ltc c x d1[a]!) (fun _ => rfl) (i := a + 1) (j := b - 1) (by omega) (by omega)
  refine iua_ hd1 h1 C (C.inv _ _ hI m1) (show a < n by omega) (show b - 1 < n by omega) (by omega) (by omega) hn rfl rfl rfl rfl rfl ?_
  intro σ w2 t0 t1 t4 t12 t13 hd2 m2
  have m12 := m1.trans' m2
  generalize hi1 : scanUp (fun x => ltc c x d1[a]!) d1 (b - 1) (a + 1) = i1 at *
  try simp only [go_sem]
  unfold h78_3
  try simp only [go_sem]
  refine ida_ hd2 h1 C (C.inv _ _ hI m12) (show a < n by omega) (show b - 1 < n by omega) (by omega) (by omega) hn t0 t1 t4 t12 t13 ?_
  intro σ w3 t0 t1 t4 t12 t13 hd3 m3
  have m13 := m12.trans' m3
  generalize hj1 : scanDown (fun x => !ltc c x d1[a]!) d1 i1 (b - 1) = j1 at *
  try simp only [go_sem]
  unfold h78_6
  try simp only [go_sem, t0, t1, t4, t12, t13]
  refine ⟨fun hgt => ?_, fun hle => ?_⟩
  · have hgt' : i1 > j1 := by
      have := of_decide_eq_true hgt
      omega
    rw [if_pos hgt'] at k
    have x1 := Dt.ld1 hd3 (show j1 < n by omega); have x2 := Nat.zero_add 0
    have y1 := Dt.ld1 hd3 (show a < n by omega); have y2 := Nat.zero_add 0
    try simp only [go_sem, t0, t1, t4, t12, t13, x1, x2, y1, y2]
    repeat refine ⟨⟨by omega, by omega⟩, ?_⟩
    refine iswap_ hd3 h1 (show j1 < n by omega) (show a < n by omega) (by omega) ?_
    intro w4 hd4 m4
    try simp only [go_sem, t0, t1, t4, t12, t13]
    exact k _ hd4 (m13.trans' m4)
  · have hle' : ¬ i1 > j1 := by
      have := of_decide_eq_false hle
      omega
    rw [if_neg hle'] at k
    unfold h78_7
    have x1 := Dt.ld1 hd3 (show i1 < n by omega); have x2 := Nat.zero_add 0
    have y1 := Dt.ld1 hd3 (show j1 < n by omega); have y2 := Nat.zero_add 0
    try simp only [go_sem, t0, t1, t4, t12, t13, x1, x2, y1, y2]
    repeat refine ⟨⟨by omega, by omega⟩, ?_⟩
    refine iswap_ hd3 h1 (show i1 < n by omega) (show j1 < n by omega) (by omega) ?_
    intro w4 hd4 m4
    have m14 := m13.trans' m4
    try simp only [go_sem, t0, t1, t4, t12, t13]
    rw [w64 (by omega) (by omega), w64 (by omega) (by omega)]
    generalize hD4 : swp d1 i1 j1 = d4 at k hd4
    refine loopN n (fun i τ w' => ∃ d' j, a < i ∧ i ≤ j + 1 ∧ j < n ∧ τ 0 = .slice (some ⟨g, 0, none⟩) n cap ∧ τ 1 = .int .i64 a ∧ τ 4 = f ∧ τ 12 = .int .i64 i ∧ τ 13 = .int .i64 j ∧ Dt (fun x => [v x]) 3 1 w' g n cap d' ∧ Mod (fun k => k = g) w w' ∧ partLoop (ltc c) a i j d' = partLoop (ltc c) a (i1 + 1) (j1 - 1) d4) ⟨i1 + 1, by omega, d4, j1 - 1, by omega, by omega, by omega, t0, t1, t4, rfl, by simp only [upd]; simp; omega, hd4, m14, rfl⟩ ?_
    rintro i τ w5 hi ⟨d5, j, hai, hij, hj, t0, t1, t4, t12, t13, hd5, m5, e5⟩
    rw [Sort.partLoop_eq] at e5
    obtain ⟨c1, c2, c3, c4, c5⟩ := icross_ (d := d5) (p := fun x => ltc c x d5[a]!) (q := fun x => !ltc c x d5[a]!) (fun _ => rfl) (i := i) (j := j) (by omega) (by omega)
    unfold h78_8
    try simp only [go_sem]
    refine iub_ hd5 h1 C (C.inv _ _ hI m5) (show a < n by omega) (show j < n by omega) (by omega) (by omega) hn t0 t1 t4 t12 t13 ?_
    intro σ w6 t0 t1 t4 t12 t13 hd6 m6
    have m56 := m5.trans' m6
    generalize hi2 : scanUp (fun x => ltc c x d5[a]!) d5 j i = i2 at *
    try simp only [go_sem]
    unfold h78_11
    try simp only [go_sem]
    refine idb_ hd6 h1 C (C.inv _ _ hI m56) (show a < n by omega) (show j < n by omega) (by omega) (by omega) hn t0 t1 t4 t12 t13 ?_
    intro σ w7 t0 t1 t4 t12 t13 hd7 m7
    have m57 := m56.trans' m7
    generalize hj2 : scanDown (fun x => !ltc c x d5[a]!) d5 i2 j = j2 at *
    try simp only [go_sem]
    unfold h78_14
    try simp only [go_sem, t0, t1, t4, t12, t13]
    refine ⟨fun hgt => ?_, fun hle => ?_⟩
    · have hgt' : i2 > j2 := by
        have := of_decide_eq_true hgt
        omega
      rw [if_pos hgt'] at e5
      unfold h78_16
      have x1 := Dt.ld1 hd7 (show j2 < n by omega); have x2 := Nat.zero_add 0
      have y1 := Dt.ld1 hd7 (show a < n by omega); have y2 := Nat.zero_add 0
      try simp only [go_sem, t0, t1, t4, t12, t13, x1, x2, y1, y2]
      repeat refine ⟨⟨by omega, by omega⟩, ?_⟩
      refine iswap_ hd7 h1 (show j2 < n by omega) (show a < n by omega) (by omega) ?_
      intro w8 hd8 m8
      try simp only [go_sem, t0, t1, t4, t12, t13]
      rw [← e5] at k
      exact k _ hd8 (m57.trans' m8)
    · have hle' : ¬ i2 > j2 := by
        have := of_decide_eq_false hle
        omega
      rw [if_neg hle'] at e5
      unfold h78_15
      have x1 := Dt.ld1 hd7 (show i2 < n by omega); have x2 := Nat.zero_add 0
      have y1 := Dt.ld1 hd7 (show j2 < n by omega); have y2 := Nat.zero_add 0
      try simp only [go_sem, t0, t1, t4, t12, t13, x1, x2, y1, y2]
      repeat refine ⟨⟨by omega, by omega⟩, ?_⟩
      refine iswap_ hd7 h1 (show i2 < n by omega) (show j2 < n by omega) (by omega) ?_
      intro w8 hd8 m8
      have mm := m57.trans' m8
      try simp only [go_sem, t0, t1, t4, t12, t13]
      rw [w64 (by omega) (by omega), w64 (by omega) (by omega)]
      refine ⟨i2 + 1, by omega, by omega, swp d5 i2 j2, j2 - 1, ?_⟩
      have ej : (j2 : Int) - 1 = ((j2 - 1 : Nat) : Int) := by omega
      rw [ej]
      (and_intros <;> first | rfl | assumption | omega)

theorem iparteq_ {a b p : Nat} (hd : Dt (fun x => [v x]) 3 1 w g n cap d) (h1 : ∀ x, (v x).oneCell' = true) (C : Cmp Try.prog f v c g B0 I) (hI : I w) (hap : a ≤ p) (hpb : p < b) (hb : b ≤ n) (hn : n < 4611686018427387904)
    (k : ∀ w', Dt (fun x => [v x]) 3 1 w' g n cap (partitionEqual (ltc c) d a b p).2 → Mod (fun k => k = g) w w' → next (.int .i64 (partitionEqual (ltc c) d a b p).1) w') :
    callvK Try.prog (.func (.func 77) #[] #[]) [.slice (some ⟨g, 0, none⟩) n cap, .int .i64 a, .int .i64 b, .int .i64 p, f] w next QP := by
  refine r77 rfl ?_
  have ea : IntKind.i64.wrap ((a : Int) + 1) = ((a + 1 : Nat) : Int) := by rw [w64 (by omega) (by omega)]; omega
  have eb : IntKind.i64.wrap ((b : Int) - 1) = ((b - 1 : Nat) : Int) := by rw [w64 (by omega) (by omega)]; omega
  unfold h77
  have x1 := Dt.ld1 hd (show a < n by omega); have x2 := Nat.zero_add 0
  have y1 := Dt.ld1 hd (show p < n by omega); have y2 := Nat.zero_add 0
  try simp only [go_sem, x1, x2, y1, y2]
  repeat refine ⟨⟨by omega, by omega⟩, ?_⟩
  refine iswap_ hd h1 (show a < n by omega) (show p < n by omega) (by omega) ?_
  intro w1 hd1 m1
  try simp only [go_sem, ea, eb]
  unfold partitionEqual at k
  generalize hD : swp d a p = d1 at k hd1
  refine loopN n (fun i τ w' => ∃ d' j, a < i ∧ i ≤ j + 1 ∧ j < n ∧ τ 0 = .slice (some ⟨g, 0, none⟩) n cap ∧ τ 1 = .int .i64 a ∧ τ 4 = f ∧ τ 11 = .int .i64 i ∧ τ 12 = .int .i64 j ∧ Dt (fun x => [v x]) 3 1 w' g n cap d' ∧ Mod (fun k => k = g) w w' ∧ partEqLoop (ltc c) a i j d' = partEqLoop (ltc c) a (a + 1) (b - 1) d1) ⟨a + 1, by omega, d1, b - 1, by omega, by omega, by omega, rfl, rfl, rfl, rfl, rfl, hd1, m1, rfl⟩ ?_
  rintro i τ w5 hi ⟨d5, j, hai, hij, hj, t0, t1, t4, t12, t13, hd5, m5, e5⟩
  rw [Sort.partEqLoop_eq] at e5
  obtain ⟨c1, c2, c3, c4, c5⟩ := icross_ (d := d5) (p := fun x => !ltc c d5[a]! x) (q := fun x => ltc c d5[a]! x) (fun _ => by simp) (i := i) (j := j) (by omega) (by omega)
  unfold h77_1
  try simp only [go_sem]
  refine iuc_ hd5 h1 C (C.inv _ _ hI m5) (show a < n by omega) (show j < n by omega) (by omega) (by omega) hn t0 t1 t4 t12 t13 ?_
  intro σ w6 t0 t1 t4 t12 t13 hd6 m6
  have m56 := m5.trans' m6
  generalize hi2 : scanUp (fun x => !ltc c d5[a]! x) d5 j i = i2 at *
  try simp only [go_sem]
  unfold h77_4
  try simp only [go_sem]
  refine idc_ hd6 h1 C (C.inv _ _ hI m56) (show a < n by omega) (show j < n by omega) (by omega) (by omega) hn t0 t1 t4 t12 t13 ?_
  intro σ w7 t0 t1 t4 t12 t13 hd7 m7
  have m57 := m56.trans' m7
  generalize hj2 : scanDown (fun x => ltc c d5[a]! x) d5 i2 j = j2 at *
  try simp only [go_sem]
  unfold h77_7
  try simp only [go_sem, t0, t1, t4, t12, t13]
  refine ⟨fun hgt => ?_, fun hle => ?_⟩
  · have hgt' : i2 > j2 := by
      have := of_decide_eq_true hgt
      omega
    rw [if_pos hgt'] at e5
    unfold h77_9
    try simp only [go_sem, t0, t1, t4, t12, t13]
    rw [← e5] at k
    exact k _ hd7 m57
  · have hle' : ¬ i2 > j2 := by
      have := of_decide_eq_false hle
      omega
    rw [if_neg hle'] at e5
    unfold h77_8
    have x1 := Dt.ld1 hd7 (show i2 < n by omega); have x2 := Nat.zero_add 0
    have y1 := Dt.ld1 hd7 (show j2 < n by omega); have y2 := Nat.zero_add 0
    try simp only [go_sem, t0, t1, t4, t12, t13, x1, x2, y1, y2]
    repeat refine ⟨⟨by omega, by omega⟩, ?_⟩
    refine iswap_ hd7 h1 (show i2 < n by omega) (show j2 < n by omega) (by omega) ?_
    intro w8 hd8 m8
    have mm := m57.trans' m8
    try simp only [go_sem, t0, t1, t4, t12, t13]
    rw [w64 (by omega) (by omega), w64 (by omega) (by omega)]
    refine ⟨i2 + 1, by omega, by omega, swp d5 i2 j2, j2 - 1, ?_⟩
    have ej : (j2 : Int) - 1 = ((j2 - 1 : Nat) : Int) := by omega
    rw [ej]
    (and_intros <;> first | rfl | assumption | omega)
end
end Go.Proofs.Y
