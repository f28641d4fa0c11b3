/- the functions of the program as code over named slots, printed by hl.py -/
import Derived.Test.YthenjelndjlnfaaHLO
import Derived.Test.YthenjelndjlnfaaProg
import Derived.KernelRfl
set_option linter.unusedSimpArgs false
set_option linter.unusedVariables false
set_option maxRecDepth 100000
set_option maxRecDepth 100000
namespace Go.Proofs.Y
open Go Go.HL Go.Proofs
theorem mixed : Try.prog.follows .mixedOrders = true := by kernel_rfl
/- missive/thread.Forest -/
def t11_4 : HT :=
  (.run [.eff (some 54) (.lookup 48 (.tmp 48) (.tmp 53) false) 50 [(48, .slot 48), (53, .slot 53)] none [⟨none, .ld, .slot 4⟩, ⟨none, .ld, .n1 (.faddr 0) (.n2 (.iaddr 5) (.slot 0) (.slot 9))⟩, ⟨none, .ld, .slot 4⟩, ⟨none, .ld, .n1 (.faddr 0) (.n2 (.iaddr 5) (.slot 0) (.slot 9))⟩, ⟨none, (.ldn 5), .slot 8⟩],
    .eff (some 57) (.buildSlice 50 1 #[(0, .tmp 56)]) 50 [(56, .slot 56)] none [⟨none, .ld, .slot 4⟩, ⟨none, .ld, .n1 (.faddr 0) (.n2 (.iaddr 5) (.slot 0) (.slot 9))⟩, ⟨none, .ld, .slot 4⟩, ⟨none, .ld, .n1 (.faddr 0) (.n2 (.iaddr 5) (.slot 0) (.slot 9))⟩],
    .eff (some 58) (.call { callee := .builtin .append, args := #[.tmp 54, .tmp 57], argTypes := #[50, 50] }) 50 [(54, .slot 54), (57, .slot 57)] none [⟨none, .ld, .slot 4⟩, ⟨none, .ld, .n1 (.faddr 0) (.n2 (.iaddr 5) (.slot 0) (.slot 9))⟩],
    .eff none (.mapUpdate 48 (.tmp 42) (.tmp 47) (.tmp 58)) 0 [(42, .slot 42), (47, .slot 47), (58, .slot 58)] none []]
  .fin)
def t11_5 : HT :=
  (.run [.eff (some 57) (.buildSlice 50 1 #[(0, .tmp 56)]) 50 [(56, .slot 56)] none [⟨none, .ld, .slot 4⟩, ⟨none, .ld, .n1 (.faddr 0) (.n2 (.iaddr 5) (.slot 0) (.slot 9))⟩, ⟨none, .ld, .slot 4⟩, ⟨none, .ld, .n1 (.faddr 0) (.n2 (.iaddr 5) (.slot 0) (.slot 9))⟩, ⟨none, (.ldn 5), .slot 8⟩],
    .eff (some 54) (.lookup 48 (.tmp 48) (.tmp 53) false) 50 [(48, .slot 48), (53, .slot 53)] none [⟨none, .ld, .slot 4⟩, ⟨none, .ld, .n1 (.faddr 0) (.n2 (.iaddr 5) (.slot 0) (.slot 9))⟩, ⟨none, (.ldn 5), .slot 8⟩],
    .eff (some 58) (.call { callee := .builtin .append, args := #[.tmp 54, .tmp 57], argTypes := #[50, 50] }) 50 [(54, .slot 54), (57, .slot 57)] none [⟨none, .ld, .slot 4⟩, ⟨none, .ld, .n1 (.faddr 0) (.n2 (.iaddr 5) (.slot 0) (.slot 9))⟩],
    .eff none (.mapUpdate 48 (.tmp 42) (.tmp 47) (.tmp 58)) 0 [(42, .slot 42), (47, .slot 47), (58, .slot 58)] none []]
  .fin)
def t11_6 : HT :=
  (.run [.eff (some 66) (.lookup 48 (.tmp 64) (.tmp 65) false) 50 [(64, .slot 64), (65, .slot 10)] none [⟨none, .ld, .slot 4⟩, ⟨none, .ld, .slot 4⟩, ⟨none, (.ldn 5), .slot 8⟩],
    .eff (some 69) (.buildSlice 50 1 #[(0, .tmp 68)]) 50 [(68, .slot 68)] none [⟨none, .ld, .slot 4⟩, ⟨none, .ld, .slot 4⟩],
    .eff (some 70) (.call { callee := .builtin .append, args := #[.tmp 66, .tmp 69], argTypes := #[50, 50] }) 50 [(66, .slot 66), (69, .slot 69)] none [⟨none, .ld, .slot 4⟩],
    .eff none (.mapUpdate 48 (.tmp 62) (.tmp 63) (.tmp 70)) 0 [(62, .slot 62), (63, .slot 10), (70, .slot 70)] none []]
  .fin)
def t11_7 : HT :=
  (.run [.eff (some 69) (.buildSlice 50 1 #[(0, .tmp 68)]) 50 [(68, .slot 68)] none [⟨none, .ld, .slot 4⟩, ⟨none, .ld, .slot 4⟩, ⟨none, (.ldn 5), .slot 8⟩],
    .eff (some 66) (.lookup 48 (.tmp 64) (.tmp 65) false) 50 [(64, .slot 64), (65, .slot 10)] none [⟨none, .ld, .slot 4⟩, ⟨none, (.ldn 5), .slot 8⟩],
    .eff (some 70) (.call { callee := .builtin .append, args := #[.tmp 66, .tmp 69], argTypes := #[50, 50] }) 50 [(66, .slot 66), (69, .slot 69)] none [⟨none, .ld, .slot 4⟩],
    .eff none (.mapUpdate 48 (.tmp 62) (.tmp 63) (.tmp 70)) 0 [(62, .slot 62), (63, .slot 10), (70, .slot 70)] none []]
  .fin)
def h11_8 : HC :=
  (.seq
  (.reg [.eff (some 74) (.lookup 49 (.tmp 72) (.tmp 73) true) 54 [(72, .slot 5), (73, .slot 10)] none [],
    .need (.n1 (.ext 0) (.slot 74)),
    .need (.n1 (.ext 1) (.slot 74)),
    .asg 11 (.n1 (.ext 0) (.slot 74)),
    .asg 12 (.n1 (.ext 1) (.slot 74))])
  (.seq
  (.reg [.need (.n1 .bnot (.slot 12)),
    .need (.gif (.n1 .bnot (.slot 12)) false (.n1 (.faddr 1) (.slot 8))),
    .need (.gif (.n1 .bnot (.slot 12)) false (.n1 .ld (.n1 (.faddr 1) (.slot 8)))),
    .need (.gif (.n1 .bnot (.slot 12)) false (.n2 (.bin .lss) (.n1 .ld (.n1 (.faddr 1) (.slot 8))) (.slot 11))),
    .need (.n3 .pick (.n1 .bnot (.slot 12)) (.lit (.bool true)) (.n2 (.bin .lss) (.n1 .ld (.n1 (.faddr 1) (.slot 8))) (.slot 11))),
    .asg 84 (.n3 .pick (.n1 .bnot (.slot 12)) (.lit (.bool true)) (.n2 (.bin .lss) (.n1 .ld (.n1 (.faddr 1) (.slot 8))) (.slot 11)))])
  (.cond (.slot 84)
    (.reg [.need (.n1 (.faddr 1) (.slot 8)),
      .need (.n1 .ld (.n1 (.faddr 1) (.slot 8))),
      .eff none (.mapUpdate 49 (.tmp 85) (.tmp 86) (.tmp 88)) 0 [(85, .slot 5), (86, .slot 10), (88, .n1 .ld (.n1 (.faddr 1) (.slot 8)))] none []])
    .skip)))
def h11_9 : HC :=
  (.reg [.need (.n2 (.bin .add) (.slot 23) (.lit (.int .i64 1))),
    .asg 23 (.n2 (.bin .add) (.slot 23) (.lit (.int .i64 1)))])
def h11_3 : HC :=
  (.seq
  (.block 1
    (.seq
    (.reg [.need (.n2 (.iaddr 5) (.slot 21) (.slot 23)),
      .need (.n1 (.ldn 5) (.n2 (.iaddr 5) (.slot 21) (.slot 23))),
      .asg 27 (.n1 (.ldn 5) (.n2 (.iaddr 5) (.slot 21) (.slot 23))),
      .eff (some 8) (.alloc 34) 0 [] none [],
      .asg 7 (.slot 23),
      .eff none (.store 34 (.tmp 8) (.tmp 27)) 0 [(8, .slot 8), (27, .slot 27)] none []])
    (.seq
    (.reg [.eff (some 31) (.call { callee := .value (.func 28), args := #[.tmp 29, .tmp 30], argTypes := #[46, 3] }) 35 [(29, .slot 3), (30, .slot 7)] none [],
      .need (.n1 (.ext 0) (.slot 31)),
      .need (.n1 (.ext 1) (.slot 31)),
      .asg 9 (.n1 (.ext 0) (.slot 31)),
      .asg 10 (.n1 (.ext 1) (.slot 31))])
    (.block 2
      (.seq
      (.reg [.need (.n2 (.bin .geq) (.slot 9) (.lit (.int .i64 0))),
        .asg 39 (.n2 (.bin .geq) (.slot 9) (.lit (.int .i64 0)))])
      (.cond (.slot 39)
        (.drawT
          (.run [.need (.n1 .ld (.slot 4)),
            .asg 42 (.n1 .ld (.slot 4)),
            .need (.n2 (.iaddr 5) (.slot 0) (.slot 9)),
            .need (.n1 (.faddr 0) (.n2 (.iaddr 5) (.slot 0) (.slot 9))),
            .need (.n1 .ld (.n1 (.faddr 0) (.n2 (.iaddr 5) (.slot 0) (.slot 9)))),
            .asg 47 (.n1 .ld (.n1 (.faddr 0) (.n2 (.iaddr 5) (.slot 0) (.slot 9)))),
            .need (.n1 .ld (.slot 4)),
            .asg 48 (.n1 .ld (.slot 4)),
            .need (.n2 (.iaddr 5) (.slot 0) (.slot 9)),
            .need (.n1 (.faddr 0) (.n2 (.iaddr 5) (.slot 0) (.slot 9))),
            .need (.n1 .ld (.n1 (.faddr 0) (.n2 (.iaddr 5) (.slot 0) (.slot 9)))),
            .asg 53 (.n1 .ld (.n1 (.faddr 0) (.n2 (.iaddr 5) (.slot 0) (.slot 9)))),
            .need (.n1 (.ldn 5) (.slot 8)),
            .need (.n2 (.put 0 5) (.lit (.agg #[(str []), (.int .i64 0), (.slice none 0 0), (str []), (.bool false), (.bool false)])) (.n1 (.ldn 5) (.slot 8))),
            .asg 56 (.n2 (.put 0 5) (.lit (.agg #[(str []), (.int .i64 0), (.slice none 0 0), (str []), (.bool false), (.bool false)])) (.n1 (.ldn 5) (.slot 8)))]
          (.fork
            t11_4
            t11_5)))
        (.seq
        (.reg [.need (.n2 (.sbin .neq) (.slot 10) (.lit (str []))),
          .asg 59 (.n2 (.sbin .neq) (.slot 10) (.lit (str [])))])
        (.cond (.slot 59)
          (.seq
          (.drawT
            (.run [.need (.n1 .ld (.slot 4)),
              .asg 62 (.n1 .ld (.slot 4)),
              .need (.n1 .ld (.slot 4)),
              .asg 64 (.n1 .ld (.slot 4)),
              .need (.n1 (.ldn 5) (.slot 8)),
              .need (.n2 (.put 0 5) (.lit (.agg #[(str []), (.int .i64 0), (.slice none 0 0), (str []), (.bool false), (.bool false)])) (.n1 (.ldn 5) (.slot 8))),
              .asg 68 (.n2 (.put 0 5) (.lit (.agg #[(str []), (.int .i64 0), (.slice none 0 0), (str []), (.bool false), (.bool false)])) (.n1 (.ldn 5) (.slot 8)))]
            (.fork
              t11_6
              t11_7)))
          h11_8)
          (.reg [.need (.n1 (.ldn 5) (.slot 8)),
            .need (.n2 (.put 0 5) (.lit (.agg #[(str []), (.int .i64 0), (.slice none 0 0), (str []), (.bool false), (.bool false)])) (.n1 (.ldn 5) (.slot 8))),
            .eff (some 37) (.buildSlice 50 1 #[(0, .tmp 36)]) 50 [(36, .n2 (.put 0 5) (.lit (.agg #[(str []), (.int .i64 0), (.slice none 0 0), (str []), (.bool false), (.bool false)])) (.n1 (.ldn 5) (.slot 8)))] none [],
            .eff (some 38) (.call { callee := .builtin .append, args := #[.tmp 34, .tmp 37], argTypes := #[50, 50] }) 50 [(34, .slot 6), (37, .slot 37)] none [],
            .asg 6 (.slot 38)])))))))))
  h11_9)
def h11_2 : HC :=
  (.seq
  (.reg [.need (.n2 (.bin .lss) (.slot 23) (.slot 22)),
    .asg 24 (.n2 (.bin .lss) (.slot 23) (.slot 22))])
  (.seq
  (.cond (.slot 24)
    .skip
    (.exit 0))
  h11_3))
def h11_12 : HC :=
  (.block 4
    (.seq
    (.reg [.eff (some 94) (.entry (.tmp 91)) 0 [(91, .slot 91)] none [],
      .need (.n1 (.ext 0) (.slot 94)),
      .need (.n1 (.ext 1) (.slot 94)),
      .asg 13 (.n1 (.ext 0) (.slot 94)),
      .asg 14 (.n1 (.ext 1) (.slot 94))])
    (.reg [.need (.n2 (.put 0 1) (.lit (.agg #[(str []), (.int .i64 0), (.slice none 0 0), (str []), (.bool false)])) (.slot 13)),
      .need (.n2 (.put 1 1) (.n2 (.put 0 1) (.lit (.agg #[(str []), (.int .i64 0), (.slice none 0 0), (str []), (.bool false)])) (.slot 13)) (.slot 14)),
      .need (.n2 (.put 0 5) (.lit (.agg #[(str []), (.int .i64 0), (.slice none 0 0), (str []), (.bool false), (.bool false)])) (.n2 (.put 1 1) (.n2 (.put 0 1) (.lit (.agg #[(str []), (.int .i64 0), (.slice none 0 0), (str []), (.bool false)])) (.slot 13)) (.slot 14))),
      .need (.n2 (.put 5 1) (.n2 (.put 0 5) (.lit (.agg #[(str []), (.int .i64 0), (.slice none 0 0), (str []), (.bool false), (.bool false)])) (.n2 (.put 1 1) (.n2 (.put 0 1) (.lit (.agg #[(str []), (.int .i64 0), (.slice none 0 0), (str []), (.bool false)])) (.slot 13)) (.slot 14))) (.lit (.bool true))),
      .eff (some 102) (.buildSlice 50 1 #[(0, .tmp 101)]) 50 [(101, .n2 (.put 5 1) (.n2 (.put 0 5) (.lit (.agg #[(str []), (.int .i64 0), (.slice none 0 0), (str []), (.bool false), (.bool false)])) (.n2 (.put 1 1) (.n2 (.put 0 1) (.lit (.agg #[(str []), (.int .i64 0), (.slice none 0 0), (str []), (.bool false)])) (.slot 13)) (.slot 14))) (.lit (.bool true)))] none [],
      .eff (some 103) (.call { callee := .builtin .append, args := #[.tmp 97, .tmp 102], argTypes := #[50, 50] }) 50 [(97, .slot 6), (102, .slot 102)] none [],
      .asg 6 (.slot 103)])))
def h11_11 : HC :=
  (.seq
  (.reg [.eff (some 92) (.next (.tmp 91) false) 0 [(91, .slot 91)] none [],
    .need (.n1 (.ext 0) (.slot 92)),
    .asg 93 (.n1 (.ext 0) (.slot 92))])
  (.seq
  (.cond (.slot 93)
    .skip
    (.exit 3))
  h11_12))
def h11_14 : HC :=
  (.seq
  (.reg [.need (.n1 .ld (.slot 15)),
    .asg 2 (.n1 .ld (.slot 15))])
  .ret)
def h11_13 : HC :=
  (.seq
  (.reg [.eff (some 15) (.alloc 25) 0 [] none []])
  (.seq
  (.reg [.eff (some 16) (.alloc 55) 0 [] none []])
  (.seq
  (.reg [.eff none (.store 55 (.tmp 16) (.tmp 104)) 0 [(16, .slot 16), (104, .n2 .capt (.n2 .capt (.n2 .capt (.lit (.func (.func 29) #[] #[])) (.slot 15)) (.slot 16)) (.slot 4))] none []])
  (.seq
  (.reg [.need (.n1 .ld (.slot 16)),
    .eff (some 107) (.call { callee := .value (.tmp 105), args := #[.tmp 106, .const (.int .i64 (-1)), .const (.int .i64 0)], argTypes := #[50, 3, 3] }) 0 [(105, .n1 .ld (.slot 16)), (106, .slot 6)] none []])
  h11_14))))
def h11_10 : HC :=
  (.seq
  (.seq
  (.reg [.eff (some 91) (.range 49 (.tmp 90)) 0 [(90, .slot 5)] none []])
  (.block 3
    (.loop
      h11_11)))
  h11_13)
def h11_1 : HC :=
  (.seq
  (.reg [.eff (some 20) (.makeMap 49 none) 49 [] none [],
    .asg 5 (.slot 20)])
  (.seq
  (.reg [.asg 6 (.lit (.slice none 0 0))])
  (.seq
  (.seq
  (.reg [.asg 21 (.slot 0),
    .need (.n1 .lensl (.slot 21)),
    .asg 22 (.n1 .lensl (.slot 21)),
    .asg 23 (.lit (.int .i64 0))])
  (.block 0
    (.loop
      h11_2)))
  h11_10)))
def h11 : HC :=
  (.seq
  (.reg [.asg 2 (.lit (.slice none 0 0))])
  (.seq
  (.reg [.eff (some 18) (.call { callee := .value (.func 27), args := #[.tmp 17], argTypes := #[22] }) 46 [(17, .slot 0)] none [],
    .asg 3 (.slot 18)])
  (.seq
  (.reg [.eff (some 19) (.makeMap 48 none) 48 [] none [],
    .eff (some 4) (.alloc 48) 0 [] none [],
    .eff none (.store 48 (.tmp 4) (.tmp 19)) 0 [(4, .slot 4), (19, .slot 19)] none []])
  h11_1)))
theorem k11 : fnOK Try.prog 177508241596997246439056476078077 [⟨11, [0, 0, 0, 6, 14, 30, 0, 0, 0, 384, 896, 1920, 4032, 0, 8192, 24576, 65472, 131071], [], (some (.op 0 [] (.op 1 [] (.op 2 [] (.op 3 [] (.op 4 [] (.op 5 [] (.op 6 [] (.op 7 [] (.op 8 [] (.op 9 [] (.op 10 [] (.op 11 [] (.op 13 [] (.op 14 [] (.fork (.op 12 [0, 5, 6, 11, 13] (.op 15 [0, 5, 6, 11] (.op 16 [0, 5] (.op 17 [] .nil)))) (.op 15 [0, 5, 6, 11, 13] (.op 12 [0, 5, 13] (.op 16 [0, 5] (.op 17 [] .nil))))))))))))))))))))⟩, ⟨13, [0, 0, 0, 0, 12, 0, 32, 96, 252, 511], [], (some (.op 0 [] (.op 1 [] (.op 2 [] (.op 3 [] (.op 5 [] (.op 6 [] (.fork (.op 4 [0, 2, 5] (.op 7 [0, 2] (.op 8 [0] (.op 9 [] .nil)))) (.op 7 [0, 2, 5] (.op 4 [0, 5] (.op 8 [0] (.op 9 [] .nil))))))))))))⟩] [.tmp 2] 1 Try.f11 = some h11 := by kernel_rfl
theorem c11 : callable Try.prog 11 = true := by kernel_rfl
theorem q11 {args : List Value} (ha : args.length = 1) {w : World} {next : Value → World → Prop} {QP : List PanicEntry → World → Prop} (H : hw Try.prog noPanic h11 (endV [.tmp 2] next) (σ0 args) w) : callK Try.prog 11 args w next QP := fn_rule Try.func11 mixed k11 ha H
theorem r11 {args : List Value} (ha : args.length = 1) {w : World} {next : Value → World → Prop} {QP : List PanicEntry → World → Prop} (H : hw Try.prog noPanic h11 (endV [.tmp 2] next) (σ0 args) w) : callvK Try.prog (.func (.func 11) #[] #[]) args w next QP := callf c11 (q11 ha H)

/- missive/thread.Parent -/
def h15_1 : HC :=
  (.seq
  (.reg [.eff (some 15) (.call { callee := .value (.func 27), args := #[.tmp 14], argTypes := #[22] }) 46 [(14, .slot 0)] none [],
    .eff (some 17) (.call { callee := .value (.func 28), args := #[.tmp 15, .tmp 16], argTypes := #[46, 3] }) 35 [(15, .slot 15), (16, .slot 1)] none [],
    .need (.n1 (.ext 0) (.slot 17)),
    .need (.n1 (.ext 1) (.slot 17)),
    .asg 4 (.n1 (.ext 0) (.slot 17)),
    .asg 5 (.n1 (.ext 1) (.slot 17))])
  .ret)
def h15 : HC :=
  (.seq
  (.reg [.asg 4 (.lit (.int .i64 0)),
    .asg 5 (.lit (str []))])
  (.seq
  (.seq
  (.reg [.need (.n2 (.bin .lss) (.slot 1) (.lit (.int .i64 0))),
    .need (.gif (.n2 (.bin .lss) (.slot 1) (.lit (.int .i64 0))) false (.n1 .lensl (.slot 0))),
    .need (.gif (.n2 (.bin .lss) (.slot 1) (.lit (.int .i64 0))) false (.n2 (.bin .geq) (.slot 1) (.n1 .lensl (.slot 0)))),
    .need (.n3 .pick (.n2 (.bin .lss) (.slot 1) (.lit (.int .i64 0))) (.lit (.bool true)) (.n2 (.bin .geq) (.slot 1) (.n1 .lensl (.slot 0)))),
    .asg 13 (.n3 .pick (.n2 (.bin .lss) (.slot 1) (.lit (.int .i64 0))) (.lit (.bool true)) (.n2 (.bin .geq) (.slot 1) (.n1 .lensl (.slot 0))))])
  (.cond (.slot 13)
    (.seq
    (.reg [.asg 4 (.lit (.int .i64 (-1))),
      .asg 5 (.lit (str []))])
    .ret)
    .skip))
  h15_1))
theorem k15 : fnOK Try.prog 172083 [] [.tmp 4, .tmp 5] 2 Try.f15 = some h15 := by kernel_rfl
theorem c15 : callable Try.prog 15 = true := by kernel_rfl
theorem q15 {args : List Value} (ha : args.length = 2) {w : World} {next : Value → World → Prop} {QP : List PanicEntry → World → Prop} (H : hw Try.prog noPanic h15 (endV [.tmp 4, .tmp 5] next) (σ0 args) w) : callK Try.prog 15 args w next QP := fn_rule Try.func15 mixed k15 ha H
theorem r15 {args : List Value} (ha : args.length = 2) {w : World} {next : Value → World → Prop} {QP : List PanicEntry → World → Prop} (H : hw Try.prog noPanic h15 (endV [.tmp 4, .tmp 5] next) (σ0 args) w) : callvK Try.prog (.func (.func 15) #[] #[]) args w next QP := callf c15 (q15 ha H)

/- missive/text.Same -/
def l19_1 : List HS :=
  .need (.gif (.n2 (.bin .eql) (.n1 .lens (.slot 0)) (.n1 .lens (.slot 1))) true (.n2 (.sbin .eql) (.slot 12) (.slot 14))) ::
  .need (.n3 .pick (.n2 (.bin .eql) (.n1 .lens (.slot 0)) (.n1 .lens (.slot 1))) (.n2 (.sbin .eql) (.slot 12) (.slot 14)) (.lit (.bool false))) ::
  .asg 4 (.n3 .pick (.n2 (.bin .eql) (.n1 .lens (.slot 0)) (.n1 .lens (.slot 1))) (.n2 (.sbin .eql) (.slot 12) (.slot 14)) (.lit (.bool false))) ::
  []
def l19_2 : List HS :=
  .eff (some 14) (.call { callee := .value (.func 33), args := #[.tmp 13], argTypes := #[9] }) 9 [(13, .slot 1)] (some (.n2 (.bin .eql) (.n1 .lens (.slot 0)) (.n1 .lens (.slot 1)), true)) [] ::
  l19_1
def h19 : HC :=
  (.seq
  (.reg [.asg 4 (.lit (.bool false))])
  (.seq
  (.reg (.need (.n1 .lens (.slot 0)) ::
    .need (.n1 .lens (.slot 1)) ::
    .need (.n2 (.bin .eql) (.n1 .lens (.slot 0)) (.n1 .lens (.slot 1))) ::
    .eff (some 12) (.call { callee := .value (.func 33), args := #[.tmp 11], argTypes := #[9] }) 9 [(11, .slot 0)] (some (.n2 (.bin .eql) (.n1 .lens (.slot 0)) (.n1 .lens (.slot 1)), true)) [] ::
    l19_2))
  .ret))
theorem k19 : fnOK Try.prog 20499 [] [.tmp 4] 2 Try.f19 = some h19 := by kernel_rfl
theorem c19 : callable Try.prog 19 = true := by kernel_rfl
theorem q19 {args : List Value} (ha : args.length = 2) {w : World} {next : Value → World → Prop} {QP : List PanicEntry → World → Prop} (H : hw Try.prog noPanic h19 (endV [.tmp 4] next) (σ0 args) w) : callK Try.prog 19 args w next QP := fn_rule Try.func19 mixed k19 ha H
theorem r19 {args : List Value} (ha : args.length = 2) {w : World} {next : Value → World → Prop} {QP : List PanicEntry → World → Prop} (H : hw Try.prog noPanic h19 (endV [.tmp 4] next) (σ0 args) w) : callvK Try.prog (.func (.func 19) #[] #[]) args w next QP := callf c19 (q19 ha H)

/- missive/thread.Root -/
def h22_3 : HC :=
  (.reg [.need (.n2 (.bin .add) (.slot 28) (.lit (.int .i64 1))),
    .asg 28 (.n2 (.bin .add) (.slot 28) (.lit (.int .i64 1)))])
def h22_2 : HC :=
  (.seq
  (.block 1
    (.seq
    (.reg [.asg 8 (.slot 28)])
    (.seq
    (.reg [.eff (some 34) (.call { callee := .value (.func 28), args := #[.tmp 32, .tmp 33], argTypes := #[46, 3] }) 35 [(32, .slot 5), (33, .slot 8)] none [],
      .need (.n1 (.ext 0) (.slot 34)),
      .need (.n1 (.ext 1) (.slot 34)),
      .asg 10 (.n1 (.ext 1) (.slot 34))])
    (.seq
    (.reg [.need (.n2 (.sbin .neq) (.slot 10) (.lit (str []))),
      .need (.gif (.n2 (.sbin .neq) (.slot 10) (.lit (str []))) true (.n2 (.sbin .eql) (.slot 10) (.slot 1))),
      .need (.n3 .pick (.n2 (.sbin .neq) (.slot 10) (.lit (str []))) (.n2 (.sbin .eql) (.slot 10) (.slot 1)) (.lit (.bool false))),
      .asg 43 (.n3 .pick (.n2 (.sbin .neq) (.slot 10) (.lit (str []))) (.n2 (.sbin .eql) (.slot 10) (.slot 1)) (.lit (.bool false)))])
    (.cond (.slot 43)
      (.seq
      (.reg [.asg 4 (.slot 1)])
      .ret)
      .skip)))))
  h22_3)
def h22_1 : HC :=
  (.seq
  (.reg [.need (.n2 (.bin .lss) (.slot 28) (.slot 27)),
    .asg 29 (.n2 (.bin .lss) (.slot 28) (.slot 27))])
  (.seq
  (.cond (.slot 29)
    .skip
    (.exit 0))
  h22_2))
def h22_4 : HC :=
  (.seq
  (.reg [.asg 4 (.lit (str []))])
  .ret)
def h22_7 : HC :=
  (.reg [.asg 6 (.slot 11)])
def h22_6 : HC :=
  (.block 3
    (.seq
    (.reg [.eff (some 49) (.call { callee := .value (.func 28), args := #[.tmp 47, .tmp 48], argTypes := #[46, 3] }) 35 [(47, .slot 5), (48, .slot 6)] none [],
      .need (.n1 (.ext 0) (.slot 49)),
      .need (.n1 (.ext 1) (.slot 49)),
      .asg 11 (.n1 (.ext 0) (.slot 49)),
      .asg 12 (.n1 (.ext 1) (.slot 49))])
    (.seq
    (.block 4
      (.seq
      (.reg [.need (.n2 (.sbin .neq) (.slot 12) (.lit (str []))),
        .asg 52 (.n2 (.sbin .neq) (.slot 12) (.lit (str [])))])
      (.cond (.slot 52)
        (.seq
        (.reg [.asg 4 (.slot 12)])
        .ret)
        (.seq
        (.reg [.need (.n2 (.bin .lss) (.slot 11) (.lit (.int .i64 0))),
          .asg 56 (.n2 (.bin .lss) (.slot 11) (.lit (.int .i64 0)))])
        (.cond (.slot 56)
          (.seq
          (.reg [.need (.n2 (.iaddr 5) (.slot 0) (.slot 6)),
            .need (.n1 (.faddr 0) (.n2 (.iaddr 5) (.slot 0) (.slot 6))),
            .need (.n1 .ld (.n1 (.faddr 0) (.n2 (.iaddr 5) (.slot 0) (.slot 6)))),
            .asg 4 (.n1 .ld (.n1 (.faddr 0) (.n2 (.iaddr 5) (.slot 0) (.slot 6))))])
          .ret)
          .skip)))))
    h22_7)))
def h22_5 : HC :=
  (.block 2
    (.loop
      h22_6))
def h22 : HC :=
  (.seq
  (.reg [.asg 4 (.lit (str []))])
  (.seq
  (.reg [.eff (some 14) (.call { callee := .value (.func 27), args := #[.tmp 13], argTypes := #[22] }) 46 [(13, .slot 0)] none [],
    .asg 5 (.slot 14)])
  (.seq
  (.reg [.need (.n1 .nilchk (.slot 5)),
    .need (.n1 (.faddr 1) (.n1 .nilchk (.slot 5))),
    .need (.n1 .ld (.n1 (.faddr 1) (.n1 .nilchk (.slot 5)))),
    .eff (some 21) (.lookup 49 (.tmp 19) (.tmp 20) true) 54 [(19, .n1 .ld (.n1 (.faddr 1) (.n1 .nilchk (.slot 5)))), (20, .slot 1)] none [],
    .need (.n1 (.ext 0) (.slot 21)),
    .need (.n1 (.ext 1) (.slot 21)),
    .asg 6 (.n1 (.ext 0) (.slot 21)),
    .asg 7 (.n1 (.ext 1) (.slot 21))])
  (.seq
  (.seq
  (.reg [.need (.n1 .bnot (.slot 7)),
    .asg 25 (.n1 .bnot (.slot 7))])
  (.cond (.slot 25)
    (.seq
    (.seq
    (.reg [.need (.n1 .lensl (.slot 0)),
      .asg 27 (.n1 .lensl (.slot 0)),
      .asg 28 (.lit (.int .i64 0))])
    (.block 0
      (.loop
        h22_1)))
    h22_4)
    .skip))
  h22_5))))
theorem k22 : fnOK Try.prog 77132957866810867 [] [.tmp 4] 2 Try.f22 = some h22 := by kernel_rfl
theorem c22 : callable Try.prog 22 = true := by kernel_rfl
theorem q22 {args : List Value} (ha : args.length = 2) {w : World} {next : Value → World → Prop} {QP : List PanicEntry → World → Prop} (H : hw Try.prog noPanic h22 (endV [.tmp 4] next) (σ0 args) w) : callK Try.prog 22 args w next QP := fn_rule Try.func22 mixed k22 ha H
theorem r22 {args : List Value} (ha : args.length = 2) {w : World} {next : Value → World → Prop} {QP : List PanicEntry → World → Prop} (H : hw Try.prog noPanic h22 (endV [.tmp 4] next) (σ0 args) w) : callvK Try.prog (.func (.func 22) #[] #[]) args w next QP := callf c22 (q22 ha H)

/- missive/thread.study -/
def t27_3 : HT :=
  (.run [.eff (some 23) (.makeSlice 61 (.tmp 22) (.tmp 22)) 61 [(22, .slot 22), (22, .slot 22)] none [⟨none, .ld, .slot 1⟩, ⟨none, .ld, .slot 1⟩, ⟨none, .ld, .slot 1⟩],
    .eff (some 24) (.makeMap 62 none) 62 [] none [⟨none, .ld, .slot 1⟩, ⟨none, .ld, .slot 1⟩, ⟨none, .ld, .slot 1⟩],
    .need (.n2 (.put 0 1) (.lit (.agg #[(.slice none 0 0), (.map none), (.slice none 0 0), (.slice none 0 0), (.map none)])) (.slot 16)),
    .need (.n2 (.put 1 1) (.n2 (.put 0 1) (.lit (.agg #[(.slice none 0 0), (.map none), (.slice none 0 0), (.slice none 0 0), (.map none)])) (.slot 16)) (.slot 17)),
    .need (.n2 (.put 2 1) (.n2 (.put 1 1) (.n2 (.put 0 1) (.lit (.agg #[(.slice none 0 0), (.map none), (.slice none 0 0), (.slice none 0 0), (.map none)])) (.slot 16)) (.slot 17)) (.slot 20)),
    .need (.n2 (.put 3 1) (.n2 (.put 2 1) (.n2 (.put 1 1) (.n2 (.put 0 1) (.lit (.agg #[(.slice none 0 0), (.map none), (.slice none 0 0), (.slice none 0 0), (.map none)])) (.slot 16)) (.slot 17)) (.slot 20)) (.slot 23)),
    .need (.n2 (.put 4 1) (.n2 (.put 3 1) (.n2 (.put 2 1) (.n2 (.put 1 1) (.n2 (.put 0 1) (.lit (.agg #[(.slice none 0 0), (.map none), (.slice none 0 0), (.slice none 0 0), (.map none)])) (.slot 16)) (.slot 17)) (.slot 20)) (.slot 23)) (.slot 24)),
    .eff (some 26) (.box 64 (.tmp 25)) 46 [(25, .n2 (.put 4 1) (.n2 (.put 3 1) (.n2 (.put 2 1) (.n2 (.put 1 1) (.n2 (.put 0 1) (.lit (.agg #[(.slice none 0 0), (.map none), (.slice none 0 0), (.slice none 0 0), (.map none)])) (.slot 16)) (.slot 17)) (.slot 20)) (.slot 23)) (.slot 24))] none [],
    .asg 3 (.slot 26)]
  .fin)
def t27_4 : HT :=
  (.run [.eff (some 24) (.makeMap 62 none) 62 [] none [⟨none, .ld, .slot 1⟩, ⟨none, .ld, .slot 1⟩, ⟨none, .ld, .slot 1⟩],
    .eff (some 23) (.makeSlice 61 (.tmp 22) (.tmp 22)) 61 [(22, .slot 22), (22, .slot 22)] none [⟨none, .ld, .slot 1⟩, ⟨none, .ld, .slot 1⟩],
    .need (.n2 (.put 0 1) (.lit (.agg #[(.slice none 0 0), (.map none), (.slice none 0 0), (.slice none 0 0), (.map none)])) (.slot 16)),
    .need (.n2 (.put 1 1) (.n2 (.put 0 1) (.lit (.agg #[(.slice none 0 0), (.map none), (.slice none 0 0), (.slice none 0 0), (.map none)])) (.slot 16)) (.slot 17)),
    .need (.n2 (.put 2 1) (.n2 (.put 1 1) (.n2 (.put 0 1) (.lit (.agg #[(.slice none 0 0), (.map none), (.slice none 0 0), (.slice none 0 0), (.map none)])) (.slot 16)) (.slot 17)) (.slot 20)),
    .need (.n2 (.put 3 1) (.n2 (.put 2 1) (.n2 (.put 1 1) (.n2 (.put 0 1) (.lit (.agg #[(.slice none 0 0), (.map none), (.slice none 0 0), (.slice none 0 0), (.map none)])) (.slot 16)) (.slot 17)) (.slot 20)) (.slot 23)),
    .need (.n2 (.put 4 1) (.n2 (.put 3 1) (.n2 (.put 2 1) (.n2 (.put 1 1) (.n2 (.put 0 1) (.lit (.agg #[(.slice none 0 0), (.map none), (.slice none 0 0), (.slice none 0 0), (.map none)])) (.slot 16)) (.slot 17)) (.slot 20)) (.slot 23)) (.slot 24)),
    .eff (some 26) (.box 64 (.tmp 25)) 46 [(25, .n2 (.put 4 1) (.n2 (.put 3 1) (.n2 (.put 2 1) (.n2 (.put 1 1) (.n2 (.put 0 1) (.lit (.agg #[(.slice none 0 0), (.map none), (.slice none 0 0), (.slice none 0 0), (.map none)])) (.slot 16)) (.slot 17)) (.slot 20)) (.slot 23)) (.slot 24))] none [],
    .asg 3 (.slot 26)]
  .fin)
def t27_2 : HT :=
  (.run [.eff (some 20) (.makeSlice 60 (.tmp 19) (.tmp 19)) 60 [(19, .slot 19), (19, .slot 19)] none [⟨none, .ld, .slot 1⟩, ⟨none, .ld, .slot 1⟩, ⟨none, .ld, .slot 1⟩]]
  (.fork
    t27_3
    t27_4))
def t27_7 : HT :=
  (.run [.eff (some 20) (.makeSlice 60 (.tmp 19) (.tmp 19)) 60 [(19, .slot 19), (19, .slot 19)] none [⟨none, .ld, .slot 1⟩, ⟨none, .ld, .slot 1⟩, ⟨none, .ld, .slot 1⟩],
    .eff (some 24) (.makeMap 62 none) 62 [] none [⟨none, .ld, .slot 1⟩, ⟨none, .ld, .slot 1⟩, ⟨none, .ld, .slot 1⟩],
    .need (.n2 (.put 0 1) (.lit (.agg #[(.slice none 0 0), (.map none), (.slice none 0 0), (.slice none 0 0), (.map none)])) (.slot 16)),
    .need (.n2 (.put 1 1) (.n2 (.put 0 1) (.lit (.agg #[(.slice none 0 0), (.map none), (.slice none 0 0), (.slice none 0 0), (.map none)])) (.slot 16)) (.slot 17)),
    .need (.n2 (.put 2 1) (.n2 (.put 1 1) (.n2 (.put 0 1) (.lit (.agg #[(.slice none 0 0), (.map none), (.slice none 0 0), (.slice none 0 0), (.map none)])) (.slot 16)) (.slot 17)) (.slot 20)),
    .need (.n2 (.put 3 1) (.n2 (.put 2 1) (.n2 (.put 1 1) (.n2 (.put 0 1) (.lit (.agg #[(.slice none 0 0), (.map none), (.slice none 0 0), (.slice none 0 0), (.map none)])) (.slot 16)) (.slot 17)) (.slot 20)) (.slot 23)),
    .need (.n2 (.put 4 1) (.n2 (.put 3 1) (.n2 (.put 2 1) (.n2 (.put 1 1) (.n2 (.put 0 1) (.lit (.agg #[(.slice none 0 0), (.map none), (.slice none 0 0), (.slice none 0 0), (.map none)])) (.slot 16)) (.slot 17)) (.slot 20)) (.slot 23)) (.slot 24)),
    .eff (some 26) (.box 64 (.tmp 25)) 46 [(25, .n2 (.put 4 1) (.n2 (.put 3 1) (.n2 (.put 2 1) (.n2 (.put 1 1) (.n2 (.put 0 1) (.lit (.agg #[(.slice none 0 0), (.map none), (.slice none 0 0), (.slice none 0 0), (.map none)])) (.slot 16)) (.slot 17)) (.slot 20)) (.slot 23)) (.slot 24))] none [],
    .asg 3 (.slot 26)]
  .fin)
def t27_8 : HT :=
  (.run [.eff (some 24) (.makeMap 62 none) 62 [] none [⟨none, .ld, .slot 1⟩, ⟨none, .ld, .slot 1⟩, ⟨none, .ld, .slot 1⟩],
    .eff (some 20) (.makeSlice 60 (.tmp 19) (.tmp 19)) 60 [(19, .slot 19), (19, .slot 19)] none [⟨none, .ld, .slot 1⟩, ⟨none, .ld, .slot 1⟩],
    .need (.n2 (.put 0 1) (.lit (.agg #[(.slice none 0 0), (.map none), (.slice none 0 0), (.slice none 0 0), (.map none)])) (.slot 16)),
    .need (.n2 (.put 1 1) (.n2 (.put 0 1) (.lit (.agg #[(.slice none 0 0), (.map none), (.slice none 0 0), (.slice none 0 0), (.map none)])) (.slot 16)) (.slot 17)),
    .need (.n2 (.put 2 1) (.n2 (.put 1 1) (.n2 (.put 0 1) (.lit (.agg #[(.slice none 0 0), (.map none), (.slice none 0 0), (.slice none 0 0), (.map none)])) (.slot 16)) (.slot 17)) (.slot 20)),
    .need (.n2 (.put 3 1) (.n2 (.put 2 1) (.n2 (.put 1 1) (.n2 (.put 0 1) (.lit (.agg #[(.slice none 0 0), (.map none), (.slice none 0 0), (.slice none 0 0), (.map none)])) (.slot 16)) (.slot 17)) (.slot 20)) (.slot 23)),
    .need (.n2 (.put 4 1) (.n2 (.put 3 1) (.n2 (.put 2 1) (.n2 (.put 1 1) (.n2 (.put 0 1) (.lit (.agg #[(.slice none 0 0), (.map none), (.slice none 0 0), (.slice none 0 0), (.map none)])) (.slot 16)) (.slot 17)) (.slot 20)) (.slot 23)) (.slot 24)),
    .eff (some 26) (.box 64 (.tmp 25)) 46 [(25, .n2 (.put 4 1) (.n2 (.put 3 1) (.n2 (.put 2 1) (.n2 (.put 1 1) (.n2 (.put 0 1) (.lit (.agg #[(.slice none 0 0), (.map none), (.slice none 0 0), (.slice none 0 0), (.map none)])) (.slot 16)) (.slot 17)) (.slot 20)) (.slot 23)) (.slot 24))] none [],
    .asg 3 (.slot 26)]
  .fin)
def t27_6 : HT :=
  (.run [.eff (some 23) (.makeSlice 61 (.tmp 22) (.tmp 22)) 61 [(22, .slot 22), (22, .slot 22)] none [⟨none, .ld, .slot 1⟩, ⟨none, .ld, .slot 1⟩, ⟨none, .ld, .slot 1⟩]]
  (.fork
    t27_7
    t27_8))
def t27_10 : HT :=
  (.run [.eff (some 20) (.makeSlice 60 (.tmp 19) (.tmp 19)) 60 [(19, .slot 19), (19, .slot 19)] none [⟨none, .ld, .slot 1⟩, ⟨none, .ld, .slot 1⟩, ⟨none, .ld, .slot 1⟩],
    .eff (some 23) (.makeSlice 61 (.tmp 22) (.tmp 22)) 61 [(22, .slot 22), (22, .slot 22)] none [⟨none, .ld, .slot 1⟩, ⟨none, .ld, .slot 1⟩],
    .need (.n2 (.put 0 1) (.lit (.agg #[(.slice none 0 0), (.map none), (.slice none 0 0), (.slice none 0 0), (.map none)])) (.slot 16)),
    .need (.n2 (.put 1 1) (.n2 (.put 0 1) (.lit (.agg #[(.slice none 0 0), (.map none), (.slice none 0 0), (.slice none 0 0), (.map none)])) (.slot 16)) (.slot 17)),
    .need (.n2 (.put 2 1) (.n2 (.put 1 1) (.n2 (.put 0 1) (.lit (.agg #[(.slice none 0 0), (.map none), (.slice none 0 0), (.slice none 0 0), (.map none)])) (.slot 16)) (.slot 17)) (.slot 20)),
    .need (.n2 (.put 3 1) (.n2 (.put 2 1) (.n2 (.put 1 1) (.n2 (.put 0 1) (.lit (.agg #[(.slice none 0 0), (.map none), (.slice none 0 0), (.slice none 0 0), (.map none)])) (.slot 16)) (.slot 17)) (.slot 20)) (.slot 23)),
    .need (.n2 (.put 4 1) (.n2 (.put 3 1) (.n2 (.put 2 1) (.n2 (.put 1 1) (.n2 (.put 0 1) (.lit (.agg #[(.slice none 0 0), (.map none), (.slice none 0 0), (.slice none 0 0), (.map none)])) (.slot 16)) (.slot 17)) (.slot 20)) (.slot 23)) (.slot 24)),
    .eff (some 26) (.box 64 (.tmp 25)) 46 [(25, .n2 (.put 4 1) (.n2 (.put 3 1) (.n2 (.put 2 1) (.n2 (.put 1 1) (.n2 (.put 0 1) (.lit (.agg #[(.slice none 0 0), (.map none), (.slice none 0 0), (.slice none 0 0), (.map none)])) (.slot 16)) (.slot 17)) (.slot 20)) (.slot 23)) (.slot 24))] none [],
    .asg 3 (.slot 26)]
  .fin)
def t27_11 : HT :=
  (.run [.eff (some 23) (.makeSlice 61 (.tmp 22) (.tmp 22)) 61 [(22, .slot 22), (22, .slot 22)] none [⟨none, .ld, .slot 1⟩, ⟨none, .ld, .slot 1⟩, ⟨none, .ld, .slot 1⟩],
    .eff (some 20) (.makeSlice 60 (.tmp 19) (.tmp 19)) 60 [(19, .slot 19), (19, .slot 19)] none [⟨none, .ld, .slot 1⟩, ⟨none, .ld, .slot 1⟩],
    .need (.n2 (.put 0 1) (.lit (.agg #[(.slice none 0 0), (.map none), (.slice none 0 0), (.slice none 0 0), (.map none)])) (.slot 16)),
    .need (.n2 (.put 1 1) (.n2 (.put 0 1) (.lit (.agg #[(.slice none 0 0), (.map none), (.slice none 0 0), (.slice none 0 0), (.map none)])) (.slot 16)) (.slot 17)),
    .need (.n2 (.put 2 1) (.n2 (.put 1 1) (.n2 (.put 0 1) (.lit (.agg #[(.slice none 0 0), (.map none), (.slice none 0 0), (.slice none 0 0), (.map none)])) (.slot 16)) (.slot 17)) (.slot 20)),
    .need (.n2 (.put 3 1) (.n2 (.put 2 1) (.n2 (.put 1 1) (.n2 (.put 0 1) (.lit (.agg #[(.slice none 0 0), (.map none), (.slice none 0 0), (.slice none 0 0), (.map none)])) (.slot 16)) (.slot 17)) (.slot 20)) (.slot 23)),
    .need (.n2 (.put 4 1) (.n2 (.put 3 1) (.n2 (.put 2 1) (.n2 (.put 1 1) (.n2 (.put 0 1) (.lit (.agg #[(.slice none 0 0), (.map none), (.slice none 0 0), (.slice none 0 0), (.map none)])) (.slot 16)) (.slot 17)) (.slot 20)) (.slot 23)) (.slot 24)),
    .eff (some 26) (.box 64 (.tmp 25)) 46 [(25, .n2 (.put 4 1) (.n2 (.put 3 1) (.n2 (.put 2 1) (.n2 (.put 1 1) (.n2 (.put 0 1) (.lit (.agg #[(.slice none 0 0), (.map none), (.slice none 0 0), (.slice none 0 0), (.map none)])) (.slot 16)) (.slot 17)) (.slot 20)) (.slot 23)) (.slot 24))] none [],
    .asg 3 (.slot 26)]
  .fin)
def t27_9 : HT :=
  (.run [.eff (some 24) (.makeMap 62 none) 62 [] none [⟨none, .ld, .slot 1⟩, ⟨none, .ld, .slot 1⟩, ⟨none, .ld, .slot 1⟩]]
  (.fork
    t27_10
    t27_11))
def t27_5 : HT :=
  (.fork
    t27_6
    t27_9)
def t27_1 : HT :=
  (.run [.eff (some 17) (.makeMap 49 none) 49 [] none [⟨none, .ld, .slot 1⟩, ⟨none, .ld, .slot 1⟩, ⟨none, .ld, .slot 1⟩]]
  (.fork
    t27_2
    t27_5))
def t27_15 : HT :=
  (.run [.eff (some 23) (.makeSlice 61 (.tmp 22) (.tmp 22)) 61 [(22, .slot 22), (22, .slot 22)] none [⟨none, .ld, .slot 1⟩, ⟨none, .ld, .slot 1⟩, ⟨none, .ld, .slot 1⟩],
    .eff (some 24) (.makeMap 62 none) 62 [] none [⟨none, .ld, .slot 1⟩, ⟨none, .ld, .slot 1⟩, ⟨none, .ld, .slot 1⟩],
    .need (.n2 (.put 0 1) (.lit (.agg #[(.slice none 0 0), (.map none), (.slice none 0 0), (.slice none 0 0), (.map none)])) (.slot 16)),
    .need (.n2 (.put 1 1) (.n2 (.put 0 1) (.lit (.agg #[(.slice none 0 0), (.map none), (.slice none 0 0), (.slice none 0 0), (.map none)])) (.slot 16)) (.slot 17)),
    .need (.n2 (.put 2 1) (.n2 (.put 1 1) (.n2 (.put 0 1) (.lit (.agg #[(.slice none 0 0), (.map none), (.slice none 0 0), (.slice none 0 0), (.map none)])) (.slot 16)) (.slot 17)) (.slot 20)),
    .need (.n2 (.put 3 1) (.n2 (.put 2 1) (.n2 (.put 1 1) (.n2 (.put 0 1) (.lit (.agg #[(.slice none 0 0), (.map none), (.slice none 0 0), (.slice none 0 0), (.map none)])) (.slot 16)) (.slot 17)) (.slot 20)) (.slot 23)),
    .need (.n2 (.put 4 1) (.n2 (.put 3 1) (.n2 (.put 2 1) (.n2 (.put 1 1) (.n2 (.put 0 1) (.lit (.agg #[(.slice none 0 0), (.map none), (.slice none 0 0), (.slice none 0 0), (.map none)])) (.slot 16)) (.slot 17)) (.slot 20)) (.slot 23)) (.slot 24)),
    .eff (some 26) (.box 64 (.tmp 25)) 46 [(25, .n2 (.put 4 1) (.n2 (.put 3 1) (.n2 (.put 2 1) (.n2 (.put 1 1) (.n2 (.put 0 1) (.lit (.agg #[(.slice none 0 0), (.map none), (.slice none 0 0), (.slice none 0 0), (.map none)])) (.slot 16)) (.slot 17)) (.slot 20)) (.slot 23)) (.slot 24))] none [],
    .asg 3 (.slot 26)]
  .fin)
def t27_16 : HT :=
  (.run [.eff (some 24) (.makeMap 62 none) 62 [] none [⟨none, .ld, .slot 1⟩, ⟨none, .ld, .slot 1⟩, ⟨none, .ld, .slot 1⟩],
    .eff (some 23) (.makeSlice 61 (.tmp 22) (.tmp 22)) 61 [(22, .slot 22), (22, .slot 22)] none [⟨none, .ld, .slot 1⟩, ⟨none, .ld, .slot 1⟩],
    .need (.n2 (.put 0 1) (.lit (.agg #[(.slice none 0 0), (.map none), (.slice none 0 0), (.slice none 0 0), (.map none)])) (.slot 16)),
    .need (.n2 (.put 1 1) (.n2 (.put 0 1) (.lit (.agg #[(.slice none 0 0), (.map none), (.slice none 0 0), (.slice none 0 0), (.map none)])) (.slot 16)) (.slot 17)),
    .need (.n2 (.put 2 1) (.n2 (.put 1 1) (.n2 (.put 0 1) (.lit (.agg #[(.slice none 0 0), (.map none), (.slice none 0 0), (.slice none 0 0), (.map none)])) (.slot 16)) (.slot 17)) (.slot 20)),
    .need (.n2 (.put 3 1) (.n2 (.put 2 1) (.n2 (.put 1 1) (.n2 (.put 0 1) (.lit (.agg #[(.slice none 0 0), (.map none), (.slice none 0 0), (.slice none 0 0), (.map none)])) (.slot 16)) (.slot 17)) (.slot 20)) (.slot 23)),
    .need (.n2 (.put 4 1) (.n2 (.put 3 1) (.n2 (.put 2 1) (.n2 (.put 1 1) (.n2 (.put 0 1) (.lit (.agg #[(.slice none 0 0), (.map none), (.slice none 0 0), (.slice none 0 0), (.map none)])) (.slot 16)) (.slot 17)) (.slot 20)) (.slot 23)) (.slot 24)),
    .eff (some 26) (.box 64 (.tmp 25)) 46 [(25, .n2 (.put 4 1) (.n2 (.put 3 1) (.n2 (.put 2 1) (.n2 (.put 1 1) (.n2 (.put 0 1) (.lit (.agg #[(.slice none 0 0), (.map none), (.slice none 0 0), (.slice none 0 0), (.map none)])) (.slot 16)) (.slot 17)) (.slot 20)) (.slot 23)) (.slot 24))] none [],
    .asg 3 (.slot 26)]
  .fin)
def t27_14 : HT :=
  (.run [.eff (some 17) (.makeMap 49 none) 49 [] none [⟨none, .ld, .slot 1⟩, ⟨none, .ld, .slot 1⟩, ⟨none, .ld, .slot 1⟩]]
  (.fork
    t27_15
    t27_16))
def t27_19 : HT :=
  (.run [.eff (some 17) (.makeMap 49 none) 49 [] none [⟨none, .ld, .slot 1⟩, ⟨none, .ld, .slot 1⟩, ⟨none, .ld, .slot 1⟩],
    .eff (some 24) (.makeMap 62 none) 62 [] none [⟨none, .ld, .slot 1⟩, ⟨none, .ld, .slot 1⟩, ⟨none, .ld, .slot 1⟩],
    .need (.n2 (.put 0 1) (.lit (.agg #[(.slice none 0 0), (.map none), (.slice none 0 0), (.slice none 0 0), (.map none)])) (.slot 16)),
    .need (.n2 (.put 1 1) (.n2 (.put 0 1) (.lit (.agg #[(.slice none 0 0), (.map none), (.slice none 0 0), (.slice none 0 0), (.map none)])) (.slot 16)) (.slot 17)),
    .need (.n2 (.put 2 1) (.n2 (.put 1 1) (.n2 (.put 0 1) (.lit (.agg #[(.slice none 0 0), (.map none), (.slice none 0 0), (.slice none 0 0), (.map none)])) (.slot 16)) (.slot 17)) (.slot 20)),
    .need (.n2 (.put 3 1) (.n2 (.put 2 1) (.n2 (.put 1 1) (.n2 (.put 0 1) (.lit (.agg #[(.slice none 0 0), (.map none), (.slice none 0 0), (.slice none 0 0), (.map none)])) (.slot 16)) (.slot 17)) (.slot 20)) (.slot 23)),
    .need (.n2 (.put 4 1) (.n2 (.put 3 1) (.n2 (.put 2 1) (.n2 (.put 1 1) (.n2 (.put 0 1) (.lit (.agg #[(.slice none 0 0), (.map none), (.slice none 0 0), (.slice none 0 0), (.map none)])) (.slot 16)) (.slot 17)) (.slot 20)) (.slot 23)) (.slot 24)),
    .eff (some 26) (.box 64 (.tmp 25)) 46 [(25, .n2 (.put 4 1) (.n2 (.put 3 1) (.n2 (.put 2 1) (.n2 (.put 1 1) (.n2 (.put 0 1) (.lit (.agg #[(.slice none 0 0), (.map none), (.slice none 0 0), (.slice none 0 0), (.map none)])) (.slot 16)) (.slot 17)) (.slot 20)) (.slot 23)) (.slot 24))] none [],
    .asg 3 (.slot 26)]
  .fin)
def t27_20 : HT :=
  (.run [.eff (some 24) (.makeMap 62 none) 62 [] none [⟨none, .ld, .slot 1⟩, ⟨none, .ld, .slot 1⟩, ⟨none, .ld, .slot 1⟩],
    .eff (some 17) (.makeMap 49 none) 49 [] none [⟨none, .ld, .slot 1⟩, ⟨none, .ld, .slot 1⟩, ⟨none, .ld, .slot 1⟩],
    .need (.n2 (.put 0 1) (.lit (.agg #[(.slice none 0 0), (.map none), (.slice none 0 0), (.slice none 0 0), (.map none)])) (.slot 16)),
    .need (.n2 (.put 1 1) (.n2 (.put 0 1) (.lit (.agg #[(.slice none 0 0), (.map none), (.slice none 0 0), (.slice none 0 0), (.map none)])) (.slot 16)) (.slot 17)),
    .need (.n2 (.put 2 1) (.n2 (.put 1 1) (.n2 (.put 0 1) (.lit (.agg #[(.slice none 0 0), (.map none), (.slice none 0 0), (.slice none 0 0), (.map none)])) (.slot 16)) (.slot 17)) (.slot 20)),
    .need (.n2 (.put 3 1) (.n2 (.put 2 1) (.n2 (.put 1 1) (.n2 (.put 0 1) (.lit (.agg #[(.slice none 0 0), (.map none), (.slice none 0 0), (.slice none 0 0), (.map none)])) (.slot 16)) (.slot 17)) (.slot 20)) (.slot 23)),
    .need (.n2 (.put 4 1) (.n2 (.put 3 1) (.n2 (.put 2 1) (.n2 (.put 1 1) (.n2 (.put 0 1) (.lit (.agg #[(.slice none 0 0), (.map none), (.slice none 0 0), (.slice none 0 0), (.map none)])) (.slot 16)) (.slot 17)) (.slot 20)) (.slot 23)) (.slot 24)),
    .eff (some 26) (.box 64 (.tmp 25)) 46 [(25, .n2 (.put 4 1) (.n2 (.put 3 1) (.n2 (.put 2 1) (.n2 (.put 1 1) (.n2 (.put 0 1) (.lit (.agg #[(.slice none 0 0), (.map none), (.slice none 0 0), (.slice none 0 0), (.map none)])) (.slot 16)) (.slot 17)) (.slot 20)) (.slot 23)) (.slot 24))] none [],
    .asg 3 (.slot 26)]
  .fin)
def t27_18 : HT :=
  (.run [.eff (some 23) (.makeSlice 61 (.tmp 22) (.tmp 22)) 61 [(22, .slot 22), (22, .slot 22)] none [⟨none, .ld, .slot 1⟩, ⟨none, .ld, .slot 1⟩, ⟨none, .ld, .slot 1⟩]]
  (.fork
    t27_19
    t27_20))
def t27_22 : HT :=
  (.run [.eff (some 17) (.makeMap 49 none) 49 [] none [⟨none, .ld, .slot 1⟩, ⟨none, .ld, .slot 1⟩, ⟨none, .ld, .slot 1⟩],
    .eff (some 23) (.makeSlice 61 (.tmp 22) (.tmp 22)) 61 [(22, .slot 22), (22, .slot 22)] none [⟨none, .ld, .slot 1⟩, ⟨none, .ld, .slot 1⟩],
    .need (.n2 (.put 0 1) (.lit (.agg #[(.slice none 0 0), (.map none), (.slice none 0 0), (.slice none 0 0), (.map none)])) (.slot 16)),
    .need (.n2 (.put 1 1) (.n2 (.put 0 1) (.lit (.agg #[(.slice none 0 0), (.map none), (.slice none 0 0), (.slice none 0 0), (.map none)])) (.slot 16)) (.slot 17)),
    .need (.n2 (.put 2 1) (.n2 (.put 1 1) (.n2 (.put 0 1) (.lit (.agg #[(.slice none 0 0), (.map none), (.slice none 0 0), (.slice none 0 0), (.map none)])) (.slot 16)) (.slot 17)) (.slot 20)),
    .need (.n2 (.put 3 1) (.n2 (.put 2 1) (.n2 (.put 1 1) (.n2 (.put 0 1) (.lit (.agg #[(.slice none 0 0), (.map none), (.slice none 0 0), (.slice none 0 0), (.map none)])) (.slot 16)) (.slot 17)) (.slot 20)) (.slot 23)),
    .need (.n2 (.put 4 1) (.n2 (.put 3 1) (.n2 (.put 2 1) (.n2 (.put 1 1) (.n2 (.put 0 1) (.lit (.agg #[(.slice none 0 0), (.map none), (.slice none 0 0), (.slice none 0 0), (.map none)])) (.slot 16)) (.slot 17)) (.slot 20)) (.slot 23)) (.slot 24)),
    .eff (some 26) (.box 64 (.tmp 25)) 46 [(25, .n2 (.put 4 1) (.n2 (.put 3 1) (.n2 (.put 2 1) (.n2 (.put 1 1) (.n2 (.put 0 1) (.lit (.agg #[(.slice none 0 0), (.map none), (.slice none 0 0), (.slice none 0 0), (.map none)])) (.slot 16)) (.slot 17)) (.slot 20)) (.slot 23)) (.slot 24))] none [],
    .asg 3 (.slot 26)]
  .fin)
def t27_23 : HT :=
  (.run [.eff (some 23) (.makeSlice 61 (.tmp 22) (.tmp 22)) 61 [(22, .slot 22), (22, .slot 22)] none [⟨none, .ld, .slot 1⟩, ⟨none, .ld, .slot 1⟩, ⟨none, .ld, .slot 1⟩],
    .eff (some 17) (.makeMap 49 none) 49 [] none [⟨none, .ld, .slot 1⟩, ⟨none, .ld, .slot 1⟩, ⟨none, .ld, .slot 1⟩],
    .need (.n2 (.put 0 1) (.lit (.agg #[(.slice none 0 0), (.map none), (.slice none 0 0), (.slice none 0 0), (.map none)])) (.slot 16)),
    .need (.n2 (.put 1 1) (.n2 (.put 0 1) (.lit (.agg #[(.slice none 0 0), (.map none), (.slice none 0 0), (.slice none 0 0), (.map none)])) (.slot 16)) (.slot 17)),
    .need (.n2 (.put 2 1) (.n2 (.put 1 1) (.n2 (.put 0 1) (.lit (.agg #[(.slice none 0 0), (.map none), (.slice none 0 0), (.slice none 0 0), (.map none)])) (.slot 16)) (.slot 17)) (.slot 20)),
    .need (.n2 (.put 3 1) (.n2 (.put 2 1) (.n2 (.put 1 1) (.n2 (.put 0 1) (.lit (.agg #[(.slice none 0 0), (.map none), (.slice none 0 0), (.slice none 0 0), (.map none)])) (.slot 16)) (.slot 17)) (.slot 20)) (.slot 23)),
    .need (.n2 (.put 4 1) (.n2 (.put 3 1) (.n2 (.put 2 1) (.n2 (.put 1 1) (.n2 (.put 0 1) (.lit (.agg #[(.slice none 0 0), (.map none), (.slice none 0 0), (.slice none 0 0), (.map none)])) (.slot 16)) (.slot 17)) (.slot 20)) (.slot 23)) (.slot 24)),
    .eff (some 26) (.box 64 (.tmp 25)) 46 [(25, .n2 (.put 4 1) (.n2 (.put 3 1) (.n2 (.put 2 1) (.n2 (.put 1 1) (.n2 (.put 0 1) (.lit (.agg #[(.slice none 0 0), (.map none), (.slice none 0 0), (.slice none 0 0), (.map none)])) (.slot 16)) (.slot 17)) (.slot 20)) (.slot 23)) (.slot 24))] none [],
    .asg 3 (.slot 26)]
  .fin)
def t27_21 : HT :=
  (.run [.eff (some 24) (.makeMap 62 none) 62 [] none [⟨none, .ld, .slot 1⟩, ⟨none, .ld, .slot 1⟩, ⟨none, .ld, .slot 1⟩]]
  (.fork
    t27_22
    t27_23))
def t27_17 : HT :=
  (.fork
    t27_18
    t27_21)
def t27_13 : HT :=
  (.run [.eff (some 20) (.makeSlice 60 (.tmp 19) (.tmp 19)) 60 [(19, .slot 19), (19, .slot 19)] none [⟨none, .ld, .slot 1⟩, ⟨none, .ld, .slot 1⟩, ⟨none, .ld, .slot 1⟩]]
  (.fork
    t27_14
    t27_17))
def t27_27 : HT :=
  (.run [.eff (some 20) (.makeSlice 60 (.tmp 19) (.tmp 19)) 60 [(19, .slot 19), (19, .slot 19)] none [⟨none, .ld, .slot 1⟩, ⟨none, .ld, .slot 1⟩, ⟨none, .ld, .slot 1⟩],
    .eff (some 24) (.makeMap 62 none) 62 [] none [⟨none, .ld, .slot 1⟩, ⟨none, .ld, .slot 1⟩, ⟨none, .ld, .slot 1⟩],
    .need (.n2 (.put 0 1) (.lit (.agg #[(.slice none 0 0), (.map none), (.slice none 0 0), (.slice none 0 0), (.map none)])) (.slot 16)),
    .need (.n2 (.put 1 1) (.n2 (.put 0 1) (.lit (.agg #[(.slice none 0 0), (.map none), (.slice none 0 0), (.slice none 0 0), (.map none)])) (.slot 16)) (.slot 17)),
    .need (.n2 (.put 2 1) (.n2 (.put 1 1) (.n2 (.put 0 1) (.lit (.agg #[(.slice none 0 0), (.map none), (.slice none 0 0), (.slice none 0 0), (.map none)])) (.slot 16)) (.slot 17)) (.slot 20)),
    .need (.n2 (.put 3 1) (.n2 (.put 2 1) (.n2 (.put 1 1) (.n2 (.put 0 1) (.lit (.agg #[(.slice none 0 0), (.map none), (.slice none 0 0), (.slice none 0 0), (.map none)])) (.slot 16)) (.slot 17)) (.slot 20)) (.slot 23)),
    .need (.n2 (.put 4 1) (.n2 (.put 3 1) (.n2 (.put 2 1) (.n2 (.put 1 1) (.n2 (.put 0 1) (.lit (.agg #[(.slice none 0 0), (.map none), (.slice none 0 0), (.slice none 0 0), (.map none)])) (.slot 16)) (.slot 17)) (.slot 20)) (.slot 23)) (.slot 24)),
    .eff (some 26) (.box 64 (.tmp 25)) 46 [(25, .n2 (.put 4 1) (.n2 (.put 3 1) (.n2 (.put 2 1) (.n2 (.put 1 1) (.n2 (.put 0 1) (.lit (.agg #[(.slice none 0 0), (.map none), (.slice none 0 0), (.slice none 0 0), (.map none)])) (.slot 16)) (.slot 17)) (.slot 20)) (.slot 23)) (.slot 24))] none [],
    .asg 3 (.slot 26)]
  .fin)
def t27_28 : HT :=
  (.run [.eff (some 24) (.makeMap 62 none) 62 [] none [⟨none, .ld, .slot 1⟩, ⟨none, .ld, .slot 1⟩, ⟨none, .ld, .slot 1⟩],
    .eff (some 20) (.makeSlice 60 (.tmp 19) (.tmp 19)) 60 [(19, .slot 19), (19, .slot 19)] none [⟨none, .ld, .slot 1⟩, ⟨none, .ld, .slot 1⟩],
    .need (.n2 (.put 0 1) (.lit (.agg #[(.slice none 0 0), (.map none), (.slice none 0 0), (.slice none 0 0), (.map none)])) (.slot 16)),
    .need (.n2 (.put 1 1) (.n2 (.put 0 1) (.lit (.agg #[(.slice none 0 0), (.map none), (.slice none 0 0), (.slice none 0 0), (.map none)])) (.slot 16)) (.slot 17)),
    .need (.n2 (.put 2 1) (.n2 (.put 1 1) (.n2 (.put 0 1) (.lit (.agg #[(.slice none 0 0), (.map none), (.slice none 0 0), (.slice none 0 0), (.map none)])) (.slot 16)) (.slot 17)) (.slot 20)),
    .need (.n2 (.put 3 1) (.n2 (.put 2 1) (.n2 (.put 1 1) (.n2 (.put 0 1) (.lit (.agg #[(.slice none 0 0), (.map none), (.slice none 0 0), (.slice none 0 0), (.map none)])) (.slot 16)) (.slot 17)) (.slot 20)) (.slot 23)),
    .need (.n2 (.put 4 1) (.n2 (.put 3 1) (.n2 (.put 2 1) (.n2 (.put 1 1) (.n2 (.put 0 1) (.lit (.agg #[(.slice none 0 0), (.map none), (.slice none 0 0), (.slice none 0 0), (.map none)])) (.slot 16)) (.slot 17)) (.slot 20)) (.slot 23)) (.slot 24)),
    .eff (some 26) (.box 64 (.tmp 25)) 46 [(25, .n2 (.put 4 1) (.n2 (.put 3 1) (.n2 (.put 2 1) (.n2 (.put 1 1) (.n2 (.put 0 1) (.lit (.agg #[(.slice none 0 0), (.map none), (.slice none 0 0), (.slice none 0 0), (.map none)])) (.slot 16)) (.slot 17)) (.slot 20)) (.slot 23)) (.slot 24))] none [],
    .asg 3 (.slot 26)]
  .fin)
def t27_26 : HT :=
  (.run [.eff (some 17) (.makeMap 49 none) 49 [] none [⟨none, .ld, .slot 1⟩, ⟨none, .ld, .slot 1⟩, ⟨none, .ld, .slot 1⟩]]
  (.fork
    t27_27
    t27_28))
def t27_31 : HT :=
  (.run [.eff (some 17) (.makeMap 49 none) 49 [] none [⟨none, .ld, .slot 1⟩, ⟨none, .ld, .slot 1⟩, ⟨none, .ld, .slot 1⟩],
    .eff (some 24) (.makeMap 62 none) 62 [] none [⟨none, .ld, .slot 1⟩, ⟨none, .ld, .slot 1⟩, ⟨none, .ld, .slot 1⟩],
    .need (.n2 (.put 0 1) (.lit (.agg #[(.slice none 0 0), (.map none), (.slice none 0 0), (.slice none 0 0), (.map none)])) (.slot 16)),
    .need (.n2 (.put 1 1) (.n2 (.put 0 1) (.lit (.agg #[(.slice none 0 0), (.map none), (.slice none 0 0), (.slice none 0 0), (.map none)])) (.slot 16)) (.slot 17)),
    .need (.n2 (.put 2 1) (.n2 (.put 1 1) (.n2 (.put 0 1) (.lit (.agg #[(.slice none 0 0), (.map none), (.slice none 0 0), (.slice none 0 0), (.map none)])) (.slot 16)) (.slot 17)) (.slot 20)),
    .need (.n2 (.put 3 1) (.n2 (.put 2 1) (.n2 (.put 1 1) (.n2 (.put 0 1) (.lit (.agg #[(.slice none 0 0), (.map none), (.slice none 0 0), (.slice none 0 0), (.map none)])) (.slot 16)) (.slot 17)) (.slot 20)) (.slot 23)),
    .need (.n2 (.put 4 1) (.n2 (.put 3 1) (.n2 (.put 2 1) (.n2 (.put 1 1) (.n2 (.put 0 1) (.lit (.agg #[(.slice none 0 0), (.map none), (.slice none 0 0), (.slice none 0 0), (.map none)])) (.slot 16)) (.slot 17)) (.slot 20)) (.slot 23)) (.slot 24)),
    .eff (some 26) (.box 64 (.tmp 25)) 46 [(25, .n2 (.put 4 1) (.n2 (.put 3 1) (.n2 (.put 2 1) (.n2 (.put 1 1) (.n2 (.put 0 1) (.lit (.agg #[(.slice none 0 0), (.map none), (.slice none 0 0), (.slice none 0 0), (.map none)])) (.slot 16)) (.slot 17)) (.slot 20)) (.slot 23)) (.slot 24))] none [],
    .asg 3 (.slot 26)]
  .fin)
def t27_32 : HT :=
  (.run [.eff (some 24) (.makeMap 62 none) 62 [] none [⟨none, .ld, .slot 1⟩, ⟨none, .ld, .slot 1⟩, ⟨none, .ld, .slot 1⟩],
    .eff (some 17) (.makeMap 49 none) 49 [] none [⟨none, .ld, .slot 1⟩, ⟨none, .ld, .slot 1⟩, ⟨none, .ld, .slot 1⟩],
    .need (.n2 (.put 0 1) (.lit (.agg #[(.slice none 0 0), (.map none), (.slice none 0 0), (.slice none 0 0), (.map none)])) (.slot 16)),
    .need (.n2 (.put 1 1) (.n2 (.put 0 1) (.lit (.agg #[(.slice none 0 0), (.map none), (.slice none 0 0), (.slice none 0 0), (.map none)])) (.slot 16)) (.slot 17)),
    .need (.n2 (.put 2 1) (.n2 (.put 1 1) (.n2 (.put 0 1) (.lit (.agg #[(.slice none 0 0), (.map none), (.slice none 0 0), (.slice none 0 0), (.map none)])) (.slot 16)) (.slot 17)) (.slot 20)),
    .need (.n2 (.put 3 1) (.n2 (.put 2 1) (.n2 (.put 1 1) (.n2 (.put 0 1) (.lit (.agg #[(.slice none 0 0), (.map none), (.slice none 0 0), (.slice none 0 0), (.map none)])) (.slot 16)) (.slot 17)) (.slot 20)) (.slot 23)),
    .need (.n2 (.put 4 1) (.n2 (.put 3 1) (.n2 (.put 2 1) (.n2 (.put 1 1) (.n2 (.put 0 1) (.lit (.agg #[(.slice none 0 0), (.map none), (.slice none 0 0), (.slice none 0 0), (.map none)])) (.slot 16)) (.slot 17)) (.slot 20)) (.slot 23)) (.slot 24)),
    .eff (some 26) (.box 64 (.tmp 25)) 46 [(25, .n2 (.put 4 1) (.n2 (.put 3 1) (.n2 (.put 2 1) (.n2 (.put 1 1) (.n2 (.put 0 1) (.lit (.agg #[(.slice none 0 0), (.map none), (.slice none 0 0), (.slice none 0 0), (.map none)])) (.slot 16)) (.slot 17)) (.slot 20)) (.slot 23)) (.slot 24))] none [],
    .asg 3 (.slot 26)]
  .fin)
def t27_30 : HT :=
  (.run [.eff (some 20) (.makeSlice 60 (.tmp 19) (.tmp 19)) 60 [(19, .slot 19), (19, .slot 19)] none [⟨none, .ld, .slot 1⟩, ⟨none, .ld, .slot 1⟩, ⟨none, .ld, .slot 1⟩]]
  (.fork
    t27_31
    t27_32))
def t27_34 : HT :=
  (.run [.eff (some 17) (.makeMap 49 none) 49 [] none [⟨none, .ld, .slot 1⟩, ⟨none, .ld, .slot 1⟩, ⟨none, .ld, .slot 1⟩],
    .eff (some 20) (.makeSlice 60 (.tmp 19) (.tmp 19)) 60 [(19, .slot 19), (19, .slot 19)] none [⟨none, .ld, .slot 1⟩, ⟨none, .ld, .slot 1⟩],
    .need (.n2 (.put 0 1) (.lit (.agg #[(.slice none 0 0), (.map none), (.slice none 0 0), (.slice none 0 0), (.map none)])) (.slot 16)),
    .need (.n2 (.put 1 1) (.n2 (.put 0 1) (.lit (.agg #[(.slice none 0 0), (.map none), (.slice none 0 0), (.slice none 0 0), (.map none)])) (.slot 16)) (.slot 17)),
    .need (.n2 (.put 2 1) (.n2 (.put 1 1) (.n2 (.put 0 1) (.lit (.agg #[(.slice none 0 0), (.map none), (.slice none 0 0), (.slice none 0 0), (.map none)])) (.slot 16)) (.slot 17)) (.slot 20)),
    .need (.n2 (.put 3 1) (.n2 (.put 2 1) (.n2 (.put 1 1) (.n2 (.put 0 1) (.lit (.agg #[(.slice none 0 0), (.map none), (.slice none 0 0), (.slice none 0 0), (.map none)])) (.slot 16)) (.slot 17)) (.slot 20)) (.slot 23)),
    .need (.n2 (.put 4 1) (.n2 (.put 3 1) (.n2 (.put 2 1) (.n2 (.put 1 1) (.n2 (.put 0 1) (.lit (.agg #[(.slice none 0 0), (.map none), (.slice none 0 0), (.slice none 0 0), (.map none)])) (.slot 16)) (.slot 17)) (.slot 20)) (.slot 23)) (.slot 24)),
    .eff (some 26) (.box 64 (.tmp 25)) 46 [(25, .n2 (.put 4 1) (.n2 (.put 3 1) (.n2 (.put 2 1) (.n2 (.put 1 1) (.n2 (.put 0 1) (.lit (.agg #[(.slice none 0 0), (.map none), (.slice none 0 0), (.slice none 0 0), (.map none)])) (.slot 16)) (.slot 17)) (.slot 20)) (.slot 23)) (.slot 24))] none [],
    .asg 3 (.slot 26)]
  .fin)
def t27_35 : HT :=
  (.run [.eff (some 20) (.makeSlice 60 (.tmp 19) (.tmp 19)) 60 [(19, .slot 19), (19, .slot 19)] none [⟨none, .ld, .slot 1⟩, ⟨none, .ld, .slot 1⟩, ⟨none, .ld, .slot 1⟩],
    .eff (some 17) (.makeMap 49 none) 49 [] none [⟨none, .ld, .slot 1⟩, ⟨none, .ld, .slot 1⟩, ⟨none, .ld, .slot 1⟩],
    .need (.n2 (.put 0 1) (.lit (.agg #[(.slice none 0 0), (.map none), (.slice none 0 0), (.slice none 0 0), (.map none)])) (.slot 16)),
    .need (.n2 (.put 1 1) (.n2 (.put 0 1) (.lit (.agg #[(.slice none 0 0), (.map none), (.slice none 0 0), (.slice none 0 0), (.map none)])) (.slot 16)) (.slot 17)),
    .need (.n2 (.put 2 1) (.n2 (.put 1 1) (.n2 (.put 0 1) (.lit (.agg #[(.slice none 0 0), (.map none), (.slice none 0 0), (.slice none 0 0), (.map none)])) (.slot 16)) (.slot 17)) (.slot 20)),
    .need (.n2 (.put 3 1) (.n2 (.put 2 1) (.n2 (.put 1 1) (.n2 (.put 0 1) (.lit (.agg #[(.slice none 0 0), (.map none), (.slice none 0 0), (.slice none 0 0), (.map none)])) (.slot 16)) (.slot 17)) (.slot 20)) (.slot 23)),
    .need (.n2 (.put 4 1) (.n2 (.put 3 1) (.n2 (.put 2 1) (.n2 (.put 1 1) (.n2 (.put 0 1) (.lit (.agg #[(.slice none 0 0), (.map none), (.slice none 0 0), (.slice none 0 0), (.map none)])) (.slot 16)) (.slot 17)) (.slot 20)) (.slot 23)) (.slot 24)),
    .eff (some 26) (.box 64 (.tmp 25)) 46 [(25, .n2 (.put 4 1) (.n2 (.put 3 1) (.n2 (.put 2 1) (.n2 (.put 1 1) (.n2 (.put 0 1) (.lit (.agg #[(.slice none 0 0), (.map none), (.slice none 0 0), (.slice none 0 0), (.map none)])) (.slot 16)) (.slot 17)) (.slot 20)) (.slot 23)) (.slot 24))] none [],
    .asg 3 (.slot 26)]
  .fin)
def t27_33 : HT :=
  (.run [.eff (some 24) (.makeMap 62 none) 62 [] none [⟨none, .ld, .slot 1⟩, ⟨none, .ld, .slot 1⟩, ⟨none, .ld, .slot 1⟩]]
  (.fork
    t27_34
    t27_35))
def t27_29 : HT :=
  (.fork
    t27_30
    t27_33)
def t27_25 : HT :=
  (.run [.eff (some 23) (.makeSlice 61 (.tmp 22) (.tmp 22)) 61 [(22, .slot 22), (22, .slot 22)] none [⟨none, .ld, .slot 1⟩, ⟨none, .ld, .slot 1⟩, ⟨none, .ld, .slot 1⟩]]
  (.fork
    t27_26
    t27_29))
def t27_38 : HT :=
  (.run [.eff (some 20) (.makeSlice 60 (.tmp 19) (.tmp 19)) 60 [(19, .slot 19), (19, .slot 19)] none [⟨none, .ld, .slot 1⟩, ⟨none, .ld, .slot 1⟩, ⟨none, .ld, .slot 1⟩],
    .eff (some 23) (.makeSlice 61 (.tmp 22) (.tmp 22)) 61 [(22, .slot 22), (22, .slot 22)] none [⟨none, .ld, .slot 1⟩, ⟨none, .ld, .slot 1⟩],
    .need (.n2 (.put 0 1) (.lit (.agg #[(.slice none 0 0), (.map none), (.slice none 0 0), (.slice none 0 0), (.map none)])) (.slot 16)),
    .need (.n2 (.put 1 1) (.n2 (.put 0 1) (.lit (.agg #[(.slice none 0 0), (.map none), (.slice none 0 0), (.slice none 0 0), (.map none)])) (.slot 16)) (.slot 17)),
    .need (.n2 (.put 2 1) (.n2 (.put 1 1) (.n2 (.put 0 1) (.lit (.agg #[(.slice none 0 0), (.map none), (.slice none 0 0), (.slice none 0 0), (.map none)])) (.slot 16)) (.slot 17)) (.slot 20)),
    .need (.n2 (.put 3 1) (.n2 (.put 2 1) (.n2 (.put 1 1) (.n2 (.put 0 1) (.lit (.agg #[(.slice none 0 0), (.map none), (.slice none 0 0), (.slice none 0 0), (.map none)])) (.slot 16)) (.slot 17)) (.slot 20)) (.slot 23)),
    .need (.n2 (.put 4 1) (.n2 (.put 3 1) (.n2 (.put 2 1) (.n2 (.put 1 1) (.n2 (.put 0 1) (.lit (.agg #[(.slice none 0 0), (.map none), (.slice none 0 0), (.slice none 0 0), (.map none)])) (.slot 16)) (.slot 17)) (.slot 20)) (.slot 23)) (.slot 24)),
    .eff (some 26) (.box 64 (.tmp 25)) 46 [(25, .n2 (.put 4 1) (.n2 (.put 3 1) (.n2 (.put 2 1) (.n2 (.put 1 1) (.n2 (.put 0 1) (.lit (.agg #[(.slice none 0 0), (.map none), (.slice none 0 0), (.slice none 0 0), (.map none)])) (.slot 16)) (.slot 17)) (.slot 20)) (.slot 23)) (.slot 24))] none [],
    .asg 3 (.slot 26)]
  .fin)
def t27_39 : HT :=
  (.run [.eff (some 23) (.makeSlice 61 (.tmp 22) (.tmp 22)) 61 [(22, .slot 22), (22, .slot 22)] none [⟨none, .ld, .slot 1⟩, ⟨none, .ld, .slot 1⟩, ⟨none, .ld, .slot 1⟩],
    .eff (some 20) (.makeSlice 60 (.tmp 19) (.tmp 19)) 60 [(19, .slot 19), (19, .slot 19)] none [⟨none, .ld, .slot 1⟩, ⟨none, .ld, .slot 1⟩],
    .need (.n2 (.put 0 1) (.lit (.agg #[(.slice none 0 0), (.map none), (.slice none 0 0), (.slice none 0 0), (.map none)])) (.slot 16)),
    .need (.n2 (.put 1 1) (.n2 (.put 0 1) (.lit (.agg #[(.slice none 0 0), (.map none), (.slice none 0 0), (.slice none 0 0), (.map none)])) (.slot 16)) (.slot 17)),
    .need (.n2 (.put 2 1) (.n2 (.put 1 1) (.n2 (.put 0 1) (.lit (.agg #[(.slice none 0 0), (.map none), (.slice none 0 0), (.slice none 0 0), (.map none)])) (.slot 16)) (.slot 17)) (.slot 20)),
    .need (.n2 (.put 3 1) (.n2 (.put 2 1) (.n2 (.put 1 1) (.n2 (.put 0 1) (.lit (.agg #[(.slice none 0 0), (.map none), (.slice none 0 0), (.slice none 0 0), (.map none)])) (.slot 16)) (.slot 17)) (.slot 20)) (.slot 23)),
    .need (.n2 (.put 4 1) (.n2 (.put 3 1) (.n2 (.put 2 1) (.n2 (.put 1 1) (.n2 (.put 0 1) (.lit (.agg #[(.slice none 0 0), (.map none), (.slice none 0 0), (.slice none 0 0), (.map none)])) (.slot 16)) (.slot 17)) (.slot 20)) (.slot 23)) (.slot 24)),
    .eff (some 26) (.box 64 (.tmp 25)) 46 [(25, .n2 (.put 4 1) (.n2 (.put 3 1) (.n2 (.put 2 1) (.n2 (.put 1 1) (.n2 (.put 0 1) (.lit (.agg #[(.slice none 0 0), (.map none), (.slice none 0 0), (.slice none 0 0), (.map none)])) (.slot 16)) (.slot 17)) (.slot 20)) (.slot 23)) (.slot 24))] none [],
    .asg 3 (.slot 26)]
  .fin)
def t27_37 : HT :=
  (.run [.eff (some 17) (.makeMap 49 none) 49 [] none [⟨none, .ld, .slot 1⟩, ⟨none, .ld, .slot 1⟩, ⟨none, .ld, .slot 1⟩]]
  (.fork
    t27_38
    t27_39))
def t27_42 : HT :=
  (.run [.eff (some 17) (.makeMap 49 none) 49 [] none [⟨none, .ld, .slot 1⟩, ⟨none, .ld, .slot 1⟩, ⟨none, .ld, .slot 1⟩],
    .eff (some 23) (.makeSlice 61 (.tmp 22) (.tmp 22)) 61 [(22, .slot 22), (22, .slot 22)] none [⟨none, .ld, .slot 1⟩, ⟨none, .ld, .slot 1⟩],
    .need (.n2 (.put 0 1) (.lit (.agg #[(.slice none 0 0), (.map none), (.slice none 0 0), (.slice none 0 0), (.map none)])) (.slot 16)),
    .need (.n2 (.put 1 1) (.n2 (.put 0 1) (.lit (.agg #[(.slice none 0 0), (.map none), (.slice none 0 0), (.slice none 0 0), (.map none)])) (.slot 16)) (.slot 17)),
    .need (.n2 (.put 2 1) (.n2 (.put 1 1) (.n2 (.put 0 1) (.lit (.agg #[(.slice none 0 0), (.map none), (.slice none 0 0), (.slice none 0 0), (.map none)])) (.slot 16)) (.slot 17)) (.slot 20)),
    .need (.n2 (.put 3 1) (.n2 (.put 2 1) (.n2 (.put 1 1) (.n2 (.put 0 1) (.lit (.agg #[(.slice none 0 0), (.map none), (.slice none 0 0), (.slice none 0 0), (.map none)])) (.slot 16)) (.slot 17)) (.slot 20)) (.slot 23)),
    .need (.n2 (.put 4 1) (.n2 (.put 3 1) (.n2 (.put 2 1) (.n2 (.put 1 1) (.n2 (.put 0 1) (.lit (.agg #[(.slice none 0 0), (.map none), (.slice none 0 0), (.slice none 0 0), (.map none)])) (.slot 16)) (.slot 17)) (.slot 20)) (.slot 23)) (.slot 24)),
    .eff (some 26) (.box 64 (.tmp 25)) 46 [(25, .n2 (.put 4 1) (.n2 (.put 3 1) (.n2 (.put 2 1) (.n2 (.put 1 1) (.n2 (.put 0 1) (.lit (.agg #[(.slice none 0 0), (.map none), (.slice none 0 0), (.slice none 0 0), (.map none)])) (.slot 16)) (.slot 17)) (.slot 20)) (.slot 23)) (.slot 24))] none [],
    .asg 3 (.slot 26)]
  .fin)
def t27_43 : HT :=
  (.run [.eff (some 23) (.makeSlice 61 (.tmp 22) (.tmp 22)) 61 [(22, .slot 22), (22, .slot 22)] none [⟨none, .ld, .slot 1⟩, ⟨none, .ld, .slot 1⟩, ⟨none, .ld, .slot 1⟩],
    .eff (some 17) (.makeMap 49 none) 49 [] none [⟨none, .ld, .slot 1⟩, ⟨none, .ld, .slot 1⟩, ⟨none, .ld, .slot 1⟩],
    .need (.n2 (.put 0 1) (.lit (.agg #[(.slice none 0 0), (.map none), (.slice none 0 0), (.slice none 0 0), (.map none)])) (.slot 16)),
    .need (.n2 (.put 1 1) (.n2 (.put 0 1) (.lit (.agg #[(.slice none 0 0), (.map none), (.slice none 0 0), (.slice none 0 0), (.map none)])) (.slot 16)) (.slot 17)),
    .need (.n2 (.put 2 1) (.n2 (.put 1 1) (.n2 (.put 0 1) (.lit (.agg #[(.slice none 0 0), (.map none), (.slice none 0 0), (.slice none 0 0), (.map none)])) (.slot 16)) (.slot 17)) (.slot 20)),
    .need (.n2 (.put 3 1) (.n2 (.put 2 1) (.n2 (.put 1 1) (.n2 (.put 0 1) (.lit (.agg #[(.slice none 0 0), (.map none), (.slice none 0 0), (.slice none 0 0), (.map none)])) (.slot 16)) (.slot 17)) (.slot 20)) (.slot 23)),
    .need (.n2 (.put 4 1) (.n2 (.put 3 1) (.n2 (.put 2 1) (.n2 (.put 1 1) (.n2 (.put 0 1) (.lit (.agg #[(.slice none 0 0), (.map none), (.slice none 0 0), (.slice none 0 0), (.map none)])) (.slot 16)) (.slot 17)) (.slot 20)) (.slot 23)) (.slot 24)),
    .eff (some 26) (.box 64 (.tmp 25)) 46 [(25, .n2 (.put 4 1) (.n2 (.put 3 1) (.n2 (.put 2 1) (.n2 (.put 1 1) (.n2 (.put 0 1) (.lit (.agg #[(.slice none 0 0), (.map none), (.slice none 0 0), (.slice none 0 0), (.map none)])) (.slot 16)) (.slot 17)) (.slot 20)) (.slot 23)) (.slot 24))] none [],
    .asg 3 (.slot 26)]
  .fin)
def t27_41 : HT :=
  (.run [.eff (some 20) (.makeSlice 60 (.tmp 19) (.tmp 19)) 60 [(19, .slot 19), (19, .slot 19)] none [⟨none, .ld, .slot 1⟩, ⟨none, .ld, .slot 1⟩, ⟨none, .ld, .slot 1⟩]]
  (.fork
    t27_42
    t27_43))
def t27_45 : HT :=
  (.run [.eff (some 17) (.makeMap 49 none) 49 [] none [⟨none, .ld, .slot 1⟩, ⟨none, .ld, .slot 1⟩, ⟨none, .ld, .slot 1⟩],
    .eff (some 20) (.makeSlice 60 (.tmp 19) (.tmp 19)) 60 [(19, .slot 19), (19, .slot 19)] none [⟨none, .ld, .slot 1⟩, ⟨none, .ld, .slot 1⟩],
    .need (.n2 (.put 0 1) (.lit (.agg #[(.slice none 0 0), (.map none), (.slice none 0 0), (.slice none 0 0), (.map none)])) (.slot 16)),
    .need (.n2 (.put 1 1) (.n2 (.put 0 1) (.lit (.agg #[(.slice none 0 0), (.map none), (.slice none 0 0), (.slice none 0 0), (.map none)])) (.slot 16)) (.slot 17)),
    .need (.n2 (.put 2 1) (.n2 (.put 1 1) (.n2 (.put 0 1) (.lit (.agg #[(.slice none 0 0), (.map none), (.slice none 0 0), (.slice none 0 0), (.map none)])) (.slot 16)) (.slot 17)) (.slot 20)),
    .need (.n2 (.put 3 1) (.n2 (.put 2 1) (.n2 (.put 1 1) (.n2 (.put 0 1) (.lit (.agg #[(.slice none 0 0), (.map none), (.slice none 0 0), (.slice none 0 0), (.map none)])) (.slot 16)) (.slot 17)) (.slot 20)) (.slot 23)),
    .need (.n2 (.put 4 1) (.n2 (.put 3 1) (.n2 (.put 2 1) (.n2 (.put 1 1) (.n2 (.put 0 1) (.lit (.agg #[(.slice none 0 0), (.map none), (.slice none 0 0), (.slice none 0 0), (.map none)])) (.slot 16)) (.slot 17)) (.slot 20)) (.slot 23)) (.slot 24)),
    .eff (some 26) (.box 64 (.tmp 25)) 46 [(25, .n2 (.put 4 1) (.n2 (.put 3 1) (.n2 (.put 2 1) (.n2 (.put 1 1) (.n2 (.put 0 1) (.lit (.agg #[(.slice none 0 0), (.map none), (.slice none 0 0), (.slice none 0 0), (.map none)])) (.slot 16)) (.slot 17)) (.slot 20)) (.slot 23)) (.slot 24))] none [],
    .asg 3 (.slot 26)]
  .fin)
def t27_46 : HT :=
  (.run [.eff (some 20) (.makeSlice 60 (.tmp 19) (.tmp 19)) 60 [(19, .slot 19), (19, .slot 19)] none [⟨none, .ld, .slot 1⟩, ⟨none, .ld, .slot 1⟩, ⟨none, .ld, .slot 1⟩],
    .eff (some 17) (.makeMap 49 none) 49 [] none [⟨none, .ld, .slot 1⟩, ⟨none, .ld, .slot 1⟩, ⟨none, .ld, .slot 1⟩],
    .need (.n2 (.put 0 1) (.lit (.agg #[(.slice none 0 0), (.map none), (.slice none 0 0), (.slice none 0 0), (.map none)])) (.slot 16)),
    .need (.n2 (.put 1 1) (.n2 (.put 0 1) (.lit (.agg #[(.slice none 0 0), (.map none), (.slice none 0 0), (.slice none 0 0), (.map none)])) (.slot 16)) (.slot 17)),
    .need (.n2 (.put 2 1) (.n2 (.put 1 1) (.n2 (.put 0 1) (.lit (.agg #[(.slice none 0 0), (.map none), (.slice none 0 0), (.slice none 0 0), (.map none)])) (.slot 16)) (.slot 17)) (.slot 20)),
    .need (.n2 (.put 3 1) (.n2 (.put 2 1) (.n2 (.put 1 1) (.n2 (.put 0 1) (.lit (.agg #[(.slice none 0 0), (.map none), (.slice none 0 0), (.slice none 0 0), (.map none)])) (.slot 16)) (.slot 17)) (.slot 20)) (.slot 23)),
    .need (.n2 (.put 4 1) (.n2 (.put 3 1) (.n2 (.put 2 1) (.n2 (.put 1 1) (.n2 (.put 0 1) (.lit (.agg #[(.slice none 0 0), (.map none), (.slice none 0 0), (.slice none 0 0), (.map none)])) (.slot 16)) (.slot 17)) (.slot 20)) (.slot 23)) (.slot 24)),
    .eff (some 26) (.box 64 (.tmp 25)) 46 [(25, .n2 (.put 4 1) (.n2 (.put 3 1) (.n2 (.put 2 1) (.n2 (.put 1 1) (.n2 (.put 0 1) (.lit (.agg #[(.slice none 0 0), (.map none), (.slice none 0 0), (.slice none 0 0), (.map none)])) (.slot 16)) (.slot 17)) (.slot 20)) (.slot 23)) (.slot 24))] none [],
    .asg 3 (.slot 26)]
  .fin)
def t27_44 : HT :=
  (.run [.eff (some 23) (.makeSlice 61 (.tmp 22) (.tmp 22)) 61 [(22, .slot 22), (22, .slot 22)] none [⟨none, .ld, .slot 1⟩, ⟨none, .ld, .slot 1⟩, ⟨none, .ld, .slot 1⟩]]
  (.fork
    t27_45
    t27_46))
def t27_40 : HT :=
  (.fork
    t27_41
    t27_44)
def t27_36 : HT :=
  (.run [.eff (some 24) (.makeMap 62 none) 62 [] none [⟨none, .ld, .slot 1⟩, ⟨none, .ld, .slot 1⟩, ⟨none, .ld, .slot 1⟩]]
  (.fork
    t27_37
    t27_40))
def t27_24 : HT :=
  (.fork
    t27_25
    t27_36)
def t27_12 : HT :=
  (.fork
    t27_13
    t27_24)
def h27_50 : HC :=
  (.reg [.need (.n2 (.bin .add) (.slot 29) (.lit (.int .i64 1))),
    .asg 29 (.n2 (.bin .add) (.slot 29) (.lit (.int .i64 1)))])
def h27_49 : HC :=
  (.seq
  (.block 1
    (.seq
    (.reg [.need (.n2 (.iaddr 5) (.slot 27) (.slot 29)),
      .need (.n1 (.ldn 5) (.n2 (.iaddr 5) (.slot 27) (.slot 29))),
      .asg 33 (.n1 (.ldn 5) (.n2 (.iaddr 5) (.slot 27) (.slot 29))),
      .eff (some 5) (.alloc 34) 0 [] none [],
      .asg 4 (.slot 29),
      .eff none (.store 34 (.tmp 5) (.tmp 33)) 0 [(5, .slot 5), (33, .slot 33)] none []])
    (.draw [.need (.n1 .nilchk (.slot 3)),
      .need (.n1 (.faddr 1) (.n1 .nilchk (.slot 3))),
      .need (.n1 .ld (.n1 (.faddr 1) (.n1 .nilchk (.slot 3)))),
      .need (.n1 (.faddr 0) (.slot 5)),
      .need (.n1 .ld (.n1 (.faddr 0) (.slot 5))),
      .eff none (.mapUpdate 49 (.tmp 37) (.tmp 39) (.tmp 40)) 0 [(37, .n1 .ld (.n1 (.faddr 1) (.n1 .nilchk (.slot 3)))), (39, .n1 .ld (.n1 (.faddr 0) (.slot 5))), (40, .slot 4)] none []])))
  h27_50)
def h27_48 : HC :=
  (.seq
  (.reg [.need (.n2 (.bin .lss) (.slot 29) (.slot 28)),
    .asg 30 (.n2 (.bin .lss) (.slot 29) (.slot 28))])
  (.seq
  (.cond (.slot 30)
    .skip
    (.exit 0))
  h27_49))
def h27_57 : HC :=
  (.reg [.need (.n2 (.bin .add) (.slot 59) (.lit (.int .i64 1))),
    .asg 59 (.n2 (.bin .add) (.slot 59) (.lit (.int .i64 1)))])
def h27_56 : HC :=
  (.seq
  (.block 5
    (.seq
    (.reg [.need (.n2 (.iaddr 1) (.slot 57) (.slot 59)),
      .need (.n1 .ld (.n2 (.iaddr 1) (.slot 57) (.slot 59))),
      .asg 10 (.n1 .ld (.n2 (.iaddr 1) (.slot 57) (.slot 59)))])
    (.seq
    (.reg [.need (.n1 .nilchk (.slot 3)),
      .need (.n1 (.faddr 1) (.n1 .nilchk (.slot 3))),
      .need (.n1 .ld (.n1 (.faddr 1) (.n1 .nilchk (.slot 3)))),
      .eff (some 69) (.lookup 49 (.tmp 67) (.tmp 68) true) 54 [(67, .n1 .ld (.n1 (.faddr 1) (.n1 .nilchk (.slot 3)))), (68, .slot 10)] none [],
      .need (.n1 (.ext 0) (.slot 69)),
      .need (.n1 (.ext 1) (.slot 69)),
      .asg 11 (.n1 (.ext 0) (.slot 69)),
      .asg 12 (.n1 (.ext 1) (.slot 69))])
    (.seq
    (.reg [.asg 72 (.slot 12)])
    (.cond (.slot 72)
      (.reg [.need (.n1 .nilchk (.slot 3)),
        .need (.n1 (.faddr 2) (.n1 .nilchk (.slot 3))),
        .need (.n1 .ld (.n1 (.faddr 2) (.n1 .nilchk (.slot 3)))),
        .need (.n2 (.iaddr 1) (.n1 .ld (.n1 (.faddr 2) (.n1 .nilchk (.slot 3)))) (.slot 6)),
        .eff none (.store 3 (.tmp 79) (.tmp 78)) 0 [(79, .n2 (.iaddr 1) (.n1 .ld (.n1 (.faddr 2) (.n1 .nilchk (.slot 3)))) (.slot 6)), (78, .slot 11)] none []])
      .skip)))))
  h27_57)
def h27_55 : HC :=
  (.seq
  (.reg [.need (.n2 (.bin .lss) (.slot 59) (.slot 58)),
    .asg 60 (.n2 (.bin .lss) (.slot 59) (.slot 58))])
  (.seq
  (.cond (.slot 60)
    .skip
    (.exit 4))
  h27_56))
def t27_59 : HT :=
  (.run [.eff (some 102) (.lookup 62 (.tmp 100) (.tmp 101) false) 60 [(100, .slot 100), (101, .slot 13)] none [⟨none, .ld, .n1 (.faddr 4) (.n1 .nilchk (.slot 3))⟩, ⟨none, .ld, .n1 (.faddr 4) (.n1 .nilchk (.slot 3))⟩],
    .eff (some 104) (.buildSlice 60 1 #[(0, .tmp 103)]) 60 [(103, .slot 6)] none [⟨none, .ld, .n1 (.faddr 4) (.n1 .nilchk (.slot 3))⟩, ⟨none, .ld, .n1 (.faddr 4) (.n1 .nilchk (.slot 3))⟩],
    .eff (some 105) (.call { callee := .builtin .append, args := #[.tmp 102, .tmp 104], argTypes := #[60, 60] }) 60 [(102, .slot 102), (104, .slot 104)] none [⟨none, .ld, .n1 (.faddr 4) (.n1 .nilchk (.slot 3))⟩],
    .eff none (.mapUpdate 62 (.tmp 95) (.tmp 96) (.tmp 105)) 0 [(95, .slot 95), (96, .slot 13), (105, .slot 105)] none []]
  .fin)
def t27_60 : HT :=
  (.run [.eff (some 104) (.buildSlice 60 1 #[(0, .tmp 103)]) 60 [(103, .slot 6)] none [⟨none, .ld, .n1 (.faddr 4) (.n1 .nilchk (.slot 3))⟩, ⟨none, .ld, .n1 (.faddr 4) (.n1 .nilchk (.slot 3))⟩],
    .eff (some 102) (.lookup 62 (.tmp 100) (.tmp 101) false) 60 [(100, .slot 100), (101, .slot 13)] none [⟨none, .ld, .n1 (.faddr 4) (.n1 .nilchk (.slot 3))⟩],
    .eff (some 105) (.call { callee := .builtin .append, args := #[.tmp 102, .tmp 104], argTypes := #[60, 60] }) 60 [(102, .slot 102), (104, .slot 104)] none [⟨none, .ld, .n1 (.faddr 4) (.n1 .nilchk (.slot 3))⟩],
    .eff none (.mapUpdate 62 (.tmp 95) (.tmp 96) (.tmp 105)) 0 [(95, .slot 95), (96, .slot 13), (105, .slot 105)] none []]
  .fin)
def h27_58 : HC :=
  (.seq
  (.reg [.need (.n1 .lensl (.slot 8)),
    .need (.n2 (.bin .eql) (.n1 .lensl (.slot 8)) (.lit (.int .i64 0))),
    .need (.gif (.n2 (.bin .eql) (.n1 .lensl (.slot 8)) (.lit (.int .i64 0))) true (.n1 (.faddr 4) (.slot 7))),
    .need (.gif (.n2 (.bin .eql) (.n1 .lensl (.slot 8)) (.lit (.int .i64 0))) true (.n1 .ld (.n1 (.faddr 4) (.slot 7)))),
    .need (.gif (.n2 (.bin .eql) (.n1 .lensl (.slot 8)) (.lit (.int .i64 0))) true (.n1 .bnot (.n1 .ld (.n1 (.faddr 4) (.slot 7))))),
    .need (.n3 .pick (.n2 (.bin .eql) (.n1 .lensl (.slot 8)) (.lit (.int .i64 0))) (.n1 .bnot (.n1 .ld (.n1 (.faddr 4) (.slot 7)))) (.lit (.bool false))),
    .asg 88 (.n3 .pick (.n2 (.bin .eql) (.n1 .lensl (.slot 8)) (.lit (.int .i64 0))) (.n1 .bnot (.n1 .ld (.n1 (.faddr 4) (.slot 7)))) (.lit (.bool false)))])
  (.cond (.slot 88)
    (.seq
    (.reg [.need (.n1 (.faddr 3) (.slot 7)),
      .need (.n1 .ld (.n1 (.faddr 3) (.slot 7))),
      .eff (some 91) (.call { callee := .value (.func 33), args := #[.tmp 90], argTypes := #[9] }) 9 [(90, .n1 .ld (.n1 (.faddr 3) (.slot 7)))] none [],
      .asg 13 (.slot 91)])
    (.drawT
      (.run [.need (.n1 .nilchk (.slot 3)),
        .need (.n1 (.faddr 4) (.n1 .nilchk (.slot 3))),
        .need (.n1 .ld (.n1 (.faddr 4) (.n1 .nilchk (.slot 3)))),
        .asg 95 (.n1 .ld (.n1 (.faddr 4) (.n1 .nilchk (.slot 3)))),
        .need (.n1 .nilchk (.slot 3)),
        .need (.n1 (.faddr 4) (.n1 .nilchk (.slot 3))),
        .need (.n1 .ld (.n1 (.faddr 4) (.n1 .nilchk (.slot 3)))),
        .asg 100 (.n1 .ld (.n1 (.faddr 4) (.n1 .nilchk (.slot 3))))]
      (.fork
        t27_59
        t27_60))))
    .skip))
def h27_54 : HC :=
  (.seq
  (.seq
  (.reg [.asg 57 (.slot 8),
    .need (.n1 .lensl (.slot 57)),
    .asg 58 (.n1 .lensl (.slot 57)),
    .asg 59 (.lit (.int .i64 0))])
  (.block 4
    (.loop
      h27_55)))
  h27_58)
def h27_61 : HC :=
  (.reg [.need (.n2 (.bin .add) (.slot 44) (.lit (.int .i64 1))),
    .asg 44 (.n2 (.bin .add) (.slot 44) (.lit (.int .i64 1)))])
def h27_53 : HC :=
  (.seq
  (.block 3
    (.seq
    (.reg [.need (.n2 (.iaddr 5) (.slot 42) (.slot 44)),
      .need (.n1 (.ldn 5) (.n2 (.iaddr 5) (.slot 42) (.slot 44))),
      .asg 48 (.n1 (.ldn 5) (.n2 (.iaddr 5) (.slot 42) (.slot 44))),
      .eff (some 7) (.alloc 34) 0 [] none [],
      .asg 6 (.slot 44),
      .eff none (.store 34 (.tmp 7) (.tmp 48)) 0 [(7, .slot 7), (48, .slot 48)] none []])
    (.seq
    (.reg [.need (.n1 .nilchk (.slot 3)),
      .need (.n1 (.faddr 2) (.n1 .nilchk (.slot 3))),
      .need (.n1 .ld (.n1 (.faddr 2) (.n1 .nilchk (.slot 3)))),
      .need (.n2 (.iaddr 1) (.n1 .ld (.n1 (.faddr 2) (.n1 .nilchk (.slot 3)))) (.slot 6)),
      .eff none (.store 3 (.tmp 54) (.const (.int .i64 (-1)))) 0 [(54, .n2 (.iaddr 1) (.n1 .ld (.n1 (.faddr 2) (.n1 .nilchk (.slot 3)))) (.slot 6))] none []])
    (.seq
    (.reg [.need (.n1 (.ldn 5) (.slot 7)),
      .eff (some 56) (.call { callee := .value (.func 37), args := #[.tmp 55], argTypes := #[34] }) 32 [(55, .n1 (.ldn 5) (.slot 7))] none [],
      .asg 8 (.slot 56)])
    h27_54))))
  h27_61)
def h27_52 : HC :=
  (.seq
  (.reg [.need (.n2 (.bin .lss) (.slot 44) (.slot 43)),
    .asg 45 (.n2 (.bin .lss) (.slot 44) (.slot 43))])
  (.seq
  (.cond (.slot 45)
    .skip
    (.exit 2))
  h27_53))
def h27_64 : HC :=
  (.block 7
    (.seq
    (.reg [.eff (some 114) (.entry (.tmp 111)) 0 [(111, .slot 111)] none [],
      .need (.n1 (.ext 1) (.slot 114)),
      .asg 15 (.n1 (.ext 1) (.slot 114))])
    (.reg [.eff (some 118) (.call { callee := .value (.func 38), args := #[.tmp 116, .tmp 117], argTypes := #[60, 71] }) 0 [(116, .slot 15), (117, .n2 .capt (.lit (.func (.func 39) #[] #[])) (.slot 1))] none []])))
def h27_63 : HC :=
  (.seq
  (.reg [.eff (some 112) (.next (.tmp 111) false) 0 [(111, .slot 111)] none [],
    .need (.n1 (.ext 0) (.slot 112)),
    .asg 113 (.n1 (.ext 0) (.slot 112))])
  (.seq
  (.cond (.slot 113)
    .skip
    (.exit 6))
  h27_64))
def h27_65 : HC :=
  (.seq
  (.reg [.eff (some 120) (.call { callee := .value (.func 40), args := #[.tmp 119], argTypes := #[46] }) 0 [(119, .slot 3)] none []])
  (.seq
  (.reg [.asg 2 (.slot 3)])
  .ret))
def h27_62 : HC :=
  (.seq
  (.seq
  (.reg [.need (.n1 .nilchk (.slot 3)),
    .need (.n1 (.faddr 4) (.n1 .nilchk (.slot 3))),
    .need (.n1 .ld (.n1 (.faddr 4) (.n1 .nilchk (.slot 3)))),
    .eff (some 111) (.range 62 (.tmp 110)) 0 [(110, .n1 .ld (.n1 (.faddr 4) (.n1 .nilchk (.slot 3))))] none []])
  (.block 6
    (.loop
      h27_63)))
  h27_65)
def h27_51 : HC :=
  (.seq
  (.seq
  (.reg [.need (.n1 .ld (.slot 1)),
    .asg 42 (.n1 .ld (.slot 1)),
    .need (.n1 .lensl (.slot 42)),
    .asg 43 (.n1 .lensl (.slot 42)),
    .asg 44 (.lit (.int .i64 0))])
  (.block 2
    (.loop
      h27_52)))
  h27_62)
def h27_47 : HC :=
  (.seq
  (.seq
  (.reg [.need (.n1 .ld (.slot 1)),
    .asg 27 (.n1 .ld (.slot 1)),
    .need (.n1 .lensl (.slot 27)),
    .asg 28 (.n1 .lensl (.slot 27)),
    .asg 29 (.lit (.int .i64 0))])
  (.block 0
    (.loop
      h27_48)))
  h27_51)
def h27 : HC :=
  (.seq
  (.reg [.eff (some 1) (.box 22 (.tmp 0)) 0 [(0, .slot 0)] none [],
    .asg 2 (.lit (.pointer none))])
  (.seq
  (.drawT
    (.run [.need (.n1 .ld (.slot 1)),
      .asg 16 (.n1 .ld (.slot 1)),
      .need (.n1 .ld (.slot 1)),
      .need (.n1 .lensl (.n1 .ld (.slot 1))),
      .asg 19 (.n1 .lensl (.n1 .ld (.slot 1))),
      .need (.n1 .ld (.slot 1)),
      .need (.n1 .lensl (.n1 .ld (.slot 1))),
      .asg 22 (.n1 .lensl (.n1 .ld (.slot 1)))]
    (.fork
      t27_1
      t27_12)))
  h27_47))
theorem k27 : fnOK Try.prog 1700544449051419804922717388286967295 [⟨1, [0, 0, 0, 4, 12, 0, 32, 96, 0, 511, 1023, 2047], [], (some (.op 0 [] (.op 2 [] (.op 3 [] (.op 5 [] (.op 6 [] (.fork (.op 1 [0, 2, 5] (.fork (.op 4 [0, 2, 5] (.fork (.op 7 [0, 2, 5] (.op 8 [0, 2, 5] (.op 9 [] (.op 10 [] (.op 11 [] .nil))))) (.op 8 [0, 2, 5] (.op 7 [0, 2] (.op 9 [] (.op 10 [] (.op 11 [] .nil))))))) (.fork (.op 7 [0, 2, 5] (.fork (.op 4 [0, 2, 5] (.op 8 [0, 2, 5] (.op 9 [] (.op 10 [] (.op 11 [] .nil))))) (.op 8 [0, 2, 5] (.op 4 [0, 5] (.op 9 [] (.op 10 [] (.op 11 [] .nil))))))) (.op 8 [0, 2, 5] (.fork (.op 4 [0, 2, 5] (.op 7 [0, 2] (.op 9 [] (.op 10 [] (.op 11 [] .nil))))) (.op 7 [0, 2, 5] (.op 4 [0, 5] (.op 9 [] (.op 10 [] (.op 11 [] .nil)))))))))) (.fork (.op 4 [0, 2, 5] (.fork (.op 1 [0, 2, 5] (.fork (.op 7 [0, 2, 5] (.op 8 [0, 2, 5] (.op 9 [] (.op 10 [] (.op 11 [] .nil))))) (.op 8 [0, 2, 5] (.op 7 [0, 2] (.op 9 [] (.op 10 [] (.op 11 [] .nil))))))) (.fork (.op 7 [0, 2, 5] (.fork (.op 1 [0, 2, 5] (.op 8 [0, 2, 5] (.op 9 [] (.op 10 [] (.op 11 [] .nil))))) (.op 8 [0, 2, 5] (.op 1 [0, 2, 5] (.op 9 [] (.op 10 [] (.op 11 [] .nil))))))) (.op 8 [0, 2, 5] (.fork (.op 1 [0, 2, 5] (.op 7 [0, 2] (.op 9 [] (.op 10 [] (.op 11 [] .nil))))) (.op 7 [0, 2, 5] (.op 1 [0, 2, 5] (.op 9 [] (.op 10 [] (.op 11 [] .nil)))))))))) (.fork (.op 7 [0, 2, 5] (.fork (.op 1 [0, 2, 5] (.fork (.op 4 [0, 2, 5] (.op 8 [0, 2, 5] (.op 9 [] (.op 10 [] (.op 11 [] .nil))))) (.op 8 [0, 2, 5] (.op 4 [0, 5] (.op 9 [] (.op 10 [] (.op 11 [] .nil))))))) (.fork (.op 4 [0, 2, 5] (.fork (.op 1 [0, 2, 5] (.op 8 [0, 2, 5] (.op 9 [] (.op 10 [] (.op 11 [] .nil))))) (.op 8 [0, 2, 5] (.op 1 [0, 2, 5] (.op 9 [] (.op 10 [] (.op 11 [] .nil))))))) (.op 8 [0, 2, 5] (.fork (.op 1 [0, 2, 5] (.op 4 [0, 5] (.op 9 [] (.op 10 [] (.op 11 [] .nil))))) (.op 4 [0, 2, 5] (.op 1 [0, 2, 5] (.op 9 [] (.op 10 [] (.op 11 [] .nil)))))))))) (.op 8 [0, 2, 5] (.fork (.op 1 [0, 2, 5] (.fork (.op 4 [0, 2, 5] (.op 7 [0, 2] (.op 9 [] (.op 10 [] (.op 11 [] .nil))))) (.op 7 [0, 2, 5] (.op 4 [0, 5] (.op 9 [] (.op 10 [] (.op 11 [] .nil))))))) (.fork (.op 4 [0, 2, 5] (.fork (.op 1 [0, 2, 5] (.op 7 [0, 2] (.op 9 [] (.op 10 [] (.op 11 [] .nil))))) (.op 7 [0, 2, 5] (.op 1 [0, 2, 5] (.op 9 [] (.op 10 [] (.op 11 [] .nil))))))) (.op 7 [0, 2, 5] (.fork (.op 1 [0, 2, 5] (.op 4 [0, 5] (.op 9 [] (.op 10 [] (.op 11 [] .nil))))) (.op 4 [0, 2, 5] (.op 1 [0, 2, 5] (.op 9 [] (.op 10 [] (.op 11 [] .nil)))))))))))))))))))⟩, ⟨5, [0, 1, 3, 7, 0, 16, 0, 127], [(0, []), (1, []), (2, []), (3, []), (4, []), (5, []), (6, []), (7, [])], none⟩, ⟨21, [0, 1, 3, 7, 0, 0, 32, 96, 224, 0, 992, 0, 2048, 8160, 16383], [], (some (.op 0 [] (.op 1 [] (.op 2 [] (.op 3 [] (.op 4 [] (.op 5 [] (.op 6 [] (.op 7 [] (.op 8 [] (.op 9 [] (.op 11 [] (.fork (.op 10 [3, 8] (.op 12 [3, 8] (.op 13 [3] (.op 14 [] .nil)))) (.op 12 [3, 8] (.op 10 [3] (.op 13 [3] (.op 14 [] .nil)))))))))))))))))⟩] [.tmp 2] 1 Try.f27 = some h27 := by kernel_rfl
theorem c27 : callable Try.prog 27 = true := by kernel_rfl
theorem q27 {args : List Value} (ha : args.length = 1) {w : World} {next : Value → World → Prop} {QP : List PanicEntry → World → Prop} (H : hw Try.prog noPanic h27 (endV [.tmp 2] next) (σ0 args) w) : callK Try.prog 27 args w next QP := fn_rule Try.func27 mixed k27 ha H
theorem r27 {args : List Value} (ha : args.length = 1) {w : World} {next : Value → World → Prop} {QP : List PanicEntry → World → Prop} (H : hw Try.prog noPanic h27 (endV [.tmp 2] next) (σ0 args) w) : callvK Try.prog (.func (.func 27) #[] #[]) args w next QP := callf c27 (q27 ha H)

/- (*missive/thread.forest).parent -/
def h28_4 : HC :=
  (.reg [.need (.n2 (.bin .add) (.slot 71) (.lit (.int .i64 1))),
    .asg 71 (.n2 (.bin .add) (.slot 71) (.lit (.int .i64 1)))])
def h28_3 : HC :=
  (.seq
  (.block 2
    (.seq
    (.reg [.need (.n2 (.iaddr 1) (.slot 69) (.slot 71)),
      .need (.n1 .ld (.n2 (.iaddr 1) (.slot 69) (.slot 71))),
      .asg 9 (.n1 .ld (.n2 (.iaddr 1) (.slot 69) (.slot 71)))])
    (.seq
    (.draw [.need (.n1 .nilchk (.slot 0)),
      .need (.n1 (.faddr 0) (.n1 .nilchk (.slot 0))),
      .need (.n1 .ld (.n1 (.faddr 0) (.n1 .nilchk (.slot 0)))),
      .need (.n2 (.iaddr 5) (.n1 .ld (.n1 (.faddr 0) (.n1 .nilchk (.slot 0)))) (.slot 9)),
      .need (.n1 (.faddr 1) (.n2 (.iaddr 5) (.n1 .ld (.n1 (.faddr 0) (.n1 .nilchk (.slot 0)))) (.slot 9))),
      .need (.n1 .ld (.n1 (.faddr 1) (.n2 (.iaddr 5) (.n1 .ld (.n1 (.faddr 0) (.n1 .nilchk (.slot 0)))) (.slot 9)))),
      .need (.n1 (.faddr 1) (.slot 6)),
      .need (.n1 .ld (.n1 (.faddr 1) (.slot 6))),
      .need (.n2 (.bin .leq) (.n1 .ld (.n1 (.faddr 1) (.n2 (.iaddr 5) (.n1 .ld (.n1 (.faddr 0) (.n1 .nilchk (.slot 0)))) (.slot 9)))) (.n1 .ld (.n1 (.faddr 1) (.slot 6)))),
      .asg 85 (.n2 (.bin .leq) (.n1 .ld (.n1 (.faddr 1) (.n2 (.iaddr 5) (.n1 .ld (.n1 (.faddr 0) (.n1 .nilchk (.slot 0)))) (.slot 9)))) (.n1 .ld (.n1 (.faddr 1) (.slot 6))))])
    (.cond (.slot 85)
      (.seq
      (.reg [.asg 4 (.slot 9),
        .asg 5 (.lit (str []))])
      .ret)
      .skip))))
  h28_4)
def h28_2 : HC :=
  (.seq
  (.reg [.need (.n2 (.bin .lss) (.slot 71) (.slot 70)),
    .asg 72 (.n2 (.bin .lss) (.slot 71) (.slot 70))])
  (.seq
  (.cond (.slot 72)
    .skip
    (.exit 1))
  h28_3))
def h28_5 : HC :=
  (.seq
  (.reg [.asg 4 (.lit (.int .i64 (-1))),
    .asg 5 (.lit (str []))])
  .ret)
def h28_1 : HC :=
  (.seq
  (.seq
  (.draw [.need (.n1 .nilchk (.slot 0)),
    .need (.n1 (.faddr 4) (.n1 .nilchk (.slot 0))),
    .need (.n1 .ld (.n1 (.faddr 4) (.n1 .nilchk (.slot 0)))),
    .asg 65 (.n1 .ld (.n1 (.faddr 4) (.n1 .nilchk (.slot 0)))),
    .need (.n1 (.faddr 3) (.slot 6)),
    .need (.n1 .ld (.n1 (.faddr 3) (.slot 6))),
    .asg 71 (.lit (.int .i64 0)),
    .eff (some 68) (.call { callee := .value (.func 33), args := #[.tmp 67], argTypes := #[9] }) 9 [(67, .n1 .ld (.n1 (.faddr 3) (.slot 6)))] none [⟨none, .ld, .n1 (.faddr 4) (.n1 .nilchk (.slot 0))⟩],
    .eff (some 69) (.lookup 62 (.tmp 65) (.tmp 68) false) 60 [(65, .slot 65), (68, .slot 68)] none [],
    .need (.n1 .lensl (.slot 69)),
    .asg 70 (.n1 .lensl (.slot 69))])
  (.block 1
    (.loop
      h28_2)))
  h28_5)
def h28 : HC :=
  (.seq
  (.reg [.asg 4 (.lit (.int .i64 0)),
    .asg 5 (.lit (str []))])
  (.seq
  (.reg [.need (.n1 .nilchk (.slot 0)),
    .need (.n1 (.faddr 0) (.n1 .nilchk (.slot 0))),
    .need (.n1 .ld (.n1 (.faddr 0) (.n1 .nilchk (.slot 0)))),
    .need (.n2 (.iaddr 5) (.n1 .ld (.n1 (.faddr 0) (.n1 .nilchk (.slot 0)))) (.slot 1)),
    .need (.n1 (.ldn 5) (.n2 (.iaddr 5) (.n1 .ld (.n1 (.faddr 0) (.n1 .nilchk (.slot 0)))) (.slot 1))),
    .asg 16 (.n1 (.ldn 5) (.n2 (.iaddr 5) (.n1 .ld (.n1 (.faddr 0) (.n1 .nilchk (.slot 0)))) (.slot 1))),
    .eff (some 6) (.alloc 34) 0 [] none [],
    .eff none (.store 34 (.tmp 6) (.tmp 16)) 0 [(6, .slot 6), (16, .slot 16)] none []])
  (.seq
  (.reg [.need (.n1 (.ldn 5) (.slot 6)),
    .eff (some 18) (.call { callee := .value (.func 37), args := #[.tmp 17], argTypes := #[34] }) 32 [(17, .n1 (.ldn 5) (.slot 6))] none [],
    .asg 7 (.slot 18)])
  (.seq
  (.block 0
    (.seq
    (.reg [.need (.n1 .nilchk (.slot 0)),
      .need (.n1 (.faddr 3) (.n1 .nilchk (.slot 0))),
      .need (.n1 .ld (.n1 (.faddr 3) (.n1 .nilchk (.slot 0)))),
      .need (.n2 (.iaddr 1) (.n1 .ld (.n1 (.faddr 3) (.n1 .nilchk (.slot 0)))) (.slot 1)),
      .need (.n1 .ld (.n2 (.iaddr 1) (.n1 .ld (.n1 (.faddr 3) (.n1 .nilchk (.slot 0)))) (.slot 1))),
      .asg 19 (.n1 .ld (.n2 (.iaddr 1) (.n1 .ld (.n1 (.faddr 3) (.n1 .nilchk (.slot 0)))) (.slot 1)))])
    (.cond (.slot 19)
      (.seq
      (.reg [.asg 4 (.lit (.int .i64 (-1))),
        .asg 5 (.lit (str []))])
      .ret)
      (.seq
      (.reg [.need (.n1 .nilchk (.slot 0)),
        .need (.n1 (.faddr 2) (.n1 .nilchk (.slot 0))),
        .need (.n1 .ld (.n1 (.faddr 2) (.n1 .nilchk (.slot 0)))),
        .need (.n2 (.iaddr 1) (.n1 .ld (.n1 (.faddr 2) (.n1 .nilchk (.slot 0)))) (.slot 1)),
        .need (.n1 .ld (.n2 (.iaddr 1) (.n1 .ld (.n1 (.faddr 2) (.n1 .nilchk (.slot 0)))) (.slot 1))),
        .need (.n2 (.bin .geq) (.n1 .ld (.n2 (.iaddr 1) (.n1 .ld (.n1 (.faddr 2) (.n1 .nilchk (.slot 0)))) (.slot 1))) (.lit (.int .i64 0))),
        .asg 27 (.n2 (.bin .geq) (.n1 .ld (.n2 (.iaddr 1) (.n1 .ld (.n1 (.faddr 2) (.n1 .nilchk (.slot 0)))) (.slot 1))) (.lit (.int .i64 0)))])
      (.cond (.slot 27)
        (.seq
        (.reg [.need (.n1 .nilchk (.slot 0)),
          .need (.n1 (.faddr 2) (.n1 .nilchk (.slot 0))),
          .need (.n1 .ld (.n1 (.faddr 2) (.n1 .nilchk (.slot 0)))),
          .need (.n2 (.iaddr 1) (.n1 .ld (.n1 (.faddr 2) (.n1 .nilchk (.slot 0)))) (.slot 1)),
          .need (.n1 .ld (.n2 (.iaddr 1) (.n1 .ld (.n1 (.faddr 2) (.n1 .nilchk (.slot 0)))) (.slot 1))),
          .asg 4 (.n1 .ld (.n2 (.iaddr 1) (.n1 .ld (.n1 (.faddr 2) (.n1 .nilchk (.slot 0)))) (.slot 1))),
          .asg 5 (.lit (str []))])
        .ret)
        (.seq
        (.reg [.need (.n1 .lensl (.slot 7)),
          .need (.n2 (.bin .gtr) (.n1 .lensl (.slot 7)) (.lit (.int .i64 0))),
          .asg 43 (.n2 (.bin .gtr) (.n1 .lensl (.slot 7)) (.lit (.int .i64 0)))])
        (.cond (.slot 43)
          (.seq
          (.draw [.need (.n1 .lensl (.slot 7)),
            .need (.n2 (.bin .sub) (.n1 .lensl (.slot 7)) (.lit (.int .i64 1))),
            .need (.n2 (.iaddr 1) (.slot 7) (.n2 (.bin .sub) (.n1 .lensl (.slot 7)) (.lit (.int .i64 1)))),
            .need (.n1 .ld (.n2 (.iaddr 1) (.slot 7) (.n2 (.bin .sub) (.n1 .lensl (.slot 7)) (.lit (.int .i64 1))))),
            .asg 4 (.lit (.int .i64 (-1))),
            .asg 5 (.n1 .ld (.n2 (.iaddr 1) (.slot 7) (.n2 (.bin .sub) (.n1 .lensl (.slot 7)) (.lit (.int .i64 1)))))])
          .ret)
          (.seq
          (.reg [.need (.n1 (.faddr 4) (.slot 6)),
            .need (.n1 .ld (.n1 (.faddr 4) (.slot 6))),
            .need (.n1 .bnot (.n1 .ld (.n1 (.faddr 4) (.slot 6)))),
            .need (.gif (.n1 .bnot (.n1 .ld (.n1 (.faddr 4) (.slot 6)))) false (.n1 (.faddr 3) (.slot 6))),
            .need (.gif (.n1 .bnot (.n1 .ld (.n1 (.faddr 4) (.slot 6)))) false (.n1 .ld (.n1 (.faddr 3) (.slot 6)))),
            .need (.gif (.n1 .bnot (.n1 .ld (.n1 (.faddr 4) (.slot 6)))) false (.n2 (.sbin .eql) (.n1 .ld (.n1 (.faddr 3) (.slot 6))) (.lit (str [])))),
            .need (.n3 .pick (.n1 .bnot (.n1 .ld (.n1 (.faddr 4) (.slot 6)))) (.lit (.bool true)) (.n2 (.sbin .eql) (.n1 .ld (.n1 (.faddr 3) (.slot 6))) (.lit (str [])))),
            .asg 53 (.n3 .pick (.n1 .bnot (.n1 .ld (.n1 (.faddr 4) (.slot 6)))) (.lit (.bool true)) (.n2 (.sbin .eql) (.n1 .ld (.n1 (.faddr 3) (.slot 6))) (.lit (str []))))])
          (.cond (.slot 53)
            (.seq
            (.reg [.asg 4 (.lit (.int .i64 (-1))),
              .asg 5 (.lit (str []))])
            .ret)
            .skip)))))))))
  h28_1))))
theorem k28 : fnOK Try.prog 38694812715232836430136051 [⟨8, [0, 0, 2, 6, 15, 31, 0, 127], [(0, []), (1, []), (2, []), (3, []), (4, []), (5, []), (6, []), (7, [])], none⟩, ⟨11, [0, 1, 3, 7, 0, 16, 48, 127, 255, 0], [(0, []), (1, []), (2, []), (3, []), (4, []), (5, []), (9, []), (6, [3]), (7, []), (8, [])], none⟩, ⟨14, [0, 1, 3, 7, 0, 31, 63, 127, 0, 256, 1023], [(0, []), (1, []), (2, []), (3, []), (4, []), (5, []), (6, []), (7, []), (8, []), (9, []), (10, [])], none⟩] [.tmp 4, .tmp 5] 2 Try.f28 = some h28 := by kernel_rfl
theorem c28 : callable Try.prog 28 = true := by kernel_rfl
theorem q28 {args : List Value} (ha : args.length = 2) {w : World} {next : Value → World → Prop} {QP : List PanicEntry → World → Prop} (H : hw Try.prog noPanic h28 (endV [.tmp 4, .tmp 5] next) (σ0 args) w) : callK Try.prog 28 args w next QP := fn_rule Try.func28 mixed k28 ha H
theorem r28 {args : List Value} (ha : args.length = 2) {w : World} {next : Value → World → Prop} {QP : List PanicEntry → World → Prop} (H : hw Try.prog noPanic h28 (endV [.tmp 4, .tmp 5] next) (σ0 args) w) : callvK Try.prog (.func (.func 28) #[] #[]) args w next QP := callf c28 (q28 ha H)

/- missive/thread.Forest$1 -/
def h29_3 : HC :=
  (.reg [.need (.n1 .ld (.slot 4)),
    .asg 30 (.n1 .ld (.slot 4)),
    .need (.n1 .ld (.slot 5)),
    .need (.n1 (.faddr 0) (.slot 10)),
    .need (.n1 (.faddr 0) (.n1 (.faddr 0) (.slot 10))),
    .need (.n1 .ld (.n1 (.faddr 0) (.n1 (.faddr 0) (.slot 10)))),
    .eff (some 35) (.lookup 48 (.tmp 31) (.tmp 34) false) 50 [(31, .n1 .ld (.slot 5)), (34, .n1 .ld (.n1 (.faddr 0) (.n1 (.faddr 0) (.slot 10))))] none [],
    .need (.n1 .ld (.slot 3)),
    .need (.n1 .lensl (.n1 .ld (.slot 3))),
    .need (.n2 (.bin .sub) (.n1 .lensl (.n1 .ld (.slot 3))) (.lit (.int .i64 1))),
    .need (.n2 (.bin .add) (.slot 2) (.lit (.int .i64 1))),
    .eff (some 41) (.call { callee := .value (.tmp 30), args := #[.tmp 35, .tmp 38, .tmp 40], argTypes := #[50, 3, 3] }) 0 [(30, .slot 30), (35, .slot 35), (38, .n2 (.bin .sub) (.n1 .lensl (.n1 .ld (.slot 3))) (.lit (.int .i64 1))), (40, .n2 (.bin .add) (.slot 2) (.lit (.int .i64 1)))] none []])
def h29_4 : HC :=
  (.reg [.need (.n2 (.bin .add) (.slot 15) (.lit (.int .i64 1))),
    .asg 15 (.n2 (.bin .add) (.slot 15) (.lit (.int .i64 1)))])
def h29_2 : HC :=
  (.seq
  (.block 1
    (.seq
    (.reg [.need (.n2 (.iaddr 6) (.slot 13) (.slot 15)),
      .need (.n1 (.ldn 6) (.n2 (.iaddr 6) (.slot 13) (.slot 15))),
      .asg 18 (.n1 (.ldn 6) (.n2 (.iaddr 6) (.slot 13) (.slot 15))),
      .eff (some 10) (.alloc 53) 0 [] none [],
      .eff none (.store 53 (.tmp 10) (.tmp 18)) 0 [(10, .slot 10), (18, .slot 18)] none []])
    (.seq
    (.reg [.need (.n1 .ld (.slot 3)),
      .asg 19 (.n1 .ld (.slot 3)),
      .need (.n1 (.faddr 0) (.slot 10)),
      .need (.n1 (.faddr 0) (.n1 (.faddr 0) (.slot 10))),
      .need (.n1 .ld (.n1 (.faddr 0) (.n1 (.faddr 0) (.slot 10)))),
      .need (.n1 (.faddr 5) (.slot 10)),
      .need (.n1 .ld (.n1 (.faddr 5) (.slot 10))),
      .need (.n2 (.put 0 1) (.lit (.agg #[(str []), (.bool false), (.int .i64 0), (.int .i64 0)])) (.n1 .ld (.n1 (.faddr 0) (.n1 (.faddr 0) (.slot 10))))),
      .need (.n2 (.put 1 1) (.n2 (.put 0 1) (.lit (.agg #[(str []), (.bool false), (.int .i64 0), (.int .i64 0)])) (.n1 .ld (.n1 (.faddr 0) (.n1 (.faddr 0) (.slot 10))))) (.n1 .ld (.n1 (.faddr 5) (.slot 10)))),
      .need (.n2 (.put 2 1) (.n2 (.put 1 1) (.n2 (.put 0 1) (.lit (.agg #[(str []), (.bool false), (.int .i64 0), (.int .i64 0)])) (.n1 .ld (.n1 (.faddr 0) (.n1 (.faddr 0) (.slot 10))))) (.n1 .ld (.n1 (.faddr 5) (.slot 10)))) (.slot 1)),
      .need (.n2 (.put 3 1) (.n2 (.put 2 1) (.n2 (.put 1 1) (.n2 (.put 0 1) (.lit (.agg #[(str []), (.bool false), (.int .i64 0), (.int .i64 0)])) (.n1 .ld (.n1 (.faddr 0) (.n1 (.faddr 0) (.slot 10))))) (.n1 .ld (.n1 (.faddr 5) (.slot 10)))) (.slot 1)) (.slot 2)),
      .eff (some 28) (.buildSlice 25 1 #[(0, .tmp 27)]) 25 [(27, .n2 (.put 3 1) (.n2 (.put 2 1) (.n2 (.put 1 1) (.n2 (.put 0 1) (.lit (.agg #[(str []), (.bool false), (.int .i64 0), (.int .i64 0)])) (.n1 .ld (.n1 (.faddr 0) (.n1 (.faddr 0) (.slot 10))))) (.n1 .ld (.n1 (.faddr 5) (.slot 10)))) (.slot 1)) (.slot 2))] none [],
      .eff (some 29) (.call { callee := .builtin .append, args := #[.tmp 19, .tmp 28], argTypes := #[25, 25] }) 25 [(19, .slot 19), (28, .slot 28)] none [],
      .eff none (.store 25 (.tmp 3) (.tmp 29)) 0 [(3, .slot 3), (29, .slot 29)] none []])
    h29_3)))
  h29_4)
def h29_1 : HC :=
  (.seq
  (.reg [.need (.n2 (.bin .lss) (.slot 15) (.slot 14)),
    .asg 16 (.n2 (.bin .lss) (.slot 15) (.slot 14))])
  (.seq
  (.cond (.slot 16)
    .skip
    (.exit 0))
  h29_2))
def h29 : HC :=
  (.seq
  (.reg [.eff (some 12) (.call { callee := .value (.func 30), args := #[.tmp 11, .func 31], argTypes := #[50, 58] }) 0 [(11, .slot 0)] none []])
  (.seq
  (.reg [.asg 13 (.slot 0),
    .need (.n1 .lensl (.slot 13)),
    .asg 14 (.n1 .lensl (.slot 13)),
    .asg 15 (.lit (.int .i64 0))])
  (.block 0
    (.loop
      h29_1))))
theorem k29 : fnOK Try.prog 2235262956607 [] [] 6 Try.f29 = some h29 := by kernel_rfl
theorem c29 : callable Try.prog 29 = true := by kernel_rfl
theorem q29 {args : List Value} (ha : args.length = 6) {w : World} {next : Value → World → Prop} {QP : List PanicEntry → World → Prop} (H : hw Try.prog noPanic h29 (endV [] next) (σ0 args) w) : callK Try.prog 29 args w next QP := fn_rule Try.func29 mixed k29 ha H
theorem r29 {args : List Value} (ha : args.length = 6) {w : World} {next : Value → World → Prop} {QP : List PanicEntry → World → Prop} (H : hw Try.prog noPanic h29 (endV [] next) (σ0 args) w) : callvK Try.prog (.func (.func 29) #[] #[]) args w next QP := callf c29 (q29 ha H)

/- slices.SortFunc(()missive/thread.branch,missive/thread.branch) -/
def h30 : HC :=
  (.seq
  (.reg [.need (.n1 .lensl (.slot 0)),
    .asg 4 (.n1 .lensl (.slot 0))])
  (.reg [.need (.n1 (.conv .u64) (.slot 4)),
    .eff (some 11) (.call { callee := .value (.func 42), args := #[.tmp 10], argTypes := #[74] }) 3 [(10, .n1 (.conv .u64) (.slot 4))] none [],
    .eff (some 13) (.call { callee := .value (.func 41), args := #[.tmp 7, .const (.int .i64 0), .tmp 8, .tmp 11, .tmp 12], argTypes := #[50, 3, 3, 3, 58] }) 0 [(7, .slot 0), (8, .slot 4), (11, .slot 11), (12, .slot 1)] none []]))
theorem k30 : fnOK Try.prog 10259 [] [] 2 Try.f30 = some h30 := by kernel_rfl
theorem c30 : callable Try.prog 30 = true := by kernel_rfl
theorem q30 {args : List Value} (ha : args.length = 2) {w : World} {next : Value → World → Prop} {QP : List PanicEntry → World → Prop} (H : hw Try.prog noPanic h30 (endV [] next) (σ0 args) w) : callK Try.prog 30 args w next QP := fn_rule Try.func30 mixed k30 ha H
theorem r30 {args : List Value} (ha : args.length = 2) {w : World} {next : Value → World → Prop} {QP : List PanicEntry → World → Prop} (H : hw Try.prog noPanic h30 (endV [] next) (σ0 args) w) : callvK Try.prog (.func (.func 30) #[] #[]) args w next QP := callf c30 (q30 ha H)

/- missive/thread.Forest$1$1 -/
def h31 : HC :=
  (.seq
  (.reg [.eff (some 2) (.box 53 (.tmp 0)) 0 [(0, .slot 0)] none [],
    .eff (some 3) (.box 53 (.tmp 1)) 0 [(1, .slot 1)] none [],
    .asg 4 (.lit (.int .i64 0))])
  (.seq
  (.reg [.need (.n1 (.faddr 0) (.slot 2)),
    .need (.n1 (.ldn 5) (.n1 (.faddr 0) (.slot 2))),
    .need (.n1 (.faddr 0) (.slot 3)),
    .need (.n1 (.ldn 5) (.n1 (.faddr 0) (.slot 3))),
    .eff (some 9) (.call { callee := .value (.func 32), args := #[.tmp 6, .tmp 8], argTypes := #[34, 34] }) 3 [(6, .n1 (.ldn 5) (.n1 (.faddr 0) (.slot 2))), (8, .n1 (.ldn 5) (.n1 (.faddr 0) (.slot 3)))] none [],
    .asg 4 (.slot 9)])
  .ret))
theorem k31 : fnOK Try.prog 543 [] [.tmp 4] 2 Try.f31 = some h31 := by kernel_rfl
theorem c31 : callable Try.prog 31 = true := by kernel_rfl
theorem q31 {args : List Value} (ha : args.length = 2) {w : World} {next : Value → World → Prop} {QP : List PanicEntry → World → Prop} (H : hw Try.prog noPanic h31 (endV [.tmp 4] next) (σ0 args) w) : callK Try.prog 31 args w next QP := fn_rule Try.func31 mixed k31 ha H
theorem r31 {args : List Value} (ha : args.length = 2) {w : World} {next : Value → World → Prop} {QP : List PanicEntry → World → Prop} (H : hw Try.prog noPanic h31 (endV [.tmp 4] next) (σ0 args) w) : callvK Try.prog (.func (.func 31) #[] #[]) args w next QP := callf c31 (q31 ha H)

/- missive/thread.before -/
def h32 : HC :=
  (.seq
  (.reg [.eff (some 2) (.box 34 (.tmp 0)) 0 [(0, .slot 0)] none [],
    .eff (some 3) (.box 34 (.tmp 1)) 0 [(1, .slot 1)] none [],
    .asg 4 (.lit (.int .i64 0))])
  (.seq
  (.draw [.need (.n1 (.faddr 1) (.slot 2)),
    .need (.n1 .ld (.n1 (.faddr 1) (.slot 2))),
    .need (.n1 (.faddr 1) (.slot 3)),
    .need (.n1 .ld (.n1 (.faddr 1) (.slot 3))),
    .need (.n1 (.faddr 0) (.slot 2)),
    .need (.n1 .ld (.n1 (.faddr 0) (.slot 2))),
    .asg 11 (.n1 .ld (.n1 (.faddr 0) (.slot 2))),
    .need (.n1 (.faddr 0) (.slot 3)),
    .need (.n1 .ld (.n1 (.faddr 0) (.slot 3))),
    .asg 13 (.n1 .ld (.n1 (.faddr 0) (.slot 3))),
    .eff (some 9) (.call { callee := .value (.func 44), args := #[.tmp 6, .tmp 8], argTypes := #[3, 3] }) 3 [(6, .n1 .ld (.n1 (.faddr 1) (.slot 2))), (8, .n1 .ld (.n1 (.faddr 1) (.slot 3)))] none [⟨none, .ld, .n1 (.faddr 0) (.slot 2)⟩, ⟨none, .ld, .n1 (.faddr 0) (.slot 3)⟩],
    .eff (some 14) (.call { callee := .value (.func 45), args := #[.tmp 11, .tmp 13], argTypes := #[9, 9] }) 3 [(11, .slot 11), (13, .slot 13)] none [],
    .eff (some 15) (.buildSlice 60 2 #[(0, .tmp 9), (1, .tmp 14)]) 60 [(9, .slot 9), (14, .slot 14)] none [],
    .eff (some 16) (.call { callee := .value (.func 43), args := #[.tmp 15], argTypes := #[60] }) 3 [(15, .slot 15)] none [],
    .asg 4 (.slot 16)])
  .ret))
theorem k32 : fnOK Try.prog 125471 [⟨1, [0, 1, 0, 4, 15, 0, 32, 0, 128, 511, 1023, 2047, 4095], [(0, []), (1, []), (2, []), (3, []), (5, []), (6, []), (7, []), (8, []), (4, [6, 8]), (9, []), (10, []), (11, []), (12, [])], none⟩] [.tmp 4] 2 Try.f32 = some h32 := by kernel_rfl
theorem c32 : callable Try.prog 32 = true := by kernel_rfl
theorem q32 {args : List Value} (ha : args.length = 2) {w : World} {next : Value → World → Prop} {QP : List PanicEntry → World → Prop} (H : hw Try.prog noPanic h32 (endV [.tmp 4] next) (σ0 args) w) : callK Try.prog 32 args w next QP := fn_rule Try.func32 mixed k32 ha H
theorem r32 {args : List Value} (ha : args.length = 2) {w : World} {next : Value → World → Prop} {QP : List PanicEntry → World → Prop} (H : hw Try.prog noPanic h32 (endV [.tmp 4] next) (σ0 args) w) : callvK Try.prog (.func (.func 32) #[] #[]) args w next QP := callf c32 (q32 ha H)

/- missive/text.Lower -/
def h33 : HC :=
  (.seq
  (.reg [.asg 2 (.lit (str []))])
  (.seq
  (.reg [.eff (some 4) (.call { callee := .value (.func 46), args := #[.tmp 3, .const (.int .u8 65), .const (.int .u8 90), .const (.int .i64 32)], argTypes := #[9, 5, 5, 3] }) 9 [(3, .slot 0)] none [],
    .asg 2 (.slot 4)])
  .ret))
theorem k33 : fnOK Try.prog 21 [] [.tmp 2] 1 Try.f33 = some h33 := by kernel_rfl
theorem c33 : callable Try.prog 33 = true := by kernel_rfl
theorem q33 {args : List Value} (ha : args.length = 1) {w : World} {next : Value → World → Prop} {QP : List PanicEntry → World → Prop} (H : hw Try.prog noPanic h33 (endV [.tmp 2] next) (σ0 args) w) : callK Try.prog 33 args w next QP := fn_rule Try.func33 mixed k33 ha H
theorem r33 {args : List Value} (ha : args.length = 1) {w : World} {next : Value → World → Prop} {QP : List PanicEntry → World → Prop} (H : hw Try.prog noPanic h33 (endV [.tmp 2] next) (σ0 args) w) : callvK Try.prog (.func (.func 33) #[] #[]) args w next QP := callf c33 (q33 ha H)

/- missive/thread.references -/
def h37 : HC :=
  (.seq
  (.reg [.eff (some 1) (.box 34 (.tmp 0)) 0 [(0, .slot 0)] none [],
    .asg 2 (.lit (.slice none 0 0))])
  (.seq
  (.reg [.need (.n1 (.faddr 2) (.slot 1)),
    .need (.n1 .ld (.n1 (.faddr 2) (.slot 1))),
    .eff (some 5) (.call { callee := .value (.func 51), args := #[.tmp 4], argTypes := #[32] }) 32 [(4, .n1 .ld (.n1 (.faddr 2) (.slot 1)))] none [],
    .eff (some 7) (.call { callee := .value (.func 50), args := #[.tmp 5, .tmp 6], argTypes := #[32, 85] }) 32 [(5, .slot 5), (6, .n2 .capt (.lit (.func (.func 52) #[] #[])) (.slot 1))] none [],
    .asg 2 (.slot 7)])
  .ret))
theorem k37 : fnOK Try.prog 167 [] [.tmp 2] 1 Try.f37 = some h37 := by kernel_rfl
theorem c37 : callable Try.prog 37 = true := by kernel_rfl
theorem q37 {args : List Value} (ha : args.length = 1) {w : World} {next : Value → World → Prop} {QP : List PanicEntry → World → Prop} (H : hw Try.prog noPanic h37 (endV [.tmp 2] next) (σ0 args) w) : callK Try.prog 37 args w next QP := fn_rule Try.func37 mixed k37 ha H
theorem r37 {args : List Value} (ha : args.length = 1) {w : World} {next : Value → World → Prop} {QP : List PanicEntry → World → Prop} (H : hw Try.prog noPanic h37 (endV [.tmp 2] next) (σ0 args) w) : callvK Try.prog (.func (.func 37) #[] #[]) args w next QP := callf c37 (q37 ha H)

/- slices.SortFunc(()int,int) -/
def h38 : HC :=
  (.seq
  (.reg [.need (.n1 .lensl (.slot 0)),
    .asg 4 (.n1 .lensl (.slot 0))])
  (.reg [.need (.n1 (.conv .u64) (.slot 4)),
    .eff (some 11) (.call { callee := .value (.func 42), args := #[.tmp 10], argTypes := #[74] }) 3 [(10, .n1 (.conv .u64) (.slot 4))] none [],
    .eff (some 13) (.call { callee := .value (.func 53), args := #[.tmp 7, .const (.int .i64 0), .tmp 8, .tmp 11, .tmp 12], argTypes := #[60, 3, 3, 3, 71] }) 0 [(7, .slot 0), (8, .slot 4), (11, .slot 11), (12, .slot 1)] none []]))
theorem k38 : fnOK Try.prog 10259 [] [] 2 Try.f38 = some h38 := by kernel_rfl
theorem c38 : callable Try.prog 38 = true := by kernel_rfl
theorem q38 {args : List Value} (ha : args.length = 2) {w : World} {next : Value → World → Prop} {QP : List PanicEntry → World → Prop} (H : hw Try.prog noPanic h38 (endV [] next) (σ0 args) w) : callK Try.prog 38 args w next QP := fn_rule Try.func38 mixed k38 ha H
theorem r38 {args : List Value} (ha : args.length = 2) {w : World} {next : Value → World → Prop} {QP : List PanicEntry → World → Prop} (H : hw Try.prog noPanic h38 (endV [] next) (σ0 args) w) : callvK Try.prog (.func (.func 38) #[] #[]) args w next QP := callf c38 (q38 ha H)

/- missive/thread.study$1 -/
def h39 : HC :=
  (.seq
  (.reg [.asg 5 (.lit (.int .i64 0))])
  (.seq
  (.draw [.need (.n1 .ld (.slot 2)),
    .need (.n2 (.iaddr 5) (.n1 .ld (.slot 2)) (.slot 0)),
    .need (.n1 (.ldn 5) (.n2 (.iaddr 5) (.n1 .ld (.slot 2)) (.slot 0))),
    .need (.n1 .ld (.slot 2)),
    .need (.n2 (.iaddr 5) (.n1 .ld (.slot 2)) (.slot 1)),
    .need (.n1 (.ldn 5) (.n2 (.iaddr 5) (.n1 .ld (.slot 2)) (.slot 1))),
    .eff (some 14) (.call { callee := .value (.func 32), args := #[.tmp 9, .tmp 13], argTypes := #[34, 34] }) 3 [(9, .n1 (.ldn 5) (.n2 (.iaddr 5) (.n1 .ld (.slot 2)) (.slot 0))), (13, .n1 (.ldn 5) (.n2 (.iaddr 5) (.n1 .ld (.slot 2)) (.slot 1)))] none [],
    .asg 5 (.slot 14)])
  .ret))
theorem k39 : fnOK Try.prog 16423 [⟨1, [0, 0, 3, 7, 0, 0, 48, 112, 255, 511], [(0, []), (1, []), (2, []), (3, []), (4, []), (5, []), (6, []), (7, []), (8, []), (9, [])], none⟩] [.tmp 5] 3 Try.f39 = some h39 := by kernel_rfl
theorem c39 : callable Try.prog 39 = true := by kernel_rfl
theorem q39 {args : List Value} (ha : args.length = 3) {w : World} {next : Value → World → Prop} {QP : List PanicEntry → World → Prop} (H : hw Try.prog noPanic h39 (endV [.tmp 5] next) (σ0 args) w) : callK Try.prog 39 args w next QP := fn_rule Try.func39 mixed k39 ha H
theorem r39 {args : List Value} (ha : args.length = 3) {w : World} {next : Value → World → Prop} {QP : List PanicEntry → World → Prop} (H : hw Try.prog noPanic h39 (endV [.tmp 5] next) (σ0 args) w) : callvK Try.prog (.func (.func 39) #[] #[]) args w next QP := callf c39 (q39 ha H)

/- (*missive/thread.forest).circles -/
def h40_5 : HC :=
  (.reg [.need (.n1 .ld (.slot 1)),
    .need (.n1 .nilchk (.n1 .ld (.slot 1))),
    .need (.n1 (.faddr 2) (.n1 .nilchk (.n1 .ld (.slot 1)))),
    .need (.n1 .ld (.n1 (.faddr 2) (.n1 .nilchk (.n1 .ld (.slot 1))))),
    .need (.n2 (.iaddr 1) (.n1 .ld (.n1 (.faddr 2) (.n1 .nilchk (.n1 .ld (.slot 1))))) (.slot 5)),
    .need (.n1 .ld (.n2 (.iaddr 1) (.n1 .ld (.n1 (.faddr 2) (.n1 .nilchk (.n1 .ld (.slot 1))))) (.slot 5))),
    .asg 5 (.n1 .ld (.n2 (.iaddr 1) (.n1 .ld (.n1 (.faddr 2) (.n1 .nilchk (.n1 .ld (.slot 1))))) (.slot 5)))])
def h40_4 : HC :=
  (.seq
  (.block 3
    (.seq
    (.reg [.need (.n2 (.iaddr 1) (.slot 2) (.slot 5)),
      .eff none (.store 3 (.tmp 43) (.const (.int .i64 1))) 0 [(43, .n2 (.iaddr 1) (.slot 2) (.slot 5))] none []])
    (.reg [.eff (some 46) (.buildSlice 60 1 #[(0, .tmp 45)]) 60 [(45, .slot 5)] none [],
      .eff (some 47) (.call { callee := .builtin .append, args := #[.tmp 44, .tmp 46], argTypes := #[60, 60] }) 60 [(44, .slot 4), (46, .slot 46)] none [],
      .asg 4 (.slot 47)])))
  h40_5)
def h40_3 : HC :=
  (.seq
  (.seq
  (.reg [.need (.n2 (.bin .geq) (.slot 5) (.lit (.int .i64 0))),
    .need (.gif (.n2 (.bin .geq) (.slot 5) (.lit (.int .i64 0))) true (.n2 (.iaddr 1) (.slot 2) (.slot 5))),
    .need (.gif (.n2 (.bin .geq) (.slot 5) (.lit (.int .i64 0))) true (.n1 .ld (.n2 (.iaddr 1) (.slot 2) (.slot 5)))),
    .need (.gif (.n2 (.bin .geq) (.slot 5) (.lit (.int .i64 0))) true (.n2 (.bin .eql) (.n1 .ld (.n2 (.iaddr 1) (.slot 2) (.slot 5))) (.lit (.int .i64 0)))),
    .need (.n3 .pick (.n2 (.bin .geq) (.slot 5) (.lit (.int .i64 0))) (.n2 (.bin .eql) (.n1 .ld (.n2 (.iaddr 1) (.slot 2) (.slot 5))) (.lit (.int .i64 0))) (.lit (.bool false))),
    .asg 33 (.n3 .pick (.n2 (.bin .geq) (.slot 5) (.lit (.int .i64 0))) (.n2 (.bin .eql) (.n1 .ld (.n2 (.iaddr 1) (.slot 2) (.slot 5))) (.lit (.int .i64 0))) (.lit (.bool false)))])
  (.cond (.slot 33)
    .skip
    (.exit 2)))
  h40_4)
def h40_10 : HC :=
  (.reg [.need (.n2 (.bin .add) (.slot 73) (.lit (.int .i64 1))),
    .asg 73 (.n2 (.bin .add) (.slot 73) (.lit (.int .i64 1)))])
def h40_9 : HC :=
  (.seq
  (.block 5
    (.seq
    (.reg [.need (.n2 (.iaddr 1) (.slot 71) (.slot 73)),
      .need (.n1 .ld (.n2 (.iaddr 1) (.slot 71) (.slot 73))),
      .asg 9 (.n1 .ld (.n2 (.iaddr 1) (.slot 71) (.slot 73)))])
    (.reg [.need (.n2 (.iaddr 1) (.slot 2) (.slot 9)),
      .eff none (.store 3 (.tmp 79) (.const (.int .i64 2))) 0 [(79, .n2 (.iaddr 1) (.slot 2) (.slot 9))] none []])))
  h40_10)
def h40_8 : HC :=
  (.seq
  (.reg [.need (.n2 (.bin .lss) (.slot 73) (.slot 72)),
    .asg 74 (.n2 (.bin .lss) (.slot 73) (.slot 72))])
  (.seq
  (.cond (.slot 74)
    .skip
    (.exit 4))
  h40_9))
def h40_7 : HC :=
  (.seq
  (.reg [.asg 71 (.slot 4),
    .need (.n1 .lensl (.slot 71)),
    .asg 72 (.n1 .lensl (.slot 71)),
    .asg 73 (.lit (.int .i64 0))])
  (.block 4
    (.loop
      h40_8)))
def h40_6 : HC :=
  (.seq
  (.seq
  (.reg [.need (.n2 (.bin .geq) (.slot 5) (.lit (.int .i64 0))),
    .need (.gif (.n2 (.bin .geq) (.slot 5) (.lit (.int .i64 0))) true (.n2 (.iaddr 1) (.slot 2) (.slot 5))),
    .need (.gif (.n2 (.bin .geq) (.slot 5) (.lit (.int .i64 0))) true (.n1 .ld (.n2 (.iaddr 1) (.slot 2) (.slot 5)))),
    .need (.gif (.n2 (.bin .geq) (.slot 5) (.lit (.int .i64 0))) true (.n2 (.bin .eql) (.n1 .ld (.n2 (.iaddr 1) (.slot 2) (.slot 5))) (.lit (.int .i64 1)))),
    .need (.n3 .pick (.n2 (.bin .geq) (.slot 5) (.lit (.int .i64 0))) (.n2 (.bin .eql) (.n1 .ld (.n2 (.iaddr 1) (.slot 2) (.slot 5))) (.lit (.int .i64 1))) (.lit (.bool false))),
    .asg 56 (.n3 .pick (.n2 (.bin .geq) (.slot 5) (.lit (.int .i64 0))) (.n2 (.bin .eql) (.n1 .ld (.n2 (.iaddr 1) (.slot 2) (.slot 5))) (.lit (.int .i64 1))) (.lit (.bool false)))])
  (.cond (.slot 56)
    (.seq
    (.reg [.eff (some 60) (.call { callee := .value (.func 54), args := #[.tmp 58, .tmp 59], argTypes := #[60, 3] }) 3 [(58, .slot 4), (59, .slot 5)] none [],
      .need (.n3 (.slv 1 true false) (.slot 4) (.slot 60) (.lit (.tuple #[]))),
      .asg 6 (.n3 (.slv 1 true false) (.slot 4) (.slot 60) (.lit (.tuple #[])))])
    (.seq
    (.reg [.eff (some 64) (.call { callee := .value (.func 55), args := #[.tmp 62, .tmp 63], argTypes := #[60, 71] }) 3 [(62, .slot 6), (63, .n2 .capt (.lit (.func (.func 56) #[] #[])) (.slot 1))] none [],
      .asg 7 (.slot 64)])
    (.reg [.need (.n1 .ld (.slot 1)),
      .need (.n1 .nilchk (.n1 .ld (.slot 1))),
      .need (.n1 (.faddr 3) (.n1 .nilchk (.n1 .ld (.slot 1)))),
      .need (.n1 .ld (.n1 (.faddr 3) (.n1 .nilchk (.n1 .ld (.slot 1))))),
      .need (.n2 (.iaddr 1) (.n1 .ld (.n1 (.faddr 3) (.n1 .nilchk (.n1 .ld (.slot 1))))) (.slot 7)),
      .eff none (.store 4 (.tmp 70) (.const (.bool true))) 0 [(70, .n2 (.iaddr 1) (.n1 .ld (.n1 (.faddr 3) (.n1 .nilchk (.n1 .ld (.slot 1))))) (.slot 7))] none []])))
    .skip))
  h40_7)
def h40_11 : HC :=
  (.reg [.need (.n2 (.bin .add) (.slot 21) (.lit (.int .i64 1))),
    .asg 21 (.n2 (.bin .add) (.slot 21) (.lit (.int .i64 1)))])
def h40_2 : HC :=
  (.seq
  (.block 1
    (.seq
    (.reg [.asg 3 (.slot 21)])
    (.seq
    (.reg [.asg 4 (.lit (.slice none 0 0))])
    (.seq
    (.reg [.asg 5 (.slot 3)])
    (.seq
    (.block 2
      (.loop
        h40_3))
    h40_6)))))
  h40_11)
def h40_1 : HC :=
  (.seq
  (.reg [.need (.n2 (.bin .lss) (.slot 21) (.slot 20)),
    .asg 22 (.n2 (.bin .lss) (.slot 21) (.slot 20))])
  (.seq
  (.cond (.slot 22)
    .skip
    (.exit 0))
  h40_2))
def h40 : HC :=
  (.seq
  (.reg [.eff (some 1) (.box 46 (.tmp 0)) 0 [(0, .slot 0)] none []])
  (.seq
  (.reg [.need (.n1 .ld (.slot 1)),
    .need (.n1 .nilchk (.n1 .ld (.slot 1))),
    .need (.n1 (.faddr 0) (.n1 .nilchk (.n1 .ld (.slot 1)))),
    .need (.n1 .ld (.n1 (.faddr 0) (.n1 .nilchk (.n1 .ld (.slot 1))))),
    .need (.n1 .lensl (.n1 .ld (.n1 (.faddr 0) (.n1 .nilchk (.n1 .ld (.slot 1)))))),
    .eff (some 15) (.makeSlice 60 (.tmp 14) (.tmp 14)) 60 [(14, .n1 .lensl (.n1 .ld (.n1 (.faddr 0) (.n1 .nilchk (.n1 .ld (.slot 1)))))), (14, .n1 .lensl (.n1 .ld (.n1 (.faddr 0) (.n1 .nilchk (.n1 .ld (.slot 1))))))] none [],
    .asg 2 (.slot 15)])
  (.seq
  (.reg [.need (.n1 .ld (.slot 1)),
    .need (.n1 .nilchk (.n1 .ld (.slot 1))),
    .need (.n1 (.faddr 0) (.n1 .nilchk (.n1 .ld (.slot 1)))),
    .need (.n1 .ld (.n1 (.faddr 0) (.n1 .nilchk (.n1 .ld (.slot 1))))),
    .need (.n1 .lensl (.n1 .ld (.n1 (.faddr 0) (.n1 .nilchk (.n1 .ld (.slot 1)))))),
    .asg 20 (.n1 .lensl (.n1 .ld (.n1 (.faddr 0) (.n1 .nilchk (.n1 .ld (.slot 1)))))),
    .asg 21 (.lit (.int .i64 0))])
  (.block 0
    (.loop
      h40_1)))))
theorem k40 : fnOK Try.prog 35437420555809523270399 [] [] 1 Try.f40 = some h40 := by kernel_rfl
theorem c40 : callable Try.prog 40 = true := by kernel_rfl
theorem q40 {args : List Value} (ha : args.length = 1) {w : World} {next : Value → World → Prop} {QP : List PanicEntry → World → Prop} (H : hw Try.prog noPanic h40 (endV [] next) (σ0 args) w) : callK Try.prog 40 args w next QP := fn_rule Try.func40 mixed k40 ha H
theorem r40 {args : List Value} (ha : args.length = 1) {w : World} {next : Value → World → Prop} {QP : List PanicEntry → World → Prop} (H : hw Try.prog noPanic h40 (endV [] next) (σ0 args) w) : callvK Try.prog (.func (.func 40) #[] #[]) args w next QP := callf c40 (q40 ha H)

/- math/bits.Len -/
def h42_1 : HC :=
  (.seq
  (.reg [.eff (some 7) (.call { callee := .value (.func 66), args := #[.tmp 6], argTypes := #[99] }) 3 [(6, .slot 0)] none [],
    .asg 2 (.slot 7)])
  .ret)
def h42 : HC :=
  (.seq
  (.reg [.asg 2 (.lit (.int .i64 0))])
  (.seq
  (.cond (.lit (.bool false))
    (.seq
    (.reg [.need (.n1 (.conv .u32) (.slot 0)),
      .eff (some 5) (.call { callee := .value (.func 65), args := #[.tmp 4], argTypes := #[97] }) 3 [(4, .n1 (.conv .u32) (.slot 0))] none [],
      .asg 2 (.slot 5)])
    .ret)
    .skip)
  h42_1))
theorem k42 : fnOK Try.prog 165 [] [.tmp 2] 1 Try.f42 = some h42 := by kernel_rfl
theorem c42 : callable Try.prog 42 = true := by kernel_rfl
theorem q42 {args : List Value} (ha : args.length = 1) {w : World} {next : Value → World → Prop} {QP : List PanicEntry → World → Prop} (H : hw Try.prog noPanic h42 (endV [.tmp 2] next) (σ0 args) w) : callK Try.prog 42 args w next QP := fn_rule Try.func42 mixed k42 ha H
theorem r42 {args : List Value} (ha : args.length = 1) {w : World} {next : Value → World → Prop} {QP : List PanicEntry → World → Prop} (H : hw Try.prog noPanic h42 (endV [.tmp 2] next) (σ0 args) w) : callvK Try.prog (.func (.func 42) #[] #[]) args w next QP := callf c42 (q42 ha H)

/- cmp.Or(int) -/
def h43_3 : HC :=
  (.reg [.need (.n2 (.bin .add) (.slot 8) (.lit (.int .i64 1))),
    .asg 8 (.n2 (.bin .add) (.slot 8) (.lit (.int .i64 1)))])
def h43_2 : HC :=
  (.seq
  (.block 1
    (.seq
    (.reg [.need (.n2 (.iaddr 1) (.slot 6) (.slot 8)),
      .need (.n1 .ld (.n2 (.iaddr 1) (.slot 6) (.slot 8))),
      .asg 5 (.n1 .ld (.n2 (.iaddr 1) (.slot 6) (.slot 8)))])
    (.seq
    (.reg [.need (.n2 (.bin .neq) (.slot 5) (.slot 3)),
      .asg 14 (.n2 (.bin .neq) (.slot 5) (.slot 3))])
    (.cond (.slot 14)
      (.seq
      (.reg [.asg 2 (.slot 5)])
      .ret)
      .skip))))
  h43_3)
def h43_1 : HC :=
  (.seq
  (.reg [.need (.n2 (.bin .lss) (.slot 8) (.slot 7)),
    .asg 9 (.n2 (.bin .lss) (.slot 8) (.slot 7))])
  (.seq
  (.cond (.slot 9)
    .skip
    (.exit 0))
  h43_2))
def h43_4 : HC :=
  (.seq
  (.reg [.asg 2 (.slot 3)])
  .ret)
def h43 : HC :=
  (.seq
  (.reg [.asg 2 (.lit (.int .i64 0))])
  (.seq
  (.reg [.asg 3 (.lit (.int .i64 0))])
  (.seq
  (.seq
  (.reg [.asg 6 (.slot 0),
    .need (.n1 .lensl (.slot 6)),
    .asg 7 (.n1 .lensl (.slot 6)),
    .asg 8 (.lit (.int .i64 0))])
  (.block 0
    (.loop
      h43_1)))
  h43_4)))
theorem k43 : fnOK Try.prog 17389 [] [.tmp 2] 1 Try.f43 = some h43 := by kernel_rfl
theorem c43 : callable Try.prog 43 = true := by kernel_rfl
theorem q43 {args : List Value} (ha : args.length = 1) {w : World} {next : Value → World → Prop} {QP : List PanicEntry → World → Prop} (H : hw Try.prog noPanic h43 (endV [.tmp 2] next) (σ0 args) w) : callK Try.prog 43 args w next QP := fn_rule Try.func43 mixed k43 ha H
theorem r43 {args : List Value} (ha : args.length = 1) {w : World} {next : Value → World → Prop} {QP : List PanicEntry → World → Prop} (H : hw Try.prog noPanic h43 (endV [.tmp 2] next) (σ0 args) w) : callvK Try.prog (.func (.func 43) #[] #[]) args w next QP := callf c43 (q43 ha H)

/- cmp.Compare(int) -/
def h44_1 : HC :=
  (.seq
  (.reg [.asg 4 (.lit (.int .i64 (-1)))])
  .ret)
def h44_5 : HC :=
  (.seq
  (.reg [.asg 4 (.lit (.int .i64 0))])
  .ret)
def h44_4 : HC :=
  (.seq
  (.seq
  (.reg [.need (.n2 (.bin .gtr) (.slot 0) (.slot 1)),
    .asg 19 (.n2 (.bin .gtr) (.slot 0) (.slot 1))])
  (.cond (.slot 19)
    (.seq
    (.reg [.asg 4 (.lit (.int .i64 1))])
    .ret)
    .skip))
  h44_5)
def h44_3 : HC :=
  (.seq
  (.seq
  (.reg [.need (.n2 (.bin .lss) (.slot 0) (.slot 1)),
    .asg 16 (.n2 (.bin .lss) (.slot 0) (.slot 1))])
  (.cond (.slot 16)
    (.seq
    (.reg [.asg 4 (.lit (.int .i64 (-1)))])
    .ret)
    .skip))
  h44_4)
def h44_2 : HC :=
  (.seq
  (.seq
  (.reg [.asg 13 (.slot 6)])
  (.cond (.slot 13)
    (.seq
    (.reg [.asg 4 (.lit (.int .i64 1))])
    .ret)
    .skip))
  h44_3)
def h44 : HC :=
  (.seq
  (.reg [.asg 4 (.lit (.int .i64 0))])
  (.seq
  (.reg [.eff (some 8) (.call { callee := .value (.func 67), args := #[.tmp 7], argTypes := #[3] }) 4 [(7, .slot 0)] none [],
    .asg 5 (.slot 8)])
  (.seq
  (.reg [.eff (some 10) (.call { callee := .value (.func 67), args := #[.tmp 9], argTypes := #[3] }) 4 [(9, .slot 1)] none [],
    .asg 6 (.slot 10)])
  (.seq
  (.seq
  (.reg [.asg 11 (.slot 5)])
  (.cond (.slot 11)
    (.seq
    (.seq
    (.reg [.asg 12 (.slot 6)])
    (.cond (.slot 12)
      (.seq
      (.reg [.asg 4 (.lit (.int .i64 0))])
      .ret)
      .skip))
    h44_1)
    .skip))
  h44_2))))
theorem k44 : fnOK Try.prog 605555 [] [.tmp 4] 2 Try.f44 = some h44 := by kernel_rfl
theorem c44 : callable Try.prog 44 = true := by kernel_rfl
theorem q44 {args : List Value} (ha : args.length = 2) {w : World} {next : Value → World → Prop} {QP : List PanicEntry → World → Prop} (H : hw Try.prog noPanic h44 (endV [.tmp 4] next) (σ0 args) w) : callK Try.prog 44 args w next QP := fn_rule Try.func44 mixed k44 ha H
theorem r44 {args : List Value} (ha : args.length = 2) {w : World} {next : Value → World → Prop} {QP : List PanicEntry → World → Prop} (H : hw Try.prog noPanic h44 (endV [.tmp 4] next) (σ0 args) w) : callvK Try.prog (.func (.func 44) #[] #[]) args w next QP := callf c44 (q44 ha H)

/- cmp.Compare(string) -/
def h45_1 : HC :=
  (.seq
  (.reg [.asg 4 (.lit (.int .i64 (-1)))])
  .ret)
def h45_5 : HC :=
  (.seq
  (.reg [.asg 4 (.lit (.int .i64 0))])
  .ret)
def h45_4 : HC :=
  (.seq
  (.seq
  (.reg [.need (.n2 (.sbin .gtr) (.slot 0) (.slot 1)),
    .asg 19 (.n2 (.sbin .gtr) (.slot 0) (.slot 1))])
  (.cond (.slot 19)
    (.seq
    (.reg [.asg 4 (.lit (.int .i64 1))])
    .ret)
    .skip))
  h45_5)
def h45_3 : HC :=
  (.seq
  (.seq
  (.reg [.need (.n2 (.sbin .lss) (.slot 0) (.slot 1)),
    .asg 16 (.n2 (.sbin .lss) (.slot 0) (.slot 1))])
  (.cond (.slot 16)
    (.seq
    (.reg [.asg 4 (.lit (.int .i64 (-1)))])
    .ret)
    .skip))
  h45_4)
def h45_2 : HC :=
  (.seq
  (.seq
  (.reg [.asg 13 (.slot 6)])
  (.cond (.slot 13)
    (.seq
    (.reg [.asg 4 (.lit (.int .i64 1))])
    .ret)
    .skip))
  h45_3)
def h45 : HC :=
  (.seq
  (.reg [.asg 4 (.lit (.int .i64 0))])
  (.seq
  (.reg [.eff (some 8) (.call { callee := .value (.func 68), args := #[.tmp 7], argTypes := #[9] }) 4 [(7, .slot 0)] none [],
    .asg 5 (.slot 8)])
  (.seq
  (.reg [.eff (some 10) (.call { callee := .value (.func 68), args := #[.tmp 9], argTypes := #[9] }) 4 [(9, .slot 1)] none [],
    .asg 6 (.slot 10)])
  (.seq
  (.seq
  (.reg [.asg 11 (.slot 5)])
  (.cond (.slot 11)
    (.seq
    (.seq
    (.reg [.asg 12 (.slot 6)])
    (.cond (.slot 12)
      (.seq
      (.reg [.asg 4 (.lit (.int .i64 0))])
      .ret)
      .skip))
    h45_1)
    .skip))
  h45_2))))
theorem k45 : fnOK Try.prog 605555 [] [.tmp 4] 2 Try.f45 = some h45 := by kernel_rfl
theorem c45 : callable Try.prog 45 = true := by kernel_rfl
theorem q45 {args : List Value} (ha : args.length = 2) {w : World} {next : Value → World → Prop} {QP : List PanicEntry → World → Prop} (H : hw Try.prog noPanic h45 (endV [.tmp 4] next) (σ0 args) w) : callK Try.prog 45 args w next QP := fn_rule Try.func45 mixed k45 ha H
theorem r45 {args : List Value} (ha : args.length = 2) {w : World} {next : Value → World → Prop} {QP : List PanicEntry → World → Prop} (H : hw Try.prog noPanic h45 (endV [.tmp 4] next) (σ0 args) w) : callvK Try.prog (.func (.func 45) #[] #[]) args w next QP := callf c45 (q45 ha H)

/- missive/text.mapped -/
def h46_3 : HC :=
  (.reg [.need (.n2 (.bin .add) (.slot 16) (.lit (.int .i64 1))),
    .asg 16 (.n2 (.bin .add) (.slot 16) (.lit (.int .i64 1)))])
def h46_2 : HC :=
  (.seq
  (.block 1
    (.seq
    (.reg [.need (.n2 (.iaddr 1) (.slot 14) (.slot 16)),
      .need (.n1 .ld (.n2 (.iaddr 1) (.slot 14) (.slot 16))),
      .asg 10 (.slot 16),
      .asg 11 (.n1 .ld (.n2 (.iaddr 1) (.slot 14) (.slot 16)))])
    (.seq
    (.reg [.need (.n2 (.bin .geq) (.slot 11) (.slot 1)),
      .need (.gif (.n2 (.bin .geq) (.slot 11) (.slot 1)) true (.n2 (.bin .leq) (.slot 11) (.slot 2))),
      .need (.n3 .pick (.n2 (.bin .geq) (.slot 11) (.slot 1)) (.n2 (.bin .leq) (.slot 11) (.slot 2)) (.lit (.bool false))),
      .asg 28 (.n3 .pick (.n2 (.bin .geq) (.slot 11) (.slot 1)) (.n2 (.bin .leq) (.slot 11) (.slot 2)) (.lit (.bool false)))])
    (.cond (.slot 28)
      (.reg [.need (.n1 (.conv .i64) (.slot 11)),
        .need (.n2 (.bin .add) (.n1 (.conv .i64) (.slot 11)) (.slot 3)),
        .need (.n1 (.conv .u8) (.n2 (.bin .add) (.n1 (.conv .i64) (.slot 11)) (.slot 3))),
        .need (.n2 (.iaddr 1) (.slot 9) (.slot 10)),
        .eff none (.store 5 (.tmp 36) (.tmp 35)) 0 [(36, .n2 (.iaddr 1) (.slot 9) (.slot 10)), (35, .n1 (.conv .u8) (.n2 (.bin .add) (.n1 (.conv .i64) (.slot 11)) (.slot 3)))] none []])
      .skip))))
  h46_3)
def h46_1 : HC :=
  (.seq
  (.reg [.need (.n2 (.bin .lss) (.slot 16) (.slot 15)),
    .asg 17 (.n2 (.bin .lss) (.slot 16) (.slot 15))])
  (.seq
  (.cond (.slot 17)
    .skip
    (.exit 0))
  h46_2))
def h46_4 : HC :=
  (.seq
  (.reg [.eff (some 39) (.convert 101 9 (.tmp 38)) 9 [(38, .slot 9)] none [],
    .asg 8 (.slot 39)])
  .ret)
def h46 : HC :=
  (.seq
  (.reg [.asg 8 (.lit (str []))])
  (.seq
  (.reg [.eff (some 13) (.convert 9 101 (.tmp 12)) 101 [(12, .slot 0)] none [],
    .asg 9 (.slot 13)])
  (.seq
  (.seq
  (.reg [.asg 14 (.slot 9),
    .need (.n1 .lensl (.slot 14)),
    .asg 15 (.n1 .lensl (.slot 14)),
    .asg 16 (.lit (.int .i64 0))])
  (.block 0
    (.loop
      h46_1)))
  h46_4)))
theorem k46 : fnOK Try.prog 550024507151 [] [.tmp 8] 4 Try.f46 = some h46 := by kernel_rfl
theorem c46 : callable Try.prog 46 = true := by kernel_rfl
theorem q46 {args : List Value} (ha : args.length = 4) {w : World} {next : Value → World → Prop} {QP : List PanicEntry → World → Prop} (H : hw Try.prog noPanic h46 (endV [.tmp 8] next) (σ0 args) w) : callK Try.prog 46 args w next QP := fn_rule Try.func46 mixed k46 ha H
theorem r46 {args : List Value} (ha : args.length = 4) {w : World} {next : Value → World → Prop} {QP : List PanicEntry → World → Prop} (H : hw Try.prog noPanic h46 (endV [.tmp 8] next) (σ0 args) w) : callvK Try.prog (.func (.func 46) #[] #[]) args w next QP := callf c46 (q46 ha H)

/- slices.DeleteFunc(()string,string) -/
def h50_4 : HC :=
  (.reg [.need (.n2 (.bin .add) (.slot 6) (.lit (.int .i64 1))),
    .asg 6 (.n2 (.bin .add) (.slot 6) (.lit (.int .i64 1)))])
def h50_3 : HC :=
  (.seq
  (.block 1
    (.seq
    (.reg [.need (.n2 (.iaddr 1) (.slot 0) (.slot 6)),
      .need (.n1 .ld (.n2 (.iaddr 1) (.slot 0) (.slot 6))),
      .asg 7 (.n1 .ld (.n2 (.iaddr 1) (.slot 0) (.slot 6)))])
    (.seq
    (.reg [.eff (some 28) (.call { callee := .value (.tmp 26), args := #[.tmp 27], argTypes := #[9] }) 4 [(26, .slot 1), (27, .slot 7)] none [],
      .need (.n1 .bnot (.slot 28)),
      .asg 29 (.n1 .bnot (.slot 28))])
    (.cond (.slot 29)
      (.seq
      (.reg [.need (.n2 (.iaddr 1) (.slot 0) (.slot 5)),
        .eff none (.store 9 (.tmp 33) (.tmp 32)) 0 [(33, .n2 (.iaddr 1) (.slot 0) (.slot 5)), (32, .slot 7)] none []])
      (.reg [.need (.n2 (.bin .add) (.slot 5) (.lit (.int .i64 1))),
        .asg 5 (.n2 (.bin .add) (.slot 5) (.lit (.int .i64 1)))]))
      .skip))))
  h50_4)
def h50_2 : HC :=
  (.seq
  (.seq
  (.reg [.need (.n1 .lensl (.slot 0)),
    .need (.n2 (.bin .lss) (.slot 6) (.n1 .lensl (.slot 0))),
    .asg 19 (.n2 (.bin .lss) (.slot 6) (.n1 .lensl (.slot 0)))])
  (.cond (.slot 19)
    .skip
    (.exit 0)))
  h50_3)
def h50_5 : HC :=
  (.seq
  (.reg [.need (.n3 (.slv 1 true false) (.slot 0) (.slot 5) (.lit (.tuple #[]))),
    .eff none (.call { callee := .builtin .clear, args := #[.tmp 38], argTypes := #[32] }) 0 [(38, .n3 (.slv 1 true false) (.slot 0) (.slot 5) (.lit (.tuple #[])))] none []])
  (.seq
  (.reg [.need (.n3 (.slv 1 false true) (.slot 0) (.lit (.tuple #[])) (.slot 5)),
    .asg 4 (.n3 (.slv 1 false true) (.slot 0) (.lit (.tuple #[])) (.slot 5))])
  .ret))
def h50_1 : HC :=
  (.seq
  (.seq
  (.reg [.need (.n2 (.bin .add) (.slot 5) (.lit (.int .i64 1))),
    .asg 6 (.n2 (.bin .add) (.slot 5) (.lit (.int .i64 1)))])
  (.block 0
    (.loop
      h50_2)))
  h50_5)
def h50 : HC :=
  (.seq
  (.reg [.asg 4 (.lit (.slice none 0 0))])
  (.seq
  (.reg [.eff (some 10) (.call { callee := .value (.func 70), args := #[.tmp 8, .tmp 9], argTypes := #[32, 85] }) 3 [(8, .slot 0), (9, .slot 1)] none [],
    .asg 5 (.slot 10)])
  (.seq
  (.seq
  (.reg [.need (.n2 (.bin .eql) (.slot 5) (.lit (.int .i64 (-1)))),
    .asg 12 (.n2 (.bin .eql) (.slot 5) (.lit (.int .i64 (-1))))])
  (.cond (.slot 12)
    (.seq
    (.reg [.asg 4 (.slot 0)])
    .ret)
    .skip))
  h50_1)))
theorem k50 : fnOK Try.prog 805836019 [] [.tmp 4] 2 Try.f50 = some h50 := by kernel_rfl
theorem c50 : callable Try.prog 50 = true := by kernel_rfl
theorem q50 {args : List Value} (ha : args.length = 2) {w : World} {next : Value → World → Prop} {QP : List PanicEntry → World → Prop} (H : hw Try.prog noPanic h50 (endV [.tmp 4] next) (σ0 args) w) : callK Try.prog 50 args w next QP := fn_rule Try.func50 mixed k50 ha H
theorem r50 {args : List Value} (ha : args.length = 2) {w : World} {next : Value → World → Prop} {QP : List PanicEntry → World → Prop} (H : hw Try.prog noPanic h50 (endV [.tmp 4] next) (σ0 args) w) : callvK Try.prog (.func (.func 50) #[] #[]) args w next QP := callf c50 (q50 ha H)

/- slices.Clone(()string,string) -/
def h51_1 : HC :=
  (.seq
  (.reg [.eff (some 5) (.buildSlice 32 0 #[]) 32 [] none [],
    .eff (some 7) (.call { callee := .builtin .append, args := #[.tmp 5, .tmp 6], argTypes := #[32, 32] }) 32 [(5, .slot 5), (6, .slot 0)] none [],
    .asg 2 (.slot 7)])
  .ret)
def h51 : HC :=
  (.seq
  (.reg [.asg 2 (.lit (.slice none 0 0))])
  (.seq
  (.seq
  (.reg [.need (.n2 (.slnil false) (.slot 0) (.lit (.slice none 0 0))),
    .asg 4 (.n2 (.slnil false) (.slot 0) (.lit (.slice none 0 0)))])
  (.cond (.slot 4)
    (.seq
    (.reg [.asg 2 (.lit (.slice none 0 0))])
    .ret)
    .skip))
  h51_1))
theorem k51 : fnOK Try.prog 181 [] [.tmp 2] 1 Try.f51 = some h51 := by kernel_rfl
theorem c51 : callable Try.prog 51 = true := by kernel_rfl
theorem q51 {args : List Value} (ha : args.length = 1) {w : World} {next : Value → World → Prop} {QP : List PanicEntry → World → Prop} (H : hw Try.prog noPanic h51 (endV [.tmp 2] next) (σ0 args) w) : callK Try.prog 51 args w next QP := fn_rule Try.func51 mixed k51 ha H
theorem r51 {args : List Value} (ha : args.length = 1) {w : World} {next : Value → World → Prop} {QP : List PanicEntry → World → Prop} (H : hw Try.prog noPanic h51 (endV [.tmp 2] next) (σ0 args) w) : callvK Try.prog (.func (.func 51) #[] #[]) args w next QP := callf c51 (q51 ha H)

/- missive/thread.references$1 -/
def h52 : HC :=
  (.seq
  (.reg [.asg 3 (.lit (.bool false))])
  (.seq
  (.reg [.need (.n1 (.faddr 0) (.slot 1)),
    .need (.n1 .ld (.n1 (.faddr 0) (.slot 1))),
    .need (.n2 (.sbin .eql) (.slot 0) (.n1 .ld (.n1 (.faddr 0) (.slot 1)))),
    .need (.gif (.n2 (.sbin .eql) (.slot 0) (.n1 .ld (.n1 (.faddr 0) (.slot 1)))) false (.n2 (.sbin .eql) (.slot 0) (.lit (str [])))),
    .need (.n3 .pick (.n2 (.sbin .eql) (.slot 0) (.n1 .ld (.n1 (.faddr 0) (.slot 1)))) (.lit (.bool true)) (.n2 (.sbin .eql) (.slot 0) (.lit (str [])))),
    .asg 3 (.n3 .pick (.n2 (.sbin .eql) (.slot 0) (.n1 .ld (.n1 (.faddr 0) (.slot 1)))) (.lit (.bool true)) (.n2 (.sbin .eql) (.slot 0) (.lit (str []))))])
  .ret))
theorem k52 : fnOK Try.prog 11 [] [.tmp 3] 2 Try.f52 = some h52 := by kernel_rfl
theorem c52 : callable Try.prog 52 = true := by kernel_rfl
theorem q52 {args : List Value} (ha : args.length = 2) {w : World} {next : Value → World → Prop} {QP : List PanicEntry → World → Prop} (H : hw Try.prog noPanic h52 (endV [.tmp 3] next) (σ0 args) w) : callK Try.prog 52 args w next QP := fn_rule Try.func52 mixed k52 ha H
theorem r52 {args : List Value} (ha : args.length = 2) {w : World} {next : Value → World → Prop} {QP : List PanicEntry → World → Prop} (H : hw Try.prog noPanic h52 (endV [.tmp 3] next) (σ0 args) w) : callvK Try.prog (.func (.func 52) #[] #[]) args w next QP := callf c52 (q52 ha H)

/- slices.Index(()int,int) -/
def h54_3 : HC :=
  (.reg [.need (.n2 (.bin .add) (.slot 8) (.lit (.int .i64 1))),
    .asg 8 (.n2 (.bin .add) (.slot 8) (.lit (.int .i64 1)))])
def h54_2 : HC :=
  (.seq
  (.block 1
    (.seq
    (.reg [.asg 5 (.slot 8)])
    (.seq
    (.reg [.need (.n2 (.iaddr 1) (.slot 0) (.slot 5)),
      .need (.n1 .ld (.n2 (.iaddr 1) (.slot 0) (.slot 5))),
      .need (.n2 (.bin .eql) (.slot 1) (.n1 .ld (.n2 (.iaddr 1) (.slot 0) (.slot 5)))),
      .asg 16 (.n2 (.bin .eql) (.slot 1) (.n1 .ld (.n2 (.iaddr 1) (.slot 0) (.slot 5))))])
    (.cond (.slot 16)
      (.seq
      (.reg [.asg 4 (.slot 5)])
      .ret)
      .skip))))
  h54_3)
def h54_1 : HC :=
  (.seq
  (.reg [.need (.n2 (.bin .lss) (.slot 8) (.slot 7)),
    .asg 9 (.n2 (.bin .lss) (.slot 8) (.slot 7))])
  (.seq
  (.cond (.slot 9)
    .skip
    (.exit 0))
  h54_2))
def h54_4 : HC :=
  (.seq
  (.reg [.asg 4 (.lit (.int .i64 (-1)))])
  .ret)
def h54 : HC :=
  (.seq
  (.reg [.asg 4 (.lit (.int .i64 0))])
  (.seq
  (.seq
  (.reg [.need (.n1 .lensl (.slot 0)),
    .asg 7 (.n1 .lensl (.slot 0)),
    .asg 8 (.lit (.int .i64 0))])
  (.block 0
    (.loop
      h54_1)))
  h54_4))
theorem k54 : fnOK Try.prog 66483 [] [.tmp 4] 2 Try.f54 = some h54 := by kernel_rfl
theorem c54 : callable Try.prog 54 = true := by kernel_rfl
theorem q54 {args : List Value} (ha : args.length = 2) {w : World} {next : Value → World → Prop} {QP : List PanicEntry → World → Prop} (H : hw Try.prog noPanic h54 (endV [.tmp 4] next) (σ0 args) w) : callK Try.prog 54 args w next QP := fn_rule Try.func54 mixed k54 ha H
theorem r54 {args : List Value} (ha : args.length = 2) {w : World} {next : Value → World → Prop} {QP : List PanicEntry → World → Prop} (H : hw Try.prog noPanic h54 (endV [.tmp 4] next) (σ0 args) w) : callvK Try.prog (.func (.func 54) #[] #[]) args w next QP := callf c54 (q54 ha H)

/- slices.MinFunc(()int,int) -/
def h55_4 : HC :=
  (.reg [.need (.n2 (.bin .add) (.slot 6) (.lit (.int .i64 1))),
    .asg 6 (.n2 (.bin .add) (.slot 6) (.lit (.int .i64 1)))])
def h55_3 : HC :=
  (.seq
  (.block 1
    (.seq
    (.reg [.need (.n2 (.iaddr 1) (.slot 0) (.slot 6)),
      .need (.n1 .ld (.n2 (.iaddr 1) (.slot 0) (.slot 6))),
      .eff (some 26) (.call { callee := .value (.tmp 20), args := #[.tmp 24, .tmp 25], argTypes := #[3, 3] }) 3 [(20, .slot 1), (24, .n1 .ld (.n2 (.iaddr 1) (.slot 0) (.slot 6))), (25, .slot 5)] none [],
      .need (.n2 (.bin .lss) (.slot 26) (.lit (.int .i64 0))),
      .asg 27 (.n2 (.bin .lss) (.slot 26) (.lit (.int .i64 0)))])
    (.cond (.slot 27)
      (.reg [.need (.n2 (.iaddr 1) (.slot 0) (.slot 6)),
        .need (.n1 .ld (.n2 (.iaddr 1) (.slot 0) (.slot 6))),
        .asg 5 (.n1 .ld (.n2 (.iaddr 1) (.slot 0) (.slot 6)))])
      .skip)))
  h55_4)
def h55_2 : HC :=
  (.seq
  (.seq
  (.reg [.need (.n1 .lensl (.slot 0)),
    .need (.n2 (.bin .lss) (.slot 6) (.n1 .lensl (.slot 0))),
    .asg 17 (.n2 (.bin .lss) (.slot 6) (.n1 .lensl (.slot 0)))])
  (.cond (.slot 17)
    .skip
    (.exit 0)))
  h55_3)
def h55_5 : HC :=
  (.seq
  (.reg [.asg 4 (.slot 5)])
  .ret)
def h55_1 : HC :=
  (.seq
  (.reg [.need (.n2 (.iaddr 1) (.slot 0) (.lit (.int .i64 0))),
    .need (.n1 .ld (.n2 (.iaddr 1) (.slot 0) (.lit (.int .i64 0)))),
    .asg 5 (.n1 .ld (.n2 (.iaddr 1) (.slot 0) (.lit (.int .i64 0))))])
  (.seq
  (.seq
  (.reg [.asg 6 (.lit (.int .i64 1))])
  (.block 0
    (.loop
      h55_2)))
  h55_5))
def h55 : HC :=
  (.seq
  (.reg [.asg 4 (.lit (.int .i64 0))])
  (.seq
  (.seq
  (.reg [.need (.n1 .lensl (.slot 0)),
    .need (.n2 (.bin .lss) (.n1 .lensl (.slot 0)) (.lit (.int .i64 1))),
    .asg 9 (.n2 (.bin .lss) (.n1 .lensl (.slot 0)) (.lit (.int .i64 1)))])
  (.cond (.slot 9)
    (.reg [.need (.n1 (.mkif 9) (.lit (str [115, 108, 105, 99, 101, 115, 46, 77, 105, 110, 70, 117, 110, 99, 58, 32, 101, 109, 112, 116, 121, 32, 108, 105, 115, 116]))),
      .eff none (.panic (.tmp 10)) 0 [(10, .n1 (.mkif 9) (.lit (str [115, 108, 105, 99, 101, 115, 46, 77, 105, 110, 70, 117, 110, 99, 58, 32, 101, 109, 112, 116, 121, 32, 108, 105, 115, 116])))] none []])
    .skip))
  h55_1))
theorem k55 : fnOK Try.prog 201458291 [] [.tmp 4] 2 Try.f55 = some h55 := by kernel_rfl
theorem c55 : callable Try.prog 55 = true := by kernel_rfl
theorem q55 {args : List Value} (ha : args.length = 2) {w : World} {next : Value → World → Prop} {QP : List PanicEntry → World → Prop} (H : hw Try.prog noPanic h55 (endV [.tmp 4] next) (σ0 args) w) : callK Try.prog 55 args w next QP := fn_rule Try.func55 mixed k55 ha H
theorem r55 {args : List Value} (ha : args.length = 2) {w : World} {next : Value → World → Prop} {QP : List PanicEntry → World → Prop} (H : hw Try.prog noPanic h55 (endV [.tmp 4] next) (σ0 args) w) : callvK Try.prog (.func (.func 55) #[] #[]) args w next QP := callf c55 (q55 ha H)

/- (*missive/thread.forest).circles$1 -/
def h56 : HC :=
  (.seq
  (.reg [.asg 5 (.lit (.int .i64 0))])
  (.seq
  (.draw [.need (.n1 .ld (.slot 2)),
    .need (.n1 .nilchk (.n1 .ld (.slot 2))),
    .need (.n1 (.faddr 0) (.n1 .nilchk (.n1 .ld (.slot 2)))),
    .need (.n1 .ld (.n1 (.faddr 0) (.n1 .nilchk (.n1 .ld (.slot 2))))),
    .need (.n2 (.iaddr 5) (.n1 .ld (.n1 (.faddr 0) (.n1 .nilchk (.n1 .ld (.slot 2))))) (.slot 0)),
    .need (.n1 (.faddr 0) (.n2 (.iaddr 5) (.n1 .ld (.n1 (.faddr 0) (.n1 .nilchk (.n1 .ld (.slot 2))))) (.slot 0))),
    .need (.n1 .ld (.n1 (.faddr 0) (.n2 (.iaddr 5) (.n1 .ld (.n1 (.faddr 0) (.n1 .nilchk (.n1 .ld (.slot 2))))) (.slot 0)))),
    .need (.n1 .ld (.slot 2)),
    .need (.n1 .nilchk (.n1 .ld (.slot 2))),
    .need (.n1 (.faddr 0) (.n1 .nilchk (.n1 .ld (.slot 2)))),
    .need (.n1 .ld (.n1 (.faddr 0) (.n1 .nilchk (.n1 .ld (.slot 2))))),
    .need (.n2 (.iaddr 5) (.n1 .ld (.n1 (.faddr 0) (.n1 .nilchk (.n1 .ld (.slot 2))))) (.slot 1)),
    .need (.n1 (.faddr 0) (.n2 (.iaddr 5) (.n1 .ld (.n1 (.faddr 0) (.n1 .nilchk (.n1 .ld (.slot 2))))) (.slot 1))),
    .need (.n1 .ld (.n1 (.faddr 0) (.n2 (.iaddr 5) (.n1 .ld (.n1 (.faddr 0) (.n1 .nilchk (.n1 .ld (.slot 2))))) (.slot 1)))),
    .eff (some 22) (.call { callee := .value (.func 45), args := #[.tmp 13, .tmp 21], argTypes := #[9, 9] }) 3 [(13, .n1 .ld (.n1 (.faddr 0) (.n2 (.iaddr 5) (.n1 .ld (.n1 (.faddr 0) (.n1 .nilchk (.n1 .ld (.slot 2))))) (.slot 0)))), (21, .n1 .ld (.n1 (.faddr 0) (.n2 (.iaddr 5) (.n1 .ld (.n1 (.faddr 0) (.n1 .nilchk (.n1 .ld (.slot 2))))) (.slot 1))))] none [],
    .asg 5 (.slot 22)])
  .ret))
theorem k56 : fnOK Try.prog 4194343 [⟨1, [0, 1, 3, 7, 0, 31, 63, 127, 0, 256, 768, 1792, 0, 7936, 16128, 32512, 65535, 131071], [(0, []), (1, []), (2, []), (3, []), (4, []), (5, []), (6, []), (7, []), (8, []), (9, []), (10, []), (11, []), (12, []), (13, []), (14, []), (15, []), (16, []), (17, [])], none⟩] [.tmp 5] 3 Try.f56 = some h56 := by kernel_rfl
theorem c56 : callable Try.prog 56 = true := by kernel_rfl
theorem q56 {args : List Value} (ha : args.length = 3) {w : World} {next : Value → World → Prop} {QP : List PanicEntry → World → Prop} (H : hw Try.prog noPanic h56 (endV [.tmp 5] next) (σ0 args) w) : callK Try.prog 56 args w next QP := fn_rule Try.func56 mixed k56 ha H
theorem r56 {args : List Value} (ha : args.length = 3) {w : World} {next : Value → World → Prop} {QP : List PanicEntry → World → Prop} (H : hw Try.prog noPanic h56 (endV [.tmp 5] next) (σ0 args) w) : callvK Try.prog (.func (.func 56) #[] #[]) args w next QP := callf c56 (q56 ha H)

/- math/bits.Len32 -/
def h65_2 : HC :=
  (.seq
  (.reg [.need (.n1 (.conv .u8) (.slot 0)),
    .need (.n2 .idxs (.lit (str [0, 1, 2, 2, 3, 3, 3, 3, 4, 4, 4, 4, 4, 4, 4, 4, 5, 5, 5, 5, 5, 5, 5, 5, 5, 5, 5, 5, 5, 5, 5, 5, 6, 6, 6, 6, 6, 6, 6, 6, 6, 6, 6, 6, 6, 6, 6, 6, 6, 6, 6, 6, 6, 6, 6, 6, 6, 6, 6, 6, 6, 6, 6, 6, 7, 7, 7, 7, 7, 7, 7, 7, 7, 7, 7, 7, 7, 7, 7, 7, 7, 7, 7, 7, 7, 7, 7, 7, 7, 7, 7, 7, 7, 7, 7, 7, 7, 7, 7, 7, 7, 7, 7, 7, 7, 7, 7, 7, 7, 7, 7, 7, 7, 7, 7, 7, 7, 7, 7, 7, 7, 7, 7, 7, 7, 7, 7, 7, 8, 8, 8, 8, 8, 8, 8, 8, 8, 8, 8, 8, 8, 8, 8, 8, 8, 8, 8, 8, 8, 8, 8, 8, 8, 8, 8, 8, 8, 8, 8, 8, 8, 8, 8, 8, 8, 8, 8, 8, 8, 8, 8, 8, 8, 8, 8, 8, 8, 8, 8, 8, 8, 8, 8, 8, 8, 8, 8, 8, 8, 8, 8, 8, 8, 8, 8, 8, 8, 8, 8, 8, 8, 8, 8, 8, 8, 8, 8, 8, 8, 8, 8, 8, 8, 8, 8, 8, 8, 8, 8, 8, 8, 8, 8, 8, 8, 8, 8, 8, 8, 8, 8, 8, 8, 8, 8, 8, 8, 8, 8, 8, 8, 8, 8, 8, 8, 8, 8, 8, 8, 8, 8, 8, 8, 8, 8, 8])) (.n1 (.conv .u8) (.slot 0))),
    .need (.n1 (.conv .i64) (.n2 .idxs (.lit (str [0, 1, 2, 2, 3, 3, 3, 3, 4, 4, 4, 4, 4, 4, 4, 4, 5, 5, 5, 5, 5, 5, 5, 5, 5, 5, 5, 5, 5, 5, 5, 5, 6, 6, 6, 6, 6, 6, 6, 6, 6, 6, 6, 6, 6, 6, 6, 6, 6, 6, 6, 6, 6, 6, 6, 6, 6, 6, 6, 6, 6, 6, 6, 6, 7, 7, 7, 7, 7, 7, 7, 7, 7, 7, 7, 7, 7, 7, 7, 7, 7, 7, 7, 7, 7, 7, 7, 7, 7, 7, 7, 7, 7, 7, 7, 7, 7, 7, 7, 7, 7, 7, 7, 7, 7, 7, 7, 7, 7, 7, 7, 7, 7, 7, 7, 7, 7, 7, 7, 7, 7, 7, 7, 7, 7, 7, 7, 7, 8, 8, 8, 8, 8, 8, 8, 8, 8, 8, 8, 8, 8, 8, 8, 8, 8, 8, 8, 8, 8, 8, 8, 8, 8, 8, 8, 8, 8, 8, 8, 8, 8, 8, 8, 8, 8, 8, 8, 8, 8, 8, 8, 8, 8, 8, 8, 8, 8, 8, 8, 8, 8, 8, 8, 8, 8, 8, 8, 8, 8, 8, 8, 8, 8, 8, 8, 8, 8, 8, 8, 8, 8, 8, 8, 8, 8, 8, 8, 8, 8, 8, 8, 8, 8, 8, 8, 8, 8, 8, 8, 8, 8, 8, 8, 8, 8, 8, 8, 8, 8, 8, 8, 8, 8, 8, 8, 8, 8, 8, 8, 8, 8, 8, 8, 8, 8, 8, 8, 8, 8, 8, 8, 8, 8, 8, 8, 8])) (.n1 (.conv .u8) (.slot 0)))),
    .need (.n2 (.bin .add) (.slot 2) (.n1 (.conv .i64) (.n2 .idxs (.lit (str [0, 1, 2, 2, 3, 3, 3, 3, 4, 4, 4, 4, 4, 4, 4, 4, 5, 5, 5, 5, 5, 5, 5, 5, 5, 5, 5, 5, 5, 5, 5, 5, 6, 6, 6, 6, 6, 6, 6, 6, 6, 6, 6, 6, 6, 6, 6, 6, 6, 6, 6, 6, 6, 6, 6, 6, 6, 6, 6, 6, 6, 6, 6, 6, 7, 7, 7, 7, 7, 7, 7, 7, 7, 7, 7, 7, 7, 7, 7, 7, 7, 7, 7, 7, 7, 7, 7, 7, 7, 7, 7, 7, 7, 7, 7, 7, 7, 7, 7, 7, 7, 7, 7, 7, 7, 7, 7, 7, 7, 7, 7, 7, 7, 7, 7, 7, 7, 7, 7, 7, 7, 7, 7, 7, 7, 7, 7, 7, 8, 8, 8, 8, 8, 8, 8, 8, 8, 8, 8, 8, 8, 8, 8, 8, 8, 8, 8, 8, 8, 8, 8, 8, 8, 8, 8, 8, 8, 8, 8, 8, 8, 8, 8, 8, 8, 8, 8, 8, 8, 8, 8, 8, 8, 8, 8, 8, 8, 8, 8, 8, 8, 8, 8, 8, 8, 8, 8, 8, 8, 8, 8, 8, 8, 8, 8, 8, 8, 8, 8, 8, 8, 8, 8, 8, 8, 8, 8, 8, 8, 8, 8, 8, 8, 8, 8, 8, 8, 8, 8, 8, 8, 8, 8, 8, 8, 8, 8, 8, 8, 8, 8, 8, 8, 8, 8, 8, 8, 8, 8, 8, 8, 8, 8, 8, 8, 8, 8, 8, 8, 8, 8, 8, 8, 8, 8, 8])) (.n1 (.conv .u8) (.slot 0))))),
    .asg 2 (.n2 (.bin .add) (.slot 2) (.n1 (.conv .i64) (.n2 .idxs (.lit (str [0, 1, 2, 2, 3, 3, 3, 3, 4, 4, 4, 4, 4, 4, 4, 4, 5, 5, 5, 5, 5, 5, 5, 5, 5, 5, 5, 5, 5, 5, 5, 5, 6, 6, 6, 6, 6, 6, 6, 6, 6, 6, 6, 6, 6, 6, 6, 6, 6, 6, 6, 6, 6, 6, 6, 6, 6, 6, 6, 6, 6, 6, 6, 6, 7, 7, 7, 7, 7, 7, 7, 7, 7, 7, 7, 7, 7, 7, 7, 7, 7, 7, 7, 7, 7, 7, 7, 7, 7, 7, 7, 7, 7, 7, 7, 7, 7, 7, 7, 7, 7, 7, 7, 7, 7, 7, 7, 7, 7, 7, 7, 7, 7, 7, 7, 7, 7, 7, 7, 7, 7, 7, 7, 7, 7, 7, 7, 7, 8, 8, 8, 8, 8, 8, 8, 8, 8, 8, 8, 8, 8, 8, 8, 8, 8, 8, 8, 8, 8, 8, 8, 8, 8, 8, 8, 8, 8, 8, 8, 8, 8, 8, 8, 8, 8, 8, 8, 8, 8, 8, 8, 8, 8, 8, 8, 8, 8, 8, 8, 8, 8, 8, 8, 8, 8, 8, 8, 8, 8, 8, 8, 8, 8, 8, 8, 8, 8, 8, 8, 8, 8, 8, 8, 8, 8, 8, 8, 8, 8, 8, 8, 8, 8, 8, 8, 8, 8, 8, 8, 8, 8, 8, 8, 8, 8, 8, 8, 8, 8, 8, 8, 8, 8, 8, 8, 8, 8, 8, 8, 8, 8, 8, 8, 8, 8, 8, 8, 8, 8, 8, 8, 8, 8, 8, 8, 8])) (.n1 (.conv .u8) (.slot 0)))))])
  .ret)
def h65_1 : HC :=
  (.seq
  (.seq
  (.reg [.need (.n2 (.bin .geq) (.slot 0) (.lit (.int .u32 256))),
    .asg 8 (.n2 (.bin .geq) (.slot 0) (.lit (.int .u32 256)))])
  (.cond (.slot 8)
    (.seq
    (.reg [.need (.n2 (.bin .shr) (.slot 0) (.lit (.int .u64 8))),
      .asg 0 (.n2 (.bin .shr) (.slot 0) (.lit (.int .u64 8)))])
    (.reg [.need (.n2 (.bin .add) (.slot 2) (.lit (.int .i64 8))),
      .asg 2 (.n2 (.bin .add) (.slot 2) (.lit (.int .i64 8)))]))
    .skip))
  h65_2)
def h65 : HC :=
  (.seq
  (.reg [.asg 2 (.lit (.int .i64 0))])
  (.seq
  (.seq
  (.reg [.need (.n2 (.bin .geq) (.slot 0) (.lit (.int .u32 65536))),
    .asg 4 (.n2 (.bin .geq) (.slot 0) (.lit (.int .u32 65536)))])
  (.cond (.slot 4)
    (.seq
    (.reg [.need (.n2 (.bin .shr) (.slot 0) (.lit (.int .u64 16))),
      .asg 0 (.n2 (.bin .shr) (.slot 0) (.lit (.int .u64 16)))])
    (.reg [.asg 2 (.lit (.int .i64 16))]))
    .skip))
  h65_1))
theorem k65 : fnOK Try.prog 277 [] [.tmp 2] 1 Try.f65 = some h65 := by kernel_rfl
theorem c65 : callable Try.prog 65 = true := by kernel_rfl
theorem q65 {args : List Value} (ha : args.length = 1) {w : World} {next : Value → World → Prop} {QP : List PanicEntry → World → Prop} (H : hw Try.prog noPanic h65 (endV [.tmp 2] next) (σ0 args) w) : callK Try.prog 65 args w next QP := fn_rule Try.func65 mixed k65 ha H
theorem r65 {args : List Value} (ha : args.length = 1) {w : World} {next : Value → World → Prop} {QP : List PanicEntry → World → Prop} (H : hw Try.prog noPanic h65 (endV [.tmp 2] next) (σ0 args) w) : callvK Try.prog (.func (.func 65) #[] #[]) args w next QP := callf c65 (q65 ha H)

/- math/bits.Len64 -/
def h66_3 : HC :=
  (.seq
  (.reg [.need (.n1 (.conv .u8) (.slot 0)),
    .need (.n2 .idxs (.lit (str [0, 1, 2, 2, 3, 3, 3, 3, 4, 4, 4, 4, 4, 4, 4, 4, 5, 5, 5, 5, 5, 5, 5, 5, 5, 5, 5, 5, 5, 5, 5, 5, 6, 6, 6, 6, 6, 6, 6, 6, 6, 6, 6, 6, 6, 6, 6, 6, 6, 6, 6, 6, 6, 6, 6, 6, 6, 6, 6, 6, 6, 6, 6, 6, 7, 7, 7, 7, 7, 7, 7, 7, 7, 7, 7, 7, 7, 7, 7, 7, 7, 7, 7, 7, 7, 7, 7, 7, 7, 7, 7, 7, 7, 7, 7, 7, 7, 7, 7, 7, 7, 7, 7, 7, 7, 7, 7, 7, 7, 7, 7, 7, 7, 7, 7, 7, 7, 7, 7, 7, 7, 7, 7, 7, 7, 7, 7, 7, 8, 8, 8, 8, 8, 8, 8, 8, 8, 8, 8, 8, 8, 8, 8, 8, 8, 8, 8, 8, 8, 8, 8, 8, 8, 8, 8, 8, 8, 8, 8, 8, 8, 8, 8, 8, 8, 8, 8, 8, 8, 8, 8, 8, 8, 8, 8, 8, 8, 8, 8, 8, 8, 8, 8, 8, 8, 8, 8, 8, 8, 8, 8, 8, 8, 8, 8, 8, 8, 8, 8, 8, 8, 8, 8, 8, 8, 8, 8, 8, 8, 8, 8, 8, 8, 8, 8, 8, 8, 8, 8, 8, 8, 8, 8, 8, 8, 8, 8, 8, 8, 8, 8, 8, 8, 8, 8, 8, 8, 8, 8, 8, 8, 8, 8, 8, 8, 8, 8, 8, 8, 8, 8, 8, 8, 8, 8, 8])) (.n1 (.conv .u8) (.slot 0))),
    .need (.n1 (.conv .i64) (.n2 .idxs (.lit (str [0, 1, 2, 2, 3, 3, 3, 3, 4, 4, 4, 4, 4, 4, 4, 4, 5, 5, 5, 5, 5, 5, 5, 5, 5, 5, 5, 5, 5, 5, 5, 5, 6, 6, 6, 6, 6, 6, 6, 6, 6, 6, 6, 6, 6, 6, 6, 6, 6, 6, 6, 6, 6, 6, 6, 6, 6, 6, 6, 6, 6, 6, 6, 6, 7, 7, 7, 7, 7, 7, 7, 7, 7, 7, 7, 7, 7, 7, 7, 7, 7, 7, 7, 7, 7, 7, 7, 7, 7, 7, 7, 7, 7, 7, 7, 7, 7, 7, 7, 7, 7, 7, 7, 7, 7, 7, 7, 7, 7, 7, 7, 7, 7, 7, 7, 7, 7, 7, 7, 7, 7, 7, 7, 7, 7, 7, 7, 7, 8, 8, 8, 8, 8, 8, 8, 8, 8, 8, 8, 8, 8, 8, 8, 8, 8, 8, 8, 8, 8, 8, 8, 8, 8, 8, 8, 8, 8, 8, 8, 8, 8, 8, 8, 8, 8, 8, 8, 8, 8, 8, 8, 8, 8, 8, 8, 8, 8, 8, 8, 8, 8, 8, 8, 8, 8, 8, 8, 8, 8, 8, 8, 8, 8, 8, 8, 8, 8, 8, 8, 8, 8, 8, 8, 8, 8, 8, 8, 8, 8, 8, 8, 8, 8, 8, 8, 8, 8, 8, 8, 8, 8, 8, 8, 8, 8, 8, 8, 8, 8, 8, 8, 8, 8, 8, 8, 8, 8, 8, 8, 8, 8, 8, 8, 8, 8, 8, 8, 8, 8, 8, 8, 8, 8, 8, 8, 8])) (.n1 (.conv .u8) (.slot 0)))),
    .need (.n2 (.bin .add) (.slot 2) (.n1 (.conv .i64) (.n2 .idxs (.lit (str [0, 1, 2, 2, 3, 3, 3, 3, 4, 4, 4, 4, 4, 4, 4, 4, 5, 5, 5, 5, 5, 5, 5, 5, 5, 5, 5, 5, 5, 5, 5, 5, 6, 6, 6, 6, 6, 6, 6, 6, 6, 6, 6, 6, 6, 6, 6, 6, 6, 6, 6, 6, 6, 6, 6, 6, 6, 6, 6, 6, 6, 6, 6, 6, 7, 7, 7, 7, 7, 7, 7, 7, 7, 7, 7, 7, 7, 7, 7, 7, 7, 7, 7, 7, 7, 7, 7, 7, 7, 7, 7, 7, 7, 7, 7, 7, 7, 7, 7, 7, 7, 7, 7, 7, 7, 7, 7, 7, 7, 7, 7, 7, 7, 7, 7, 7, 7, 7, 7, 7, 7, 7, 7, 7, 7, 7, 7, 7, 8, 8, 8, 8, 8, 8, 8, 8, 8, 8, 8, 8, 8, 8, 8, 8, 8, 8, 8, 8, 8, 8, 8, 8, 8, 8, 8, 8, 8, 8, 8, 8, 8, 8, 8, 8, 8, 8, 8, 8, 8, 8, 8, 8, 8, 8, 8, 8, 8, 8, 8, 8, 8, 8, 8, 8, 8, 8, 8, 8, 8, 8, 8, 8, 8, 8, 8, 8, 8, 8, 8, 8, 8, 8, 8, 8, 8, 8, 8, 8, 8, 8, 8, 8, 8, 8, 8, 8, 8, 8, 8, 8, 8, 8, 8, 8, 8, 8, 8, 8, 8, 8, 8, 8, 8, 8, 8, 8, 8, 8, 8, 8, 8, 8, 8, 8, 8, 8, 8, 8, 8, 8, 8, 8, 8, 8, 8, 8])) (.n1 (.conv .u8) (.slot 0))))),
    .asg 2 (.n2 (.bin .add) (.slot 2) (.n1 (.conv .i64) (.n2 .idxs (.lit (str [0, 1, 2, 2, 3, 3, 3, 3, 4, 4, 4, 4, 4, 4, 4, 4, 5, 5, 5, 5, 5, 5, 5, 5, 5, 5, 5, 5, 5, 5, 5, 5, 6, 6, 6, 6, 6, 6, 6, 6, 6, 6, 6, 6, 6, 6, 6, 6, 6, 6, 6, 6, 6, 6, 6, 6, 6, 6, 6, 6, 6, 6, 6, 6, 7, 7, 7, 7, 7, 7, 7, 7, 7, 7, 7, 7, 7, 7, 7, 7, 7, 7, 7, 7, 7, 7, 7, 7, 7, 7, 7, 7, 7, 7, 7, 7, 7, 7, 7, 7, 7, 7, 7, 7, 7, 7, 7, 7, 7, 7, 7, 7, 7, 7, 7, 7, 7, 7, 7, 7, 7, 7, 7, 7, 7, 7, 7, 7, 8, 8, 8, 8, 8, 8, 8, 8, 8, 8, 8, 8, 8, 8, 8, 8, 8, 8, 8, 8, 8, 8, 8, 8, 8, 8, 8, 8, 8, 8, 8, 8, 8, 8, 8, 8, 8, 8, 8, 8, 8, 8, 8, 8, 8, 8, 8, 8, 8, 8, 8, 8, 8, 8, 8, 8, 8, 8, 8, 8, 8, 8, 8, 8, 8, 8, 8, 8, 8, 8, 8, 8, 8, 8, 8, 8, 8, 8, 8, 8, 8, 8, 8, 8, 8, 8, 8, 8, 8, 8, 8, 8, 8, 8, 8, 8, 8, 8, 8, 8, 8, 8, 8, 8, 8, 8, 8, 8, 8, 8, 8, 8, 8, 8, 8, 8, 8, 8, 8, 8, 8, 8, 8, 8, 8, 8, 8, 8])) (.n1 (.conv .u8) (.slot 0)))))])
  .ret)
def h66_2 : HC :=
  (.seq
  (.seq
  (.reg [.need (.n2 (.bin .geq) (.slot 0) (.lit (.int .u64 256))),
    .asg 14 (.n2 (.bin .geq) (.slot 0) (.lit (.int .u64 256)))])
  (.cond (.slot 14)
    (.seq
    (.reg [.need (.n2 (.bin .shr) (.slot 0) (.lit (.int .u64 8))),
      .asg 0 (.n2 (.bin .shr) (.slot 0) (.lit (.int .u64 8)))])
    (.reg [.need (.n2 (.bin .add) (.slot 2) (.lit (.int .i64 8))),
      .asg 2 (.n2 (.bin .add) (.slot 2) (.lit (.int .i64 8)))]))
    .skip))
  h66_3)
def h66_1 : HC :=
  (.seq
  (.seq
  (.reg [.need (.n2 (.bin .geq) (.slot 0) (.lit (.int .u64 65536))),
    .asg 8 (.n2 (.bin .geq) (.slot 0) (.lit (.int .u64 65536)))])
  (.cond (.slot 8)
    (.seq
    (.reg [.need (.n2 (.bin .shr) (.slot 0) (.lit (.int .u64 16))),
      .asg 0 (.n2 (.bin .shr) (.slot 0) (.lit (.int .u64 16)))])
    (.reg [.need (.n2 (.bin .add) (.slot 2) (.lit (.int .i64 16))),
      .asg 2 (.n2 (.bin .add) (.slot 2) (.lit (.int .i64 16)))]))
    .skip))
  h66_2)
def h66 : HC :=
  (.seq
  (.reg [.asg 2 (.lit (.int .i64 0))])
  (.seq
  (.seq
  (.reg [.need (.n2 (.bin .geq) (.slot 0) (.lit (.int .u64 4294967296))),
    .asg 4 (.n2 (.bin .geq) (.slot 0) (.lit (.int .u64 4294967296)))])
  (.cond (.slot 4)
    (.seq
    (.reg [.need (.n2 (.bin .shr) (.slot 0) (.lit (.int .u64 32))),
      .asg 0 (.n2 (.bin .shr) (.slot 0) (.lit (.int .u64 32)))])
    (.reg [.asg 2 (.lit (.int .i64 32))]))
    .skip))
  h66_1))
theorem k66 : fnOK Try.prog 16661 [] [.tmp 2] 1 Try.f66 = some h66 := by kernel_rfl
theorem c66 : callable Try.prog 66 = true := by kernel_rfl
theorem q66 {args : List Value} (ha : args.length = 1) {w : World} {next : Value → World → Prop} {QP : List PanicEntry → World → Prop} (H : hw Try.prog noPanic h66 (endV [.tmp 2] next) (σ0 args) w) : callK Try.prog 66 args w next QP := fn_rule Try.func66 mixed k66 ha H
theorem r66 {args : List Value} (ha : args.length = 1) {w : World} {next : Value → World → Prop} {QP : List PanicEntry → World → Prop} (H : hw Try.prog noPanic h66 (endV [.tmp 2] next) (σ0 args) w) : callvK Try.prog (.func (.func 66) #[] #[]) args w next QP := callf c66 (q66 ha H)

/- cmp.isNaN(int) -/
def h67 : HC :=
  (.seq
  (.reg [.asg 2 (.lit (.bool false))])
  (.seq
  (.reg [.need (.n2 (.bin .neq) (.slot 0) (.slot 0)),
    .asg 2 (.n2 (.bin .neq) (.slot 0) (.slot 0))])
  .ret))
theorem k67 : fnOK Try.prog 5 [] [.tmp 2] 1 Try.f67 = some h67 := by kernel_rfl
theorem c67 : callable Try.prog 67 = true := by kernel_rfl
theorem q67 {args : List Value} (ha : args.length = 1) {w : World} {next : Value → World → Prop} {QP : List PanicEntry → World → Prop} (H : hw Try.prog noPanic h67 (endV [.tmp 2] next) (σ0 args) w) : callK Try.prog 67 args w next QP := fn_rule Try.func67 mixed k67 ha H
theorem r67 {args : List Value} (ha : args.length = 1) {w : World} {next : Value → World → Prop} {QP : List PanicEntry → World → Prop} (H : hw Try.prog noPanic h67 (endV [.tmp 2] next) (σ0 args) w) : callvK Try.prog (.func (.func 67) #[] #[]) args w next QP := callf c67 (q67 ha H)

/- cmp.isNaN(string) -/
def h68 : HC :=
  (.seq
  (.reg [.asg 2 (.lit (.bool false))])
  (.seq
  (.reg [.need (.n2 (.sbin .neq) (.slot 0) (.slot 0)),
    .asg 2 (.n2 (.sbin .neq) (.slot 0) (.slot 0))])
  .ret))
theorem k68 : fnOK Try.prog 5 [] [.tmp 2] 1 Try.f68 = some h68 := by kernel_rfl
theorem c68 : callable Try.prog 68 = true := by kernel_rfl
theorem q68 {args : List Value} (ha : args.length = 1) {w : World} {next : Value → World → Prop} {QP : List PanicEntry → World → Prop} (H : hw Try.prog noPanic h68 (endV [.tmp 2] next) (σ0 args) w) : callK Try.prog 68 args w next QP := fn_rule Try.func68 mixed k68 ha H
theorem r68 {args : List Value} (ha : args.length = 1) {w : World} {next : Value → World → Prop} {QP : List PanicEntry → World → Prop} (H : hw Try.prog noPanic h68 (endV [.tmp 2] next) (σ0 args) w) : callvK Try.prog (.func (.func 68) #[] #[]) args w next QP := callf c68 (q68 ha H)

/- missive/missiveref01.Same -/
def h69 : HC :=
  (.seq
  (.reg [.asg 4 (.lit (.bool false))])
  (.seq
  (.reg [.eff (some 6) (.call { callee := .value (.func 84), args := #[.tmp 5], argTypes := #[9] }) 9 [(5, .slot 0)] none [],
    .eff (some 8) (.call { callee := .value (.func 84), args := #[.tmp 7], argTypes := #[9] }) 9 [(7, .slot 1)] none [],
    .need (.n2 (.sbin .eql) (.slot 6) (.slot 8)),
    .asg 4 (.n2 (.sbin .eql) (.slot 6) (.slot 8))])
  .ret))
theorem k69 : fnOK Try.prog 339 [] [.tmp 4] 2 Try.f69 = some h69 := by kernel_rfl
theorem c69 : callable Try.prog 69 = true := by kernel_rfl
theorem q69 {args : List Value} (ha : args.length = 2) {w : World} {next : Value → World → Prop} {QP : List PanicEntry → World → Prop} (H : hw Try.prog noPanic h69 (endV [.tmp 4] next) (σ0 args) w) : callK Try.prog 69 args w next QP := fn_rule Try.func69 mixed k69 ha H
theorem r69 {args : List Value} (ha : args.length = 2) {w : World} {next : Value → World → Prop} {QP : List PanicEntry → World → Prop} (H : hw Try.prog noPanic h69 (endV [.tmp 4] next) (σ0 args) w) : callvK Try.prog (.func (.func 69) #[] #[]) args w next QP := callf c69 (q69 ha H)

/- slices.IndexFunc(()string,string) -/
def h70_3 : HC :=
  (.reg [.need (.n2 (.bin .add) (.slot 8) (.lit (.int .i64 1))),
    .asg 8 (.n2 (.bin .add) (.slot 8) (.lit (.int .i64 1)))])
def h70_2 : HC :=
  (.seq
  (.block 1
    (.seq
    (.reg [.asg 5 (.slot 8)])
    (.seq
    (.reg [.need (.n2 (.iaddr 1) (.slot 0) (.slot 5)),
      .need (.n1 .ld (.n2 (.iaddr 1) (.slot 0) (.slot 5))),
      .eff (some 16) (.call { callee := .value (.tmp 11), args := #[.tmp 15], argTypes := #[9] }) 4 [(11, .slot 1), (15, .n1 .ld (.n2 (.iaddr 1) (.slot 0) (.slot 5)))] none []])
    (.cond (.slot 16)
      (.seq
      (.reg [.asg 4 (.slot 5)])
      .ret)
      .skip))))
  h70_3)
def h70_1 : HC :=
  (.seq
  (.reg [.need (.n2 (.bin .lss) (.slot 8) (.slot 7)),
    .asg 9 (.n2 (.bin .lss) (.slot 8) (.slot 7))])
  (.seq
  (.cond (.slot 9)
    .skip
    (.exit 0))
  h70_2))
def h70_4 : HC :=
  (.seq
  (.reg [.asg 4 (.lit (.int .i64 (-1)))])
  .ret)
def h70 : HC :=
  (.seq
  (.reg [.asg 4 (.lit (.int .i64 0))])
  (.seq
  (.seq
  (.reg [.need (.n1 .lensl (.slot 0)),
    .asg 7 (.n1 .lensl (.slot 0)),
    .asg 8 (.lit (.int .i64 0))])
  (.block 0
    (.loop
      h70_1)))
  h70_4))
theorem k70 : fnOK Try.prog 66483 [] [.tmp 4] 2 Try.f70 = some h70 := by kernel_rfl
theorem c70 : callable Try.prog 70 = true := by kernel_rfl
theorem q70 {args : List Value} (ha : args.length = 2) {w : World} {next : Value → World → Prop} {QP : List PanicEntry → World → Prop} (H : hw Try.prog noPanic h70 (endV [.tmp 4] next) (σ0 args) w) : callK Try.prog 70 args w next QP := fn_rule Try.func70 mixed k70 ha H
theorem r70 {args : List Value} (ha : args.length = 2) {w : World} {next : Value → World → Prop} {QP : List PanicEntry → World → Prop} (H : hw Try.prog noPanic h70 (endV [.tmp 4] next) (σ0 args) w) : callvK Try.prog (.func (.func 70) #[] #[]) args w next QP := callf c70 (q70 ha H)

/- slices.nextPowerOfTwo -/
def h80 : HC :=
  (.seq
  (.reg [.asg 2 (.lit (.int .u64 0))])
  (.seq
  (.reg [.need (.n1 (.conv .u64) (.slot 0)),
    .eff (some 5) (.call { callee := .value (.func 42), args := #[.tmp 4], argTypes := #[74] }) 3 [(4, .n1 (.conv .u64) (.slot 0))] none [],
    .need (.n2 (.bin .shl) (.lit (.int .u64 1)) (.slot 5)),
    .asg 2 (.n2 (.bin .shl) (.lit (.int .u64 1)) (.slot 5))])
  .ret))
theorem k80 : fnOK Try.prog 37 [] [.tmp 2] 1 Try.f80 = some h80 := by kernel_rfl
theorem c80 : callable Try.prog 80 = true := by kernel_rfl
theorem q80 {args : List Value} (ha : args.length = 1) {w : World} {next : Value → World → Prop} {QP : List PanicEntry → World → Prop} (H : hw Try.prog noPanic h80 (endV [.tmp 2] next) (σ0 args) w) : callK Try.prog 80 args w next QP := fn_rule Try.func80 mixed k80 ha H
theorem r80 {args : List Value} (ha : args.length = 1) {w : World} {next : Value → World → Prop} {QP : List PanicEntry → World → Prop} (H : hw Try.prog noPanic h80 (endV [.tmp 2] next) (σ0 args) w) : callvK Try.prog (.func (.func 80) #[] #[]) args w next QP := callf c80 (q80 ha H)

/- (*slices.xorshift).Next -/
def h81 : HC :=
  (.seq
  (.reg [.asg 2 (.lit (.int .u64 0))])
  (.seq
  (.draw [.need (.n1 .nilchk (.slot 0)),
    .need (.n1 .ld (.n1 .nilchk (.slot 0))),
    .need (.n1 .nilchk (.slot 0)),
    .need (.n1 .ld (.n1 .nilchk (.slot 0))),
    .need (.n2 (.bin .shl) (.n1 .ld (.n1 .nilchk (.slot 0))) (.lit (.int .u64 13))),
    .need (.n2 (.bin .xor) (.n1 .ld (.n1 .nilchk (.slot 0))) (.n2 (.bin .shl) (.n1 .ld (.n1 .nilchk (.slot 0))) (.lit (.int .u64 13)))),
    .need (.n1 .nilchk (.slot 0)),
    .eff none (.store 108 (.tmp 11) (.tmp 10)) 0 [(11, .n1 .nilchk (.slot 0)), (10, .n2 (.bin .xor) (.n1 .ld (.n1 .nilchk (.slot 0))) (.n2 (.bin .shl) (.n1 .ld (.n1 .nilchk (.slot 0))) (.lit (.int .u64 13))))] none []])
  (.seq
  (.draw [.need (.n1 .nilchk (.slot 0)),
    .need (.n1 .ld (.n1 .nilchk (.slot 0))),
    .need (.n1 .nilchk (.slot 0)),
    .need (.n1 .ld (.n1 .nilchk (.slot 0))),
    .need (.n2 (.bin .shr) (.n1 .ld (.n1 .nilchk (.slot 0))) (.lit (.int .u64 7))),
    .need (.n2 (.bin .xor) (.n1 .ld (.n1 .nilchk (.slot 0))) (.n2 (.bin .shr) (.n1 .ld (.n1 .nilchk (.slot 0))) (.lit (.int .u64 7)))),
    .need (.n1 .nilchk (.slot 0)),
    .eff none (.store 108 (.tmp 20) (.tmp 19)) 0 [(20, .n1 .nilchk (.slot 0)), (19, .n2 (.bin .xor) (.n1 .ld (.n1 .nilchk (.slot 0))) (.n2 (.bin .shr) (.n1 .ld (.n1 .nilchk (.slot 0))) (.lit (.int .u64 7))))] none []])
  (.seq
  (.draw [.need (.n1 .nilchk (.slot 0)),
    .need (.n1 .ld (.n1 .nilchk (.slot 0))),
    .need (.n1 .nilchk (.slot 0)),
    .need (.n1 .ld (.n1 .nilchk (.slot 0))),
    .need (.n2 (.bin .shl) (.n1 .ld (.n1 .nilchk (.slot 0))) (.lit (.int .u64 17))),
    .need (.n2 (.bin .xor) (.n1 .ld (.n1 .nilchk (.slot 0))) (.n2 (.bin .shl) (.n1 .ld (.n1 .nilchk (.slot 0))) (.lit (.int .u64 17)))),
    .need (.n1 .nilchk (.slot 0)),
    .eff none (.store 108 (.tmp 29) (.tmp 28)) 0 [(29, .n1 .nilchk (.slot 0)), (28, .n2 (.bin .xor) (.n1 .ld (.n1 .nilchk (.slot 0))) (.n2 (.bin .shl) (.n1 .ld (.n1 .nilchk (.slot 0))) (.lit (.int .u64 17))))] none []])
  (.seq
  (.reg [.need (.n1 .nilchk (.slot 0)),
    .need (.n1 .ld (.n1 .nilchk (.slot 0))),
    .asg 2 (.n1 .ld (.n1 .nilchk (.slot 0)))])
  .ret)))))
theorem k81 : fnOK Try.prog 5 [⟨1, [0, 1, 3, 0, 8, 24, 56, 127, 255, 511], [(0, []), (1, []), (2, []), (3, []), (4, []), (5, []), (6, []), (7, []), (8, []), (9, [])], none⟩, ⟨2, [0, 1, 3, 0, 8, 24, 56, 127, 255, 511], [(0, []), (1, []), (2, []), (3, []), (4, []), (5, []), (6, []), (7, []), (8, []), (9, [])], none⟩, ⟨3, [0, 1, 3, 0, 8, 24, 56, 127, 255, 511], [(0, []), (1, []), (2, []), (3, []), (4, []), (5, []), (6, []), (7, []), (8, []), (9, [])], none⟩] [.tmp 2] 1 Try.f81 = some h81 := by kernel_rfl
theorem c81 : callable Try.prog 81 = true := by kernel_rfl
theorem q81 {args : List Value} (ha : args.length = 1) {w : World} {next : Value → World → Prop} {QP : List PanicEntry → World → Prop} (H : hw Try.prog noPanic h81 (endV [.tmp 2] next) (σ0 args) w) : callK Try.prog 81 args w next QP := fn_rule Try.func81 mixed k81 ha H
theorem r81 {args : List Value} (ha : args.length = 1) {w : World} {next : Value → World → Prop} {QP : List PanicEntry → World → Prop} (H : hw Try.prog noPanic h81 (endV [.tmp 2] next) (σ0 args) w) : callvK Try.prog (.func (.func 81) #[] #[]) args w next QP := callf c81 (q81 ha H)

/- missive/missiveref01.Lower -/
def h84_3 : HC :=
  (.reg [.need (.n2 (.bin .add) (.slot 4) (.lit (.int .i64 1))),
    .asg 4 (.n2 (.bin .add) (.slot 4) (.lit (.int .i64 1)))])
def h84_2 : HC :=
  (.seq
  (.block 1
    (.reg [.need (.n2 (.iaddr 1) (.slot 3) (.slot 4)),
      .need (.n1 .ld (.n2 (.iaddr 1) (.slot 3) (.slot 4))),
      .eff (some 19) (.call { callee := .value (.func 89), args := #[.tmp 18], argTypes := #[5] }) 5 [(18, .n1 .ld (.n2 (.iaddr 1) (.slot 3) (.slot 4)))] none [],
      .need (.n2 (.iaddr 1) (.slot 3) (.slot 4)),
      .eff none (.store 5 (.tmp 20) (.tmp 19)) 0 [(20, .n2 (.iaddr 1) (.slot 3) (.slot 4)), (19, .slot 19)] none []]))
  h84_3)
def h84_1 : HC :=
  (.seq
  (.seq
  (.reg [.need (.n1 .lensl (.slot 3)),
    .need (.n2 (.bin .lss) (.slot 4) (.n1 .lensl (.slot 3))),
    .asg 10 (.n2 (.bin .lss) (.slot 4) (.n1 .lensl (.slot 3)))])
  (.cond (.slot 10)
    .skip
    (.exit 0)))
  h84_2)
def h84_4 : HC :=
  (.seq
  (.reg [.eff (some 22) (.convert 101 9 (.tmp 21)) 9 [(21, .slot 3)] none [],
    .asg 2 (.slot 22)])
  .ret)
def h84 : HC :=
  (.seq
  (.reg [.asg 2 (.lit (str []))])
  (.seq
  (.reg [.eff (some 6) (.convert 9 101 (.tmp 5)) 101 [(5, .slot 0)] none [],
    .asg 3 (.slot 6)])
  (.seq
  (.seq
  (.reg [.asg 4 (.lit (.int .i64 0))])
  (.block 0
    (.loop
      h84_1)))
  h84_4)))
theorem k84 : fnOK Try.prog 4719709 [] [.tmp 2] 1 Try.f84 = some h84 := by kernel_rfl
theorem c84 : callable Try.prog 84 = true := by kernel_rfl
theorem q84 {args : List Value} (ha : args.length = 1) {w : World} {next : Value → World → Prop} {QP : List PanicEntry → World → Prop} (H : hw Try.prog noPanic h84 (endV [.tmp 2] next) (σ0 args) w) : callK Try.prog 84 args w next QP := fn_rule Try.func84 mixed k84 ha H
theorem r84 {args : List Value} (ha : args.length = 1) {w : World} {next : Value → World → Prop} {QP : List PanicEntry → World → Prop} (H : hw Try.prog noPanic h84 (endV [.tmp 2] next) (σ0 args) w) : callvK Try.prog (.func (.func 84) #[] #[]) args w next QP := callf c84 (q84 ha H)

/- missive/missiveref01.lower -/
def h89_1 : HC :=
  (.seq
  (.reg [.asg 2 (.slot 0)])
  .ret)
def h89 : HC :=
  (.seq
  (.reg [.asg 2 (.lit (.int .u8 0))])
  (.seq
  (.seq
  (.reg [.need (.n2 (.bin .geq) (.slot 0) (.lit (.int .u8 65))),
    .need (.gif (.n2 (.bin .geq) (.slot 0) (.lit (.int .u8 65))) true (.n2 (.bin .leq) (.slot 0) (.lit (.int .u8 90)))),
    .need (.n3 .pick (.n2 (.bin .geq) (.slot 0) (.lit (.int .u8 65))) (.n2 (.bin .leq) (.slot 0) (.lit (.int .u8 90))) (.lit (.bool false))),
    .asg 8 (.n3 .pick (.n2 (.bin .geq) (.slot 0) (.lit (.int .u8 65))) (.n2 (.bin .leq) (.slot 0) (.lit (.int .u8 90))) (.lit (.bool false)))])
  (.cond (.slot 8)
    (.seq
    (.reg [.need (.n2 (.bin .add) (.slot 0) (.lit (.int .u8 32))),
      .asg 2 (.n2 (.bin .add) (.slot 0) (.lit (.int .u8 32)))])
    .ret)
    .skip))
  h89_1))
theorem k89 : fnOK Try.prog 261 [] [.tmp 2] 1 Try.f89 = some h89 := by kernel_rfl
theorem c89 : callable Try.prog 89 = true := by kernel_rfl
theorem q89 {args : List Value} (ha : args.length = 1) {w : World} {next : Value → World → Prop} {QP : List PanicEntry → World → Prop} (H : hw Try.prog noPanic h89 (endV [.tmp 2] next) (σ0 args) w) : callK Try.prog 89 args w next QP := fn_rule Try.func89 mixed k89 ha H
theorem r89 {args : List Value} (ha : args.length = 1) {w : World} {next : Value → World → Prop} {QP : List PanicEntry → World → Prop} (H : hw Try.prog noPanic h89 (endV [.tmp 2] next) (σ0 args) w) : callvK Try.prog (.func (.func 89) #[] #[]) args w next QP := callf c89 (q89 ha H)

end Go.Proofs.Y
