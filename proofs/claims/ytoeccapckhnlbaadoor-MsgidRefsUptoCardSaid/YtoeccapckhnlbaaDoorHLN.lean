/- HLN: maps keyed by strings. -/
import Derived.Test.YtoeccapckhnlbaaDoorMA
import Derived.MapKept
import Derived.Test.YtoeccapckhnlbaaDoorHLO
import Derived.RangeFuncNested
set_option linter.unusedSimpArgs false
set_option linter.unusedVariables false
set_option maxRecDepth 100000
namespace Go.HL
open Go Go.MapKept

section
variable {P : Program} {w : World} {next : Value → World → Prop} {QP : List PanicEntry → World → Prop}
def mkmapK (P : Program) (t : TypeId) (r : Option Value) (w : World) (next : Value → World → Prop) (QP : List PanicEntry → World → Prop) : Prop := effUpon P next QP ((runV (Instr.makeMap t r)).run P w)
def lookupK (P : Program) (t : TypeId) (x k : Value) (ok : Bool) (w : World) (next : Value → World → Prop) (QP : List PanicEntry → World → Prop) : Prop := effUpon P next QP ((runV (Instr.lookup t x k ok)).run P w)
def mapupdK (P : Program) (t : TypeId) (m k v : Value) (w : World) (next : Value → World → Prop) (QP : List PanicEntry → World → Prop) : Prop := effUpon P next QP ((runU (Instr.mapUpdate t m k v)).run P w)
theorem f_mkmap {t ty : TypeId} {ρ : Operand → Value} : heff P (.makeMap t none) ty ρ w next QP = mkmapK P t none w next QP := rfl
theorem f_lookup {t ty : TypeId} {x k : Operand} {ok : Bool} {ρ : Operand → Value} : heff P (.lookup t x k ok) ty ρ w next QP = lookupK P t (ρ x) (ρ k) ok w next QP := rfl
theorem f_mapupd {t ty : TypeId} {m k v : Operand} {ρ : Operand → Value} : heff P (.mapUpdate t m k v) ty ρ w next QP = mapupdK P t (ρ m) (ρ k) (ρ v) w next QP := rfl
attribute [go_sem] f_mkmap f_lookup f_mapupd

/-- what is held under a key; and with a key more -/
def getM (k : List UInt8) : List (List UInt8 × Value) → Option Value
  | [] => none
  | p :: l => if p.1 = k then some p.2 else getM k l
def putM (k : List UInt8) (v : Value) : List (List UInt8 × Value) → List (List UInt8 × Value)
  | [] => [(k, v)]
  | p :: l => if p.1 = k then (k, v) :: l else p :: putM k v l
def kv (p : List UInt8 × Value) : Value × Value := (str p.1, p.2)
/-- a map that is held: its keys with what is held under them -/
def Mp (w : World) (b : Nat) (ks : List (List UInt8 × Value)) : Prop := ∃ es clock, w.heap[b]? = some (.map es clock) ∧ es.toList.map (fun e => (e.key, e.val)) = ks.map kv
theorem Mp.lt {b : Nat} {ks : List (List UInt8 × Value)} (h : Mp w b ks) : b < w.heap.size := by
  obtain ⟨es, c, h, -⟩ := h
  exact (Array.getElem?_eq_some_iff.1 h).1
theorem Mp.mod {w' : World} {S : Nat → Prop} {b : Nat} {ks : List (List UInt8 × Value)} (h : Mp w b ks) (m : Mod S w w') (hd : ¬ S b) : Mp w' b ks := by
  obtain ⟨es, c, hh, hk⟩ := h
  exact ⟨es, c, by rw [m.block b (Array.getElem?_eq_some_iff.1 hh).1 hd]; exact hh, hk⟩
theorem mkmap_ {t : TypeId} (k : ∀ b w', w.heap.size = b → Mp w' b [] → Mod none' w w' → w'.heap.size = b + 1 → next (.map (some b)) w') : mkmapK P t none w next QP := by
  refine eff_value (v := .map (some w.heap.size)) (w' := w.alloc (.map #[] 0)) ?_ (k _ _ rfl ⟨#[], 0, by unfold World.alloc; simp, rfl⟩ (alloc_mod w _) (by simp))
  simp [Instr.makeMap]

theorem findNow_str (k : List UInt8) : ∀ (es : List MapEntry) (ks : List (List UInt8 × Value)) (i : Nat), es.map (fun e => (e.key, e.val)) = ks.map kv →
    (getM k ks = none ∧ Instr.findNow .string (str k) es i = some none ∧ ∀ x, putM k x ks = ks ++ [(k, x)]) ∨
    ∃ v j, getM k ks = some v ∧ Instr.findNow .string (str k) es i = some (some (i + j, v)) ∧ ks[j]? = some (k, v) ∧ ∀ x, putM k x ks = ks.set j (k, x)
  | [], ks, i, h => by
    obtain rfl : ks = [] := by cases ks with | nil => rfl | cons x l => simp at h
    exact .inl ⟨rfl, rfl, fun _ => rfl⟩
  | e :: es, ks, i, h => by
    cases ks with
    | nil => simp at h
    | cons x ks =>
      simp only [List.map_cons, List.cons.injEq, kv, Prod.mk.injEq] at h
      obtain ⟨⟨hx, hy⟩, ht⟩ := h
      obtain ⟨x, y⟩ := x
      simp only at hx hy
      unfold Instr.findNow
      rw [hx, hy]
      by_cases he : x = k
      · subst he
        have : Instr.sameNow .string (str x) (str x) = some true := by
          show some ((ByteArray.mk x.toArray) == (ByteArray.mk x.toArray)) = some true
          rw [(bytes_beq _ _).2 rfl]
        rw [this]
        exact .inr ⟨y, 0, by simp [getM], rfl, rfl, fun z => by simp [putM]⟩
      · have : Instr.sameNow .string (str k) (str x) = some false := by
          show some ((ByteArray.mk k.toArray) == (ByteArray.mk x.toArray)) = some false
          cases hb : ((ByteArray.mk k.toArray) == (ByteArray.mk x.toArray)) with
          | false => rfl
          | true => exact absurd ((bytes_beq _ _).1 hb) (fun h => he (by simpa using h.symm))
        rw [this]
        rcases findNow_str k es ks (i + 1) ht with ⟨h1, h2, h3⟩ | ⟨v, j, h1, h2, h3, h4⟩
        · exact .inl ⟨by simp [getM, he, h1], h2, fun z => by simp [putM, he, h3]⟩
        · refine .inr ⟨v, j + 1, by simp [getM, he, h1], ?_, by simpa using h3, fun z => by simp [putM, he, h4]⟩
          rw [show i + (j + 1) = i + 1 + j by omega]; exact h2

theorem run_findKey_str {kt : TypeId} (hk : P.underlying kt = some .string) (k : List UInt8) {es : List MapEntry} {ks : List (List UInt8 × Value)} (h : es.map (fun e => (e.key, e.val)) = ks.map kv) :
    (getM k ks = none ∧ (Instr.findKey kt (str k) es).run P w = .ok none w ∧ ∀ x, putM k x ks = ks ++ [(k, x)]) ∨
    ∃ v j, getM k ks = some v ∧ (Instr.findKey kt (str k) es).run P w = .ok (some (j, v)) w ∧ ks[j]? = some (k, v) ∧ ∀ x, putM k x ks = ks.set j (k, x) := by
  rcases findNow_str k es ks 0 h with ⟨h1, h2, h3⟩ | ⟨v, j, h1, h2, h3, h4⟩
  · exact .inl ⟨h1, by simp [Instr.findKey, run_underlying hk, h2], h3⟩
  · rw [Nat.zero_add] at h2
    exact .inr ⟨v, j, h1, by simp [Instr.findKey, run_underlying hk, h2], h3, h4⟩
theorem run_checkKey_str {kt : TypeId} (hk : P.underlying kt = some .string) (b : Bool) (k : List UInt8) : (Instr.checkKey b 10000 kt (str k)).run P w = .ok () w := by
  unfold Instr.checkKey
  simp [run_underlying hk, str]
/-- v, ok := m[k] -/
theorem lookup_ {t kt et : TypeId} (ht : P.underlying t = some (.map kt et)) (hk : P.underlying kt = some .string) {z : Value} (hz : ∀ w, (zeroValue et).run P w = .ok z w) {b : Nat} {ks : List (List UInt8 × Value)} (h : Mp w b ks) {k : List UInt8}
    (kk : next (.tuple #[(getM k ks).getD z, .bool (getM k ks).isSome]) w) : lookupK P t (.map (some b)) (str k) true w next QP := by
  obtain ⟨es, c, hh, hks⟩ := h
  have hg : (getObj b).run P w = .ok (.map es c) w := by simp [getObj, Sem.run, hh]
  rcases run_findKey_str (P := P) (w := w) hk k hks with ⟨h1, h2, h3⟩ | ⟨v, j, h1, h2, h3, h4⟩
  · rw [h1] at kk
    refine eff_value (v := .tuple #[z, .bool false]) (w' := w) ?_ kk
    simp [Instr.lookup, run_underlying ht, hg, run_checkKey_str hk, h2, hz]
  · rw [h1] at kk
    refine eff_value (v := .tuple #[v, .bool true]) (w' := w) ?_ kk
    simp [Instr.lookup, run_underlying ht, hg, run_checkKey_str hk, h2]
/-- v := m[k] -/
theorem lookup1_ {t kt et : TypeId} (ht : P.underlying t = some (.map kt et)) (hk : P.underlying kt = some .string) {z : Value} (hz : ∀ w, (zeroValue et).run P w = .ok z w) {b : Nat} {ks : List (List UInt8 × Value)} (h : Mp w b ks) {k : List UInt8}
    (kk : next ((getM k ks).getD z) w) : lookupK P t (.map (some b)) (str k) false w next QP := by
  obtain ⟨es, c, hh, hks⟩ := h
  have hg : (getObj b).run P w = .ok (.map es c) w := by simp [getObj, Sem.run, hh]
  rcases run_findKey_str (P := P) (w := w) hk k hks with ⟨h1, h2, h3⟩ | ⟨v, j, h1, h2, h3, h4⟩
  · rw [h1] at kk
    refine eff_value (v := z) (w' := w) ?_ kk
    simp [Instr.lookup, run_underlying ht, hg, run_checkKey_str hk, h2, hz]
  · rw [h1] at kk
    refine eff_value (v := v) (w' := w) ?_ kk
    simp [Instr.lookup, run_underlying ht, hg, run_checkKey_str hk, h2]
theorem mapupd_ {t kt et : TypeId} (ht : P.underlying t = some (.map kt et)) (hk : P.underlying kt = some .string) {b : Nat} {ks : List (List UInt8 × Value)} (h : Mp w b ks) {k : List UInt8} {v : Value}
    (kk : ∀ w', Mp w' b (putM k v ks) → Mod (fun i => i = b) w w' → w'.heap.size = w.heap.size → next undef w') : mapupdK P t (.map (some b)) (str k) v w next QP := by
  obtain ⟨es, c, hh, hks⟩ := h
  have hg : (getObj b).run P w = .ok (.map es c) w := by simp [getObj, Sem.run, hh]
  have hs : ∀ o, (setObj b o).run P w = .ok () { w with heap := w.heap.setIfInBounds b o } := fun o => by simp [setObj, Sem.run, hh]
  have hb := (Array.getElem?_eq_some_iff.1 hh).1
  have hmod : ∀ o, Mod (fun i => i = b) w { w with heap := w.heap.setIfInBounds b o } := fun o =>
    ⟨rfl, rfl, rfl, by simp, fun i hi hne => by
      have hne : ¬ i = b := hne
      simp [Array.getElem?_setIfInBounds, Ne.symm hne]⟩
  rcases run_findKey_str (P := P) (w := w) hk k hks with ⟨h1, h2, h3⟩ | ⟨u, i, h1, h2, h3, h4⟩
  · refine eff_unit (w' := { w with heap := w.heap.setIfInBounds b (.map (es.push { key := str k, val := v, born := c }) (c + 1)) }) ?_ (kk _ ⟨es.push { key := str k, val := v, born := c }, c + 1, by simp [hb], by rw [h3]; simp [hks, kv]⟩ (hmod _) (by simp))
    simp [Instr.mapUpdate, run_underlying ht, hg, run_checkKey_str hk, h2, hs]
  · have hes' : (es.toList.map (fun e => (e.key, e.val)))[i]? = some (str k, u) := by rw [hks, List.getElem?_map, h3]; rfl
    rw [List.getElem?_map] at hes'
    obtain ⟨e, he, hek⟩ := Option.map_eq_some_iff.1 hes'
    simp only [Prod.mk.injEq] at hek
    have hes : es[i]? = some e := by simpa using he
    have hst : (Instr.keyThatStays (((es[i]?).map (·.key)).getD (str k)) (str k)).run P w = .ok (str k) w := by
      have hsb : Instr.sameBits 10000 (str k) (str k) = true := by
        show ((ByteArray.mk k.toArray) == (ByteArray.mk k.toArray)) = true
        rw [(bytes_beq _ _).2 rfl]
      rw [hes]
      simp [Instr.keyThatStays, hek.1, hsb]
    refine eff_unit (w' := { w with heap := w.heap.setIfInBounds b (.map (es.modify i fun e => { e with key := str k, val := v }) c) }) ?_ (kk _ ⟨es.modify i fun e => { e with key := str k, val := v }, c, by simp [hb], ?_⟩ (hmod _) (by simp))
    · simp [Instr.mapUpdate, run_underlying ht, hg, run_checkKey_str hk, h2, hst, hs]
    · rw [h4, List.map_set, ← hks]
      apply List.ext_getElem?
      intro j
      simp only [List.getElem?_map, Array.getElem?_toList, Array.getElem?_modify, List.getElem?_set, List.length_map, Array.length_toList]
      by_cases hj : i = j
      · subst hj
        rw [if_pos rfl, if_pos rfl, if_pos (Array.getElem?_eq_some_iff.1 hes).1, hes]
        rfl
      · rw [if_neg hj, if_neg hj]
end
end Go.HL

/- the nodes of msgid.Refs, printed by mkr.py -/
set_option maxRecDepth 100000
namespace Go.Proofs.Y
open Go Go.HL Go.Proofs
def sL : Code → Code | .seq a _ => a | c => c
def sR : Code → Code | .seq _ b => b | c => c
def sB : Code → Code | .block _ c => c | c => c
def rfA : Code → Code | .rangeFunc _ _ a _ => a | c => c
def rfB : Code → Code | .rangeFunc _ _ _ b => b | c => c
noncomputable def bd : Code := match Tryd.f20.body with | some c => c | none => .skip
abbrev rN : Nat := 4971417072786846087133
def rPlans : List Plan := [⟨10, [0, 0, 3, 0, 0, 0, 48, 127, 255, 511], [(0, []), (1, []), (2, []), (3, []), (4, []), (5, []), (6, []), (7, []), (8, []), (9, [])], none⟩]
def hn0 : HC :=
  (.reg [.asg 2 (.lit (.slice none 0 0))])
noncomputable def chn0 : Code := (sL bd)
def hn1 : HC :=
  (.reg [.eff (some 16) (.call { callee := .value (.func 33), args := #[.tmp 15, .const (str [82, 101, 102, 101, 114, 101, 110, 99, 101, 115])], argTypes := #[22, 9] }) 31 [(15, .slot 0)] none [],
    .asg 3 (.slot 16)])
noncomputable def chn1 : Code := (sL (sR bd))
def hn2 : HC :=
  (.reg [.asg 4 (.lit (.slice none 0 0))])
noncomputable def chn2 : Code := (sL (sR (sR bd)))
def hn3_3 : HC :=
  (.reg [.need (.n2 (.bin .add) (.slot 20) (.lit (.int .i64 1))),
    .asg 20 (.n2 (.bin .add) (.slot 20) (.lit (.int .i64 1)))])
def hn3_2 : HC :=
  (.seq
  (.block 1
    (.seq
    (.reg [.need (.n2 (.iaddr 1) (.slot 18) (.slot 20)),
      .need (.n1 .ld (.n2 (.iaddr 1) (.slot 18) (.slot 20))),
      .asg 6 (.n1 .ld (.n2 (.iaddr 1) (.slot 18) (.slot 20)))])
    (.seq
    (.reg [.eff (some 26) (.call { callee := .value (.func 34), args := #[.tmp 24, .tmp 25], argTypes := #[31, 9] }) 4 [(24, .slot 3), (25, .slot 6)] none [],
      .need (.n1 .bnot (.slot 26)),
      .asg 27 (.n1 .bnot (.slot 26))])
    (.cond (.slot 27)
      (.reg [.eff (some 30) (.buildSlice 31 1 #[(0, .tmp 29)]) 31 [(29, .slot 6)] none [],
        .eff (some 31) (.call { callee := .builtin .append, args := #[.tmp 28, .tmp 30], argTypes := #[31, 31] }) 31 [(28, .slot 4), (30, .slot 30)] none [],
        .asg 4 (.slot 31)])
      .skip))))
  hn3_3)
def hn3_1 : HC :=
  (.seq
  (.reg [.need (.n2 (.bin .lss) (.slot 20) (.slot 19)),
    .asg 21 (.n2 (.bin .lss) (.slot 20) (.slot 19))])
  (.seq
  (.cond (.slot 21)
    .skip
    (.exit 0))
  hn3_2))
def hn3 : HC :=
  (.seq
  (.reg [.eff (some 18) (.call { callee := .value (.func 33), args := #[.tmp 17, .const (str [73, 110, 45, 82, 101, 112, 108, 121, 45, 84, 111])], argTypes := #[22, 9] }) 31 [(17, .slot 0)] none [],
    .need (.n1 .lensl (.slot 18)),
    .asg 19 (.n1 .lensl (.slot 18)),
    .asg 20 (.lit (.int .i64 0))])
  (.block 0
    (.loop
      hn3_1)))
noncomputable def chn3 : Code := (sL (sR (sR (sR bd))))
def hn4 : HC :=
  (.reg [.need (.n1 .lensl (.slot 3)),
    .need (.n2 (.bin .sub) (.n1 .lensl (.slot 3)) (.lit (.int .i64 1))),
    .need (.n2 .mx (.n2 (.bin .sub) (.n1 .lensl (.slot 3)) (.lit (.int .i64 1))) (.lit (.int .i64 0))),
    .asg 7 (.n2 .mx (.n2 (.bin .sub) (.n1 .lensl (.slot 3)) (.lit (.int .i64 1))) (.lit (.int .i64 0)))])
noncomputable def chn4 : Code := (sL (sR (sR (sR (sR bd)))))
def hn5 : HC :=
  (.draw [.need (.n3 (.slv 1 false true) (.slot 3) (.lit (.tuple #[])) (.slot 7)),
    .need (.n3 (.slv 1 true false) (.slot 3) (.slot 7) (.lit (.tuple #[]))),
    .eff (some 44) (.buildSlice 89 3 #[(0, .tmp 39), (1, .tmp 40), (2, .tmp 43)]) 89 [(39, .n3 (.slv 1 false true) (.slot 3) (.lit (.tuple #[])) (.slot 7)), (40, .slot 4), (43, .n3 (.slv 1 true false) (.slot 3) (.slot 7) (.lit (.tuple #[])))] none [],
    .eff (some 45) (.call { callee := .value (.func 35), args := #[.tmp 44], argTypes := #[89] }) 31 [(44, .slot 44)] none [],
    .asg 8 (.slot 45)])
noncomputable def chn5 : Code := (sL (sR (sR (sR (sR (sR bd))))))
def hn6 : HC :=
  (.reg [.eff (some 46) (.makeMap 50 none) 50 [] none [],
    .eff (some 9) (.alloc 50) 0 [] none [],
    .eff none (.store 50 (.tmp 9) (.tmp 46)) 0 [(9, .slot 9), (46, .slot 46)] none []])
noncomputable def chn6 : Code := (sL (sR (sR (sR (sR (sR (sR bd)))))))
def hn7 : HC :=
  (.reg [.eff (some 10) (.alloc 31) 0 [] none []])
noncomputable def chn7 : Code := (sL (sR (sR (sR (sR (sR (sR (sR bd))))))))
def hn8 : HC :=
  (.reg [.eff (some 48) (.call { callee := .value (.func 36), args := #[.tmp 47], argTypes := #[31] }) 52 [(47, .slot 8)] none []])
noncomputable def chn8 : Code := sL (sL (sR (sR (sR (sR (sR (sR (sR (sR bd)))))))))
def hn9 : HC :=
  (.reg [.need (.n1 .ld (.slot 10)),
    .eff (some 72) (.call { callee := .value (.func 37), args := #[.tmp 71], argTypes := #[31] }) 0 [(71, .n1 .ld (.slot 10))] none []])
noncomputable def chn9 : Code := (sL (sR (sR (sR (sR (sR (sR (sR (sR (sR bd))))))))))
def hn10 : HC :=
  (.reg [.need (.n1 .ld (.slot 10)),
    .asg 2 (.n1 .ld (.slot 10))])
noncomputable def chn10 : Code := (sL (sR (sR (sR (sR (sR (sR (sR (sR (sR (sR bd)))))))))))
def hnA : HC :=
  (.reg [.asg 12 (.slot 50)])
noncomputable def chnA : Code := rfA (sB (sR (sL (sR (sR (sR (sR (sR (sR (sR (sR bd)))))))))))
def hnB_1 : HC :=
  (.reg [.need (.n1 .ld (.slot 9)),
    .eff none (.mapUpdate 50 (.tmp 68) (.tmp 69) (.tmp 70)) 0 [(68, .n1 .ld (.slot 9)), (69, .slot 12), (70, .lit (.agg #[]))] none []])
def hnB : HC :=
  (.block 3
    (.seq
    (.seq
    (.reg [.need (.n1 .ld (.slot 9)),
      .eff (some 54) (.lookup 50 (.tmp 52) (.tmp 53) true) 55 [(52, .n1 .ld (.slot 9)), (53, .slot 12)] none [],
      .need (.n1 (.ext 0) (.slot 54)),
      .need (.n1 (.ext 1) (.slot 54)),
      .eff (some 13) (.alloc 54) 0 [] none [],
      .eff none (.store 54 (.tmp 13) (.tmp 55)) 0 [(13, .slot 13), (55, .n1 (.ext 0) (.slot 54))] none [],
      .asg 14 (.n1 (.ext 1) (.slot 54))])
    (.seq
    (.reg [.need (.n1 .bnot (.slot 14)),
      .need (.gif (.n1 .bnot (.slot 14)) true (.n1 .ld (.slot 10))),
      .need (.gif (.n1 .bnot (.slot 14)) true (.n1 .lensl (.n1 .ld (.slot 10)))),
      .need (.gif (.n1 .bnot (.slot 14)) true (.n2 (.bin .lss) (.n1 .lensl (.n1 .ld (.slot 10))) (.lit (.int .i64 100)))),
      .need (.n3 .pick (.n1 .bnot (.slot 14)) (.n2 (.bin .lss) (.n1 .lensl (.n1 .ld (.slot 10))) (.lit (.int .i64 100))) (.lit (.bool false))),
      .asg 63 (.n3 .pick (.n1 .bnot (.slot 14)) (.n2 (.bin .lss) (.n1 .lensl (.n1 .ld (.slot 10))) (.lit (.int .i64 100))) (.lit (.bool false)))])
    (.cond (.slot 63)
      (.reg [.need (.n1 .ld (.slot 10)),
        .asg 64 (.n1 .ld (.slot 10)),
        .eff (some 66) (.buildSlice 31 1 #[(0, .tmp 65)]) 31 [(65, .slot 12)] none [],
        .eff (some 67) (.call { callee := .builtin .append, args := #[.tmp 64, .tmp 66], argTypes := #[31, 31] }) 31 [(64, .slot 64), (66, .slot 66)] none [],
        .eff none (.store 31 (.tmp 10) (.tmp 67)) 0 [(10, .slot 10), (67, .slot 67)] none []])
      .skip)))
    hnB_1))
noncomputable def chnB : Code := rfB (sB (sR (sL (sR (sR (sR (sR (sR (sR (sR (sR bd)))))))))))
theorem dn0 : dcode Tryd.prog rN 74 rPlans chn0 = some hn0 := by kernel_rfl
theorem dn1 : dcode Tryd.prog rN 74 rPlans chn1 = some hn1 := by kernel_rfl
theorem dn2 : dcode Tryd.prog rN 74 rPlans chn2 = some hn2 := by kernel_rfl
theorem dn3 : dcode Tryd.prog rN 74 rPlans chn3 = some hn3 := by kernel_rfl
theorem dn4 : dcode Tryd.prog rN 74 rPlans chn4 = some hn4 := by kernel_rfl
theorem dn5 : dcode Tryd.prog rN 74 rPlans chn5 = some hn5 := by kernel_rfl
theorem dn6 : dcode Tryd.prog rN 74 rPlans chn6 = some hn6 := by kernel_rfl
theorem dn7 : dcode Tryd.prog rN 74 rPlans chn7 = some hn7 := by kernel_rfl
theorem dn8 : dcode Tryd.prog rN 74 rPlans chn8 = some hn8 := by kernel_rfl
theorem dn9 : dcode Tryd.prog rN 74 rPlans chn9 = some hn9 := by kernel_rfl
theorem dn10 : dcode Tryd.prog rN 74 rPlans chn10 = some hn10 := by kernel_rfl
theorem dnA : dcode Tryd.prog rN 74 [] chnA = some hnA := by kernel_rfl
theorem pnA : plainC chnA = true := by kernel_rfl
theorem dnB : dcode Tryd.prog rN 74 [] chnB = some hnB := by kernel_rfl
theorem pnB : plainC chnB = true := by kernel_rfl
end Go.Proofs.Y

/- MH: msgid: Refs: a range over a function, walked by hand round the code over named slots. -/
namespace Go.Proofs.Y
open Go Go.HL Go.Proofs

/-! ### plain: each id once, the first time that it comes -/
def firsts (ys : List Bytes) : List Bytes := ys.foldl (fun acc y => if y ∈ acc then acc else acc ++ [y]) []
theorem firsts_snoc (ys : List Bytes) (y : Bytes) : firsts (ys ++ [y]) = if y ∈ firsts ys then firsts ys else firsts ys ++ [y] := by
  unfold firsts; rw [List.foldl_append]; rfl
theorem mem_firsts_h (x : Bytes) : ∀ (ys acc : List Bytes), x ∈ ys.foldl (fun acc y => if y ∈ acc then acc else acc ++ [y]) acc ↔ x ∈ acc ∨ x ∈ ys
  | [], acc => by simp
  | y :: ys, acc => by
    rw [List.foldl_cons, mem_firsts_h x ys]
    split
    · rename_i h
      simp only [List.mem_cons]
      exact ⟨fun h' => h'.elim .inl fun e => .inr (.inr e), fun h' => h'.elim .inl fun h2 => h2.elim (fun e => .inl (e ▸ h)) .inr⟩
    · simp only [List.mem_append, List.mem_cons, List.not_mem_nil, or_false, or_assoc]
theorem mem_firsts (x : Bytes) (ys : List Bytes) : x ∈ firsts ys ↔ x ∈ ys := by
  unfold firsts; rw [mem_firsts_h]; simp
def outB (ys : List Bytes) : List Bytes := (firsts ys).take 100
theorem outB_len (ys : List Bytes) : (outB ys).length ≤ 100 := by unfold outB; rw [List.length_take]; omega
theorem outB_snoc (ys : List Bytes) (y : Bytes) : outB (ys ++ [y]) = if y ∉ ys ∧ (outB ys).length < 100 then outB ys ++ [y] else outB ys := by
  unfold outB
  rw [firsts_snoc]
  by_cases h : y ∈ ys
  · rw [if_pos ((mem_firsts y ys).2 h), if_neg fun h' => h'.1 h]
  · rw [if_neg fun h' => h ((mem_firsts y ys).1 h')]
    by_cases hl : (firsts ys).length < 100
    · rw [if_pos ⟨h, by rw [List.length_take]; omega⟩, List.take_of_length_le (by simp; omega), List.take_of_length_le (by omega)]
    · rw [if_neg fun h' => by rw [List.length_take] at h'; omega, List.take_append_of_le_length (by omega)]

/-- the references, and how they come -/
def refAB (fs : List Fd) : List Bytes := ofB fs [82, 101, 102, 101, 114, 101, 110, 99, 101, 115]
def refBB (fs : List Fd) : List Bytes := (ofB fs [73, 110, 45, 82, 101, 112, 108, 121, 45, 84, 111]).filter fun x => !decide (x ∈ refAB fs)
def allB (fs : List Fd) : List Bytes := (refAB fs).take ((refAB fs).length - 1) ++ (refBB fs ++ (refAB fs).drop ((refAB fs).length - 1))
def refsB (fs : List Fd) : List Bytes := (outB (allB fs).reverse).reverse

theorem idsA_len : ∀ (o : Option Bytes) (s : Bytes), (idsA o s).length ≤ s.length
  | _, [] => by cases ‹Option Bytes› <;> simp [idsA]
  | none, c :: s => by
    rw [idsA_n]
    split
    · have := idsA_len (some []) s; simp; omega
    · have := idsA_len none s; simp; omega
  | some t, c :: s => by
    rw [idsA_s]
    split
    · have := idsA_len (some []) s; simp; omega
    · split
      · have := idsA_len none s
        split <;> simp <;> omega
      · have := idsA_len (some (t ++ [c])) s; simp; omega
theorem idsB_len (s : Bytes) : (idsB s).length ≤ s.length := idsA_len none s
def szG (fs : List Fd) : Prop := ∀ f ∈ fs, f.name.length ≤ 1000000000 ∧ f.value.length ≤ 1100000
theorem szG.f {fs : List Fd} (h : szG fs) : szF fs := fun f hf => ⟨(h f hf).1, by have := (h f hf).2; omega⟩
theorem ofB_len {fs : List Fd} (hz : szG fs) (name : Bytes) : (ofB fs name).length ≤ 1100000 := by
  have h1 : ((getB fs name).getD []).length ≤ 1100000 := by
    unfold getB
    cases h : fs.find? fun f => sameB f.name name with
    | none => simp
    | some f => exact (hz f (List.mem_of_find?_eq_some h)).2
  have := idsB_len ((getB fs name).getD [])
  unfold ofB; omega

section
variable {w : World} {next : Value → World → Prop} {QP : List PanicEntry → World → Prop}

theorem Sl.take1 {oa : Option Addr} {n c m : Nat} {l : List Bytes} (h : Sl w (.slice oa n c) 1 n (l.map str)) (hl : l.length = n) (hm : m ≤ n) : Sl w (.slice oa m c) 1 m ((l.take m).map str) := by
  obtain ⟨-, a, c', e, hc, hcell⟩ := h
  simp only [Value.slice.injEq] at e
  obtain ⟨rfl, -, rfl⟩ := e
  refine ⟨by simp; omega, oa, c, rfl, by omega, fun h => ?_⟩
  obtain ⟨b, o, e, h2⟩ := hcell (by omega)
  refine ⟨b, o, e, fun j hj => ?_⟩
  rw [h2 j (by omega), List.map_take, List.getElem?_take_of_lt (by omega)]
theorem Sl.drop1 {oa : Option Addr} {n c m : Nat} {l : List Bytes} (h : Sl w (.slice oa n c) 1 n (l.map str)) (hl : l.length = n) (hm : m ≤ n) : Sl w (.slice (if c = m then oa else oa.map (·.add m)) (n - m) (c - m)) 1 (n - m) ((l.drop m).map str) := by
  obtain ⟨-, a, c', e, hc, hcell⟩ := h
  simp only [Value.slice.injEq] at e
  obtain ⟨rfl, -, rfl⟩ := e
  refine ⟨by simp; omega, _, c - m, rfl, by omega, fun h => ?_⟩
  obtain ⟨b, o, rfl, h2⟩ := hcell (by omega)
  rw [if_neg (by omega)]
  refine ⟨b, o + m, by simp [Addr.add], fun j hj => ?_⟩
  rw [Nat.add_assoc, h2 (m + j) (by omega), List.map_drop, List.getElem?_drop]

theorem node {c d : Code} {h : HC} {pl : List Plan} (hd : dcode Tryd.prog rN 74 pl c = some h) {D : List Deferred} {σ : Env} {a : Act} (R : RelN rN 74 D a σ) {n : Nat} {Q : Exit → Act → World → Prop}
    (H : ∀ K : Env → World → Prop, (∀ σ' w', (∀ a', RelN rN 74 D a' σ' → d.wpIn Fence.wide n Tryd.prog Q a' w') → K σ' w') → hw Tryd.prog noPanic h (seqX K fun _ _ _ => False) σ w) : (Code.seq c d).wpIn Fence.wide n Tryd.prog Q a w := by
  refine wpIn_seq (wpIn_wide.2 (Code.wp_mono (fun e a w hq => ?_) (dcode_sound mixed c h hd _ σ a w R (H _ fun σ' w' hh => hh))))
  cases e with
  | normal => obtain ⟨σ', r, q⟩ := hq; exact q _ r
  | exit id => obtain ⟨σ', r, q⟩ := hq; exact q.elim
  | ret => obtain ⟨σ', r, q⟩ := hq; exact q.elim
  | panic c => exact hq.2.elim
  | goto l => exact hq.elim
  | outgrown => exact hq.elim

theorem bd_eq : Tryd.f20.body = some (.seq chn0 (.seq chn1 (.seq chn2 (.seq chn3 (.seq chn4 (.seq chn5 (.seq chn6 (.seq chn7 (.seq (.seq chn8 (.block 2 (.rangeFunc (.tmp 48) #[49, 50] chnA chnB))) (.seq chn9 (.seq chn10 .ret))))))))))) := by kernel_rfl
theorem c20 : callable Tryd.prog 20 = true := by kernel_rfl
theorem nt20 : Tryd.f20.ntmps = 74 := by kernel_rfl
theorem u50 : Tryd.prog.underlying 50 = some (.map 9 54) := by kernel_rfl
theorem sz50 : szOf Tryd.prog 50 = some 1 := by kernel_rfl
theorem sz54 : szOf Tryd.prog 54 = some 0 := by kernel_rfl
theorem sz31 : szOf Tryd.prog 31 = some 1 := by kernel_rfl
theorem z54 (w : World) : (zeroValue 54).run Tryd.prog w = .ok (.agg #[]) w := run_zero (by kernel_rfl)

theorem start20 (v : Value) : RelN rN 74 [] { tmps := #[v] ++ Array.replicate (74 - (#[v] : Array Value).size) undef, defers := [] } (σ0 [v]) := by
  refine ⟨by simp, rfl, fun t _ => ?_⟩
  simp only [Act.eval, σ0]
  rcases t with _ | t
  · simp
  · simp only [Array.getD_eq_getD_getElem?, Array.getElem?_append, List.size_toArray, Array.getElem?_replicate, List.getD_eq_getElem?_getD]
    simp
    split <;> simp

/-- what holds between the rounds -/
structure Rnd (w0 : World) (B mb b9 b10 : Nat) (ys : List Bytes) (W : World) : Prop where
  b9 : Blk W b9 50 [.map (some mb)]
  ex : ∃ ks vo, Mp W mb ks ∧ (∀ x, (getM x ks).isSome = true ↔ x ∈ ys) ∧ (∀ x v, getM x ks = some v → v = .agg #[]) ∧ Blk W b10 31 [vo] ∧ HL.Own W vo 9 1 (outB ys).length ((outB ys).map str) ∧ ∀ k, vo.ownBlock = some k → B ≤ k
  m : Mod none' w0 W

theorem getM_put (k x : List UInt8) (v : Value) : ∀ ks : List (List UInt8 × Value), getM x (putM k v ks) = if k = x then some v else getM x ks
  | [] => by simp only [putM, getM]
  | p :: ks => by
    unfold putM
    by_cases h : p.1 = k
    · rw [if_pos h]
      simp only [getM]
      by_cases hx : k = x
      · rw [if_pos hx, if_pos hx]
      · rw [if_neg hx, if_neg hx, if_neg (by rw [h]; exact hx)]
    · rw [if_neg h]
      simp only [getM, getM_put k x v ks]
      by_cases hx : p.1 = x
      · rw [if_pos hx, if_pos hx, if_neg fun e => h (by rw [hx, e])]
      · rw [if_neg hx, if_neg hx]

theorem round_ {w0 : World} {B mb b9 b10 zb Bs m l : Nat} {ys : List Bytes} {y : Bytes} {a' : Act} {W : World} {σ : Env} (hB : B ≤ W.heap.size) (hmb : mb < B) (h9 : b9 < B) (h10 : b10 < B) (h0 : w0.heap.size ≤ mb) (h09 : w0.heap.size ≤ b9) (h010 : w0.heap.size ≤ b10) (hne : mb ≠ b9 ∧ mb ≠ b10 ∧ b9 ≠ b10) (hzb : zb < B ∧ zb ≠ mb ∧ zb ≠ b10) (hBs : Bs < B ∧ Bs ≠ mb ∧ Bs ≠ b10)
    (hI : Rnd w0 B mb b9 b10 ys W) (R : RelN rN 74 [] a' σ) (s9 : σ 9 = ptr b9) (s10 : σ 10 = ptr b10) (s12 : σ 12 = str y) :
    chnB.wpIn (inR l) m Tryd.prog (fun e _ W' => e = .normal ∧ KeepsFrom B W W' ∧ Kb zb Bs W W' ∧ Rnd w0 B mb b9 b10 (ys ++ [y]) W') a' W := by
  obtain ⟨hb9, ⟨ks, vo, hmp, hks, hkv, hb10, hown, hvo⟩, hm⟩ := hI
  have hB0 : w0.heap.size ≤ B := by omega
  refine wpIn_mono (dcode_soundIn (QP := noPanic) chnB hnB dnB pnB (seqX (fun _ W' => KeepsFrom B W W' ∧ Kb zb Bs W W' ∧ Rnd w0 B mb b9 b10 (ys ++ [y]) W') fun _ _ _ => False) σ a' W R ?_) ?_
  · have fin : ∀ W' vo', Mod (fun k => k = mb ∨ k = b10 ∨ vo.ownBlock = some k) W W' → Blk W' b9 50 [.map (some mb)] → Mp W' mb (putM y (.agg #[]) ks) → Blk W' b10 31 [vo'] → HL.Own W' vo' 9 1 (outB (ys ++ [y])).length ((outB (ys ++ [y])).map str) → (∀ k, vo'.ownBlock = some k → B ≤ k) →
        KeepsFrom B W W' ∧ Kb zb Bs W W' ∧ Rnd w0 B mb b9 b10 (ys ++ [y]) W' := by
      intro W' vo' mm q9 qm q10 qo qv
      have hcells : ∀ k, vo.ownBlock = some k → ∃ cs e fz, W.heap[k]? = some (.cells cs e fz) := by
        intro k hk
        rcases hown.2 with ⟨e, -⟩ | ⟨g, cap, cur, fz, e, -, hh, -⟩
        · rw [e] at hk; cases hk
        · rw [e] at hk
          simp only [Value.ownBlock, Option.some.injEq] at hk
          subst hk
          exact ⟨_, _, _, hh⟩
      refine ⟨⟨mm.size, fun k o hk ho hc => ?_⟩, ⟨mm.block zb (by omega) ?_, mm.block Bs (by omega) ?_⟩, ⟨q9, ⟨_, vo', qm, fun x => ?_, fun x v hx => ?_, q10, qo, qv⟩, hm.trans mm ?_⟩⟩
      · rw [mm.block k (Array.getElem?_eq_some_iff.1 ho).1]
        · exact ho
        · rintro (h | h | h)
          · omega
          · omega
          · obtain ⟨cs, e, fz, hh⟩ := hcells k h
            rw [hh] at ho
            cases ho
            cases hc
      · rintro (h | h | h)
        · exact hzb.2.1 h
        · exact hzb.2.2 h
        · have := hvo _ h; omega
      · rintro (h | h | h)
        · exact hBs.2.1 h
        · exact hBs.2.2 h
        · have := hvo _ h; omega
      · rw [getM_put]
        by_cases hx : y = x
        · rw [if_pos hx]; simp [hx]
        · rw [if_neg hx, hks x]; simp [Ne.symm hx]
      · rw [getM_put] at hx
        by_cases hy : y = x
        · rw [if_pos hy] at hx; exact (Option.some.inj hx).symm
        · rw [if_neg hy] at hx; exact hkv x v hx
      · rintro i hi (h | h | h)
        · omega
        · omega
        · have := hvo _ h; omega
    have c9 : W.cell? ⟨b9, 0, none⟩ = some (.map (some mb)) := hb9.cell 0
    unfold hnB
    try simp only [go_sem, s9, s10, s12, c9]
    refine lookup_ u50 u9 z54 hmp ?_
    have hv : (getM y ks).getD (.agg #[]) = .agg #[] := by
      cases h : getM y ks with
      | none => rfl
      | some v => exact hkv y v h
    have hd : (getM y ks).isSome = decide (y ∈ ys) := by
      rw [Bool.eq_iff_iff, hks y]; simp
    rw [hv, hd]
    try simp only [go_sem]
    refine alloc_ (z := .agg #[]) (cs := []) (by kernel_rfl) rfl ?_
    intro b13 W1 hb13 hb13b m1 hs1
    try simp only [go_sem]
    refine storeN (n := 0) (vs := []) sz54 rfl hb13b (by simp) (by simp) ?_
    intro W2 hb2 m2 hs2
    have mm2 : Mod none' W W2 := m1.trans m2 fun k hk h => by
      have h : k = b13 := h
      omega
    obtain ⟨voa, voc, rfl, -⟩ := hown.form
    have d10 : W2.cell? ⟨b10, 0, none⟩ = some (.slice voa (outB ys).length voc) := (hb10.mod mm2 fun h => h).cell 0
    try simp only [go_sem, s10, d10]
    have hout : (if (!decide (y ∈ ys)) = true then decide (((outB ys).length : Int) < 100) else false) = decide (y ∉ ys ∧ (outB ys).length < 100) := by
      by_cases h : y ∈ ys
      · simp [h]
      · simp [h]; omega
    rw [hout]
    have mp2 := hmp.mod mm2 fun h => h
    have b92 := hb9.mod mm2 fun h => h
    have b102 := hb10.mod mm2 fun h => h
    have own2 := hown.mod mm2 fun _ _ h => h
    refine ⟨fun hy => ?_, fun hy => ?_⟩
    · have hy : y ∉ ys ∧ (outB ys).length < 100 := by simpa using hy
      refine bsl1 sl31 (cs := [str y]) rfl rfl (by omega) ?_
      intro b3 w3 hb3 own3 _ m3 hs3
      refine append_ sl31 (own2.mod m3 fun _ _ h => h) own3.sl (by intro u hu; rw [List.mem_singleton.1 hu]; rfl) (by omega) (by unfold maxLen; omega) ?_
      intro v4 w4 own4 m4 hf4 _
      have e1 : (outB ys).length + 1 = (outB (ys ++ [y])).length := by rw [outB_snoc, if_pos hy]; simp
      have e2 : (outB ys).map str ++ [str y] = (outB (ys ++ [y])).map str := by rw [outB_snoc, if_pos hy]; simp
      rw [e1, e2] at own4
      have s2 := mm2.size
      have s3 := m3.size
      have nb : ∀ k, k < B → ¬ ownS (.slice voa (outB ys).length voc) k := fun k hk h => by have := hvo k h; omega
      have b104 := (b102.mod m3 fun h => h).mod m4 (nb _ h10)
      refine store1 sz31 b104 (by simp) ?_ ?_
      · obtain ⟨a4, c4, rfl, -⟩ := own4.form; rfl
      intro w5 b105 m5 hs5
      have hv4 : ∀ k, v4.ownBlock = some k → B ≤ k := fun k hk => by
        rcases hf4 k hk with h | h
        · exact hvo k h
        · omega
      have s4 := m4.size
      have b95 := ((b92.mod m3 fun h => h).mod m4 (nb _ h9)).mod m5 fun h => hne.2.2 h
      have mp5 := ((mp2.mod m3 fun h => h).mod m4 (nb _ hmb)).mod m5 fun h => hne.2.1 h
      have own5 := own4.mod m5 fun k hk h => by
        have := hv4 k hk
        have h : k = b10 := h
        omega
      unfold hnB_1
      have c95 : w5.cell? ⟨b9, 0, none⟩ = some (.map (some mb)) := b95.cell 0
      try simp only [go_sem, s9, c95, s12]
      refine mapupd_ u50 u9 mp5 ?_
      intro w6 mp6 m6 hs6
      refine fin w6 v4 ?_ (b95.mod m6 fun h => hne.1 h.symm) mp6 (b105.mod m6 fun h => hne.2.1 h.symm) (own5.mod m6 fun k hk h => ?_) hv4
      · exact ((((mm2.trans' m3).mono fun _ _ h => h.elim).trans' (m4.mono fun k _ h => .inr (.inr h))).trans' (m5.mono fun k _ h => .inr (.inl h))).trans' (m6.mono fun k _ h => .inl h)
      · have := hv4 k hk
        have h : k = mb := h
        omega
    · have hy : ¬ (y ∉ ys ∧ (outB ys).length < 100) := by simpa using hy
      have e1 : outB (ys ++ [y]) = outB ys := by rw [outB_snoc, if_neg hy]
      unfold hnB_1
      have c95 : W2.cell? ⟨b9, 0, none⟩ = some (.map (some mb)) := b92.cell 0
      try simp only [go_sem, s9, c95, s12]
      refine mapupd_ u50 u9 mp2 ?_
      intro w6 mp6 m6 hs6
      refine fin w6 _ ?_ (b92.mod m6 fun h => hne.1 h.symm) mp6 (b102.mod m6 fun h => hne.2.1 h.symm) (e1 ▸ own2.mod m6 fun k hk h => ?_) hvo
      · exact (mm2.mono fun _ _ h => h.elim).trans' (m6.mono fun k _ h => .inl h)
      · have := hvo k hk
        have h : k = mb := h
        omega
  · intro e a W' h
    cases e with
    | normal => obtain ⟨σ', r, q⟩ := h; exact ⟨rfl, q⟩
    | exit id => obtain ⟨σ', r, q⟩ := h; exact q.elim
    | ret => obtain ⟨σ', r, q⟩ := h; exact q.elim
    | panic c => exact h.2.elim
    | goto l => exact h.elim
    | outgrown => exact h.elim

theorem Mod.of_grown {w w' : World} {row : Option Nat} (h : w.grownBy w' row) : Mod (fun k => row = some k) w w' := ⟨h.os, h.tape, h.output, h.size, fun k hk hn => h.block k hk fun e => hn e.symm⟩
theorem Rnd.kept {w0 : World} {B mb b9 b10 : Nat} {ys : List Bytes} {W W' : World} {row : Option Nat} (h : Rnd w0 B mb b9 b10 ys W) (hmb : mb < B) (h9 : b9 < B) (h10 : b10 < B) (hB : w0.heap.size ≤ B) (hg : W.grownBy W' row) (hr : ∀ r, row = some r → B ≤ r ∧ ∃ o : Obj, W.heap[r]? = some o ∧ o.isCells = false) : Rnd w0 B mb b9 b10 ys W' := by
  have m := Mod.of_grown hg
  have nb : ∀ k, k < B → ¬ row = some k := fun k hk h => by have := (hr k h).1; omega
  obtain ⟨hb9, ⟨ks, vo, hmp, hks, hkv, hb10, hown, hvo⟩, hm⟩ := h
  refine ⟨hb9.mod m (nb _ h9), ⟨ks, vo, hmp.mod m (nb _ hmb), hks, hkv, hb10.mod m (nb _ h10), hown.mod m fun k hk h => ?_, hvo⟩, hm.trans m fun i hi h => by have := (hr i h).1; omega⟩
  obtain ⟨-, o, ho, hc⟩ := hr k h
  rcases hown.2 with ⟨e, -⟩ | ⟨g, cap, cur, fz, e, -, hh, -⟩
  · rw [e] at hk; cases hk
  · rw [e] at hk
    simp only [Value.ownBlock, Option.some.injEq] at hk
    subst hk
    rw [hh] at ho
    cases ho
    cases hc

theorem foldl_two (a : Array Value) (u v : Value) : (Array.zip (#[49, 50] : Array Tmp) #[u, v]).foldl (fun t (p : Tmp × Value) => t.setIfInBounds p.1 p.2) a = (a.setIfInBounds 49 u).setIfInBounds 50 v := by simp
theorem rel_in {D : List Deferred} {a : Act} {σ : Env} {u v : Value} (R : RelN rN 74 D a σ) : RelN rN 74 [] { tmps := (a.tmps.setIfInBounds 49 u).setIfInBounds 50 v, defers := [] } (upd (upd σ 49 u) 50 v) := by
  refine ⟨by simp [R.size], rfl, fun t ht => ?_⟩
  have h := R.slot t ht
  simp only [Act.eval, Array.getD_eq_getD_getElem?] at h ⊢
  simp only [Array.getElem?_setIfInBounds, Array.size_setIfInBounds, R.size, upd]
  by_cases h50 : 50 = t
  · subst h50; simp
  · rw [if_neg h50, if_neg (show ¬ t = 50 from fun e => h50 e.symm)]
    by_cases h49 : 49 = t
    · subst h49; simp
    · rw [if_neg h49, if_neg (show ¬ t = 49 from fun e => h49 e.symm)]; exact h

theorem refs_ {v : Value} {fs : List Fd} (hv : Sl w v 2 fs.length (rows Fd.cells fs)) (hz : szG fs) (hfn : fs.length ≤ 1000000000)
    (k : ∀ v' w', HL.Own w' v' 9 1 (refsB fs).length ((refsB fs).map str) → (∀ k, v'.ownBlock = some k → w.heap.size ≤ k) → Mod none' w w' → next v' w') : callvK Tryd.prog (.func (.func 20) #[] #[]) [v] w next QP := by
  refine callf c20 ?_
  unfold callK
  obtain ⟨va0, vc0, rfl, -⟩ := hv.form
  have la := ofB_len hz [82, 101, 102, 101, 114, 101, 110, 99, 101, 115]
  have lb := ofB_len hz [73, 110, 45, 82, 101, 112, 108, 121, 45, 84, 111]
  refine (callsIn_wide (n := 5)).1 (callsIn_of_wp_marks Tryd.func20 bd_eq trivial ?_)
  rw [nt20]
  refine node dn0 (start20 _) ?_
  intro K hK
  unfold hn0
  try simp only [go_sem]
  refine hK _ _ ?_
  clear hK K
  intro a1 R1
  refine node dn1 R1 ?_
  intro K hK
  unfold hn1
  try simp only [go_sem]
  refine of_ hv hz.f (by decide) hfn ?_
  intro va w1 owna hfa m1
  try simp only [go_sem]
  refine hK _ _ ?_
  clear hK K
  intro a2 R2
  refine node dn2 R2 ?_
  intro K hK
  unfold hn2
  try simp only [go_sem]
  refine hK _ _ ?_
  clear hK K
  intro a3 R3
  refine node dn3 R3 ?_
  intro K hK
  unfold hn3
  try simp only [go_sem]
  refine of_ (hv.mod m1 fun _ _ h => h) hz.f (by decide) hfn ?_
  intro vb w2 ownb hfb m2
  have m12 := m1.trans' m2
  have s1 := m1.size
  have s2 := m2.size
  have owna2 := owna.mod m2 fun _ _ h => h
  obtain ⟨ba, bc, rfl, -, hbcell⟩ := ownb.sl.form
  obtain ⟨aa, ac, rfl, -⟩ := owna.form
  try simp only [go_sem]
  have eA : ofB fs [82, 101, 102, 101, 114, 101, 110, 99, 101, 115] = refAB fs := rfl
  rw [eA] at la owna owna2
  try rw [eA]
  obtain ⟨L, hL⟩ : ∃ L, ofB fs [73, 110, 45, 82, 101, 112, 108, 121, 45, 84, 111] = L := ⟨_, rfl⟩
  rw [hL] at lb ownb hbcell
  simp only [hL]
  have hRB : refBB fs = L.filter fun x => !decide (x ∈ refAB fs) := by unfold refBB; rw [hL]
  refine loopN L.length (fun i τ w' => ∃ vo, τ 3 = .slice aa (refAB fs).length ac ∧ τ 4 = vo ∧ τ 18 = .slice ba L.length bc ∧ τ 19 = .int .i64 L.length ∧ τ 20 = .int .i64 i ∧
    HL.Own w' vo 9 1 ((L.take i).filter fun x => !decide (x ∈ refAB fs)).length (((L.take i).filter fun x => !decide (x ∈ refAB fs)).map str) ∧ (∀ k, vo.ownBlock = some k → w2.heap.size ≤ k) ∧ Mod none' w2 w') ⟨0, by omega, .slice none 0 0, rfl, rfl, rfl, rfl, rfl, Own.nil _ _ _, (fun k hk => by cases hk), Mod.refl _ _⟩ ?_
  rintro i τ w3 hi ⟨vo, t3, t4, t18, t19, t20, own3, hf3, m3⟩
  unfold hn3_1
  try simp only [go_sem, t3, t4, t18, t19, t20]
  have hfl : ∀ j, ((L.take j).filter fun x => !decide (x ∈ refAB fs)).length ≤ 1100000 := fun j => by
    have := List.length_filter_le (fun x => !decide (x ∈ refAB fs)) (L.take j)
    rw [List.length_take] at this
    omega
  refine ⟨fun hlt => ?_, fun hge => ?_⟩
  · have hil : i < L.length := by
      have : (i : Int) < L.length := by simpa using hlt
      omega
    obtain ⟨b, o, rfl, hc⟩ := hbcell (by omega)
    have hci := hc i (by omega)
    rw [List.getElem?_map, List.getElem?_eq_getElem hil] at hci
    have hci3 := m3.cell hci fun h => h
    unfold hn3_2
    try simp only [go_sem, t3, t4, t18, t19, t20, hci3]
    repeat refine ⟨⟨by omega, by omega⟩, ?_⟩
    refine contains_ ((owna2.mod m3 fun _ _ h => h).sl) (by omega) ?_
    try simp only [go_sem, t3, t4]
    refine ⟨fun hy => ?_, fun hy => ?_⟩
    · refine bsl1 sl31 (cs := [str L[i]]) rfl rfl (by omega) ?_
      intro b4 w4 hb4 own4 _ m4 hs4
      have := hfl i
      refine append_ sl31 (own3.mod m4 fun _ _ h => h) own4.sl (by intro u hu; rw [List.mem_singleton.1 hu]; rfl) (by omega) (by unfold maxLen; omega) ?_
      intro v5 w5 own5 m5 hf5 _
      have s3 := m3.size
      have s4 := m4.size
      have e1 : ((L.take (i + 1)).filter fun x => !decide (x ∈ refAB fs)) = ((L.take i).filter fun x => !decide (x ∈ refAB fs)) ++ [L[i]] := by
        rw [List.take_succ_eq_append_getElem hil, List.filter_append, List.filter_cons, if_pos hy]; rfl
      unfold hn3_3
      try simp only [go_sem, t3, t4, t18, t19, t20]
      rw [w64 (by omega) (by omega)]
      refine ⟨i + 1, by omega, by omega, v5, rfl, rfl, ?_, fun k hk => ?_, (m3.trans' m4).trans m5 fun k hk hS => by have := hf3 k hS; omega⟩
      · rw [e1, List.map_append, List.length_append]; exact own5
      · rcases hf5 k hk with h | h
        · exact hf3 k h
        · omega
    · have e1 : ((L.take (i + 1)).filter fun x => !decide (x ∈ refAB fs)) = ((L.take i).filter fun x => !decide (x ∈ refAB fs)) := by
        rw [List.take_succ_eq_append_getElem hil, List.filter_append, List.filter_cons, if_neg (by rw [hy]; simp)]; simp
      unfold hn3_3
      try simp only [go_sem, t3, t4, t18, t19, t20]
      rw [w64 (by omega) (by omega)]
      refine ⟨i + 1, by omega, by omega, vo, rfl, rfl, ?_, hf3, m3⟩
      · rw [e1]; exact own3
  have hio : i = L.length := by
    have : ¬ (i : Int) < L.length := by simpa using hge
    omega
  subst hio
  rw [List.take_length, ← hRB] at own3
  refine hK _ _ ?_
  clear hK K
  intro a4 R4
  refine node dn4 R4 ?_
  intro K hK
  unfold hn4
  try simp only [go_sem, t3]
  obtain ⟨A, hA⟩ : ∃ A, refAB fs = A := ⟨_, rfl⟩
  have em : (if IntKind.i64.wrap (((refAB fs).length : Int) - 1) < 0 then 0 else IntKind.i64.wrap (((refAB fs).length : Int) - 1)) = (((refAB fs).length - 1 : Nat) : Int) := by
    rw [w64 (by omega) (by omega)]
    split <;> omega
  rw [em]
  refine hK _ _ ?_
  clear hK K
  intro a5 R5
  refine node dn5 R5 ?_
  intro K hK
  unfold hn5
  try simp only [go_sem, t3, t4]
  have mA : (refAB fs).length - 1 ≤ (refAB fs).length := by omega
  obtain ⟨boa, boc, rfl, -⟩ := own3.form
  repeat refine ⟨⟨by omega, by omega⟩, ?_⟩
  have owna3 := owna2.mod m3 fun _ _ h => h
  have acl : (refAB fs).length ≤ ac := by obtain ⟨_, _, e, h, -⟩ := owna3.form; cases e; exact h
  try simp only [go_sem, t3, t4]
  try repeat refine ⟨⟨by omega, by omega⟩, ?_⟩
  refine bsl3 sl89 rfl rfl rfl ?_
  intro b6 w6 hb6 own6 blk6 m6 hs6
  try simp only [go_sem]
  have m36 : Mod none' w3 w6 := (Mod.drew none' w3).trans' m6
  refine concat_ (ls := [(refAB fs).take ((refAB fs).length - 1), refBB fs, (refAB fs).drop ((refAB fs).length - 1)]) own6.sl ?_ (by simp) ?_ ?_
  · intro i hi
    have m37 : Mod none' w3 w6 := m36
    match i, hi with
    | 0, _ => exact ⟨_, rfl, by
        have := Sl.take1 ((owna3.sl).mod m36 fun _ _ h => h) rfl mA
        have e : ((refAB fs).take ((refAB fs).length - 1)).length = (refAB fs).length - 1 := by rw [List.length_take]; omega
        show Sl w6 _ 1 ((refAB fs).take ((refAB fs).length - 1)).length _
        rw [e]; exact this⟩
    | 1, _ => exact ⟨_, rfl, (own3.sl).mod m36 fun _ _ h => h⟩
    | 2, _ => exact ⟨_, rfl, by
        have := Sl.drop1 ((owna3.sl).mod m36 fun _ _ h => h) rfl mA
        have e : ((refAB fs).drop ((refAB fs).length - 1)).length = (refAB fs).length - ((refAB fs).length - 1) := by rw [List.length_drop]
        show Sl w6 _ 1 ((refAB fs).drop ((refAB fs).length - 1)).length _
        rw [e]; exact this⟩
  · have := List.length_filter_le (fun x => !decide (x ∈ refAB fs)) L
    rw [← hRB] at this
    simp [-List.length_take, -List.length_drop]
    rw [List.length_take, List.length_drop]
    omega
  intro v7 w7 own7 hf7 m7
  have eall : [(refAB fs).take ((refAB fs).length - 1), refBB fs, (refAB fs).drop ((refAB fs).length - 1)].flatten = allB fs := by simp [allB]
  have lall : (allB fs).length ≤ 4000000 := by
    have := List.length_filter_le (fun x => !decide (x ∈ refAB fs)) L
    rw [← hRB] at this
    unfold allB
    rw [List.length_append, List.length_append, List.length_take, List.length_drop]
    omega
  rw [eall] at own7
  obtain ⟨va7, vc7, rfl, -⟩ := own7.form
  have m27 : Mod none' w2 w7 := (m3.trans' m36).trans' m7
  have m07 := m12.trans' m27
  have s7 := m07.size
  refine hK _ _ ?_
  clear hK K
  intro a6 R6
  refine node dn6 R6 ?_
  intro K hK
  unfold hn6
  try simp only [go_sem]
  refine mkmap_ ?_
  intro mb w8 hmb8 mp8 m8 hs8
  try simp only [go_sem]
  refine alloc_ (z := .map none) (cs := [.map none]) (by kernel_rfl) rfl ?_
  intro b9 w9 hb9 blk9 m9 hs9
  try simp only [go_sem]
  refine store1 sz50 blk9 (by simp) rfl ?_
  intro w10 blk10 m10 hs10
  try simp only [go_sem]
  refine hK _ _ ?_
  clear hK K
  intro a7 R7
  refine node dn7 R7 ?_
  intro K hK
  unfold hn7
  try simp only [go_sem]
  refine alloc_ (z := .slice none 0 0) (cs := [.slice none 0 0]) (by kernel_rfl) rfl ?_
  intro b10 w11 hb10 blk11 m11 hs11
  try simp only [go_sem]
  refine hK _ _ ?_
  clear hK K
  intro a8 R8
  refine wpIn_seq ?_
  refine node dn8 R8 ?_
  intro K hK
  unfold hn8
  try simp only [go_sem]
  refine backward_ rfl ?_
  intro Bs w12 hBs blk12 m12' hs12
  try simp only [go_sem]
  refine hK _ _ ?_
  clear hK K
  intro a9 R9
  refine wpIn_block ?_
  have hs9' : a9.eval (.tmp 48) = .func (.func 58) #[] #[ptr Bs] := R9.slot 48 (by decide)
  have m712 : Mod none' w7 w12 := by
    refine Mod.trans' (b := w10) ?_ (m11.trans' m12')
    exact (m8.trans' m9).trans m10 fun k hk h => by
      have h : k = b9 := h
      have := m8.size
      omega
  have m012 := m07.trans' m712
  have mp12 : Mp w12 mb [] := (((mp8.mod m9 fun h => h).mod m10 fun h => by
    have h : mb = b9 := h
    omega).mod m11 fun h => h).mod m12' fun h => h
  have bl9 : Blk w12 b9 50 [.map (some mb)] := (blk10.mod m11 fun h => h).mod m12' fun h => h
  have bl10 : Blk w12 b10 31 [.slice none 0 0] := blk11.mod m12' fun h => h
  have own12 := own7.mod m712 fun _ _ h => h
  have hlt7 := own7.lt
  obtain ⟨zb, hzb⟩ : ∃ zb, ((Value.slice va7 (allB fs).length vc7).ownBlock).getD Bs = zb := ⟨_, rfl⟩
  have hzb1 : ∀ k, (Value.slice va7 (allB fs).length vc7).ownBlock = some k → k = zb := fun k hk => by rw [hk] at hzb; exact hzb
  have hzb2 : zb < w12.heap.size ∧ zb ≠ mb ∧ zb ≠ b10 := by
    cases ho : (Value.slice va7 (allB fs).length vc7).ownBlock with
    | none => rw [ho] at hzb; simp at hzb; omega
    | some q =>
      have := hlt7 q ho
      have := hzb1 q ho
      omega
  have hcB : w12.cell? ⟨Bs, 0, none⟩ = some (.slice va7 (allB fs).length vc7) := blk12.cell 0
  refine wpIn_rangeFunc_ownH (F := Fence.wide) rfl (by omega) (gf := 58) (lb := #[ptr Bs]) hs9' trivial (enters_of Tryd.func58 (by kernel_rfl) rfl)
    (back_stops 4 (by omega) Bs lall hcB (by omega) zb own12 hzb1) (fun h k => h.trans k) ?Kb (RowKit.Below.refl _ _) (fun _ => rfl)
    (fun pre W => Rnd w w12.heap.size mb b9 b10 (pre.map (·.2)) W) (fun _ _ _ => False) ?I (fun _ _ _ _ _ h _ _ => h) ?atst
    (fun x a' _ => ∃ σ', RelN rN 74 [] a' σ' ∧ σ' 9 = ptr b9 ∧ σ' 10 = ptr b10 ∧ σ' 12 = str x.2) (fun _ _ _ _ _ _ h _ _ => h) ?assign ?body ?done ?stop
  case Kb =>
    intro W l o o' hl ho _ _
    have hlt : l < W.heap.size := (Array.getElem?_eq_some_iff.1 ho).1
    have hg := grownBy_putObj' W l o'
    exact ⟨hg.block zb (by omega) (by simp; omega), hg.block Bs (by omega) (by simp; omega)⟩
  case I =>
    intro s W W' row hs hg hr
    exact hs.kept (by omega) (by omega) (by omega) (by omega) hg hr
  case atst =>
    exact ⟨bl9, ⟨[], _, mp12, fun x => by simp [getM], (fun x v h => by cases h), bl10, Own.nil _ _ _, (fun k hk => by cases hk)⟩, m012⟩
  case stop => exact fun _ _ _ _ _ _ h _ => h.elim
  case assign =>
    intro l pre x W K hI hK
    rw [foldl_two]
    refine wpIn_mono (dcode_soundIn (QP := noPanic) chnA hnA dnA pnA (seqX (fun σ' W' => W' = W ∧ σ' 9 = ptr b9 ∧ σ' 10 = ptr b10 ∧ σ' 12 = str x.2) fun _ _ _ => False) _ _ W (rel_in R9) ?_) ?_
    · unfold hnA
      try simp only [go_sem]
    · intro e a W' h
      cases e with
      | normal =>
        obtain ⟨σ', r, rfl, q⟩ := h
        exact hK _ _ (KeepsFrom.refl _ _) (Kb.refl _ _ _) hI ⟨σ', r, q⟩
      | exit id => obtain ⟨σ', r, q⟩ := h; exact q.elim
      | ret => obtain ⟨σ', r, q⟩ := h; exact q.elim
      | panic c => exact h.2.elim
      | goto l => exact h.elim
      | outgrown => exact h.elim
  case body =>
    rintro l pre x a' W hl ⟨r, hr⟩ hI ⟨σ', R', s9, s10, s12⟩ hpre
    have hW : w12.heap.size ≤ W.heap.size := by
      have := (Array.getElem?_eq_some_iff.1 hr).1
      omega
    refine wpIn_mono (round_ (zb := zb) (Bs := Bs) hW (by omega) (by omega) (by omega) (by omega) (by omega) (by omega) (by omega) hzb2 (by omega) hI R' s9 s10 s12) ?_
    rintro e a W' ⟨rfl, h1, h2, h3⟩
    refine ⟨h1, h2, ?_⟩
    show Rnd w w12.heap.size mb b9 b10 ((pre ++ [x]).map (·.2)) W'
    rw [List.map_append]; exact h3
  case done =>
    rintro D ys W hD rfl hI hD2
    have hI : Rnd w w12.heap.size mb b9 b10 ((backs (allB fs) (allB fs).length).map (·.2)) W := hI
    rw [backs_map] at hI
    obtain ⟨hb9, ⟨ks, vo', hmp, hks, hkv, hb10', hown, hvo⟩, hm⟩ := hI
    have RD : RelN rN 74 [{ target := .collected D, args := #[] }] { a9 with defers := { target := .collected D, args := #[] } :: a9.defers } _ := ⟨R9.size, by rw [R9.defers], fun t ht => R9.slot t ht⟩
    refine node dn9 RD ?_
    intro K hK
    have c10 : W.cell? ⟨b10, 0, none⟩ = some vo' := hb10'.cell 0
    obtain ⟨oa, oc, rfl, -⟩ := hown.form
    unfold hn9
    try simp only [go_sem, c10]
    refine reverse_ hown (by have := outB_len (allB fs).reverse; omega) ?_
    intro W2 own2 mr hsr
    have nb : ∀ q, q < w12.heap.size → ¬ ownS (.slice oa (outB (allB fs).reverse).length oc) q := fun q hq h => by have := hvo q h; omega
    have b102 := hb10'.mod mr (nb _ (by omega))
    have hD3 : W2.heap[D]? = some (.deferred (some [])) := by
      rw [mr.block D (Array.getElem?_eq_some_iff.1 hD2).1 ?_]
      · exact hD2
      · intro h
        have h : (Value.slice oa (outB (allB fs).reverse).length oc).ownBlock = some D := h
        rcases hown.2 with ⟨e, -⟩ | ⟨g, cap, cur, fz, e, -, hh, -⟩
        · rw [e] at h; cases h
        · rw [e] at h
          simp only [Value.ownBlock, Option.some.injEq] at h
          subst h
          rw [hD2] at hh
          cases hh
    try simp only [go_sem]
    refine hK _ _ ?_
    clear hK K
    intro a10 R10
    refine node dn10 R10 ?_
    intro K hK
    have c102 : W2.cell? ⟨b10, 0, none⟩ = some (.slice oa (outB (allB fs).reverse).length oc) := b102.cell 0
    unfold hn10
    try simp only [go_sem, c102]
    refine hK _ _ ?_
    clear hK K
    intro a11 R11
    refine wpIn_ret ?_
    have hs2 := R11.slot 2 (by decide)
    show LeavesInM Fence.wide 5 Tryd.prog Tryd.f20 a11.tmps _ a11.defers .returning W2
    rw [R11.defers]
    refine ⟨by simp, .inl ⟨_, _, rfl, run_takeDeferred hD3, ?_⟩⟩
    refine ⟨_, results_tmp rfl _ _ _, ?_⟩
    have hg := Mod.of_grown (grownBy_putObj' W2 D (.deferred none))
    have hs3 : a11.tmps.getD 2 undef = .slice oa (outB (allB fs).reverse).length oc := hs2
    rw [hs3]
    have hlen : (outB (allB fs).reverse).length = (refsB fs).length := by unfold refsB; rw [List.length_reverse]
    have own3 : HL.Own (W2.putObj D (.deferred none)) (.slice oa (outB (allB fs).reverse).length oc) 9 1 (refsB fs).length ((refsB fs).map str) := by
      rw [← hlen]
      refine own2.mod hg fun q hq h => ?_
      obtain rfl : D = q := by simpa using h
      rcases own2.2 with ⟨e, -⟩ | ⟨g, cap, cur, fz, e, -, hh, -⟩
      · rw [e] at hq; cases hq
      · rw [e] at hq
        simp only [Value.ownBlock, Option.some.injEq] at hq
        subst hq
        rw [hD3] at hh
        cases hh
    refine k _ _ own3 (fun q hq => by have := hvo q hq; have := m012.size; omega) ((hm.trans mr fun q hq h => ?_).trans hg fun q hq h => ?_)
    · have := hvo q h; have := m012.size; omega
    · obtain rfl : D = q := by simpa using h
      have := m012.size
      omega
end
end Go.Proofs.Y

/- MJ: msgid: the reference's Refs. -/
namespace Go.Proofs.Y
open Go Go.HL Go.Proofs

/-! ### plain: each id once, the last time that it comes -/
def lasts : List Bytes → List Bytes
  | [] => []
  | x :: l => if x ∈ l then lasts l else x :: lasts l
theorem lasts_firsts : ∀ l : List Bytes, lasts l = (firsts l.reverse).reverse
  | [] => rfl
  | x :: l => by
    unfold lasts
    rw [List.reverse_cons, firsts_snoc, lasts_firsts l]
    by_cases h : x ∈ l
    · rw [if_pos h, if_pos ((mem_firsts _ _).2 (by simpa using h))]
    · rw [if_neg h, if_neg fun h' => h (by simpa using (mem_firsts _ _).1 h')]; simp
theorem refsB_lasts (fs : List Fd) : refsB fs = (lasts (allB fs)).drop ((lasts (allB fs)).length - 100) := by
  unfold refsB outB
  rw [lasts_firsts, List.length_reverse, ← List.reverse_reverse (firsts (allB fs).reverse), List.reverse_reverse, List.reverse_take]
  try simp
theorem lasts_len : ∀ l : List Bytes, (lasts l).length ≤ l.length
  | [] => by simp [lasts]
  | x :: l => by
    have := lasts_len l
    unfold lasts
    split <;> simp <;> omega

theorem lasts_c (x : Bytes) (l : List Bytes) : lasts (x :: l) = if x ∈ l then lasts l else x :: lasts l := rfl
section
variable {w : World} {next : Value → World → Prop} {QP : List PanicEntry → World → Prop}

theorem app1_ {vo : Value} {l : List Bytes} {x : Bytes} {B : Nat} {next2 : Value → Value → World → Prop} (own : HL.Own w vo 9 1 l.length (l.map str)) (hf : ∀ k, vo.ownBlock = some k → B ≤ k) (hB : B ≤ w.heap.size) (hl : l.length ≤ 4000000)
    (k : ∀ v0 v' w', HL.Own w' v' 9 1 (l ++ [x]).length ((l ++ [x]).map str) → (∀ k, v'.ownBlock = some k → B ≤ k) → Mod (fun k => B ≤ k) w w' → next2 v0 v' w') : bslK Tryd.prog 31 1 [(0, str x)] w (fun v w' => appK Tryd.prog #[31, 31] 31 vo v w' (fun v1 w'' => next2 v v1 w'') QP) QP := by
  refine bsl1 sl31 (cs := [str x]) rfl rfl (by omega) ?_
  intro b3 w3 hb3 own3 _ m3 hs3
  refine append_ sl31 (own.mod m3 fun _ _ h => h) own3.sl (by intro u hu; rw [List.mem_singleton.1 hu]; rfl) (by omega) (by unfold maxLen; omega) ?_
  intro v4 w4 own4 m4 hf4 _
  have s3 := m3.size
  have e1 : l.length + 1 = (l ++ [x]).length := by simp
  have e2 : l.map str ++ [str x] = (l ++ [x]).map str := by simp
  rw [e1, e2] at own4
  refine k _ _ _ own4 (fun q hq => ?_) ((m3.mono fun _ _ h => h.elim).trans' (m4.mono fun q _ h => hf q h))
  rcases hf4 q hq with h | h
  · exact hf q h
  · omega

theorem str_at {g : Nat} {o : Nat} {n c : Nat} {l : List Bytes} (h : Sl w (.slice (some ⟨g, o, none⟩) n c) 1 n (l.map str)) {i : Nat} (hi : i < n) (hl : i < l.length) : w.cell? ⟨g, o + i, none⟩ = some (str l[i]) := by
  obtain ⟨-, a, c', e, -, hc⟩ := h
  simp only [Value.slice.injEq] at e
  obtain ⟨rfl, -, rfl⟩ := e
  obtain ⟨b, o', e, hcell⟩ := hc (by omega)
  simp only [Option.some.injEq, Addr.mk.injEq, and_true] at e
  obtain ⟨rfl, rfl⟩ := e
  have := hcell i (by omega)
  rw [List.getElem?_map, List.getElem?_eq_getElem hl] at this
  exact this
theorem str_at0 {g : Nat} {n c : Nat} {l : List Bytes} (h : Sl w (.slice (some ⟨g, 0, none⟩) n c) 1 n (l.map str)) {i : Nat} (hi : i < n) (hl : i < l.length) : w.cell? ⟨g, i, none⟩ = some (str l[i]) := by
  have := str_at h hi hl
  rwa [Nat.zero_add] at this
theorem own_form {v : Value} {n : Nat} {xs : List Value} (h : HL.Own w v 9 1 n xs) (hn : 0 < n) : ∃ g c, v = .slice (some ⟨g, 0, none⟩) n c := by
  rcases h.2 with ⟨-, e⟩ | ⟨g, cap, cur, fz, rfl, -⟩
  · omega
  · exact ⟨g, cap, rfl⟩

theorem rrefs_ {v : Value} {fs : List Fd} (hv : Sl w v 2 fs.length (rows Fd.cells fs)) (hz : szG fs) (hfn : fs.length ≤ 1000000000)
    (k : ∀ v' w', Sl w' v' 1 (refsB fs).length ((refsB fs).map str) → Mod none' w w' → next v' w') : callvK Tryd.prog (.func (.func 21) #[] #[]) [v] w next QP := by
  refine r21 rfl ?_
  have la := ofB_len hz [82, 101, 102, 101, 114, 101, 110, 99, 101, 115]
  have lb := ofB_len hz [73, 110, 45, 82, 101, 112, 108, 121, 45, 84, 111]
  obtain ⟨va0, vc0, rfl, -⟩ := hv.form
  unfold h21
  try simp only [go_sem]
  refine rget_ hv hz.f (by decide) hfn ?_
  intro w1 m1
  try simp only [go_sem]
  refine rget_ (hv.mod m1 fun _ _ h => h) hz.f (by decide) hfn ?_
  intro w2 m2
  try simp only [go_sem]
  refine rids_ _ (getB_len hz.f _) ?_
  intro va w3 owna hfa m3
  try simp only [go_sem]
  refine rids_ _ (getB_len hz.f _) ?_
  intro vb w4 ownb hfb m4
  have m04 := ((m1.trans' m2).trans' m3).trans' m4
  have hall : allB fs = (refAB fs).take ((refAB fs).length - 1) ++ (((ofB fs [73, 110, 45, 82, 101, 112, 108, 121, 45, 84, 111]).filter fun x => !decide (x ∈ refAB fs)) ++ (refAB fs).drop ((refAB fs).length - 1)) := rfl
  have eA : ofB fs [82, 101, 102, 101, 114, 101, 110, 99, 101, 115] = refAB fs := rfl
  have eA' : idsB ((getB fs [82, 101, 102, 101, 114, 101, 110, 99, 101, 115]).getD []) = refAB fs := rfl
  rw [eA] at la
  rw [eA'] at owna
  obtain ⟨L, hL⟩ : ∃ L, ofB fs [73, 110, 45, 82, 101, 112, 108, 121, 45, 84, 111] = L := ⟨_, rfl⟩
  have hL' : idsB ((getB fs [73, 110, 45, 82, 101, 112, 108, 121, 45, 84, 111]).getD []) = L := hL
  rw [hL] at lb hall
  rw [hL'] at ownb
  obtain ⟨A, hA⟩ : ∃ A, refAB fs = A := ⟨_, rfl⟩
  rw [hA] at la hall owna
  have owna4 := owna.mod m4 fun _ _ h => h
  obtain ⟨aa, ac, rfl, -⟩ := owna4.form
  obtain ⟨ba, bc, rfl, -⟩ := ownb.form
  have s4 := m04.size
  unfold h21_1
  try simp only [go_sem]
  refine loopN A.length (fun i τ w' => ∃ vo, τ 7 = .slice aa A.length ac ∧ τ 8 = .slice ba L.length bc ∧ τ 9 = vo ∧ τ 10 = .int .i64 i ∧ i ≤ A.length - 1 ∧ HL.Own w' vo 9 1 (A.take i).length ((A.take i).map str) ∧ (∀ k, vo.ownBlock = some k → w4.heap.size ≤ k) ∧ Mod none' w4 w') ⟨0, by omega, .slice none 0 0, rfl, rfl, rfl, rfl, by omega, Own.nil _ _ _, (fun k hk => by cases hk), Mod.refl _ _⟩ ?_
  rintro i τ w5 hi ⟨vo, t7, t8, t9, t10, hi1, own5, hf5, m5⟩
  unfold h21_2
  try simp only [go_sem, t7, t8, t9, t10]
  rw [w64 (by omega) (by omega)]
  have s5 := m5.size
  refine ⟨fun hlt => ?_, fun hge => ?_⟩
  · have hil : i + 1 < A.length := by
      have : (i : Int) + 1 < A.length := by simpa using hlt
      omega
    obtain ⟨g, c, e⟩ := own_form owna4 (by omega)
    cases e
    have hci := m5.cell (str_at0 owna4.sl (i := i) (by omega) (by omega)) fun h => h
    unfold h21_3
    try simp only [go_sem, t7, t8, t9, t10, hci]
    repeat refine ⟨⟨by omega, by omega⟩, ?_⟩
    refine app1_ own5 hf5 s5 (by rw [List.length_take]; omega) ?_
    intro v0 v6 w6 own6 hf6 m6
    unfold h21_4
    try simp only [go_sem, t7, t8, t9, t10]
    rw [w64 (by omega) (by omega)]
    rw [← List.take_succ_eq_append_getElem] at own6
    exact ⟨i + 1, by omega, by omega, v6, rfl, rfl, by omega, own6, hf6, m5.trans m6 fun q hq h => by omega⟩
  have hio : i = A.length - 1 := by
    have : ¬ (i : Int) + 1 < A.length := by simpa using hge
    omega
  subst hio
  unfold h21_5
  try simp only [go_sem, t7, t8, t9, t10]
  refine loopN L.length (fun i τ w' => ∃ vo, τ 7 = .slice aa A.length ac ∧ τ 8 = .slice ba L.length bc ∧ τ 9 = vo ∧ τ 11 = .int .i64 i ∧ HL.Own w' vo 9 1 (A.take (A.length - 1) ++ (L.take i).filter fun x => !decide (x ∈ A)).length ((A.take (A.length - 1) ++ (L.take i).filter fun x => !decide (x ∈ A)).map str) ∧ (∀ k, vo.ownBlock = some k → w4.heap.size ≤ k) ∧ Mod none' w4 w')
    ⟨0, by omega, vo, t7, t8, t9, rfl, by simpa using own5, hf5, m5⟩ ?_
  clear t7 t8 t9 t10 own5 hf5 m5 s5 hge hi hi1 τ w5
  rintro i τ w5 hi ⟨vo, t7, t8, t9, t11, own5, hf5, m5⟩
  unfold h21_6
  try simp only [go_sem, t7, t8, t9, t11]
  have s5 := m5.size
  have hfl : ∀ j, ((L.take j).filter fun x => !decide (x ∈ A)).length ≤ 1100000 := fun j => by
    have := List.length_filter_le (fun x => !decide (x ∈ A)) (L.take j)
    rw [List.length_take] at this
    omega
  refine ⟨fun hlt => ?_, fun hge => ?_⟩
  · have hil : i < L.length := by
      have : (i : Int) < L.length := by simpa using hlt
      omega
    obtain ⟨g, c, e⟩ := own_form ownb (by omega)
    cases e
    have hci := m5.cell (str_at0 ownb.sl (i := i) (by omega) (by omega)) fun h => h
    unfold h21_7
    try simp only [go_sem, t7, t8, t9, t11, hci]
    repeat refine ⟨⟨by omega, by omega⟩, ?_⟩
    refine in_ (owna4.sl.mod m5 fun _ _ h => h) (by omega) ?_
    try simp only [go_sem, t7, t8, t9, t11, hci]
    refine ⟨fun hy => ?_, fun hy => ?_⟩
    · repeat refine ⟨⟨by omega, by omega⟩, ?_⟩
      have hfi := hfl i
      refine app1_ own5 hf5 s5 (by rw [List.length_append, List.length_take]; omega) ?_
      intro v0 v6 w6 own6 hf6 m6
      have e1 : ((L.take (i + 1)).filter fun x => !decide (x ∈ A)) = ((L.take i).filter fun x => !decide (x ∈ A)) ++ [L[i]] := by
        rw [List.take_succ_eq_append_getElem hil, List.filter_append, List.filter_cons, if_pos hy]; rfl
      rw [List.append_assoc, ← e1] at own6
      unfold h21_8
      try simp only [go_sem, t7, t8, t9, t11]
      rw [w64 (by omega) (by omega)]
      exact ⟨i + 1, by omega, by omega, v6, rfl, rfl, own6, hf6, m5.trans m6 fun q hq h => by omega⟩
    · have e1 : ((L.take (i + 1)).filter fun x => !decide (x ∈ A)) = ((L.take i).filter fun x => !decide (x ∈ A)) := by
        rw [List.take_succ_eq_append_getElem hil, List.filter_append, List.filter_cons, if_neg (by rw [hy]; simp)]; simp
      unfold h21_8
      try simp only [go_sem, t7, t8, t9, t11]
      rw [w64 (by omega) (by omega)]
      exact ⟨i + 1, by omega, by omega, vo, rfl, rfl, by rw [e1]; exact own5, hf5, m5⟩
  have hio : i = L.length := by
    have : ¬ (i : Int) < L.length := by simpa using hge
    omega
  subst hio
  rw [List.take_length] at own5
  have hfi := hfl L.length
  rw [List.take_length] at hfi
  -- the last one of the first list
  have last : ∀ (vz : Value) (τ' : Env) (w6 : World), τ' 9 = vz → HL.Own w6 vz 9 1 (allB fs).length ((allB fs).map str) → (∀ k, vz.ownBlock = some k → w4.heap.size ≤ k) → Mod none' w4 w6 → hw Tryd.prog noPanic h21_10 (endV [RV.tmp 2] next) τ' w6 := by
    intro vz τ' w6 t9 ownz hfz m6
    have hlz : (allB fs).length ≤ 4000000 := by
      rw [hall, List.length_append, List.length_append, List.length_take, List.length_drop]; omega
    obtain ⟨za, zc, rfl, -⟩ := ownz.form
    have s6 := m6.size
    obtain ⟨Z, hZ⟩ : ∃ Z, allB fs = Z := ⟨_, rfl⟩
    rw [hZ] at ownz hlz t9
    unfold h21_10
    try simp only [go_sem, t9]
    refine loopN Z.length (fun i τ w' => ∃ vo l, τ 9 = .slice za Z.length zc ∧ τ 12 = vo ∧ τ 13 = .int .i64 i ∧ HL.Own w' vo 9 1 l.length (l.map str) ∧ l ++ lasts (Z.drop i) = lasts Z ∧ (∀ k, vo.ownBlock = some k → w6.heap.size ≤ k) ∧ Mod none' w6 w') ⟨0, by omega, .slice none 0 0, [], t9, rfl, rfl, Own.nil _ _ _, rfl, (fun k hk => by cases hk), Mod.refl _ _⟩ ?_
    rintro i τ w7 hi ⟨vo, l, t9, t12, t13, own7, hl, hf7, m7⟩
    have s7 := m7.size
    have hll : l.length ≤ 4000000 := by
      have h1 := congrArg List.length hl
      have h2 := lasts_len Z
      rw [List.length_append] at h1
      omega
    unfold h21_11
    try simp only [go_sem, t9, t12, t13]
    refine ⟨fun hlt => ?_, fun hge => ?_⟩
    · have hil : i < Z.length := by
        have : (i : Int) < Z.length := by simpa using hlt
        omega
      obtain ⟨g, c, e⟩ := own_form ownz (by omega)
      cases e
      have hci := m7.cell (str_at0 ownz.sl (i := i) (by omega) (by omega)) fun h => h
      have hci' : w7.drew.cell? ⟨g, i, none⟩ = some (str Z[i]) := hci
      unfold h21_12
      try simp only [go_sem, t9, t12, t13, hci']
      rw [w64 (by omega) (by omega)]
      rw [show ((i : Int) + 1).toNat = i + 1 by omega]
      repeat refine ⟨⟨by omega, by omega⟩, ?_⟩
      have hsd := Sl.drop1 (m := i + 1) (ownz.sl.mod (m7.trans' (Mod.drew none' w7)) fun _ _ h => h) rfl (by omega)
      refine in_ hsd (by omega) ?_
      try simp only [go_sem, t9, t12, t13, hci']
      have hdr := List.drop_eq_getElem_cons hil
      rw [hdr, lasts_c] at hl
      refine ⟨fun hy => ?_, fun hy => ?_⟩
      · repeat refine ⟨⟨by omega, by omega⟩, ?_⟩
        have hy : Z[i] ∉ Z.drop (i + 1) := by simpa using hy
        rw [if_neg hy] at hl
        refine app1_ (own7.mod (Mod.drew none' w7) fun _ _ h => h) hf7 s7 hll ?_
        intro v0 v8 w8 own8 hf8 m8
        unfold h21_13
        try simp only [go_sem, t9, t12, t13]
        rw [w64 (by omega) (by omega)]
        exact ⟨i + 1, by omega, by omega, v8, l ++ [Z[i]], rfl, rfl, own8, by rw [← hl]; simp, hf8, (m7.trans' (Mod.drew none' w7)).trans m8 fun q hq h => by omega⟩
      · have hy : Z[i] ∈ Z.drop (i + 1) := by simpa using hy
        rw [if_pos hy] at hl
        unfold h21_13
        try simp only [go_sem, t9, t12, t13]
        rw [w64 (by omega) (by omega)]
        exact ⟨i + 1, by omega, by omega, vo, l, rfl, rfl, own7.mod (Mod.drew none' w7) fun _ _ h => h, hl, hf7, m7.trans' (Mod.drew none' w7)⟩
    · have hio : i = Z.length := by
        have : ¬ (i : Int) < Z.length := by simpa using hge
        omega
      subst hio
      rw [List.drop_length] at hl
      have hl : l = lasts Z := by rw [← hl]; simp [lasts]
      have hR : refsB fs = l.drop (l.length - 100) := by rw [refsB_lasts, hZ, hl]
      have hRl : (refsB fs).length = l.length - (l.length - 100) := by rw [hR, List.length_drop]
      have mE := (m04.trans' m6).trans' m7
      obtain ⟨oa, oc, rfl, hoc, -⟩ := own7.form
      unfold h21_14
      try simp only [go_sem, t9, t12, t13]
      refine ⟨fun hy => ?_, fun hy => ?_⟩
      · have hy : 100 < l.length := by
          have : (100 : Int) < l.length := by simpa using hy
          omega
        rw [w64 (by omega) (by omega)]
        repeat refine ⟨⟨by omega, by omega⟩, ?_⟩
        unfold h21_15
        try simp only [go_sem, t9, t12, t13]
        rw [show ((l.length : Int) - 100).toNat = l.length - 100 by omega]
        repeat refine ⟨⟨by omega, by omega⟩, ?_⟩
        refine k _ _ ?_ mE
        rw [hRl, hR]
        exact Sl.drop1 own7.sl rfl (by omega)
      · have hy : l.length ≤ 100 := by
          have : ¬ (100 : Int) < l.length := by simpa using hy
          omega
        unfold h21_15
        try simp only [go_sem, t9, t12, t13]
        refine k _ _ ?_ mE
        have e : l.length - 100 = 0 := by omega
        rw [hRl, hR, e, List.drop_zero, Nat.sub_zero]
        exact own7.sl
  unfold h21_9
  try simp only [go_sem, t7, t8, t9, t11]
  refine ⟨fun hy => ?_, fun hy => ?_⟩
  · have hp : 0 < A.length := by
      have : (0 : Int) < A.length := by simpa using hy
      omega
    obtain ⟨g, c, e⟩ := own_form owna4 hp
    cases e
    have hci := m5.cell (str_at0 owna4.sl (i := A.length - 1) (by omega) (by omega)) fun h => h
    rw [w64 (by omega) (by omega)]
    rw [show (A.length : Int) - 1 = ((A.length - 1 : Nat) : Int) by omega]
    try simp only [go_sem, hci]
    repeat refine ⟨⟨by omega, by omega⟩, ?_⟩
    refine app1_ own5 hf5 s5 (by rw [List.length_append, List.length_take]; omega) ?_
    intro v0 v6 w6 own6 hf6 m6
    have e1 : A.take (A.length - 1) ++ L.filter (fun x => !decide (x ∈ A)) ++ [A[A.length - 1]] = allB fs := by
      rw [hall, List.append_assoc]
      congr 2
      rw [List.drop_eq_getElem_cons (by omega), List.drop_of_length_le (by omega)]
    rw [e1] at own6
    exact last v6 _ w6 rfl own6 hf6 (m5.trans m6 fun q hq h => by omega)
  · have hp : A.length = 0 := by
      have : ¬ (0 : Int) < A.length := by simpa using hy
      omega
    have e1 : A.take (A.length - 1) ++ L.filter (fun x => !decide (x ∈ A)) = allB fs := by
      rw [hall, List.eq_nil_of_length_eq_zero hp]; simp
    rw [e1] at own5
    exact last vo _ w5 t9 own5 hf5 m5
end
end Go.Proofs.Y

/- MK: msgid: strings.Builder; Hex, both; Make, both. -/
namespace Go.Proofs.Y
open Go Go.HL Go.Proofs

structure BR (w0 w : World) (b : Nat) (l : Bytes) : Prop where
  inv : ∃ pv bv, Blk w b 68 [pv, bv] ∧ (pv = .pointer none ∨ pv = ptr b) ∧ HL.Own w bv 5 1 l.length (bys l) ∧ (∀ k, bv.ownBlock = some k → w0.heap.size ≤ k)
  fb : w0.heap.size ≤ b
  m : Mod none' w0 w

theorem sz66 : szOf Tryd.prog 66 = some 1 := by kernel_rfl
theorem sz45 : szOf Tryd.prog 45 = some 1 := by kernel_rfl
theorem ext72a : Extern.findNext Tryd.f72 = none := by kernel_rfl
theorem ext72b : Extern.find Tryd.f72 = some Extern.AbiNoEscape.same := by kernel_rfl

section
variable {w : World} {next : Value → World → Prop} {QP : List PanicEntry → World → Prop}

theorem own_neb {v : Value} {e t sz n : Nat} {xs cs : List Value} {b : Nat} (h : HL.Own w v e sz n xs) (hb : Blk w b t cs) (hne : e ≠ t) : v.ownBlock ≠ some b := by
  intro hk
  obtain ⟨fz, hb, -⟩ := hb
  rcases h.2 with ⟨rfl, -⟩ | ⟨g, cap, cur, fz', rfl, -, hh, -⟩
  · cases hk
  · simp only [Value.ownBlock, Option.some.injEq] at hk
    subst hk
    rw [hh] at hb
    simp only [Option.some.injEq, Obj.cells.injEq] at hb
    exact hne hb.2.1

theorem copycheck_ {b : Nat} {pv bv : Value} (h : Blk w b 68 [pv, bv]) (hp : pv = .pointer none ∨ pv = ptr b) (k : ∀ w', Blk w' b 68 [ptr b, bv] → Mod (fun k => k = b) w w' → next (.tuple #[]) w') :
    callvK Tryd.prog (.func (.func 63) #[] #[]) [ptr b] w next QP := by
  refine r63 rfl ?_
  have c0 := h.cell 0
  have c0 : w.cell? ⟨b, 0, none⟩ = some pv := c0
  unfold h63
  rcases hp with rfl | rfl
  · try simp only [go_sem, c0]
    refine conv_up (t := 68) (by kernel_rfl) (by kernel_rfl) (by kernel_rfl) h (by simp) ?_
    try simp only [go_sem]
    refine same_ Tryd.func72 (by kernel_rfl) (by kernel_rfl) ext72a ext72b ?_
    try simp only [go_sem]
    refine conv_dn (u := 68) (by kernel_rfl) (by kernel_rfl) (by kernel_rfl) h (by kernel_rfl) ?_
    try simp only [go_sem]
    refine store1 sz66 h (by simp) rfl ?_
    intro w1 h1 m1 _
    try simp only [go_sem]
    exact k _ h1 m1
  · try simp only [go_sem, c0]
    exact k _ h (Mod.refl _ _)

theorem BR.new {b : Nat} {w0 : World} (m : Mod none' w0 w) (h : Blk w b 68 [.pointer none, .slice none 0 0]) (hb : w0.heap.size ≤ b) : BR w0 w b [] := ⟨⟨_, _, h, .inl rfl, Own.nil _ _ _, fun k hk => by cases hk⟩, hb, m⟩

theorem wbyte_ {w0 : World} {b : Nat} {l : Bytes} {c : UInt8} (h : BR w0 w b l) (hm : l.length + 1 ≤ 140737488355328) (k : ∀ w' v, BR w0 w' b (l ++ [c]) → next v w') : callvK Tryd.prog (.func (.func 49) #[] #[]) [ptr b, .int .u8 c.toNat] w next QP := by
  refine r49 rfl ?_
  obtain ⟨⟨pv, bv, hb, hp, ho, hf⟩, hfb, m⟩ := h
  have hbb : bv.ownBlock ≠ some b := fun e => own_neb ho hb (by decide) e
  unfold h49
  try simp only [go_sem]
  refine copycheck_ hb hp ?_
  intro w1 hb1 m1
  have ho1 := ho.mod m1 fun k hk (e : k = b) => hbb (e ▸ hk)
  have c1 : w1.cell? ⟨b, 1, none⟩ = some bv := hb1.cell 1
  try simp only [go_sem, c1]
  refine bsl1 sl45 (cs := [.int .u8 c.toNat]) rfl rfl (by omega) ?_
  intro b5 w5 hb5 own5 _ m5 hs5
  refine append_ sl45 (ho1.mod m5 fun _ _ h => h) own5.sl (by intro u hu; rw [List.mem_singleton.1 hu]; rfl) (by omega) (by unfold maxLen; omega) ?_
  intro v2 w2 own2 m2 hb2 _
  obtain ⟨ua, uc, rfl, -, -⟩ := own2.form
  have hb1' := hb1.mod m5 fun h => h
  have hb2' := hb1'.mod m2 fun hS => hbb hS
  refine store1 sz45 hb2' (by simp) rfl ?_
  intro w3 hb3 m3 _
  unfold h49_1
  try simp only [go_sem]
  have hs := m.size
  have hs1 := m1.size
  have hs5 := m5.size
  have hnew : ∀ k, (Value.slice ua (l.length + 1) uc).ownBlock = some k → w0.heap.size ≤ k ∧ k ≠ b := by
    intro k hk
    rcases hb2 k hk with h' | h'
    · exact ⟨hf k h', fun e => hbb (e ▸ h')⟩
    · have := hb1'.lt; exact ⟨by omega, by omega⟩
  refine k _ _ ⟨⟨_, _, by simpa using hb3, .inr rfl, ?_, fun k hk => (hnew k hk).1⟩, hfb, (((m.trans m1 fun k hk (e : k = b) => by omega).trans' m5).trans m2 fun k hk hS => ?_).trans m3 fun k hk (e : k = b) => by omega⟩
  · have := own2.mod m3 fun k hk (e : k = b) => (hnew k hk).2 e
    simpa [bys] using this
  · have := hf k hS; omega

theorem wr_ {w0 : World} {b : Nat} {l s : Bytes} {v : Value} (h : BR w0 w b l) (hs : Sl w v 1 s.length (bys s)) (hvb : v.ownBlock ≠ some b) (hm : l.length + s.length ≤ 140737488355328) (k : ∀ w' v, BR w0 w' b (l ++ s) → next v w') : callvK Tryd.prog (.func (.func 42) #[] #[]) [ptr b, v] w next QP := by
  refine r42 rfl ?_
  obtain ⟨⟨pv, bv, hb, hp, ho, hf⟩, hfb, m⟩ := h
  have hbb : bv.ownBlock ≠ some b := fun e => own_neb ho hb (by decide) e
  unfold h42
  try simp only [go_sem]
  refine copycheck_ hb hp ?_
  intro w1 hb1 m1
  have ho1 := ho.mod m1 fun k hk (e : k = b) => hbb (e ▸ hk)
  have c1 : w1.cell? ⟨b, 1, none⟩ = some bv := hb1.cell 1
  try simp only [go_sem, c1]
  refine append_ sl45 ho1 (hs.mod m1 fun k hk (e : k = b) => hvb (e ▸ hk)) (bys_one s) (by omega) (by unfold maxLen; omega) ?_
  intro v2 w2 own2 m2 hb2 _
  obtain ⟨ua, uc, rfl, -, -⟩ := own2.form
  have hb2' := hb1.mod m2 fun hS => hbb hS
  refine store1 sz45 hb2' (by simp) rfl ?_
  intro w3 hb3 m3 _
  obtain ⟨va, vc, rfl, -, -⟩ := hs.form
  try simp only [go_sem]
  have hs := m.size
  have hs1 := m1.size
  have hnew : ∀ k, (Value.slice ua (l.length + s.length) uc).ownBlock = some k → w0.heap.size ≤ k ∧ k ≠ b := by
    intro k hk
    rcases hb2 k hk with h' | h'
    · exact ⟨hf k h', fun e => hbb (e ▸ h')⟩
    · have := hb1.lt; exact ⟨by omega, by omega⟩
  refine k _ _ ⟨⟨_, _, by simpa using hb3, .inr rfl, ?_, fun k hk => (hnew k hk).1⟩, hfb, ((m.trans m1 fun k hk (e : k = b) => by omega).trans m2 fun k hk hS => ?_).trans m3 fun k hk (e : k = b) => by omega⟩
  · have := own2.mod m3 fun k hk (e : k = b) => (hnew k hk).2 e
    simpa [bys] using this
  · have := hf k hS; omega

theorem bstr_ {w0 : World} {b : Nat} {l : Bytes} (h : BR w0 w b l) (hm : l.length ≤ 9223372036854775807) (k : ∀ w', Mod none' w0 w' → next (str l) w') : callvK Tryd.prog (.func (.func 43) #[] #[]) [ptr b] w next QP := by
  refine r43 rfl ?_
  obtain ⟨⟨pv, bv, hb, hp, ho, hf⟩, hfb, m⟩ := h
  have c1 : w.cell? ⟨b, 1, none⟩ = some bv := hb.cell 1
  obtain ⟨ua, uc, rfl, -, -⟩ := ho.form
  unfold h43
  try simp only [go_sem, c1]
  refine usd_ (e := 5) (by kernel_rfl) (ho.mod (Mod.drew none' w) fun _ _ h => h) ?_
  intro p w1 m1 hpv
  have c1' := (m1.cell (show w.drew.cell? ⟨b, 1, none⟩ = _ from c1) fun h => h)
  try simp only [go_sem, c1']
  refine us_ (e := 5) (by kernel_rfl) (by kernel_rfl) (ho.mod ((Mod.drew none' w).trans' m1) fun _ _ h => h) hpv hm ?_
  intro w2 m2
  try simp only [go_sem]
  refine k _ (((m.trans' (Mod.drew none' w)).trans' m1).trans m2 fun k hk hS => ?_)
  have := hf k hS; omega

/-! ### the sixteen digits -/
def hx (n : Nat) : UInt8 := if n < 10 then UInt8.ofNat (48 + n) else UInt8.ofNat (87 + n)
def hexB (s : Bytes) : Bytes := s.flatMap fun c => [hx (c.toNat / 16), hx (c.toNat % 16)]
theorem hexB_len (s : Bytes) : (hexB s).length = 2 * s.length := by
  unfold hexB
  induction s with
  | nil => rfl
  | cons c s ih => simp [ih]; omega
theorem hexB_take {s : Bytes} {i : Nat} (h : i < s.length) : hexB (s.take (i + 1)) = hexB (s.take i) ++ [hx (s[i].toNat / 16)] ++ [hx (s[i].toNat % 16)] := by
  unfold hexB
  rw [List.take_succ_eq_append_getElem h, List.flatMap_append]; simp
theorem digits (n : Nat) (h : n < 16) : ([48, 49, 50, 51, 52, 53, 54, 55, 56, 57, 97, 98, 99, 100, 101, 102] : Bytes)[n]?.getD 0 = hx n := by
  revert n; decide

theorem hi4 (c : UInt8) : ((c.toNat : Int)).fdiv (2 ^ min 4 8) = ((c.toNat / 16 : Nat) : Int) := by
  rw [Int.fdiv_eq_ediv_of_nonneg _ (by decide)]
  show ((c.toNat : Int)) / 16 = _
  omega
theorem lo4 (c : UInt8) : intV .and .u8 (c.toNat : Int) 15 = .int .u8 ((c.toNat % 16 : Nat) : Int) := by
  have h := c.toNat_lt
  have := andV (k := .u8) (a := c.toNat) (b := 15) h (by decide)
  rw [show ((15 : Nat) : Int) = 15 from rfl] at this
  rw [this, wrap_u8, show (15 : Nat) = 2 ^ 4 - 1 from rfl, Nat.and_two_pow_sub_one_eq_mod]
  congr 1
  omega
theorem hex_ (s : Bytes) (hs : s.length ≤ 4000000) (k : ∀ w', Mod none' w w' → next (str (hexB s)) w') : callvK Tryd.prog (.func (.func 29) #[] #[]) [str s] w next QP := by
  refine r29 rfl ?_
  unfold h29
  try simp only [go_sem]
  refine alloc_ (z := .agg #[.pointer none, .slice none 0 0]) (cs := [.pointer none, .slice none 0 0]) (by kernel_rfl) rfl ?_
  intro b w1 hb blk1 m1 hs1
  try simp only [go_sem]
  refine loopN s.length (fun i τ w' => τ 0 = str s ∧ τ 3 = ptr b ∧ τ 6 = .int .i64 s.length ∧ τ 7 = .int .i64 i ∧ BR w w' b (hexB (s.take i))) ⟨0, by omega, rfl, rfl, rfl, rfl, BR.new m1 blk1 (by omega)⟩ ?_
  rintro i τ w2 hi ⟨t0, t3, t6, t7, br⟩
  unfold h29_1
  try simp only [go_sem, t0, t3, t6, t7]
  refine ⟨fun hlt => ?_, fun hge => ?_⟩
  · have hil : i < s.length := by
      have : (i : Int) < s.length := by simpa using hlt
      omega
    unfold h29_2
    try simp only [go_sem, t0, t3, t6, t7]
    have hsi : s[i]?.getD 0 = s[i] := by simp [hil]
    have h256 := s[i].toNat_lt
    rw [hsi, hi4, lo4]
    try simp only [go_sem]
    repeat refine ⟨⟨by omega, by omega⟩, ?_⟩
    rw [digits _ (by omega)]
    refine wbyte_ br (by rw [hexB_len, List.length_take]; omega) ?_
    intro w3 v3 br3
    repeat refine ⟨⟨by omega, by omega⟩, ?_⟩
    rw [digits _ (by omega)]
    refine wbyte_ br3 (by rw [List.length_append, hexB_len, List.length_take, List.length_singleton]; omega) ?_
    intro w4 v4 br4
    rw [← hexB_take hil] at br4
    unfold h29_3
    try simp only [go_sem, t0, t3, t6, t7]
    rw [w64 (by omega) (by omega)]
    exact ⟨i + 1, by omega, by omega, rfl, br4⟩
  · have hio : i = s.length := by
      have : ¬ (i : Int) < s.length := by simpa using hge
      omega
    subst hio
    rw [List.take_length] at br
    unfold h29_4
    try simp only [go_sem, t0, t3, t6, t7]
    refine bstr_ br (by rw [hexB_len]; omega) ?_
    intro w3 m3
    try simp only [go_sem]
    exact k w3 m3

theorem digit_ (n : Nat) (hn : n < 16) (k : next (.int .u8 (hx n).toNat) w) : callvK Tryd.prog (.func (.func 50) #[] #[]) [.int .i64 n] w next QP := by
  refine r50 rfl ?_
  unfold h50
  try simp only [go_sem]
  refine ⟨fun h => ?_, fun h => ?_⟩
  · have h : n < 10 := by
      have : (n : Int) < 10 := by simpa using h
      omega
    have e : (((hx n).toNat : Nat) : Int) = IntKind.u8.wrap (IntKind.i64.wrap (48 + n)) := by
      rw [w64 (by omega) (by omega), wrap_u8]
      unfold hx
      rw [if_pos h, UInt8.toNat_ofNat']; omega
    rw [e] at k
    exact k
  · have h : ¬ n < 10 := by
      have : ¬ (n : Int) < 10 := by simpa using h
      omega
    have e : (((hx n).toNat : Nat) : Int) = IntKind.u8.wrap (IntKind.i64.wrap (IntKind.i64.wrap (97 + n) - 10)) := by
      rw [w64 (x := 97 + n) (by omega) (by omega), w64 (by omega) (by omega), wrap_u8]
      unfold hx
      rw [if_neg h, UInt8.toNat_ofNat']; omega
    rw [e] at k
    unfold h50_1
    try simp only [go_sem]
    exact k

theorem rhex_ (s : Bytes) (hs : s.length ≤ 4000000) (k : ∀ w', Mod none' w w' → next (str (hexB s)) w') : callvK Tryd.prog (.func (.func 30) #[] #[]) [str s] w next QP := by
  refine r30 rfl ?_
  unfold h30
  try simp only [go_sem]
  refine loopN s.length (fun i τ w' => ∃ vo, τ 0 = str s ∧ τ 3 = vo ∧ τ 4 = .int .i64 i ∧ HL.Own w' vo 5 1 (hexB (s.take i)).length (bys (hexB (s.take i))) ∧ (∀ k, vo.ownBlock = some k → w.heap.size ≤ k) ∧ Mod none' w w') ⟨0, by omega, .slice none 0 0, rfl, rfl, rfl, Own.nil _ _ _, (fun k hk => by cases hk), Mod.refl _ _⟩ ?_
  rintro i τ w2 hi ⟨vo, t0, t3, t4, own2, hf2, m2⟩
  unfold h30_1
  try simp only [go_sem, t0, t3, t4]
  refine ⟨fun hlt => ?_, fun hge => ?_⟩
  · have hil : i < s.length := by
      have : (i : Int) < s.length := by simpa using hlt
      omega
    have hsi : s[i]?.getD 0 = s[i] := by simp [hil]
    have h256 := s[i].toNat_lt
    unfold h30_2
    try simp only [go_sem, t0, t3, t4]
    rw [hsi]
    have e1 : IntKind.i64.wrap ((IntKind.i64.wrap (s[i].toNat : Int)).tdiv 16) = ((s[i].toNat / 16 : Nat) : Int) := by
      rw [w64 (x := (s[i].toNat : Int)) (by omega) (by omega), Int.tdiv_eq_ediv_of_nonneg (by omega), w64 (by omega) (by omega)]
      omega
    have e2 : (IntKind.i64.wrap (s[i].toNat : Int)).tmod 16 = ((s[i].toNat % 16 : Nat) : Int) := by
      rw [w64 (x := (s[i].toNat : Int)) (by omega) (by omega), Int.tmod_eq_emod_of_nonneg (by omega)]
      omega
    try simp only [go_sem, e1, e2]
    repeat refine ⟨⟨by omega, by omega⟩, ?_⟩
    refine ⟨by decide, ?_⟩
    repeat refine ⟨⟨by omega, by omega⟩, ?_⟩
    refine ⟨by decide, ?_⟩
    refine digit_ (s[i].toNat / 16) (by omega) ?_
    try simp only [go_sem]
    refine digit_ (s[i].toNat % 16) (by omega) ?_
    try simp only [go_sem, t3]
    refine bsl2 sl45 rfl rfl ?_
    intro b5 w5 hb5 own5 _ m5 hs5
    have mm5 : Mod none' w2 w5 := (Mod.drew none' w2).trans' m5
    refine append_ sl45 (own2.mod mm5 fun _ _ h => h) own5.sl (by intro u hu; simp at hu; rcases hu with rfl | rfl <;> rfl) (by rw [hexB_len, List.length_take]; omega) (by rw [hexB_len, List.length_take]; unfold maxLen; omega) ?_
    intro v6 w6 own6 m6 hf6 _
    have s2 := m2.size
    have s5 := mm5.size
    have e3 : (hexB (s.take i)).length + 2 = (hexB (s.take (i + 1))).length := by rw [hexB_len, hexB_len, List.length_take, List.length_take]; omega
    have e4 : bys (hexB (s.take i)) ++ [.int .u8 (hx (s[i].toNat / 16)).toNat, .int .u8 (hx (s[i].toNat % 16)).toNat] = bys (hexB (s.take (i + 1))) := by rw [hexB_take hil]; simp [bys]
    rw [e3, e4] at own6
    unfold h30_3
    try simp only [go_sem, t0, t3, t4]
    rw [w64 (by omega) (by omega)]
    refine ⟨i + 1, by omega, by omega, v6, rfl, rfl, own6, fun k hk => ?_, (m2.trans' mm5).trans m6 fun k hk hS => by have := hf2 k hS; omega⟩
    rcases hf6 k hk with h | h
    · exact hf2 k h
    · omega
  · have hio : i = s.length := by
      have : ¬ (i : Int) < s.length := by simpa using hge
      omega
    subst hio
    rw [List.take_length] at own2
    unfold h30_4
    try simp only [go_sem, t0, t3, t4]
    refine b2s (by kernel_rfl) u9 u5 own2.sl ?_
    try simp only [go_sem]
    exact k _ m2

/-! ### Make -/
def nul10 : Bytes := [0, 0, 0, 0, 0, 0, 0, 0, 0, 0]
def hostB : Bytes := [64, 108, 105, 115, 116, 115, 46, 101, 120, 97, 109, 112, 108, 101]
def makeB (s : Bytes) : Bytes := hexB ((s ++ nul10).take 10) ++ hostB
theorem ten_len (s : Bytes) : ((s ++ nul10).take 10).length = 10 := by rw [List.length_take, List.length_append]; simp [nul10]
theorem lay_ten (s : Bytes) : lay (List.replicate 10 (Value.int .u8 0)) 0 (bys (s.take 10)) = bys ((s ++ nul10).take 10) := by
  have e : List.replicate 10 (Value.int .u8 0) = bys nul10 := rfl
  rw [e]
  unfold bys
  rw [← lay_map]
  congr 1
  unfold lay
  rw [List.take_append, List.take_zero, List.nil_append, Nat.zero_add, List.length_take]
  congr 1
  rcases Nat.lt_or_ge s.length 10 with h | h
  · rw [Nat.min_eq_right (by omega)]
    apply List.ext_getElem
    · simp [nul10]
    · intro q h1 h2
      have h3 : q < 10 - s.length := by rw [List.length_take] at h2; omega
      rw [List.getElem_drop, List.getElem_take]
      have : ∀ r, r < 10 → nul10[r]? = some 0 := by decide
      have a1 := this (s.length + q) (by omega)
      have a2 := this q (by omega)
      rw [List.getElem?_eq_getElem (by simp [nul10]; omega)] at a1 a2
      rw [Option.some.inj a1, Option.some.inj a2]
  · rw [Nat.min_eq_left h, Nat.sub_eq_zero_of_le h, List.take_zero, List.drop_of_length_le (by simp [nul10])]

theorem make_ (s : Bytes) (hs : s.length ≤ 1000000000) (k : ∀ w', Mod none' w w' → next (str (makeB s)) w') : callvK Tryd.prog (.func (.func 15) #[] #[]) [str s] w next QP := by
  refine r15 rfl ?_
  unfold h15
  try simp only [go_sem]
  refine msl1 sl45 rfl 10 rfl (by decide) (by decide) ?_
  intro b w1 hb own1 blk1 m1 hs1
  try simp only [go_sem]
  refine copyS sl45 (o := 0) blk1 (fun _ => rfl) (by simp; omega) ?_
  intro w2 blk2 m2 hs2
  rw [lay_ten] at blk2
  have mm : Mod none' w w2 := m1.trans m2 fun q hq (h : q = b) => by omega
  have own2 : HL.Own w2 (.slice (some ⟨b, 0, none⟩) 10 10) 5 1 10 (bys ((s ++ nul10).take 10)) :=
    Own.of_blk (rest := []) (by rw [bys_len, ten_len]) (by rw [List.append_nil]; exact blk2) (by simp) (by omega) (by unfold maxLen; omega)
  try simp only [go_sem]
  refine b2s (by kernel_rfl) u9 u5 own2.sl ?_
  try simp only [go_sem]
  refine hex_ _ (by rw [ten_len]; omega) ?_
  intro w3 m3
  have e : makeB s = hexB ((s ++ nul10).take 10) ++ [64] ++ [108, 105, 115, 116, 115, 46, 101, 120, 97, 109, 112, 108, 101] := by unfold makeB; rw [List.append_assoc]; rfl
  have := k w3 (mm.trans' m3)
  rw [e] at this
  have hh : (hexB ((s ++ nul10).take 10)).length = 20 := by rw [hexB_len, ten_len]
  try simp only [go_sem]
  exact ⟨by omega, by rw [List.length_append, List.length_singleton]; omega, this⟩

theorem rmake_ (s : Bytes) (hs : s.length ≤ 1000000000) (k : ∀ w', Mod none' w w' → next (str (makeB s)) w') : callvK Tryd.prog (.func (.func 16) #[] #[]) [str s] w next QP := by
  refine r16 rfl ?_
  unfold h16
  try simp only [go_sem]
  rw [show ([0, 0, 0, 0, 0, 0, 0, 0, 0, 0] : Bytes) = nul10 from rfl]
  have hl : nul10.length = 10 := rfl
  try simp only [go_sem]
  refine ⟨by omega, by rw [List.length_append]; omega, ?_⟩
  refine rhex_ ((s ++ nul10).take 10) (by rw [ten_len]; omega) ?_
  intro w3 m3
  have hh : (hexB ((s ++ nul10).take 10)).length = 20 := by rw [hexB_len, ten_len]
  try simp only [go_sem]
  exact ⟨by omega, k w3 m3⟩
end
end Go.Proofs.Y

/- the functions of the program as code over named slots, printed by hl.py -/
set_option maxRecDepth 100000
namespace Go.Proofs.Y
open Go Go.HL Go.Proofs
/- missive/digest.Sum -/
def h24_3 : HC :=
  (.reg [.need (.n3 (.sls true false) (.slot 0) (.lit (.int .i64 64)) (.lit (.tuple #[]))),
    .asg 0 (.n3 (.sls true false) (.slot 0) (.lit (.int .i64 64)) (.lit (.tuple #[])))])
def h24_2 : HC :=
  (.seq
  (.block 1
    (.reg [.need (.n3 (.sls false true) (.slot 0) (.lit (.tuple #[])) (.lit (.int .i64 64))),
      .eff (some 22) (.call { callee := .value (.func 41), args := #[.tmp 3, .tmp 21], argTypes := #[62, 9] }) 0 [(3, .slot 3), (21, .n3 (.sls false true) (.slot 0) (.lit (.tuple #[])) (.lit (.int .i64 64)))] none []]))
  h24_3)
def h24_1 : HC :=
  (.seq
  (.seq
  (.reg [.need (.n1 .lens (.slot 0)),
    .need (.n2 (.bin .geq) (.n1 .lens (.slot 0)) (.lit (.int .i64 64))),
    .asg 17 (.n2 (.bin .geq) (.n1 .lens (.slot 0)) (.lit (.int .i64 64)))])
  (.cond (.slot 17)
    .skip
    (.exit 0)))
  h24_2)
def h24_6 : HC :=
  (.block 3
    (.reg [.eff (some 32) (.buildSlice 45 1 #[(0, .const (.int .u8 0))]) 45 [] none [],
      .eff (some 33) (.call { callee := .builtin .append, args := #[.tmp 31, .tmp 32], argTypes := #[45, 45] }) 45 [(31, .slot 5), (32, .slot 32)] none [],
      .asg 5 (.slot 33)]))
def h24_5 : HC :=
  (.seq
  (.seq
  (.reg [.need (.n1 .lensl (.slot 5)),
    .need (.n2 (.bin .rem) (.n1 .lensl (.slot 5)) (.lit (.int .i64 64))),
    .need (.n2 (.bin .neq) (.n2 (.bin .rem) (.n1 .lensl (.slot 5)) (.lit (.int .i64 64))) (.lit (.int .i64 56))),
    .asg 30 (.n2 (.bin .neq) (.n2 (.bin .rem) (.n1 .lensl (.slot 5)) (.lit (.int .i64 64))) (.lit (.int .i64 56)))])
  (.cond (.slot 30)
    .skip
    (.exit 2)))
  h24_6)
def h24_10 : HC :=
  (.reg [.need (.n2 (.bin .add) (.slot 34) (.lit (.int .i64 1))),
    .asg 34 (.n2 (.bin .add) (.slot 34) (.lit (.int .i64 1)))])
def h24_9 : HC :=
  (.seq
  (.block 5
    (.seq
    (.reg [.asg 6 (.slot 34)])
    (.reg [.need (.n2 (.bin .sub) (.lit (.int .i64 7)) (.slot 6)),
      .need (.n2 (.bin .mul) (.lit (.int .i64 8)) (.n2 (.bin .sub) (.lit (.int .i64 7)) (.slot 6))),
      .need (.n2 (.bin .shr) (.slot 4) (.n2 (.bin .mul) (.lit (.int .i64 8)) (.n2 (.bin .sub) (.lit (.int .i64 7)) (.slot 6)))),
      .need (.n1 (.conv .u8) (.n2 (.bin .shr) (.slot 4) (.n2 (.bin .mul) (.lit (.int .i64 8)) (.n2 (.bin .sub) (.lit (.int .i64 7)) (.slot 6))))),
      .eff (some 44) (.buildSlice 45 1 #[(0, .tmp 43)]) 45 [(43, .n1 (.conv .u8) (.n2 (.bin .shr) (.slot 4) (.n2 (.bin .mul) (.lit (.int .i64 8)) (.n2 (.bin .sub) (.lit (.int .i64 7)) (.slot 6)))))] none [],
      .eff (some 45) (.call { callee := .builtin .append, args := #[.tmp 37, .tmp 44], argTypes := #[45, 45] }) 45 [(37, .slot 5), (44, .slot 44)] none [],
      .asg 5 (.slot 45)])))
  h24_10)
def h24_8 : HC :=
  (.seq
  (.reg [.need (.n2 (.bin .lss) (.slot 34) (.lit (.int .i64 8))),
    .asg 35 (.n2 (.bin .lss) (.slot 34) (.lit (.int .i64 8)))])
  (.seq
  (.cond (.slot 35)
    .skip
    (.exit 4))
  h24_9))
def h24_14 : HC :=
  (.reg [.need (.n3 (.slv 1 true false) (.slot 5) (.lit (.int .i64 64)) (.lit (.tuple #[]))),
    .asg 5 (.n3 (.slv 1 true false) (.slot 5) (.lit (.int .i64 64)) (.lit (.tuple #[])))])
def h24_13 : HC :=
  (.seq
  (.block 7
    (.reg [.need (.n3 (.slv 1 false true) (.slot 5) (.lit (.tuple #[])) (.lit (.int .i64 64))),
      .eff (some 54) (.convert 45 9 (.tmp 53)) 9 [(53, .n3 (.slv 1 false true) (.slot 5) (.lit (.tuple #[])) (.lit (.int .i64 64)))] none [],
      .eff (some 55) (.call { callee := .value (.func 41), args := #[.tmp 3, .tmp 54], argTypes := #[62, 9] }) 0 [(3, .slot 3), (54, .slot 54)] none []]))
  h24_14)
def h24_12 : HC :=
  (.seq
  (.seq
  (.reg [.need (.n1 .lensl (.slot 5)),
    .need (.n2 (.bin .gtr) (.n1 .lensl (.slot 5)) (.lit (.int .i64 0))),
    .asg 49 (.n2 (.bin .gtr) (.n1 .lensl (.slot 5)) (.lit (.int .i64 0)))])
  (.cond (.slot 49)
    .skip
    (.exit 6)))
  h24_13)
def h24_18 : HC :=
  (.reg [.need (.n2 (.bin .add) (.slot 57) (.lit (.int .i64 1))),
    .asg 57 (.n2 (.bin .add) (.slot 57) (.lit (.int .i64 1)))])
def h24_17 : HC :=
  (.seq
  (.block 9
    (.seq
    (.reg [.need (.n2 (.idxa 8 1 false) (.slot 56) (.slot 57)),
      .asg 9 (.n2 (.idxa 8 1 false) (.slot 56) (.slot 57))])
    (.reg [.need (.n2 (.bin .shr) (.slot 9) (.lit (.int .u64 24))),
      .need (.n1 (.conv .u8) (.n2 (.bin .shr) (.slot 9) (.lit (.int .u64 24)))),
      .need (.n2 (.bin .shr) (.slot 9) (.lit (.int .u64 16))),
      .need (.n1 (.conv .u8) (.n2 (.bin .shr) (.slot 9) (.lit (.int .u64 16)))),
      .need (.n2 (.bin .shr) (.slot 9) (.lit (.int .u64 8))),
      .need (.n1 (.conv .u8) (.n2 (.bin .shr) (.slot 9) (.lit (.int .u64 8)))),
      .need (.n1 (.conv .u8) (.slot 9)),
      .eff (some 71) (.buildSlice 45 4 #[(0, .tmp 62), (1, .tmp 65), (2, .tmp 68), (3, .tmp 70)]) 45 [(62, .n1 (.conv .u8) (.n2 (.bin .shr) (.slot 9) (.lit (.int .u64 24)))), (65, .n1 (.conv .u8) (.n2 (.bin .shr) (.slot 9) (.lit (.int .u64 16)))), (68, .n1 (.conv .u8) (.n2 (.bin .shr) (.slot 9) (.lit (.int .u64 8)))), (70, .n1 (.conv .u8) (.slot 9))] none [],
      .eff (some 72) (.call { callee := .value (.func 42), args := #[.tmp 7, .tmp 71], argTypes := #[68, 45] }) 71 [(7, .slot 7), (71, .slot 71)] none []])))
  h24_18)
def h24_16 : HC :=
  (.seq
  (.reg [.need (.n2 (.bin .lss) (.slot 57) (.lit (.int .i64 8))),
    .asg 58 (.n2 (.bin .lss) (.slot 57) (.lit (.int .i64 8)))])
  (.seq
  (.cond (.slot 58)
    .skip
    (.exit 8))
  h24_17))
def h24_19 : HC :=
  (.seq
  (.reg [.eff (some 74) (.call { callee := .value (.func 43), args := #[.tmp 7], argTypes := #[68] }) 9 [(7, .slot 7)] none [],
    .asg 2 (.slot 74)])
  .ret)
def h24_15 : HC :=
  (.seq
  (.reg [.eff (some 7) (.alloc 68) 0 [] none []])
  (.seq
  (.seq
  (.reg [.need (.n1 (.ldn 8) (.slot 3)),
    .asg 56 (.n1 (.ldn 8) (.slot 3)),
    .asg 57 (.lit (.int .i64 0))])
  (.block 8
    (.loop
      h24_16)))
  h24_19))
def h24_11 : HC :=
  (.seq
  (.block 6
    (.loop
      h24_12))
  h24_15)
def h24_7 : HC :=
  (.seq
  (.seq
  (.reg [.asg 34 (.lit (.int .i64 0))])
  (.block 4
    (.loop
      h24_8)))
  h24_11)
def h24_4 : HC :=
  (.seq
  (.reg [.eff (some 24) (.convert 9 45 (.tmp 23)) 45 [(23, .slot 0)] none [],
    .eff (some 25) (.buildSlice 45 1 #[(0, .const (.int .u8 128))]) 45 [] none [],
    .eff (some 26) (.call { callee := .builtin .append, args := #[.tmp 24, .tmp 25], argTypes := #[45, 45] }) 45 [(24, .slot 24), (25, .slot 25)] none [],
    .asg 5 (.slot 26)])
  (.seq
  (.block 2
    (.loop
      h24_5))
  h24_7))
def h24 : HC :=
  (.seq
  (.reg [.asg 2 (.lit (str []))])
  (.seq
  (.reg [.eff (some 10) (.call { callee := .value (.func 40), args := #[], argTypes := #[] }) 62 [] none [],
    .eff (some 3) (.alloc 62) 0 [] none [],
    .eff none (.store 62 (.tmp 3) (.tmp 10)) 0 [(3, .slot 3), (10, .slot 10)] none []])
  (.seq
  (.reg [.need (.n1 .lens (.slot 0)),
    .need (.n1 (.conv .u64) (.n1 .lens (.slot 0))),
    .need (.n2 (.bin .mul) (.n1 (.conv .u64) (.n1 .lens (.slot 0))) (.lit (.int .u64 8))),
    .asg 4 (.n2 (.bin .mul) (.n1 (.conv .u64) (.n1 .lens (.slot 0))) (.lit (.int .u64 8)))])
  (.seq
  (.block 0
    (.loop
      h24_1))
  h24_4))))
theorem k24 : fnOK Tryd.prog 25973574717928974190333 [] [.tmp 2] 1 Tryd.f24 = some h24 := by kernel_rfl
theorem c24 : callable Tryd.prog 24 = true := by kernel_rfl
theorem q24 {args : List Value} (ha : args.length = 1) {w : World} {next : Value → World → Prop} {QP : List PanicEntry → World → Prop} (H : hw Tryd.prog noPanic h24 (endV [.tmp 2] next) (σ0 args) w) : callK Tryd.prog 24 args w next QP := fn_rule Tryd.func24 mixed k24 ha H
theorem r24 {args : List Value} (ha : args.length = 1) {w : World} {next : Value → World → Prop} {QP : List PanicEntry → World → Prop} (H : hw Tryd.prog noPanic h24 (endV [.tmp 2] next) (σ0 args) w) : callvK Tryd.prog (.func (.func 24) #[] #[]) args w next QP := callf c24 (q24 ha H)

/- missive/digest.begin -/
def h40 : HC :=
  (.seq
  (.reg [.eff (some 0) (.alloc 62) 0 [] none []])
  (.seq
  (.reg [.need (.n2 (.put 0 1) (.lit (.agg #[(.int .u32 0), (.int .u32 0), (.int .u32 0), (.int .u32 0), (.int .u32 0), (.int .u32 0), (.int .u32 0), (.int .u32 0)])) (.lit (.int .u32 1779033703))),
    .need (.n2 (.put 1 1) (.n2 (.put 0 1) (.lit (.agg #[(.int .u32 0), (.int .u32 0), (.int .u32 0), (.int .u32 0), (.int .u32 0), (.int .u32 0), (.int .u32 0), (.int .u32 0)])) (.lit (.int .u32 1779033703))) (.lit (.int .u32 3144134277))),
    .need (.n2 (.put 2 1) (.n2 (.put 1 1) (.n2 (.put 0 1) (.lit (.agg #[(.int .u32 0), (.int .u32 0), (.int .u32 0), (.int .u32 0), (.int .u32 0), (.int .u32 0), (.int .u32 0), (.int .u32 0)])) (.lit (.int .u32 1779033703))) (.lit (.int .u32 3144134277))) (.lit (.int .u32 1013904242))),
    .need (.n2 (.put 3 1) (.n2 (.put 2 1) (.n2 (.put 1 1) (.n2 (.put 0 1) (.lit (.agg #[(.int .u32 0), (.int .u32 0), (.int .u32 0), (.int .u32 0), (.int .u32 0), (.int .u32 0), (.int .u32 0), (.int .u32 0)])) (.lit (.int .u32 1779033703))) (.lit (.int .u32 3144134277))) (.lit (.int .u32 1013904242))) (.lit (.int .u32 2773480762))),
    .need (.n2 (.put 4 1) (.n2 (.put 3 1) (.n2 (.put 2 1) (.n2 (.put 1 1) (.n2 (.put 0 1) (.lit (.agg #[(.int .u32 0), (.int .u32 0), (.int .u32 0), (.int .u32 0), (.int .u32 0), (.int .u32 0), (.int .u32 0), (.int .u32 0)])) (.lit (.int .u32 1779033703))) (.lit (.int .u32 3144134277))) (.lit (.int .u32 1013904242))) (.lit (.int .u32 2773480762))) (.lit (.int .u32 1359893119))),
    .need (.n2 (.put 5 1) (.n2 (.put 4 1) (.n2 (.put 3 1) (.n2 (.put 2 1) (.n2 (.put 1 1) (.n2 (.put 0 1) (.lit (.agg #[(.int .u32 0), (.int .u32 0), (.int .u32 0), (.int .u32 0), (.int .u32 0), (.int .u32 0), (.int .u32 0), (.int .u32 0)])) (.lit (.int .u32 1779033703))) (.lit (.int .u32 3144134277))) (.lit (.int .u32 1013904242))) (.lit (.int .u32 2773480762))) (.lit (.int .u32 1359893119))) (.lit (.int .u32 2600822924))),
    .need (.n2 (.put 6 1) (.n2 (.put 5 1) (.n2 (.put 4 1) (.n2 (.put 3 1) (.n2 (.put 2 1) (.n2 (.put 1 1) (.n2 (.put 0 1) (.lit (.agg #[(.int .u32 0), (.int .u32 0), (.int .u32 0), (.int .u32 0), (.int .u32 0), (.int .u32 0), (.int .u32 0), (.int .u32 0)])) (.lit (.int .u32 1779033703))) (.lit (.int .u32 3144134277))) (.lit (.int .u32 1013904242))) (.lit (.int .u32 2773480762))) (.lit (.int .u32 1359893119))) (.lit (.int .u32 2600822924))) (.lit (.int .u32 528734635))),
    .need (.n2 (.put 7 1) (.n2 (.put 6 1) (.n2 (.put 5 1) (.n2 (.put 4 1) (.n2 (.put 3 1) (.n2 (.put 2 1) (.n2 (.put 1 1) (.n2 (.put 0 1) (.lit (.agg #[(.int .u32 0), (.int .u32 0), (.int .u32 0), (.int .u32 0), (.int .u32 0), (.int .u32 0), (.int .u32 0), (.int .u32 0)])) (.lit (.int .u32 1779033703))) (.lit (.int .u32 3144134277))) (.lit (.int .u32 1013904242))) (.lit (.int .u32 2773480762))) (.lit (.int .u32 1359893119))) (.lit (.int .u32 2600822924))) (.lit (.int .u32 528734635))) (.lit (.int .u32 1541459225))),
    .eff none (.store 62 (.tmp 0) (.tmp 1)) 0 [(0, .slot 0), (1, .n2 (.put 7 1) (.n2 (.put 6 1) (.n2 (.put 5 1) (.n2 (.put 4 1) (.n2 (.put 3 1) (.n2 (.put 2 1) (.n2 (.put 1 1) (.n2 (.put 0 1) (.lit (.agg #[(.int .u32 0), (.int .u32 0), (.int .u32 0), (.int .u32 0), (.int .u32 0), (.int .u32 0), (.int .u32 0), (.int .u32 0)])) (.lit (.int .u32 1779033703))) (.lit (.int .u32 3144134277))) (.lit (.int .u32 1013904242))) (.lit (.int .u32 2773480762))) (.lit (.int .u32 1359893119))) (.lit (.int .u32 2600822924))) (.lit (.int .u32 528734635))) (.lit (.int .u32 1541459225)))] none []])
  .ret))
theorem k40 : fnOK Tryd.prog 1 [] [.cell 0 (.ldn 8)] 0 Tryd.f40 = some h40 := by kernel_rfl
theorem c40 : callable Tryd.prog 40 = true := by kernel_rfl
theorem q40 {args : List Value} (ha : args.length = 0) {w : World} {next : Value → World → Prop} {QP : List PanicEntry → World → Prop} (H : hw Tryd.prog noPanic h40 (endV [.cell 0 (.ldn 8)] next) (σ0 args) w) : callK Tryd.prog 40 args w next QP := fn_rule Tryd.func40 mixed k40 ha H
theorem r40 {args : List Value} (ha : args.length = 0) {w : World} {next : Value → World → Prop} {QP : List PanicEntry → World → Prop} (H : hw Tryd.prog noPanic h40 (endV [.cell 0 (.ldn 8)] next) (σ0 args) w) : callvK Tryd.prog (.func (.func 40) #[] #[]) args w next QP := callf c40 (q40 ha H)

/- (*missive/digest.state).process -/
def h41_4 : HC :=
  (.reg [.need (.n2 (.bin .add) (.slot 13) (.slot 14)),
    .need (.n2 (.iaddra 8 1) (.slot 5) (.lit (.int .i64 3))),
    .need (.n1 .ld (.n2 (.iaddra 8 1) (.slot 5) (.lit (.int .i64 3)))),
    .need (.n2 (.bin .add) (.n1 .ld (.n2 (.iaddra 8 1) (.slot 5) (.lit (.int .i64 3)))) (.slot 13)),
    .need (.n2 (.put 0 1) (.lit (.agg #[(.int .u32 0), (.int .u32 0), (.int .u32 0), (.int .u32 0), (.int .u32 0), (.int .u32 0), (.int .u32 0), (.int .u32 0)])) (.n2 (.bin .add) (.slot 13) (.slot 14))),
    .need (.n2 (.put 1 1) (.n2 (.put 0 1) (.lit (.agg #[(.int .u32 0), (.int .u32 0), (.int .u32 0), (.int .u32 0), (.int .u32 0), (.int .u32 0), (.int .u32 0), (.int .u32 0)])) (.n2 (.bin .add) (.slot 13) (.slot 14))) (.slot 7)),
    .need (.n2 (.put 2 1) (.n2 (.put 1 1) (.n2 (.put 0 1) (.lit (.agg #[(.int .u32 0), (.int .u32 0), (.int .u32 0), (.int .u32 0), (.int .u32 0), (.int .u32 0), (.int .u32 0), (.int .u32 0)])) (.n2 (.bin .add) (.slot 13) (.slot 14))) (.slot 7)) (.slot 8)),
    .need (.n2 (.put 3 1) (.n2 (.put 2 1) (.n2 (.put 1 1) (.n2 (.put 0 1) (.lit (.agg #[(.int .u32 0), (.int .u32 0), (.int .u32 0), (.int .u32 0), (.int .u32 0), (.int .u32 0), (.int .u32 0), (.int .u32 0)])) (.n2 (.bin .add) (.slot 13) (.slot 14))) (.slot 7)) (.slot 8)) (.slot 9)),
    .need (.n2 (.put 4 1) (.n2 (.put 3 1) (.n2 (.put 2 1) (.n2 (.put 1 1) (.n2 (.put 0 1) (.lit (.agg #[(.int .u32 0), (.int .u32 0), (.int .u32 0), (.int .u32 0), (.int .u32 0), (.int .u32 0), (.int .u32 0), (.int .u32 0)])) (.n2 (.bin .add) (.slot 13) (.slot 14))) (.slot 7)) (.slot 8)) (.slot 9)) (.n2 (.bin .add) (.n1 .ld (.n2 (.iaddra 8 1) (.slot 5) (.lit (.int .i64 3)))) (.slot 13))),
    .need (.n2 (.put 5 1) (.n2 (.put 4 1) (.n2 (.put 3 1) (.n2 (.put 2 1) (.n2 (.put 1 1) (.n2 (.put 0 1) (.lit (.agg #[(.int .u32 0), (.int .u32 0), (.int .u32 0), (.int .u32 0), (.int .u32 0), (.int .u32 0), (.int .u32 0), (.int .u32 0)])) (.n2 (.bin .add) (.slot 13) (.slot 14))) (.slot 7)) (.slot 8)) (.slot 9)) (.n2 (.bin .add) (.n1 .ld (.n2 (.iaddra 8 1) (.slot 5) (.lit (.int .i64 3)))) (.slot 13))) (.slot 10)),
    .need (.n2 (.put 6 1) (.n2 (.put 5 1) (.n2 (.put 4 1) (.n2 (.put 3 1) (.n2 (.put 2 1) (.n2 (.put 1 1) (.n2 (.put 0 1) (.lit (.agg #[(.int .u32 0), (.int .u32 0), (.int .u32 0), (.int .u32 0), (.int .u32 0), (.int .u32 0), (.int .u32 0), (.int .u32 0)])) (.n2 (.bin .add) (.slot 13) (.slot 14))) (.slot 7)) (.slot 8)) (.slot 9)) (.n2 (.bin .add) (.n1 .ld (.n2 (.iaddra 8 1) (.slot 5) (.lit (.int .i64 3)))) (.slot 13))) (.slot 10)) (.slot 11)),
    .need (.n2 (.put 7 1) (.n2 (.put 6 1) (.n2 (.put 5 1) (.n2 (.put 4 1) (.n2 (.put 3 1) (.n2 (.put 2 1) (.n2 (.put 1 1) (.n2 (.put 0 1) (.lit (.agg #[(.int .u32 0), (.int .u32 0), (.int .u32 0), (.int .u32 0), (.int .u32 0), (.int .u32 0), (.int .u32 0), (.int .u32 0)])) (.n2 (.bin .add) (.slot 13) (.slot 14))) (.slot 7)) (.slot 8)) (.slot 9)) (.n2 (.bin .add) (.n1 .ld (.n2 (.iaddra 8 1) (.slot 5) (.lit (.int .i64 3)))) (.slot 13))) (.slot 10)) (.slot 11)) (.slot 12)),
    .eff none (.store 62 (.tmp 5) (.tmp 97)) 0 [(5, .slot 5), (97, .n2 (.put 7 1) (.n2 (.put 6 1) (.n2 (.put 5 1) (.n2 (.put 4 1) (.n2 (.put 3 1) (.n2 (.put 2 1) (.n2 (.put 1 1) (.n2 (.put 0 1) (.lit (.agg #[(.int .u32 0), (.int .u32 0), (.int .u32 0), (.int .u32 0), (.int .u32 0), (.int .u32 0), (.int .u32 0), (.int .u32 0)])) (.n2 (.bin .add) (.slot 13) (.slot 14))) (.slot 7)) (.slot 8)) (.slot 9)) (.n2 (.bin .add) (.n1 .ld (.n2 (.iaddra 8 1) (.slot 5) (.lit (.int .i64 3)))) (.slot 13))) (.slot 10)) (.slot 11)) (.slot 12))] none []])
def h41_5 : HC :=
  (.reg [.need (.n2 (.bin .add) (.slot 21) (.lit (.int .i64 1))),
    .asg 21 (.n2 (.bin .add) (.slot 21) (.lit (.int .i64 1)))])
def h41_3 : HC :=
  (.seq
  (.block 1
    (.seq
    (.reg [.asg 6 (.slot 21)])
    (.seq
    (.draw [.need (.n2 (.iaddra 8 1) (.slot 5) (.lit (.int .i64 0))),
      .need (.n1 .ld (.n2 (.iaddra 8 1) (.slot 5) (.lit (.int .i64 0)))),
      .need (.n2 (.iaddra 8 1) (.slot 5) (.lit (.int .i64 1))),
      .need (.n1 .ld (.n2 (.iaddra 8 1) (.slot 5) (.lit (.int .i64 1)))),
      .need (.n2 (.iaddra 8 1) (.slot 5) (.lit (.int .i64 2))),
      .need (.n1 .ld (.n2 (.iaddra 8 1) (.slot 5) (.lit (.int .i64 2)))),
      .need (.n2 (.iaddra 8 1) (.slot 5) (.lit (.int .i64 4))),
      .need (.n1 .ld (.n2 (.iaddra 8 1) (.slot 5) (.lit (.int .i64 4)))),
      .need (.n2 (.iaddra 8 1) (.slot 5) (.lit (.int .i64 5))),
      .need (.n1 .ld (.n2 (.iaddra 8 1) (.slot 5) (.lit (.int .i64 5)))),
      .need (.n2 (.iaddra 8 1) (.slot 5) (.lit (.int .i64 6))),
      .need (.n1 .ld (.n2 (.iaddra 8 1) (.slot 5) (.lit (.int .i64 6)))),
      .asg 7 (.n1 .ld (.n2 (.iaddra 8 1) (.slot 5) (.lit (.int .i64 0)))),
      .asg 8 (.n1 .ld (.n2 (.iaddra 8 1) (.slot 5) (.lit (.int .i64 1)))),
      .asg 9 (.n1 .ld (.n2 (.iaddra 8 1) (.slot 5) (.lit (.int .i64 2)))),
      .asg 10 (.n1 .ld (.n2 (.iaddra 8 1) (.slot 5) (.lit (.int .i64 4)))),
      .asg 11 (.n1 .ld (.n2 (.iaddra 8 1) (.slot 5) (.lit (.int .i64 5)))),
      .asg 12 (.n1 .ld (.n2 (.iaddra 8 1) (.slot 5) (.lit (.int .i64 6))))])
    (.seq
    (.draw [.need (.n2 (.iaddra 8 1) (.slot 5) (.lit (.int .i64 7))),
      .need (.n1 .ld (.n2 (.iaddra 8 1) (.slot 5) (.lit (.int .i64 7)))),
      .asg 37 (.n1 .ld (.n2 (.iaddra 8 1) (.slot 5) (.lit (.int .i64 7)))),
      .need (.n2 (.bin .and) (.slot 10) (.slot 11)),
      .need (.n1 .xor (.slot 10)),
      .need (.n2 (.bin .and) (.n1 .xor (.slot 10)) (.slot 12)),
      .need (.n2 (.bin .xor) (.n2 (.bin .and) (.slot 10) (.slot 11)) (.n2 (.bin .and) (.n1 .xor (.slot 10)) (.slot 12))),
      .need (.n2 (.iaddra 64 1) (.lit (.pointer (some ⟨0, 0, none⟩))) (.slot 6)),
      .need (.n1 .ld (.n2 (.iaddra 64 1) (.lit (.pointer (some ⟨0, 0, none⟩))) (.slot 6))),
      .asg 58 (.n1 .ld (.n2 (.iaddra 64 1) (.lit (.pointer (some ⟨0, 0, none⟩))) (.slot 6))),
      .need (.n2 (.iaddra 64 1) (.slot 4) (.slot 6)),
      .need (.n1 .ld (.n2 (.iaddra 64 1) (.slot 4) (.slot 6))),
      .asg 62 (.n1 .ld (.n2 (.iaddra 64 1) (.slot 4) (.slot 6))),
      .eff (some 39) (.call { callee := .value (.func 62), args := #[.tmp 38, .const (.int .i64 (-6))], argTypes := #[60, 3] }) 60 [(38, .slot 10)] none [⟨none, .ld, .n2 (.iaddra 8 1) (.slot 5) (.lit (.int .i64 7))⟩, ⟨none, .ld, .n2 (.iaddra 64 1) (.lit (.pointer (some ⟨0, 0, none⟩))) (.slot 6)⟩, ⟨none, .ld, .n2 (.iaddra 64 1) (.slot 4) (.slot 6)⟩],
      .eff (some 41) (.call { callee := .value (.func 62), args := #[.tmp 40, .const (.int .i64 (-11))], argTypes := #[60, 3] }) 60 [(40, .slot 10)] none [⟨none, .ld, .n2 (.iaddra 8 1) (.slot 5) (.lit (.int .i64 7))⟩, ⟨none, .ld, .n2 (.iaddra 64 1) (.lit (.pointer (some ⟨0, 0, none⟩))) (.slot 6)⟩, ⟨none, .ld, .n2 (.iaddra 64 1) (.slot 4) (.slot 6)⟩],
      .need (.n2 (.bin .xor) (.slot 39) (.slot 41)),
      .eff (some 44) (.call { callee := .value (.func 62), args := #[.tmp 43, .const (.int .i64 (-25))], argTypes := #[60, 3] }) 60 [(43, .slot 10)] none [⟨none, .ld, .n2 (.iaddra 8 1) (.slot 5) (.lit (.int .i64 7))⟩, ⟨none, .ld, .n2 (.iaddra 64 1) (.lit (.pointer (some ⟨0, 0, none⟩))) (.slot 6)⟩, ⟨none, .ld, .n2 (.iaddra 64 1) (.slot 4) (.slot 6)⟩],
      .need (.n2 (.bin .xor) (.n2 (.bin .xor) (.slot 39) (.slot 41)) (.slot 44)),
      .need (.n2 (.bin .add) (.slot 37) (.n2 (.bin .xor) (.n2 (.bin .xor) (.slot 39) (.slot 41)) (.slot 44))),
      .need (.n2 (.bin .add) (.n2 (.bin .add) (.slot 37) (.n2 (.bin .xor) (.n2 (.bin .xor) (.slot 39) (.slot 41)) (.slot 44))) (.n2 (.bin .xor) (.n2 (.bin .and) (.slot 10) (.slot 11)) (.n2 (.bin .and) (.n1 .xor (.slot 10)) (.slot 12)))),
      .need (.n2 (.bin .add) (.n2 (.bin .add) (.n2 (.bin .add) (.slot 37) (.n2 (.bin .xor) (.n2 (.bin .xor) (.slot 39) (.slot 41)) (.slot 44))) (.n2 (.bin .xor) (.n2 (.bin .and) (.slot 10) (.slot 11)) (.n2 (.bin .and) (.n1 .xor (.slot 10)) (.slot 12)))) (.slot 58)),
      .need (.n2 (.bin .add) (.n2 (.bin .add) (.n2 (.bin .add) (.n2 (.bin .add) (.slot 37) (.n2 (.bin .xor) (.n2 (.bin .xor) (.slot 39) (.slot 41)) (.slot 44))) (.n2 (.bin .xor) (.n2 (.bin .and) (.slot 10) (.slot 11)) (.n2 (.bin .and) (.n1 .xor (.slot 10)) (.slot 12)))) (.slot 58)) (.slot 62)),
      .asg 13 (.n2 (.bin .add) (.n2 (.bin .add) (.n2 (.bin .add) (.n2 (.bin .add) (.slot 37) (.n2 (.bin .xor) (.n2 (.bin .xor) (.slot 39) (.slot 41)) (.slot 44))) (.n2 (.bin .xor) (.n2 (.bin .and) (.slot 10) (.slot 11)) (.n2 (.bin .and) (.n1 .xor (.slot 10)) (.slot 12)))) (.slot 58)) (.slot 62))])
    (.seq
    (.reg [.eff (some 65) (.call { callee := .value (.func 62), args := #[.tmp 64, .const (.int .i64 (-2))], argTypes := #[60, 3] }) 60 [(64, .slot 7)] none [],
      .eff (some 67) (.call { callee := .value (.func 62), args := #[.tmp 66, .const (.int .i64 (-13))], argTypes := #[60, 3] }) 60 [(66, .slot 7)] none [],
      .need (.n2 (.bin .xor) (.slot 65) (.slot 67)),
      .eff (some 70) (.call { callee := .value (.func 62), args := #[.tmp 69, .const (.int .i64 (-22))], argTypes := #[60, 3] }) 60 [(69, .slot 7)] none [],
      .need (.n2 (.bin .xor) (.n2 (.bin .xor) (.slot 65) (.slot 67)) (.slot 70)),
      .need (.n2 (.bin .and) (.slot 7) (.slot 8)),
      .need (.n2 (.bin .and) (.slot 7) (.slot 9)),
      .need (.n2 (.bin .xor) (.n2 (.bin .and) (.slot 7) (.slot 8)) (.n2 (.bin .and) (.slot 7) (.slot 9))),
      .need (.n2 (.bin .and) (.slot 8) (.slot 9)),
      .need (.n2 (.bin .xor) (.n2 (.bin .xor) (.n2 (.bin .and) (.slot 7) (.slot 8)) (.n2 (.bin .and) (.slot 7) (.slot 9))) (.n2 (.bin .and) (.slot 8) (.slot 9))),
      .need (.n2 (.bin .add) (.n2 (.bin .xor) (.n2 (.bin .xor) (.slot 65) (.slot 67)) (.slot 70)) (.n2 (.bin .xor) (.n2 (.bin .xor) (.n2 (.bin .and) (.slot 7) (.slot 8)) (.n2 (.bin .and) (.slot 7) (.slot 9))) (.n2 (.bin .and) (.slot 8) (.slot 9)))),
      .asg 14 (.n2 (.bin .add) (.n2 (.bin .xor) (.n2 (.bin .xor) (.slot 65) (.slot 67)) (.slot 70)) (.n2 (.bin .xor) (.n2 (.bin .xor) (.n2 (.bin .and) (.slot 7) (.slot 8)) (.n2 (.bin .and) (.slot 7) (.slot 9))) (.n2 (.bin .and) (.slot 8) (.slot 9))))])
    h41_4)))))
  h41_5)
def h41_2 : HC :=
  (.seq
  (.reg [.need (.n2 (.bin .lss) (.slot 21) (.lit (.int .i64 64))),
    .asg 22 (.n2 (.bin .lss) (.slot 21) (.lit (.int .i64 64)))])
  (.seq
  (.cond (.slot 22)
    .skip
    (.exit 0))
  h41_3))
def h41_9 : HC :=
  (.reg [.need (.n2 (.bin .add) (.slot 99) (.lit (.int .i64 1))),
    .asg 99 (.n2 (.bin .add) (.slot 99) (.lit (.int .i64 1)))])
def h41_8 : HC :=
  (.seq
  (.block 3
    (.seq
    (.reg [.asg 15 (.slot 99)])
    (.draw [.need (.n1 .nilchk (.slot 0)),
      .need (.n2 (.iaddra 8 1) (.n1 .nilchk (.slot 0)) (.slot 15)),
      .need (.n1 .ld (.n2 (.iaddra 8 1) (.n1 .nilchk (.slot 0)) (.slot 15))),
      .need (.n2 (.iaddra 8 1) (.slot 5) (.slot 15)),
      .need (.n1 .ld (.n2 (.iaddra 8 1) (.slot 5) (.slot 15))),
      .need (.n2 (.bin .add) (.n1 .ld (.n2 (.iaddra 8 1) (.n1 .nilchk (.slot 0)) (.slot 15))) (.n1 .ld (.n2 (.iaddra 8 1) (.slot 5) (.slot 15)))),
      .need (.n1 .nilchk (.slot 0)),
      .need (.n2 (.iaddra 8 1) (.n1 .nilchk (.slot 0)) (.slot 15)),
      .eff none (.store 60 (.tmp 112) (.tmp 110)) 0 [(112, .n2 (.iaddra 8 1) (.n1 .nilchk (.slot 0)) (.slot 15)), (110, .n2 (.bin .add) (.n1 .ld (.n2 (.iaddra 8 1) (.n1 .nilchk (.slot 0)) (.slot 15))) (.n1 .ld (.n2 (.iaddra 8 1) (.slot 5) (.slot 15))))] none []])))
  h41_9)
def h41_7 : HC :=
  (.seq
  (.reg [.need (.n2 (.bin .lss) (.slot 99) (.lit (.int .i64 8))),
    .asg 100 (.n2 (.bin .lss) (.slot 99) (.lit (.int .i64 8)))])
  (.seq
  (.cond (.slot 100)
    .skip
    (.exit 2))
  h41_8))
def h41_6 : HC :=
  (.seq
  (.reg [.asg 99 (.lit (.int .i64 0))])
  (.block 2
    (.loop
      h41_7)))
def h41_1 : HC :=
  (.seq
  (.seq
  (.reg [.asg 21 (.lit (.int .i64 0))])
  (.block 0
    (.loop
      h41_2)))
  h41_6)
def h41 : HC :=
  (.seq
  (.reg [.eff (some 17) (.call { callee := .value (.func 61), args := #[.tmp 16], argTypes := #[9] }) 93 [(16, .slot 1)] none [],
    .eff (some 4) (.alloc 93) 0 [] none [],
    .eff none (.store 93 (.tmp 4) (.tmp 17)) 0 [(4, .slot 4), (17, .slot 17)] none []])
  (.seq
  (.reg [.need (.n1 .nilchk (.slot 0)),
    .need (.n1 (.ldn 8) (.n1 .nilchk (.slot 0))),
    .asg 20 (.n1 (.ldn 8) (.n1 .nilchk (.slot 0))),
    .eff (some 5) (.alloc 62) 0 [] none [],
    .eff none (.store 62 (.tmp 5) (.tmp 20)) 0 [(5, .slot 5), (20, .slot 20)] none []])
  h41_1))
theorem k41 : fnOK Tryd.prog 1901475901712303100572552331251 [⟨5, [0, 1, 0, 4, 0, 16, 0, 64, 0, 256, 0, 1024, 3, 4111, 12351, 28927, 62463, 131071], [(0, []), (1, []), (2, []), (3, []), (4, []), (5, []), (6, []), (7, []), (8, []), (9, []), (10, []), (11, []), (12, []), (13, []), (14, []), (15, []), (16, []), (17, [])], none⟩, ⟨6, [0, 1, 0, 4, 0, 28, 60, 0, 188, 508, 1023, 0, 0, 6144, 0, 16384, 0, 114688, 260096, 524287, 0, 1048576, 3145728, 8388607, 0, 16777216, 50331648, 134217727, 268435455], [(0, []), (1, []), (2, []), (4, []), (7, []), (11, []), (12, []), (13, []), (14, []), (15, []), (16, []), (17, []), (18, []), (20, []), (21, []), (22, []), (24, []), (25, []), (26, []), (3, [1, 22, 26]), (5, [1, 22, 26]), (6, []), (8, [1, 22, 26]), (9, []), (10, []), (19, []), (23, []), (27, []), (28, [])], none⟩, ⟨13, [0, 0, 1, 7, 15, 0, 32, 96, 255, 1, 1023, 2047], [(0, []), (1, []), (2, []), (3, []), (4, []), (5, []), (6, []), (7, []), (8, []), (9, []), (10, []), (11, [])], none⟩] [] 2 Tryd.f41 = some h41 := by kernel_rfl
theorem c41 : callable Tryd.prog 41 = true := by kernel_rfl
theorem q41 {args : List Value} (ha : args.length = 2) {w : World} {next : Value → World → Prop} {QP : List PanicEntry → World → Prop} (H : hw Tryd.prog noPanic h41 (endV [] next) (σ0 args) w) : callK Tryd.prog 41 args w next QP := fn_rule Tryd.func41 mixed k41 ha H
theorem r41 {args : List Value} (ha : args.length = 2) {w : World} {next : Value → World → Prop} {QP : List PanicEntry → World → Prop} (H : hw Tryd.prog noPanic h41 (endV [] next) (σ0 args) w) : callvK Tryd.prog (.func (.func 41) #[] #[]) args w next QP := callf c41 (q41 ha H)

/- missive/digest.schedule -/
def h61_5 : HC :=
  (.reg [.need (.n2 (.bin .add) (.slot 13) (.lit (.int .i64 1))),
    .asg 13 (.n2 (.bin .add) (.slot 13) (.lit (.int .i64 1)))])
def h61_4 : HC :=
  (.seq
  (.block 3
    (.seq
    (.reg [.asg 4 (.slot 13)])
    (.draw [.need (.n2 (.iaddra 64 1) (.slot 2) (.slot 3)),
      .need (.n1 .ld (.n2 (.iaddra 64 1) (.slot 2) (.slot 3))),
      .need (.n2 (.bin .shl) (.n1 .ld (.n2 (.iaddra 64 1) (.slot 2) (.slot 3))) (.lit (.int .u64 8))),
      .need (.n2 (.bin .mul) (.lit (.int .i64 4)) (.slot 3)),
      .need (.n2 (.bin .add) (.n2 (.bin .mul) (.lit (.int .i64 4)) (.slot 3)) (.slot 4)),
      .need (.n2 .idxs (.slot 0) (.n2 (.bin .add) (.n2 (.bin .mul) (.lit (.int .i64 4)) (.slot 3)) (.slot 4))),
      .need (.n1 (.conv .u32) (.n2 .idxs (.slot 0) (.n2 (.bin .add) (.n2 (.bin .mul) (.lit (.int .i64 4)) (.slot 3)) (.slot 4)))),
      .need (.n2 (.bin .or) (.n2 (.bin .shl) (.n1 .ld (.n2 (.iaddra 64 1) (.slot 2) (.slot 3))) (.lit (.int .u64 8))) (.n1 (.conv .u32) (.n2 .idxs (.slot 0) (.n2 (.bin .add) (.n2 (.bin .mul) (.lit (.int .i64 4)) (.slot 3)) (.slot 4))))),
      .need (.n2 (.iaddra 64 1) (.slot 2) (.slot 3)),
      .eff none (.store 60 (.tmp 29) (.tmp 28)) 0 [(29, .n2 (.iaddra 64 1) (.slot 2) (.slot 3)), (28, .n2 (.bin .or) (.n2 (.bin .shl) (.n1 .ld (.n2 (.iaddra 64 1) (.slot 2) (.slot 3))) (.lit (.int .u64 8))) (.n1 (.conv .u32) (.n2 .idxs (.slot 0) (.n2 (.bin .add) (.n2 (.bin .mul) (.lit (.int .i64 4)) (.slot 3)) (.slot 4)))))] none []])))
  h61_5)
def h61_3 : HC :=
  (.seq
  (.reg [.need (.n2 (.bin .lss) (.slot 13) (.lit (.int .i64 4))),
    .asg 14 (.n2 (.bin .lss) (.slot 13) (.lit (.int .i64 4)))])
  (.seq
  (.cond (.slot 14)
    .skip
    (.exit 2))
  h61_4))
def h61_6 : HC :=
  (.reg [.need (.n2 (.bin .add) (.slot 10) (.lit (.int .i64 1))),
    .asg 10 (.n2 (.bin .add) (.slot 10) (.lit (.int .i64 1)))])
def h61_2 : HC :=
  (.seq
  (.block 1
    (.seq
    (.reg [.asg 3 (.slot 10)])
    (.seq
    (.reg [.asg 13 (.lit (.int .i64 0))])
    (.block 2
      (.loop
        h61_3)))))
  h61_6)
def h61_1 : HC :=
  (.seq
  (.reg [.need (.n2 (.bin .lss) (.slot 10) (.lit (.int .i64 16))),
    .asg 11 (.n2 (.bin .lss) (.slot 10) (.lit (.int .i64 16)))])
  (.seq
  (.cond (.slot 11)
    .skip
    (.exit 0))
  h61_2))
def h61_10 : HC :=
  (.draw [.need (.n2 (.bin .sub) (.slot 5) (.lit (.int .i64 16))),
    .need (.n2 (.iaddra 64 1) (.slot 2) (.n2 (.bin .sub) (.slot 5) (.lit (.int .i64 16)))),
    .need (.n1 .ld (.n2 (.iaddra 64 1) (.slot 2) (.n2 (.bin .sub) (.slot 5) (.lit (.int .i64 16))))),
    .need (.n2 (.bin .add) (.n1 .ld (.n2 (.iaddra 64 1) (.slot 2) (.n2 (.bin .sub) (.slot 5) (.lit (.int .i64 16))))) (.slot 8)),
    .need (.n2 (.bin .sub) (.slot 5) (.lit (.int .i64 7))),
    .need (.n2 (.iaddra 64 1) (.slot 2) (.n2 (.bin .sub) (.slot 5) (.lit (.int .i64 7)))),
    .need (.n1 .ld (.n2 (.iaddra 64 1) (.slot 2) (.n2 (.bin .sub) (.slot 5) (.lit (.int .i64 7))))),
    .need (.n2 (.bin .add) (.n2 (.bin .add) (.n1 .ld (.n2 (.iaddra 64 1) (.slot 2) (.n2 (.bin .sub) (.slot 5) (.lit (.int .i64 16))))) (.slot 8)) (.n1 .ld (.n2 (.iaddra 64 1) (.slot 2) (.n2 (.bin .sub) (.slot 5) (.lit (.int .i64 7)))))),
    .need (.n2 (.bin .add) (.n2 (.bin .add) (.n2 (.bin .add) (.n1 .ld (.n2 (.iaddra 64 1) (.slot 2) (.n2 (.bin .sub) (.slot 5) (.lit (.int .i64 16))))) (.slot 8)) (.n1 .ld (.n2 (.iaddra 64 1) (.slot 2) (.n2 (.bin .sub) (.slot 5) (.lit (.int .i64 7)))))) (.slot 9)),
    .need (.n2 (.iaddra 64 1) (.slot 2) (.slot 5)),
    .eff none (.store 60 (.tmp 74) (.tmp 73)) 0 [(74, .n2 (.iaddra 64 1) (.slot 2) (.slot 5)), (73, .n2 (.bin .add) (.n2 (.bin .add) (.n2 (.bin .add) (.n1 .ld (.n2 (.iaddra 64 1) (.slot 2) (.n2 (.bin .sub) (.slot 5) (.lit (.int .i64 16))))) (.slot 8)) (.n1 .ld (.n2 (.iaddra 64 1) (.slot 2) (.n2 (.bin .sub) (.slot 5) (.lit (.int .i64 7)))))) (.slot 9))] none []])
def h61_11 : HC :=
  (.reg [.need (.n2 (.bin .add) (.slot 5) (.lit (.int .i64 1))),
    .asg 5 (.n2 (.bin .add) (.slot 5) (.lit (.int .i64 1)))])
def h61_9 : HC :=
  (.seq
  (.block 5
    (.seq
    (.draw [.need (.n2 (.bin .sub) (.slot 5) (.lit (.int .i64 15))),
      .need (.n2 (.iaddra 64 1) (.slot 2) (.n2 (.bin .sub) (.slot 5) (.lit (.int .i64 15)))),
      .need (.n1 .ld (.n2 (.iaddra 64 1) (.slot 2) (.n2 (.bin .sub) (.slot 5) (.lit (.int .i64 15))))),
      .need (.n2 (.bin .sub) (.slot 5) (.lit (.int .i64 2))),
      .need (.n2 (.iaddra 64 1) (.slot 2) (.n2 (.bin .sub) (.slot 5) (.lit (.int .i64 2)))),
      .need (.n1 .ld (.n2 (.iaddra 64 1) (.slot 2) (.n2 (.bin .sub) (.slot 5) (.lit (.int .i64 2))))),
      .asg 6 (.n1 .ld (.n2 (.iaddra 64 1) (.slot 2) (.n2 (.bin .sub) (.slot 5) (.lit (.int .i64 15))))),
      .asg 7 (.n1 .ld (.n2 (.iaddra 64 1) (.slot 2) (.n2 (.bin .sub) (.slot 5) (.lit (.int .i64 2)))))])
    (.seq
    (.reg [.eff (some 45) (.call { callee := .value (.func 62), args := #[.tmp 44, .const (.int .i64 (-7))], argTypes := #[60, 3] }) 60 [(44, .slot 6)] none [],
      .eff (some 47) (.call { callee := .value (.func 62), args := #[.tmp 46, .const (.int .i64 (-18))], argTypes := #[60, 3] }) 60 [(46, .slot 6)] none [],
      .need (.n2 (.bin .xor) (.slot 45) (.slot 47)),
      .need (.n2 (.bin .shr) (.slot 6) (.lit (.int .u64 3))),
      .need (.n2 (.bin .xor) (.n2 (.bin .xor) (.slot 45) (.slot 47)) (.n2 (.bin .shr) (.slot 6) (.lit (.int .u64 3)))),
      .asg 8 (.n2 (.bin .xor) (.n2 (.bin .xor) (.slot 45) (.slot 47)) (.n2 (.bin .shr) (.slot 6) (.lit (.int .u64 3))))])
    (.seq
    (.reg [.eff (some 53) (.call { callee := .value (.func 62), args := #[.tmp 52, .const (.int .i64 (-17))], argTypes := #[60, 3] }) 60 [(52, .slot 7)] none [],
      .eff (some 55) (.call { callee := .value (.func 62), args := #[.tmp 54, .const (.int .i64 (-19))], argTypes := #[60, 3] }) 60 [(54, .slot 7)] none [],
      .need (.n2 (.bin .xor) (.slot 53) (.slot 55)),
      .need (.n2 (.bin .shr) (.slot 7) (.lit (.int .u64 10))),
      .need (.n2 (.bin .xor) (.n2 (.bin .xor) (.slot 53) (.slot 55)) (.n2 (.bin .shr) (.slot 7) (.lit (.int .u64 10)))),
      .asg 9 (.n2 (.bin .xor) (.n2 (.bin .xor) (.slot 53) (.slot 55)) (.n2 (.bin .shr) (.slot 7) (.lit (.int .u64 10))))])
    h61_10))))
  h61_11)
def h61_8 : HC :=
  (.seq
  (.seq
  (.reg [.need (.n2 (.bin .lss) (.slot 5) (.lit (.int .i64 64))),
    .asg 33 (.n2 (.bin .lss) (.slot 5) (.lit (.int .i64 64)))])
  (.cond (.slot 33)
    .skip
    (.exit 4)))
  h61_9)
def h61_12 : HC :=
  (.seq
  (.reg [.need (.n1 (.ldn 64) (.slot 2)),
    .eff none (.store 93 (.tmp 2) (.tmp 75)) 0 [(2, .slot 2), (75, .n1 (.ldn 64) (.slot 2))] none []])
  .ret)
def h61_7 : HC :=
  (.seq
  (.seq
  (.reg [.asg 5 (.lit (.int .i64 16))])
  (.block 4
    (.loop
      h61_8)))
  h61_12)
def h61 : HC :=
  (.seq
  (.reg [.eff (some 2) (.alloc 93) 0 [] none []])
  (.seq
  (.seq
  (.reg [.asg 10 (.lit (.int .i64 0))])
  (.block 0
    (.loop
      h61_1)))
  h61_7))
theorem k61 : fnOK Tryd.prog 45211926724112381 [⟨7, [0, 0, 2, 6, 14, 0, 0, 64, 0, 448, 992, 2016, 4094, 8191, 16383], [(0, []), (1, []), (2, []), (3, []), (4, []), (5, []), (6, []), (7, []), (8, []), (9, []), (10, []), (11, []), (12, []), (13, []), (14, [])], none⟩, ⟨13, [0, 1, 3, 7, 0, 16, 48, 112, 15, 511], [(0, []), (1, []), (2, []), (3, []), (4, []), (5, []), (6, []), (7, []), (8, []), (9, [])], none⟩, ⟨16, [0, 0, 2, 6, 14, 0, 62, 0, 128, 384, 896, 2046, 0, 8190, 16383, 32767], [(0, []), (1, []), (2, []), (3, []), (4, []), (5, []), (6, []), (7, []), (8, []), (9, []), (10, []), (11, []), (12, []), (13, []), (14, []), (15, [])], none⟩] [.cell 2 (.ldn 64)] 1 Tryd.f61 = some h61 := by kernel_rfl
theorem c61 : callable Tryd.prog 61 = true := by kernel_rfl
theorem q61 {args : List Value} (ha : args.length = 1) {w : World} {next : Value → World → Prop} {QP : List PanicEntry → World → Prop} (H : hw Tryd.prog noPanic h61 (endV [.cell 2 (.ldn 64)] next) (σ0 args) w) : callK Tryd.prog 61 args w next QP := fn_rule Tryd.func61 mixed k61 ha H
theorem r61 {args : List Value} (ha : args.length = 1) {w : World} {next : Value → World → Prop} {QP : List PanicEntry → World → Prop} (H : hw Tryd.prog noPanic h61 (endV [.cell 2 (.ldn 64)] next) (σ0 args) w) : callvK Tryd.prog (.func (.func 61) #[] #[]) args w next QP := callf c61 (q61 ha H)

/- math/bits.RotateLeft32 -/
def h62 : HC :=
  (.seq
  (.reg [.asg 4 (.lit (.int .u32 0))])
  (.seq
  (.reg [.need (.n1 (.conv .u64) (.slot 1)),
    .need (.n2 (.bin .and) (.n1 (.conv .u64) (.slot 1)) (.lit (.int .u64 31))),
    .asg 5 (.n2 (.bin .and) (.n1 (.conv .u64) (.slot 1)) (.lit (.int .u64 31)))])
  (.seq
  (.reg [.need (.n2 (.bin .shl) (.slot 0) (.slot 5)),
    .need (.n2 (.bin .sub) (.lit (.int .u64 32)) (.slot 5)),
    .need (.n2 (.bin .shr) (.slot 0) (.n2 (.bin .sub) (.lit (.int .u64 32)) (.slot 5))),
    .need (.n2 (.bin .or) (.n2 (.bin .shl) (.slot 0) (.slot 5)) (.n2 (.bin .shr) (.slot 0) (.n2 (.bin .sub) (.lit (.int .u64 32)) (.slot 5)))),
    .asg 4 (.n2 (.bin .or) (.n2 (.bin .shl) (.slot 0) (.slot 5)) (.n2 (.bin .shr) (.slot 0) (.n2 (.bin .sub) (.lit (.int .u64 32)) (.slot 5))))])
  .ret)))
theorem k62 : fnOK Tryd.prog 51 [] [.tmp 4] 2 Tryd.f62 = some h62 := by kernel_rfl
theorem c62 : callable Tryd.prog 62 = true := by kernel_rfl
theorem q62 {args : List Value} (ha : args.length = 2) {w : World} {next : Value → World → Prop} {QP : List PanicEntry → World → Prop} (H : hw Tryd.prog noPanic h62 (endV [.tmp 4] next) (σ0 args) w) : callK Tryd.prog 62 args w next QP := fn_rule Tryd.func62 mixed k62 ha H
theorem r62 {args : List Value} (ha : args.length = 2) {w : World} {next : Value → World → Prop} {QP : List PanicEntry → World → Prop} (H : hw Tryd.prog noPanic h62 (endV [.tmp 4] next) (σ0 args) w) : callvK Tryd.prog (.func (.func 62) #[] #[]) args w next QP := callf c62 (q62 ha H)

end Go.Proofs.Y
