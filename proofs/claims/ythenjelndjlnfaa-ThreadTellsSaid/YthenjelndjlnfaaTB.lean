/- TB: thread: items; the order of date and id. -/
import Derived.Test.YthenjelndjlnfaaTU
import Derived.Test.YthenjelndjlnfaaHLT
import Derived.SliceStrings
import Derived.ChangeSlices
import Derived.WideShapes
import Derived.Deep.Slices
import Derived.Test.YthenjelndjlnfaaTCode
set_option linter.unusedSimpArgs false
set_option linter.unusedVariables false
set_option maxRecDepth 100000
namespace Go.Proofs.Y
open Go Go.HL Go.Proofs

structure It where
  id : Bytes
  date : Int
  refs : List Bytes
  base : Bytes
  reply : Bool
/-- an item's cells, with the slice of its references -/
def It.cells (x : It) (rv : Value) : List Value := [str x.id, .int .i64 x.date, rv, str x.base, .bool x.reply]
abbrev It.v (x : It) (rv : Value) : Value := .agg #[str x.id, .int .i64 x.date, rv, str x.base, .bool x.reply]

def cmpI (x y : Int) : Int := if x < y then -1 else if y < x then 1 else 0
def cmpS (a b : Bytes) : Int := if bl a b = true then -1 else if a = b then 0 else 1
def befC (d1 : Int) (i1 : Bytes) (d2 : Int) (i2 : Bytes) : Int := if cmpI d1 d2 ≠ 0 then cmpI d1 d2 else cmpS i1 i2
def bef (d1 : Int) (i1 : Bytes) (d2 : Int) (i2 : Bytes) : Bool := decide (d1 < d2) || (decide (d1 = d2) && bl i1 i2)
theorem befC_lt (d1 : Int) (i1 : Bytes) (d2 : Int) (i2 : Bytes) : decide (befC d1 i1 d2 i2 < 0) = bef d1 i1 d2 i2 := by
  unfold befC bef cmpI cmpS
  by_cases h1 : d1 < d2
  · simp [h1]
  · by_cases h2 : d2 < d1
    · have : d1 ≠ d2 := by omega
      simp [h1, h2, this]
    · obtain rfl : d1 = d2 := by omega
      cases hb : bl i1 i2
      · by_cases he : i1 = i2 <;> simp [he]
      · simp

theorem u3 : Try.prog.underlying 3 = some (.int .i64) := by kernel_rfl
theorem sl60 : SlTy Try.prog 60 3 1 8 (.int .i64 0) := ⟨by kernel_rfl, by kernel_rfl, rfl, by decide⟩
theorem sl61 : SlTy Try.prog 61 4 1 1 (.bool false) := ⟨by kernel_rfl, by kernel_rfl, rfl, by decide⟩
theorem sz34 : szOf Try.prog 34 = some 5 := by kernel_rfl
theorem sz3 : szOf Try.prog 3 = some 1 := by kernel_rfl
theorem sz4 : szOf Try.prog 4 = some 1 := by kernel_rfl

section
variable {w : World} {next : Value → World → Prop} {QP : List PanicEntry → World → Prop}
theorem cmpi_ (x y : Int) (k : next (.int .i64 (cmpI x y)) w) : callvK Try.prog (.func (.func 44) #[] #[]) [.int .i64 x, .int .i64 y] w next QP := by
  refine r44 rfl ?_
  unfold h44
  try simp only [go_sem]
  refine r67 rfl ?_
  unfold h67
  have e : ∀ z : Int, (!decide (z = z)) = false := by simp
  try simp only [go_sem, e]
  refine r67 rfl ?_
  unfold h67
  try simp only [go_sem, e]
  unfold h44_2
  try simp only [go_sem]
  unfold h44_3
  try simp only [go_sem]
  unfold cmpI at k
  refine ⟨fun h => ?_, fun h => ?_⟩
  · have h := of_decide_eq_true h
    rw [if_pos h] at k; exact k
  · have h := of_decide_eq_false h
    rw [if_neg h] at k
    unfold h44_4
    try simp only [go_sem]
    refine ⟨fun h => ?_, fun h => ?_⟩
    · have h := of_decide_eq_true h
      rw [if_pos (by omega)] at k; exact k
    · have h := of_decide_eq_false h
      rw [if_neg (by omega)] at k
      unfold h44_5
      try simp only [go_sem]
      exact k
theorem cmps_ (x y : Bytes) (k : next (.int .i64 (cmpS x y)) w) : callvK Try.prog (.func (.func 45) #[] #[]) [str x, str y] w next QP := by
  refine r45 rfl ?_
  unfold h45
  try simp only [go_sem]
  refine r68 rfl ?_
  unfold h68
  have e : ∀ z : Bytes, (!decide (z = z)) = false := by simp
  try simp only [go_sem, e]
  refine r68 rfl ?_
  unfold h68
  try simp only [go_sem, e]
  unfold h45_2
  try simp only [go_sem]
  unfold h45_3
  try simp only [go_sem]
  unfold cmpS bl at k
  refine ⟨fun h => ?_, fun h => ?_⟩
  · rw [if_pos h] at k; exact k
  · rw [if_neg (by rw [h]; simp)] at k
    unfold h45_4
    try simp only [go_sem, h]
    refine ⟨fun h2 => ?_, fun h2 => ?_⟩
    · rw [if_neg (by simpa using h2)] at k
      exact k
    · rw [if_pos (by simpa using h2)] at k
      unfold h45_5
      try simp only [go_sem]
      exact k
theorem or_ {x y : Int} {v : Value} (hv : Sl w v 1 2 [.int .i64 x, .int .i64 y]) (k : next (.int .i64 (if x ≠ 0 then x else y)) w) : callvK Try.prog (.func (.func 43) #[] #[]) [v] w next QP := by
  refine r43 rfl ?_
  obtain ⟨-, a, c, rfl, hc, hcell⟩ := hv
  obtain ⟨b, o, rfl, hce⟩ := hcell (by omega)
  have c0 := hce 0 (by omega)
  have c1 := hce 1 (by omega)
  simp only [Nat.add_zero, List.getElem?_cons_zero, List.getElem?_cons_succ] at c0 c1
  have c0' : w.cell? ⟨b, o + (0 : Int).toNat, none⟩ = some (.int .i64 x) := by simpa using c0
  have c1' : w.cell? ⟨b, o + (1 : Int).toNat, none⟩ = some (.int .i64 y) := by simpa using c1
  unfold h43
  try simp only [go_sem]
  refine loopN 2 (fun i τ w' => τ 3 = .int .i64 0 ∧ τ 6 = .slice (some ⟨b, o, none⟩) 2 c ∧ τ 7 = .int .i64 2 ∧ τ 8 = .int .i64 i ∧ (0 < i → x = 0) ∧ (1 < i → y = 0) ∧ w' = w) ⟨0, by omega, rfl, rfl, rfl, rfl, by omega, by omega, rfl⟩ ?_
  rintro i τ w1 hi ⟨t3, t6, t7, t8, hx, hy, rfl⟩
  unfold h43_1
  have : i = 0 ∨ i = 1 ∨ i = 2 := by omega
  rcases this with rfl | rfl | rfl
  · have eg : decide (((0 : Nat) : Int) < 2) = true := rfl
    try simp only [go_sem, t3, t6, t7, t8, eg]
    unfold h43_2
    have e : IntKind.i64.wrap (0 + 1) = 1 := rfl
    try simp only [go_sem, t3, t6, t7, t8, c0, c0']
    repeat refine ⟨⟨by omega, by omega⟩, ?_⟩
    refine ⟨fun h => ?_, fun h => ?_⟩
    · have hne : x ≠ 0 := by simpa using h
      rw [if_pos hne] at k
      exact k
    · have hne : x = 0 := by simpa using h
      unfold h43_3
      try simp only [go_sem, t3, t6, t7, t8, e]
      refine ⟨1, by omega, by omega, ?_⟩
      and_intros <;> first | rfl | assumption | omega | exact fun _ => hne
  · have eg : decide (((1 : Nat) : Int) < 2) = true := rfl
    try simp only [go_sem, t3, t6, t7, t8, eg]
    unfold h43_2
    have e : IntKind.i64.wrap (1 + 1) = 2 := rfl
    have hx := hx (by omega)
    rw [if_neg (by simpa using hx)] at k
    try simp only [go_sem, t3, t6, t7, t8, c1, c1']
    repeat refine ⟨⟨by omega, by omega⟩, ?_⟩
    refine ⟨fun h => ?_, fun h => ?_⟩
    · exact k
    · have hne : y = 0 := by simpa using h
      unfold h43_3
      try simp only [go_sem, t3, t6, t7, t8, e]
      refine ⟨2, by omega, by omega, ?_⟩
      and_intros <;> first | rfl | assumption | omega | exact fun _ => hne | exact fun _ => hx
  · have eg : decide (((2 : Nat) : Int) < 2) = false := rfl
    rw [if_neg (by simpa using hx (by omega)), hy (by omega)] at k
    try simp only [go_sem, t3, t6, t7, t8, eg]
    unfold h43_4
    try simp only [go_sem, t3]
    exact k

theorem before_ (x y : It) (rx ry : Value) (k : ∀ w', Mod none' w w' → next (.int .i64 (befC x.date x.id y.date y.id)) w') : callvK Try.prog (.func (.func 32) #[] #[]) [x.v rx, y.v ry] w next QP := by
  refine r32 rfl ?_
  unfold h32
  try simp only [go_sem]
  refine box_ (cs := x.cells rx) rfl ?_
  intro b1 w1 hb1 bk1 m1 s1
  try simp only [go_sem]
  refine box_ (cs := y.cells ry) rfl ?_
  intro b2 w2 hb2 bk2 m2 s2
  have bk1' := bk1.mod m2 fun h => h
  have x0 := bk1'.cell 0
  have x1 := bk1'.cell 1
  have y0 := bk2.cell 0
  have y1 := bk2.cell 1
  simp only [It.cells, List.getElem?_cons_zero, List.getElem?_cons_succ] at x0 x1 y0 y1
  try simp only [go_sem, x0, x1, y0, y1]
  refine cmpi_ _ _ ?_
  try simp only [go_sem, x0, x1, y0, y1]
  refine cmps_ _ _ ?_
  try simp only [go_sem]
  refine bsl2 sl60 rfl rfl ?_
  intro b3 w3 hb3 own3 bk3 m3 s3
  try simp only [go_sem]
  refine or_ own3.sl ?_
  try simp only [go_sem]
  have := k w3 ((m1.trans' m2).trans' ((Mod.drew none' w2).trans' m3))
  unfold befC at this
  exact this
end
end Go.Proofs.Y

/- TC: thread: the references of an item. -/
namespace Go.Proofs.Y
open Go Go.HL Go.Proofs

def delB (x : It) (r : Bytes) : Bool := decide (r = x.id) || decide (r = [])
def It.rf (x : It) : List Bytes := x.refs.filter fun r => !delB x r

section
variable {w : World} {next : Value → World → Prop} {QP : List PanicEntry → World → Prop}
/-- the closure that says which references go -/
theorem del_ {b : Nat} {x : It} {rx : Value} (hb : Blk w b 34 (x.cells rx)) (r : Bytes) (k : next (.bool (delB x r)) w) : callvK Try.prog (.func (.func 52) #[] #[ptr b]) [str r] w next QP := by
  refine callv (first := []) (caps := [ptr b]) c52 (q52 rfl ?_)
  simp only [List.nil_append, List.append_nil, List.cons_append]
  unfold h52
  have c0 := hb.cell 0
  simp only [It.cells, List.getElem?_cons_zero] at c0
  try simp only [go_sem, c0]
  unfold delB at k
  by_cases h1 : r = x.id
  · simp only [h1, decide_true, Bool.true_or] at k
    try simp only [go_sem, h1]
    exact k
  · simp only [h1, decide_false, Bool.false_or] at k
    try simp only [go_sem, h1]
    exact k
theorem idx_ {b : Nat} {x : It} {rx : Value} (hb : Blk w b 34 (x.cells rx)) {v : Value} {l : List Bytes} (hv : Sl w v 1 l.length (l.map str)) (hn : l.length ≤ 1000000000)
    (k : ∀ i : Nat, i ≤ l.length → (∀ r ∈ l.take i, delB x r = false) → (∀ h : i < l.length, delB x l[i] = true) → next (.int .i64 (if i = l.length then -1 else (i : Int))) w) : callvK Try.prog (.func (.func 70) #[] #[]) [v, .func (.func 52) #[] #[ptr b]] w next QP := by
  refine r70 rfl ?_
  obtain ⟨va, vc, rfl, -, hcell⟩ := hv.form
  unfold h70
  try simp only [go_sem]
  refine loopN l.length (fun i τ w' => τ 0 = .slice va l.length vc ∧ τ 1 = .func (.func 52) #[] #[ptr b] ∧ τ 7 = .int .i64 l.length ∧ τ 8 = .int .i64 i ∧ (∀ r ∈ l.take i, delB x r = false) ∧ w' = w) ⟨0, by omega, rfl, rfl, rfl, rfl, by simp, rfl⟩ ?_
  rintro i τ w1 hi ⟨t0, t1, t7, t8, hno, rfl⟩
  unfold h70_1
  try simp only [go_sem, t0, t1, t7, t8]
  refine ⟨fun hlt => ?_, fun hge => ?_⟩
  · have hil : i < l.length := by
      have := of_decide_eq_true hlt
      omega
    obtain ⟨g, o, rfl, hce⟩ := hcell (by omega)
    have hc : w1.cell? ⟨g, o + i, none⟩ = some (str l[i]) := by
      rw [hce i (by omega)]; simp [hil]
    unfold h70_2
    try simp only [go_sem, t0, t1, t7, t8, hc]
    repeat refine ⟨⟨by omega, by omega⟩, ?_⟩
    refine del_ hb _ ?_
    try simp only [go_sem]
    refine ⟨fun hd => ?_, fun hd => ?_⟩
    · have := k i (by omega) hno (fun _ => hd)
      rw [if_neg (by omega)] at this
      try simp only [go_sem, t0, t1, t7, t8]
      exact this
    · unfold h70_3
      try simp only [go_sem, t0, t1, t7, t8]
      rw [w64 (by omega) (by omega)]
      have hno' : ∀ r ∈ l.take (i + 1), delB x r = false := by
        rw [List.take_succ_eq_append_getElem hil]
        intro r hr
        rcases List.mem_append.1 hr with h | h
        · exact hno r h
        · rw [List.mem_singleton.1 h]; exact hd
      refine ⟨i + 1, by omega, by omega, ?_⟩
      (repeat' first | assumption | rfl | omega | apply And.intro)
  · have hio : i = l.length := by
      have := of_decide_eq_false hge
      omega
    subst hio
    have := k l.length (Nat.le_refl _) hno (fun h => by omega)
    rw [if_pos rfl] at this
    unfold h70_4
    try simp only [go_sem]
    exact this
/-- slices.Clone -/
theorem clone_ {v : Value} {l : List Bytes} (hv : Sl w v 1 l.length (l.map str)) (hn : l.length ≤ 1000000000)
    (k : ∀ v' w', HL.Own w' v' 9 1 l.length (l.map str) → (∀ k, v'.ownBlock = some k → w.heap.size ≤ k) → Mod none' w w' → next v' w') : callvK Try.prog (.func (.func 51) #[] #[]) [v] w next QP := by
  refine r51 rfl ?_
  have hv0 := hv
  obtain ⟨va, vc, rfl, -, hcell⟩ := hv.form
  unfold h51
  try simp only [go_sem]
  cases va with
  | none =>
    have hl : l = [] := by
      cases l with
      | nil => rfl
      | cons x l => obtain ⟨b, o, h, -⟩ := hcell (by simp); cases h
    subst hl
    try simp only [go_sem]
    exact k _ w (Own.nil _ _ _) (fun k hk => by cases hk) (Mod.refl _ _)
  | some a =>
    try simp only [go_sem]
    unfold h51_1
    try simp only [go_sem]
    refine bsl0 sl32 ?_
    intro b w1 hb own1 m1 s1
    try simp only [go_sem]
    refine append_ sl32 own1 (hv0.mod m1 fun _ _ h => h) (by intro u hu; obtain ⟨x, -, rfl⟩ := List.mem_map.1 hu; rfl) (by omega) (by unfold maxLen; omega) ?_
    intro v' w2 own2 m2 hf2 _
    rw [List.nil_append, Nat.zero_add] at own2
    try simp only [go_sem]
    refine k v' w2 own2 (fun k hk => ?_) (m1.trans m2 fun i hi h => ?_)
    · rcases hf2 k hk with h | h
      · simp only [Value.ownBlock, Option.some.injEq] at h; omega
      · have := m1.size; omega
    · simp only [ownS, Value.ownBlock, Option.some.injEq] at h; omega
/-- slices.DeleteFunc, of a slice of one's own -/
theorem delfunc_ {b : Nat} {x : It} {rx : Value} (hb : Blk w b 34 (x.cells rx)) {v : Value} {l : List Bytes} (hv : HL.Own w v 9 1 l.length (l.map str)) (hvb : ∀ k, v.ownBlock = some k → k ≠ b) (hn : l.length ≤ 1000000000)
    (k : ∀ v' w', Sl w' v' 1 (l.filter fun r => !delB x r).length ((l.filter fun r => !delB x r).map str) → (∀ k, v'.ownBlock = some k → v.ownBlock = some k) → Mod (ownS v) w w' → next v' w') : callvK Try.prog (.func (.func 50) #[] #[]) [v, .func (.func 52) #[] #[ptr b]] w next QP := by
  refine r50 rfl ?_
  unfold h50
  try simp only [go_sem]
  refine idx_ hb hv.sl hn fun i0 hi0 hno hyes => ?_
  rcases hv.2 with ⟨rfl, h0⟩ | ⟨g, cap, cur, fz, rfl, -, -, hcap, hmax, -, -⟩
  · have hl : l = [] := List.eq_nil_of_length_eq_zero h0
    subst hl
    have e : i0 = 0 := by simpa using hi0
    subst e
    try simp only [go_sem]
    exact k _ w hv.sl (fun k h => h) (Mod.refl _ _)
  by_cases hi : i0 = l.length
  · rw [if_pos hi]
    subst hi
    rw [List.take_length] at hno
    have ef : l.filter (fun r => !delB x r) = l := List.filter_eq_self.2 fun r hr => by simp [hno r hr]
    try simp only [go_sem]
    rw [ef] at k
    exact k _ w hv.sl (fun k h => h) (Mod.refl _ _)
  · rw [if_neg hi]
    have hil : i0 < l.length := by omega
    have en : decide ((i0 : Int) = -1) = false := by simp
    try simp only [go_sem, en]
    unfold h50_1
    try simp only [go_sem]
    rw [w64 (by omega) (by omega)]
    have hd0 := hyes hil
    have ef0 : (l.take (i0 + 1)).filter (fun r => !delB x r) = l.take i0 := by
      rw [List.take_succ_eq_append_getElem hil, List.filter_append, List.filter_eq_self.2 (fun r hr => by simp [hno r hr])]
      simp [hd0]
    refine loopN l.length (fun j τ w' => ∃ (c : List Bytes) (i : Nat), i < j ∧ τ 0 = .slice (some ⟨g, 0, none⟩) l.length cap ∧ τ 1 = .func (.func 52) #[] #[ptr b] ∧ τ 5 = .int .i64 i ∧ τ 6 = .int .i64 j ∧ c.length = l.length ∧ HL.Own w' (.slice (some ⟨g, 0, none⟩) l.length cap) 9 1 l.length (c.map str) ∧
      c.take i = (l.take j).filter (fun r => !delB x r) ∧ c.drop j = l.drop j ∧ Mod (fun k => k = g) w w') ⟨i0 + 1, by omega, l, i0, by omega, rfl, rfl, rfl, rfl, rfl, hv, ef0.symm, rfl, Mod.refl _ _⟩ ?_
    rintro j τ w1 hj ⟨c, i, hij, t0, t1, t5, t6, hcl, own1, hc1, hc2, m1⟩
    unfold h50_2
    try simp only [go_sem, t0, t1, t5, t6]
    refine ⟨fun hlt => ?_, fun hge => ?_⟩
    · have hjl : j < l.length := by
        have := of_decide_eq_true hlt
        omega
      have hcj : c[j]? = some l[j] := by
        have := congrArg (fun z => z[0]?) hc2
        simp only [List.getElem?_drop, Nat.add_zero] at this
        rw [this, List.getElem?_eq_getElem hjl]
      have ej := own_at own1 hjl
      rw [List.getElem?_map, hcj] at ej
      simp only [Option.map_some] at ej
      have hb1 := hb.mod m1 (fun h => hvb g rfl h.symm)
      have hnext : ∀ (c' : List Bytes), c'.drop j = l.drop j → c'.drop (j + 1) = l.drop (j + 1) := by
        intro c' h
        have := congrArg (List.drop 1) h
        simpa [List.drop_drop, Nat.add_comm] using this
      unfold h50_3
      try simp only [go_sem, t0, t1, t5, t6, ej]
      repeat refine ⟨⟨by omega, by omega⟩, ?_⟩
      refine del_ hb1 _ ?_
      try simp only [go_sem]
      refine ⟨fun hd => ?_, fun hd => ?_⟩
      · have hd' : delB x l[j] = false := by simpa using hd
        try simp only [go_sem, t0, t1, t5, t6]
        repeat refine ⟨⟨by omega, by omega⟩, ?_⟩
        refine own_store sz9 own1 (show i < l.length by omega) rfl ?_
        intro w2 own2 m2 s2
        rw [← List.map_set] at own2
        unfold h50_4
        try simp only [go_sem, t0, t1, t5, t6]
        rw [w64 (by omega) (by omega), w64 (by omega) (by omega)]
        refine ⟨j + 1, by omega, by omega, c.set i l[j], i + 1, ?_⟩
        have g1 : (c.set i l[j]).length = l.length := by simpa using hcl
        have g2 : (c.set i l[j]).take (i + 1) = (l.take (j + 1)).filter (fun r => !delB x r) := by
          rw [List.take_succ_eq_append_getElem (by simp; omega), List.take_set_of_le (Nat.le_refl _), hc1, List.getElem_set_self, List.take_succ_eq_append_getElem hjl, List.filter_append]
          simp [hd']
        have g3 : (c.set i l[j]).drop (j + 1) = l.drop (j + 1) := by
          rw [List.drop_set_of_lt (by omega)]
          exact hnext c hc2
        have g4 := m1.trans' m2
        (repeat' first | assumption | rfl | omega | apply And.intro)
      · have hd' : delB x l[j] = true := by simpa using hd
        unfold h50_4
        try simp only [go_sem, t0, t1, t5, t6]
        rw [w64 (by omega) (by omega)]
        refine ⟨j + 1, by omega, by omega, c, i, ?_⟩
        have g2 : c.take i = (l.take (j + 1)).filter (fun r => !delB x r) := by
          rw [hc1, List.take_succ_eq_append_getElem hjl, List.filter_append]
          simp [hd']
        have g3 := hnext c hc2
        (repeat' first | assumption | rfl | omega | apply And.intro)
    · have hjl : j = l.length := by
        have := of_decide_eq_false hge
        omega
      subst hjl
      rw [List.take_length] at hc1
      unfold h50_5
      try simp only [go_sem, t0, t1, t5, t6]
      repeat refine ⟨⟨by omega, by omega⟩, ?_⟩
      rcases own1.blk with ⟨h1, -⟩ | ⟨g', c', rest, h1, hb1, hr, h4, h5⟩
      · cases h1
      simp only [Value.slice.injEq, Option.some.injEq, Addr.mk.injEq] at h1
      obtain ⟨⟨rfl, -⟩, -, rfl⟩ := h1
      have hcl' : (c.map str).length = l.length := by simp [hcl]
      refine clear_s (o := i) sl32 (by intro u hu; simp [Value.cells, str] at hu; subst hu; rfl) hb1 (fun _ => ?_) (by rw [List.length_append, hcl']; omega) ?_
      · rw [if_neg (by omega)]
        simp only [Option.map_some, e_add, Nat.zero_add]
      intro w2 zs hzs hb2 m2 s2
      try simp only [go_sem]
      refine ⟨⟨by omega, by omega⟩, ?_⟩
      have ecl : (l.filter fun r => !delB x r).length = i := by rw [← hc1, List.length_take, hcl]; omega
      refine k _ w2 ⟨by simp, some ⟨g, 0, none⟩, cap, by rw [ecl], by omega, fun _ => ⟨g, 0, rfl, fun q hq => ?_⟩⟩ (fun k h => h) ((m1.trans' m2).mono fun k _ h => by simp only [ownS, Value.ownBlock, Option.some.injEq]; exact h.symm)
      rw [Nat.mul_one, ecl] at hq
      rw [Nat.zero_add, hb2.cell, ← hc1, List.map_take, List.getElem?_take_of_lt hq]
      unfold lay
      rw [List.append_assoc, List.getElem?_append_left (by simp; omega), List.getElem?_take_of_lt hq, List.getElem?_append_left (by simp; omega)]

/-- references: those of an item that name others -/
theorem refs_ {x : It} {rx : Value} (hv : Sl w rx 1 x.refs.length (x.refs.map str)) (hn : x.refs.length ≤ 1000000000)
    (k : ∀ v' w', Sl w' v' 1 x.rf.length (x.rf.map str) → (∀ k, v'.ownBlock = some k → w.heap.size ≤ k) → Mod none' w w' → next v' w') : callvK Try.prog (.func (.func 37) #[] #[]) [x.v rx] w next QP := by
  refine r37 rfl ?_
  unfold h37
  try simp only [go_sem]
  refine box_ (cs := x.cells rx) rfl ?_
  intro b w1 hb bk m1 s1
  have c2 := bk.cell 2
  simp only [It.cells, List.getElem?_cons_zero, List.getElem?_cons_succ] at c2
  try simp only [go_sem, c2]
  refine clone_ (hv.mod m1 fun _ _ h => h) hn ?_
  intro v2 w2 own2 hf2 m2
  try simp only [go_sem]
  refine delfunc_ (bk.mod m2 fun h => h) own2 (fun k hk e => by have := hf2 k hk; omega) hn ?_
  intro v3 w3 sl3 hf3 m3
  have s2 := m2.size
  try simp only [go_sem]
  have hs1 := m1.size
  have mm := (m1.trans' m2).trans (T := ownS v2) m3 fun i hi h => by
    have := hf2 i h
    omega
  exact k v3 w3 sl3 (fun k hk => by have := hf2 k (hf3 k hk); omega) mm
end
end Go.Proofs.Y

/- TD: thread: items in memory; maps of lists; what is known of some items. -/
namespace Go.Proofs.Y
open Go Go.HL Go.Proofs

/-! ### plain -/
def findI (its : List It) (id : Bytes) : Option Nat := its.findIdx? fun x => decide (x.id = id)
def nearL (its : List It) (l : List Bytes) : Option Nat := l.reverse.findSome? (findI its)
def nearI (its : List It) (i : Nat) : Option Nat := (its[i]?).bind fun x => nearL its x.rf
def oi (o : Option Nat) : Int := match o with | some k => (k : Int) | none => -1
def dist (its : List It) : Prop := (its.map (·.id)).Nodup
def idAt (its : List It) (i : Nat) : Bytes := match its[i]? with | some x => x.id | none => []
def brkI (its : List It) (i : Nat) : Bool := brkL (idAt its) (nearI its) i its.length (nearI its i)
theorem nearL_snoc (its : List It) (l : List Bytes) (r : Bytes) : nearL its (l ++ [r]) = (findI its r).or (nearL its l) := by
  unfold nearL
  rw [List.reverse_append, List.reverse_singleton, List.singleton_append, List.findSome?_cons]
  cases findI its r <;> rfl
theorem findI_some {its : List It} {id : Bytes} {k : Nat} (h : findI its id = some k) : ∃ hk : k < its.length, its[k].id = id := by
  unfold findI at h
  obtain ⟨h1, h2, -⟩ := List.findIdx?_eq_some_iff_getElem.1 h
  exact ⟨h1, by simpa using h2⟩
theorem findI_none {its : List It} {id : Bytes} (h : findI its id = none) : ∀ x ∈ its, x.id ≠ id := by
  unfold findI at h
  intro x hx
  have := List.findIdx?_eq_none_iff.1 h x hx
  simpa using this
theorem dist_at {its : List It} (h : dist its) {i j : Nat} (hi : i < its.length) (hj : j < its.length) (e : its[i].id = its[j].id) : i = j := by
  unfold dist at h
  refine nodup_at h (x := its[i].id) ?_ ?_
  · simp [hi]
  · simp [hj, e]
theorem findI_at {its : List It} (h : dist its) {i : Nat} (hi : i < its.length) : findI its its[i].id = some i := by
  cases hf : findI its its[i].id with
  | none => exact absurd rfl (findI_none hf its[i] (List.getElem_mem hi))
  | some k =>
    obtain ⟨hk, e⟩ := findI_some hf
    rw [dist_at h hk hi e]
theorem findI_snoc {l : List It} {x : It} (h : findI l x.id = none) (id : Bytes) : findI (l ++ [x]) id = if x.id = id then some l.length else findI l id := by
  unfold findI at h ⊢
  rw [List.findIdx?_append]
  by_cases e : x.id = id
  · subst e
    rw [h, if_pos rfl]
    simp
  · rw [if_neg e]
    cases List.findIdx? (fun x => decide (x.id = id)) l <;> simp [e]
theorem findI_take {its : List It} (h : dist its) {i : Nat} (hi : i < its.length) (id : Bytes) : findI (its.take (i + 1)) id = if its[i].id = id then some i else findI (its.take i) id := by
  have e : (its.take i).length = i := by rw [List.length_take]; omega
  have h0 : findI (its.take i) its[i].id = none := by
    cases hf : findI (its.take i) its[i].id with
    | none => rfl
    | some k =>
      obtain ⟨hk, hke⟩ := findI_some hf
      rw [List.getElem_take] at hke
      have := dist_at h (by omega) hi hke
      omega
  rw [List.take_succ_eq_append_getElem hi, findI_snoc h0, e]
theorem nearL_lt {its : List It} {l : List Bytes} {k : Nat} (h : nearL its l = some k) : k < its.length ∧ ∃ r ∈ l, findI its r = some k := by
  unfold nearL at h
  obtain ⟨r, hr, hk⟩ := List.exists_of_findSome?_eq_some h
  exact ⟨(findI_some hk).1, r, List.mem_reverse.1 hr, hk⟩
theorem nearI_lt {its : List It} {i k : Nat} (h : nearI its i = some k) : k < its.length := by
  unfold nearI at h
  obtain ⟨x, -, h2⟩ := Option.bind_eq_some_iff.1 h
  exact (nearL_lt h2).1
theorem getM_put (k k' : Bytes) (v : Value) : ∀ l, getM k (putM k' v l) = if k' = k then some v else getM k l
  | [] => by by_cases e : k' = k <;> simp [getM, putM, e]
  | p :: l => by
    unfold putM
    by_cases e : p.1 = k'
    · rw [if_pos e]
      by_cases e2 : k' = k
      · simp [getM, e2]
      · have : p.1 ≠ k := fun h => e2 (e.symm.trans h)
        simp [getM, e2, this]
    · rw [if_neg e]
      by_cases e2 : p.1 = k
      · have : k' ≠ k := fun h => e (e2.trans h.symm)
        simp [getM, e2, this]
      · simp [getM, e2, getM_put k k' v l]
theorem putM_keys (k : Bytes) (v : Value) : ∀ {l : List (Bytes × Value)}, (l.map (·.1)).Nodup → ((putM k v l).map (·.1)).Nodup ∧ ∀ x, x ∈ (putM k v l).map (·.1) ↔ x = k ∨ x ∈ l.map (·.1)
  | [], _ => by simp [putM]
  | p :: l, h => by
    simp only [List.map_cons, List.nodup_cons] at h
    unfold putM
    by_cases e : p.1 = k
    · rw [if_pos e]
      subst e
      simp only [List.map_cons, List.nodup_cons, List.mem_cons]
      exact ⟨h, fun x => ⟨fun h => h.elim .inl (fun h => .inr (.inr h)), fun h => by
        rcases h with h | h | h
        · exact .inl h
        · exact .inl h
        · exact .inr h⟩⟩
    · rw [if_neg e]
      obtain ⟨h1, h2⟩ := putM_keys k v h.2
      simp only [List.map_cons, List.nodup_cons, List.mem_cons]
      refine ⟨⟨fun h3 => ?_, h1⟩, fun x => ?_⟩
      · rcases (h2 _).1 h3 with h4 | h4
        · exact e h4
        · exact h.1 h4
      · rw [h2]
        constructor
        · rintro (h | h | h)
          · exact .inr (.inl h)
          · exact .inl h
          · exact .inr (.inr h)
        · rintro (h | h | h)
          · exact .inr (.inl h)
          · exact .inl h
          · exact .inr (.inr h)
theorem getM_mem : ∀ {l : List (Bytes × Value)} {k : Bytes} {v : Value}, getM k l = some v → (k, v) ∈ l
  | p :: l, k, v, h => by
    unfold getM at h
    by_cases e : p.1 = k
    · rw [if_pos e] at h
      obtain rfl := Option.some.inj h
      subst e; simp
    · rw [if_neg e] at h
      exact List.mem_cons_of_mem _ (getM_mem h)
theorem mem_putM {k : Bytes} {v : Value} {p : Bytes × Value} : ∀ {l : List (Bytes × Value)}, p ∈ putM k v l → p = (k, v) ∨ (p ∈ l ∧ (p.1 ≠ k ∨ p.2 = v ∨ True))
  | [], h => by simp [putM] at h; exact .inl h
  | q :: l, h => by
    unfold putM at h
    by_cases e : q.1 = k
    · rw [if_pos e] at h
      rcases List.mem_cons.1 h with h | h
      · exact .inl h
      · exact .inr ⟨List.mem_cons_of_mem _ h, .inr (.inr trivial)⟩
    · rw [if_neg e] at h
      rcases List.mem_cons.1 h with h | h
      · exact .inr ⟨by rw [h]; simp, .inr (.inr trivial)⟩
      · rcases mem_putM h with h | h
        · exact .inl h
        · exact .inr ⟨List.mem_cons_of_mem _ h.1, h.2⟩
theorem mem_get {l : List (Bytes × Value)} (h : (l.map (·.1)).Nodup) {p : Bytes × Value} (hp : p ∈ l) : getM p.1 l = some p.2 := by
  induction l with
  | nil => cases hp
  | cons q l ih =>
    simp only [List.map_cons, List.nodup_cons] at h
    unfold getM
    rcases List.mem_cons.1 hp with rfl | hp
    · simp
    · have : q.1 ≠ p.1 := fun e => h.1 (by rw [e]; exact List.mem_map.2 ⟨p, hp, rfl⟩)
      rw [if_neg this]; exact ih h.2 hp

/-! ### items in memory -/
def cellsP (p : It × Value) : List Value := p.1.cells p.2
theorem cellsP_len (p : It × Value) : (cellsP p).length = 5 := rfl
structure Its (w : World) (v : Value) (its : List It) (rvs : List Value) : Prop where
  len : rvs.length = its.length
  sl : Sl w v 5 its.length (rows cellsP (its.zip rvs))
  refs : ∀ i (h : i < its.length) (h2 : i < rvs.length), Sl w rvs[i] 1 its[i].refs.length (its[i].refs.map str)
/-- .. below a base, above which is written -/
structure Kp (B : Nat) (w : World) (v : Value) (its : List It) (rvs : List Value) : Prop where
  i : Its w v its rvs
  base : B ≤ w.heap.size
  low : 0 < its.length → ∀ k, v.ownBlock = some k → k < B
  lowr : ∀ i (h : i < its.length) (h2 : i < rvs.length), 0 < its[i].refs.length → ∀ k, rvs[i].ownBlock = some k → k < B
theorem Kp.of {w : World} {v : Value} {its : List It} {rvs : List Value} (h : Its w v its rvs) : Kp w.heap.size w v its rvs :=
  ⟨h, Nat.le_refl _, fun h0 => h.sl.lt (by omega) h0, fun i h1 h2 h0 => (h.refs i h1 h2).lt (by omega) h0⟩
theorem Kp.mod {S : Nat → Prop} {B : Nat} {w w' : World} {v : Value} {its : List It} {rvs : List Value} (h : Kp B w v its rvs) (m : Mod S w w') (hS : ∀ k, S k → B ≤ k) : Kp B w' v its rvs := by
  refine ⟨⟨h.i.len, h.i.sl.mod' m fun h0 k hk hs => ?_, fun i h1 h2 => (h.i.refs i h1 h2).mod' m fun h0 k hk hs => ?_⟩, Nat.le_trans h.base m.size, h.low, h.lowr⟩
  · have := h.low h0 k hk; have := hS k hs; omega
  · have := h.lowr i h1 h2 h0 k hk; have := hS k hs; omega
theorem Kp.up {B : Nat} {w w' : World} {v : Value} {its : List It} {rvs : List Value} (h : Kp B w v its rvs) (m : Mod none' w w') : Kp B w' v its rvs := h.mod m fun _ h => h.elim
theorem Kp.rebase {B : Nat} {w : World} {v : Value} {its : List It} {rvs : List Value} (h : Kp B w v its rvs) : Kp w.heap.size w v its rvs := Kp.of h.i
theorem Its.addr {w : World} {va : Option Addr} {n vc : Nat} {its : List It} {rvs : List Value} (h : Its w (.slice va n vc) its rvs) (h0 : 0 < its.length) : ∃ g o, va = some ⟨g, o, none⟩ := by
  obtain ⟨-, a, c, e, -, hc⟩ := h.sl
  simp only [Value.slice.injEq] at e
  obtain ⟨b, o, ha, -⟩ := hc h0
  exact ⟨b, o, e.1.trans ha⟩
theorem Its.n {w : World} {va : Option Addr} {n vc : Nat} {its : List It} {rvs : List Value} (h : Its w (.slice va n vc) its rvs) : n = its.length := by
  obtain ⟨-, a, c, e, -, hc⟩ := h.sl
  simp only [Value.slice.injEq] at e
  exact e.2.1
structure ItAt (w : World) (g o : Nat) (x : It) (rv : Value) : Prop where
  c0 : w.cell? ⟨g, o, none⟩ = some (str x.id)
  c1 : w.cell? ⟨g, o + 1, none⟩ = some (.int .i64 x.date)
  c2 : w.cell? ⟨g, o + 2, none⟩ = some rv
  c3 : w.cell? ⟨g, o + 3, none⟩ = some (str x.base)
  c4 : w.cell? ⟨g, o + 4, none⟩ = some (.bool x.reply)
  ln : loadN w ⟨g, o, none⟩ 5 = #[str x.id, .int .i64 x.date, rv, str x.base, .bool x.reply]
  sm : (∀ j, j < 5 → (w.cell? ⟨g, o + j, none⟩).isSome = true) = True
theorem ItAt.of {w : World} {g o : Nat} {x : It} {rv : Value} (h : ∀ j, j < 5 → w.cell? ⟨g, o + j, none⟩ = (x.cells rv)[j]?) : ItAt w g o x rv :=
  ⟨h 0 (by omega), h 1 (by omega), h 2 (by omega), h 3 (by omega), h 4 (by omega), (loadN_of (cs := x.cells rv) rfl fun j hj => by rw [e_add]; exact h j hj).trans rfl, eq_true fun j hj => by rw [h j hj]; simp [It.cells, hj]⟩
theorem Its.at {w : World} {g o n vc : Nat} {its : List It} {rvs : List Value} (h : Its w (.slice (some ⟨g, o, none⟩) n vc) its rvs) {i : Nat} (hi : i < its.length) :
    ∃ rv, Sl w rv 1 its[i].refs.length (its[i].refs.map str) ∧ ItAt w g (o + i * 5) its[i] rv := by
  have hz : (its.zip rvs).length = its.length := by rw [List.length_zip, h.len]; omega
  obtain ⟨b, o', c, e1, -, hc⟩ := h.sl.get cellsP_len hz (by omega)
  simp only [Value.slice.injEq, Option.some.injEq, Addr.mk.injEq] at e1
  obtain ⟨⟨rfl, rfl, -⟩, -, rfl⟩ := e1
  have hi2 : i < rvs.length := by rw [h.len]; exact hi
  refine ⟨rvs[i], h.refs i hi hi2, ItAt.of fun j hj => ?_⟩
  rw [hc i j (by omega) hj, List.getElem_zip]; rfl
theorem ItAt.sm0 {w : World} {g : Nat} {x : It} {rv : Value} (h : ItAt w g 0 x rv) : (∀ j, j < 5 → (w.cell? ⟨g, j, none⟩).isSome = true) = True := by
  have := h.sm
  simpa using this
theorem ItAt.blk {w : World} {b : Nat} {x : It} {rv : Value} (h : Blk w b 34 (x.cells rv)) : ItAt w b 0 x rv :=
  ItAt.of fun j hj => by rw [Nat.zero_add]; exact h.cell j

/-! ### maps of lists -/
structure HM {α : Type} (cs : α → List Value) (e sz : Nat) (w : World) (B hb : Nat) (hs : List (Bytes × Value)) (F : Bytes → List α) : Prop where
  mp : Mp w hb hs
  keys : (hs.map (·.1)).Nodup
  val : ∀ p ∈ hs, ∃ l : List α, l.Perm (F p.1) ∧ 0 < l.length ∧ HL.Own w p.2 e sz l.length (rows cs l)
  emp : ∀ b, getM b hs = none → F b = []
  fresh : ∀ p ∈ hs, ∀ k, p.2.ownBlock = some k → B ≤ k ∧ k ≠ hb
  sep : ∀ p ∈ hs, ∀ q ∈ hs, p.1 ≠ q.1 → ∀ k, p.2.ownBlock = some k → q.2.ownBlock ≠ some k
section
variable {α : Type} {cs : α → List Value} {e sz : Nat} {w w' : World} {B hb : Nat} {hs : List (Bytes × Value)} {F : Bytes → List α}
theorem HM.nil (h : Mp w hb []) : HM cs e sz w B hb [] (fun _ => []) :=
  ⟨h, by simp, fun p hp => (by cases hp), fun _ _ => rfl, fun p hp => (by cases hp), fun p hp => (by cases hp)⟩
theorem HM.mod {S : Nat → Prop} (h : HM cs e sz w B hb hs F) (m : Mod S w w') (h1 : ¬ S hb) (h2 : ∀ p ∈ hs, ∀ k, p.2.ownBlock = some k → ¬ S k) : HM cs e sz w' B hb hs F :=
  ⟨h.mp.mod m h1, h.keys, fun p hp => by obtain ⟨l, l1, l2, l3⟩ := h.val p hp; exact ⟨l, l1, l2, l3.mod m (h2 p hp)⟩, h.emp, h.fresh, h.sep⟩
theorem HM.up (h : HM cs e sz w B hb hs F) (m : Mod none' w w') : HM cs e sz w' B hb hs F := h.mod m (fun h => h) fun _ _ _ _ h => h
/-- what is held under a key -/
theorem HM.look (h : HM cs e sz w B hb hs F) (b : Bytes) : ∃ l : List α, l.Perm (F b) ∧ HL.Own w ((getM b hs).getD (.slice none 0 0)) e sz l.length (rows cs l) ∧
    ∀ k, ((getM b hs).getD (.slice none 0 0)).ownBlock = some k → B ≤ k ∧ k ≠ hb ∧ k < w.heap.size ∧ ∀ p ∈ hs, p.1 ≠ b → p.2.ownBlock ≠ some k := by
  cases hg : getM b hs with
  | none => exact ⟨[], by rw [h.emp b hg], Own.nil _ _ _, fun k hk => by cases hk⟩
  | some v =>
    have hm := getM_mem hg
    obtain ⟨l, l1, l2, l3⟩ := h.val _ hm
    exact ⟨l, l1, l3, fun k hk => ⟨(h.fresh _ hm k hk).1, (h.fresh _ hm k hk).2, l3.lt k hk, fun p hp hne => h.sep _ hm p hp (Ne.symm hne) k hk⟩⟩
/-- one more under a key -/
theorem HM.put {b : Bytes} {x : α} {v v' : Value} {l : List α} {w1 w2 : World} (h : HM cs e sz w B hb hs F) (hbs : hb < w.heap.size) (hv : v = (getM b hs).getD (.slice none 0 0)) (hl : l.Perm (F b))
    (hB : B ≤ w.heap.size)
    (own : HL.Own w1 v' e sz (l.length + 1) (rows cs (l ++ [x]))) (m1 : Mod (ownS v) w w1) (hf : ∀ k, v'.ownBlock = some k → v.ownBlock = some k ∨ w.heap.size ≤ k) (mp : Mp w2 hb (putM b v' hs)) (m2 : Mod (fun k => k = hb) w1 w2) :
    HM cs e sz w2 B hb (putM b v' hs) (fun c => if c = b then F b ++ [x] else F c) := by
  obtain ⟨l0, -, own0, hfr⟩ := h.look b
  rw [← hv] at own0 hfr
  obtain ⟨k1, k2⟩ := putM_keys b v' h.keys
  -- the new row's block is none of the others'
  have hfr' : ∀ k, v'.ownBlock = some k → B ≤ k ∧ k ≠ hb ∧ ∀ p ∈ hs, p.1 ≠ b → p.2.ownBlock ≠ some k := by
    intro k hk
    rcases hf k hk with h1 | h1
    · obtain ⟨a1, a2, a3, a4⟩ := hfr k h1
      exact ⟨a1, a2, a4⟩
    · refine ⟨by omega, by omega, fun p hp _ hpk => ?_⟩
      obtain ⟨lp, -, -, own⟩ := h.val p hp
      have := own.lt k hpk
      omega
  have hcase : ∀ p ∈ putM b v' hs, p = (b, v') ∨ (p ∈ hs ∧ p.1 ≠ b) := by
    intro p hp
    have hg := mem_get k1 hp
    rw [getM_put] at hg
    by_cases e : b = p.1
    · rw [if_pos e] at hg
      left
      exact Prod.ext e.symm (Option.some.inj hg).symm
    · rw [if_neg e] at hg
      exact .inr ⟨getM_mem hg, Ne.symm e⟩
  refine ⟨mp, k1, fun p hp => ?_, fun c hc => ?_, fun p hp k hk => ?_, fun p hp q hq hne k hk => ?_⟩
  · rcases hcase p hp with rfl | ⟨hp, hne⟩
    · refine ⟨l ++ [x], ?_, by simp, ?_⟩
      · simp only [if_true]; exact hl.append_right _
      · rw [List.length_append]
        exact own.mod m2 fun k hk e => (hfr' k hk).2.1 e
    · obtain ⟨lp, l1, l2, l3⟩ := h.val p hp
      refine ⟨lp, by simp only [if_neg hne]; exact l1, l2, ?_⟩
      refine (l3.mod m1 fun k hk hS => ?_).mod m2 fun k hk e => (h.fresh p hp k hk).2 e
      exact (hfr k hS).2.2.2 p hp hne hk
  · rw [getM_put] at hc
    by_cases e : b = c
    · rw [if_pos e] at hc; cases hc
    · rw [if_neg e] at hc
      simp only [if_neg (Ne.symm e)]; exact h.emp c hc
  · rcases hcase p hp with rfl | ⟨hp, hne⟩
    · exact ⟨(hfr' k hk).1, (hfr' k hk).2.1⟩
    · exact h.fresh p hp k hk
  · rcases hcase p hp with rfl | ⟨hp, hpb⟩ <;> rcases hcase q hq with rfl | ⟨hq, hqb⟩
    · exact absurd rfl hne
    · exact (hfr' k hk).2.2 q hq hqb
    · intro hk'
      exact (hfr' k hk').2.2 p hp hpb hk
    · exact h.sep p hp q hq hne k hk
end
end Go.Proofs.Y

/- HLV: what came in with a call, out of the form's reading of it. -/
namespace Go.HL
open Go Go.ChangeShapes Go.WideShapes
section
variable {H : Type} {enc : TypeId × Value → H} {P : Program} {w : World}

theorem str_list (s : ByteArray) : Value.string s = str s.data.toList := rfl

theorem sl_of_cells {a : Addr} {len cap : Nat} {xs : List Value} (hx : len ≤ xs.length) (hlc : len ≤ cap) (hc : ∀ i, i < xs.length → w.cell? (a.add i) = xs[i]?) : Sl w (.slice (some a) len cap) 1 len (xs.take len) := by
  refine ⟨by rw [List.length_take]; omega, some a, cap, rfl, hlc, fun h0 => ?_⟩
  have hs : a.spot = none := by
    have := hc 0 (by omega)
    have e : a.add 0 = a := rfl
    rw [e, List.getElem?_eq_getElem (by omega)] at this
    exact World.cell?_spot this
  obtain ⟨b, o, s⟩ := a
  simp only at hs
  subst hs
  refine ⟨b, o, rfl, fun j hj => ?_⟩
  have := hc j (by omega)
  rw [e_add] at this
  rw [this, List.getElem?_take_of_lt (by omega)]

/-- a slice of strings that came in -/
theorem strs_in {t e : TypeId} {v : Value} {d : DataW H} {ps : List MemPlace} (ht : P.underlying t = some (.slice e)) (he : P.underlying e = some .string) (hc : P.cellsOf e = 1) (hv : ∃ a len cap, v = .slice a len cap)
    (h : DataW.Trod enc P w 0 (fun _ => true) true t v d ps) :
    ∃ ls : List (List UInt8), Sl w v 1 ls.length (ls.map str) ∧ (ls = [] ∨ ∃ spare, d = .slice (ls.map fun s => .lit (.string s)) spare) := by
  obtain ⟨a, len, cap, rfl⟩ := hv
  obtain ⟨fuel, hf⟩ := h
  rcases open_strings ht he hc hf with ⟨hcs, -⟩ | ⟨x, l, c, ss, hcs, -, hl, -, hz, hx, hcell, -⟩
  · simp [Value.cells] at hcs
    obtain ⟨rfl, rfl, rfl⟩ := hcs
    exact ⟨[], (Own.nil w 0 1).sl, .inl rfl⟩
  · simp [Value.cells] at hcs
    obtain ⟨rfl, rfl, rfl⟩ := hcs
    have hz : ss.length = cap := by simpa using hz
    refine ⟨(ss.take len).map fun s => s.data.toList, ?_, .inr ⟨strs (ss.drop len), ?_⟩⟩
    · have := sl_of_cells (w := w) (a := x) (len := len) (cap := cap) (xs := ss.map fun s => .string s) (by simp; omega) hl (by
        intro i hi
        simp only [List.length_map] at hi
        rw [hcell i hi]
        simp [List.getElem?_eq_getElem hi])
      have hlen : ((ss.take len).map fun s => s.data.toList).length = len := by simp; omega
      rw [hlen]
      have e : ((ss.take len).map fun s => s.data.toList).map str = (ss.map fun s => Value.string s).take len := by
        rw [List.map_map, ← List.map_take]; rfl
      rw [e]; exact this
    · have := congrArg Prod.fst hx
      simp only at this
      rw [this, strs, List.map_map]; rfl

/-- a slice of integers that came in -/
theorem ints_in {t e : TypeId} {k : IntKind} {v : Value} {d : DataW H} {ps : List MemPlace} (ht : P.underlying t = some (.slice e)) (he : P.underlying e = some (.int k)) (hc : P.cellsOf e = 1) (hv : ∃ a len cap, v = .slice a len cap)
    (h : DataW.Trod enc P w 0 (fun _ => true) true t v d ps) :
    ∃ zs : List Int, Sl w v 1 zs.length (zs.map fun n => .int k n) ∧ (∀ n ∈ zs, (Lit.int k n).wf = true) ∧ (zs = [] ∨ ∃ spare, d = .slice (zs.map fun n => .lit (.int k n)) spare) := by
  obtain ⟨a, len, cap, rfl⟩ := hv
  obtain ⟨fuel, hf⟩ := h
  rcases open_ints ht he hc hf with ⟨hcs, -⟩ | ⟨x, l, c, ss, hcs, -, hl, -, hz, hx, hcell, hw⟩
  · simp [Value.cells] at hcs
    obtain ⟨rfl, rfl, rfl⟩ := hcs
    exact ⟨[], (Own.nil w 0 1).sl, fun n hn => (nomatch hn), .inl rfl⟩
  · simp [Value.cells] at hcs
    obtain ⟨rfl, rfl, rfl⟩ := hcs
    have hz : ss.length = cap := by simpa using hz
    refine ⟨ss.take len, ?_, fun n hn => hw n (List.mem_of_mem_take hn), .inr ⟨lits k (ss.drop len), ?_⟩⟩
    · have := sl_of_cells (w := w) (a := x) (len := len) (cap := cap) (xs := ss.map fun n => .int k n) (by simp; omega) hl (by
        intro i hi
        simp only [List.length_map] at hi
        rw [hcell i hi]
        simp [List.getElem?_eq_getElem hi])
      have hlen : (ss.take len).length = len := by simp; omega
      rw [hlen, List.map_take]; exact this
    · have := congrArg Prod.fst hx
      simp only at this
      rw [this]; rfl
end
end Go.HL

/- TX: thread: items that came in with a call. -/
namespace Go.Proofs.Y
open Go Go.HL Go.Proofs Go.ChangeShapes Go.WideShapes Go.Deep

theorem str_of (a : ByteArray) : Value.string a = str a.data.toList := rfl
theorem wf64 {a : Int} (h : (Lit.int .i64 a).wf = true) : -9223372036854775808 ≤ a ∧ a ≤ 9223372036854775807 := by
  simp only [Lit.wf, Bool.and_eq_true, decide_eq_true_eq] at h
  exact h
theorem list_of2 {α : Type} {R : Nat → α → Prop} : ∀ (n : Nat), (∀ i, i < n → ∃ a, R i a) → ∃ l : List α, l.length = n ∧ ∀ i (h : i < l.length), R i l[i]
  | 0, _ => ⟨[], rfl, fun i h => by simp at h⟩
  | n + 1, h => by
    obtain ⟨l, hl, hR⟩ := list_of2 n fun i hi => h i (by omega)
    obtain ⟨a, ha⟩ := h n (by omega)
    refine ⟨l ++ [a], by simp [hl], fun i hi => ?_⟩
    by_cases hin : i < l.length
    · rw [List.getElem_append_left hin]; exact hR i hin
    · have : i = n := by simp at hi; omega
      subst this
      rw [List.getElem_append_right (by omega)]
      simpa [hl] using ha
/-- a contract out of a rule -/
theorem calls_of_rule {f : FuncId} {args : List Value} {w : World} (h : ∀ next : Value → World → Prop, (∀ w', Mod none' w w' → next (.bool true) w') → callK Try.prog f args w next noPanic) :
    Calls Try.prog f args.toArray w fun e w' => e = .returned (.bool true) ∧ RowKit.Below w.heap.size w w' := by
  refine Calls.mono (h (fun v w' => v = .bool true ∧ RowKit.Below w.heap.size w w') fun w' m => ⟨rfl, m.below (Nat.le_refl _) fun _ _ h => h⟩) fun e w' he => ?_
  cases e with
  | returned v => exact ⟨by rw [he.1], he.2⟩
  | panicked c => exact he.elim
  | outgrown => exact he.elim

noncomputable def fs34 : Array Field := match Try.prog.underlying 34 with | some (.struct fs) => fs | _ => #[]
theorem uu34 : Try.prog.underlying 34 = some (.struct fs34) := by kernel_rfl
theorem fs34_size : fs34.size = 5 := by kernel_rfl
theorem cells34 : Try.prog.cellsOf 34 = 5 := by kernel_rfl
theorem cells3 : Try.prog.cellsOf 3 = 1 := by kernel_rfl
theorem cells4 : Try.prog.cellsOf 4 = 1 := by kernel_rfl
theorem cells9 : Try.prog.cellsOf 9 = 1 := by kernel_rfl
theorem cells32 : Try.prog.cellsOf 32 = 1 := by kernel_rfl
theorem fld34 (i o t : Nat) (h : (fs34[i]?).map (fun f => (f.offset, f.type)) = some (o, t)) : ∃ f, fs34[i]? = some f ∧ f.offset = o ∧ f.type = t := by
  obtain ⟨f, hf, he⟩ := Option.map_eq_some_iff.1 h
  simp only [Prod.mk.injEq] at he
  exact ⟨f, hf, he.1, he.2⟩

section
variable {H : Type} {enc : TypeId × Value → H} {w : World}

theorem item_in {fuel : Nat} {cs : List Value} {x : DataW H × List MemPlace} (h : DataW.trod enc Try.prog w 0 (fun _ => true) true fuel 34 cs = some x) :
    ∃ (a : It) (rv : Value), cs = a.cells rv ∧ Sl w rv 1 a.refs.length (a.refs.map str) := by
  obtain ⟨xs, n, rfl, rfl, hlen, hxl, hf⟩ := DataW.trod_struct uu34 h
  rw [cells34] at hlen
  rw [fs34_size] at hxl
  match cs, hlen with
  | [c0, c1, c2, c3, c4], _ =>
  match xs, hxl with
  | [y0, y1, y2, y3, y4], _ =>
  obtain ⟨f0, g0, o0, e0⟩ := fld34 0 0 9 (by kernel_rfl)
  obtain ⟨f1, g1, o1, e1⟩ := fld34 1 1 3 (by kernel_rfl)
  obtain ⟨f2, g2, o2, e2⟩ := fld34 2 2 32 (by kernel_rfl)
  obtain ⟨f3, g3, o3, e3⟩ := fld34 3 3 9 (by kernel_rfl)
  obtain ⟨f4, g4, o4, e4⟩ := fld34 4 4 4 (by kernel_rfl)
  have h0 := hf 0 f0 g0
  have h1 := hf 1 f1 g1
  have h2 := hf 2 f2 g2
  have h3 := hf 3 f3 g3
  have h4 := hf 4 f4 g4
  rw [o0, e0, cells9] at h0
  rw [o1, e1, cells3] at h1
  rw [o2, e2, cells32] at h2
  rw [o3, e3, cells9] at h3
  rw [o4, e4, cells4] at h4
  obtain ⟨s0, k0, rfl, w0⟩ := DataW.trod_string (x := y0) Try.underlying9 h0
  obtain ⟨n1, k1, rfl, w1⟩ := DataW.trod_int (x := y1) Try.underlying3 h1
  obtain ⟨s3, k3, rfl, w3⟩ := DataW.trod_string (x := y3) Try.underlying9 h3
  obtain ⟨b4, k4, rfl⟩ := DataW.trod_bool (x := y4) Try.underlying4 h4
  have hs2 : ∃ a len cap, c2 = .slice a len cap := by
    rcases open_strings (x := y2) Try.underlying32 Try.underlying9 (by kernel_rfl) h2 with ⟨hcs, -⟩ | ⟨x, l, c, ss, hcs, -⟩
    · simp at hcs; exact ⟨_, _, _, hcs⟩
    · simp at hcs; exact ⟨_, _, _, hcs⟩
  have hc2 : c2.cells.toList = [c2] := by obtain ⟨a, l, c, rfl⟩ := hs2; rfl
  obtain ⟨ls, hls, -⟩ := strs_in (enc := enc) (w := w) (d := y2.1) (ps := y2.2) Try.underlying32 Try.underlying9 (by kernel_rfl) hs2 ⟨n, by rw [hc2]; exact h2⟩
  simp at k0 k1 k3 k4
  subst k0 k1 k3 k4
  exact ⟨⟨s0.data.toList, n1, ls, s3.data.toList, b4⟩, c2, rfl, hls⟩

theorem its_in {v : Value} {d : DataW H} {ps : List MemPlace} (hv : ∃ a len cap, v = .slice a len cap) (h : DataW.Trod enc Try.prog w 0 (fun _ => true) true 22 v d ps) :
    ∃ (its : List It) (rvs : List Value), Its w v its rvs ∧ its.length ≤ 9223372036854775807 ∧ (its = [] ∨ ∃ D sp, d = .slice D sp ∧ D.length = its.length) := by
  obtain ⟨a, len, cap, rfl⟩ := hv
  obtain ⟨fuel, hf⟩ := h
  rcases open_slice Try.underlying22 hf with ⟨hcs, -⟩ | ⟨x, l, c, m, n, D, Pl, hcs, hd, hl, hmx, hm, hx, hall⟩
  · simp [Value.cells] at hcs
    obtain ⟨rfl, rfl, rfl⟩ := hcs
    exact ⟨[], [], ⟨rfl, (Own.nil w 0 5).sl, fun i h => by simp at h⟩, by simp, .inl rfl⟩
  · simp [Value.cells] at hcs
    obtain ⟨rfl, rfl, rfl⟩ := hcs
    have hm : m = cap := by simpa using hm
    subst hm
    simp only [cells34] at hall
    obtain ⟨al, hal, hR⟩ := list_of2 (R := fun i (a : It × Value) => (∀ j, j < 5 → w.cell? ((x.add (i * 5)).add j) = (cellsP a)[j]?) ∧ Sl w a.2 1 a.1.refs.length (a.1.refs.map str)) len fun i hi => by
      obtain ⟨cs', h1, h2⟩ := hall i (by omega)
      obtain ⟨a, rv, rfl, a1⟩ := item_in h2
      obtain ⟨-, -, hc⟩ := World.cells?_some h1
      exact ⟨(a, rv), hc, a1⟩
    refine ⟨al.map (·.1), al.map (·.2), ⟨by simp, ?_, fun i h1 h2 => ?_⟩, by unfold maxLen at hmx; simp; omega, .inr ?_⟩
    · have hz : (al.map (·.1)).zip (al.map (·.2)) = al := by
        clear hR hal
        induction al with
        | nil => rfl
        | cons a l ih => simp [ih]
      rw [hz, List.length_map]
      subst hal
      refine ⟨rows_len cellsP_len al, some x, m, rfl, hl, fun h0 => ?_⟩
      have hs : x.spot = none := by
        have := (hR 0 h0).1 0 (by omega)
        have e : (x.add (0 * 5)).add 0 = x := rfl
        rw [e] at this
        exact World.cell?_spot this
      obtain ⟨b, o, s⟩ := x
      simp only at hs
      subst hs
      refine ⟨b, o, rfl, fun j hj => ?_⟩
      have hj6 : j / 5 < al.length := by omega
      have := (hR (j / 5) hj6).1 (j % 5) (Nat.mod_lt _ (by omega))
      rw [e_add, e_add] at this
      rw [show o + j = o + j / 5 * 5 + j % 5 by omega, this, ← rows_get cellsP_len al (j / 5) (j % 5) hj6 (Nat.mod_lt _ (by omega))]
      congr 1; omega
    · simp only [List.length_map] at h1
      have := (hR i h1).2
      simpa using this
    · exact ⟨_, _, congrArg Prod.fst hx, by simp [hal]⟩
theorem one_in {v : Value} {d : DataW H} {ps : List MemPlace} (hv : ∃ cs, v = .agg cs) (h : DataW.Trod enc Try.prog w 0 (fun _ => true) true 34 v d ps) :
    ∃ (it : It) (rv : Value), v = it.v rv ∧ Sl w rv 1 it.refs.length (it.refs.map str) := by
  obtain ⟨cs, rfl⟩ := hv
  obtain ⟨fuel, hf⟩ := h
  obtain ⟨m, rv, h1, h2⟩ := item_in hf
  refine ⟨m, rv, ?_, h2⟩
  have h1 : cs.toList = m.cells rv := h1
  have : cs = (m.cells rv).toArray := by rw [← h1]
  rw [this]; rfl
end
end Go.Proofs.Y

/- the functions of the program as code over named slots, printed by hl.py -/
set_option maxRecDepth 100000
namespace Go.Proofs.Y
open Go Go.HL Go.Proofs
/- missive/missivelaw21.ThreadTells -/
def l8_2 : List HS :=
  .need (.n3 .pick (.n3 .pick (.n3 .pick (.n3 .pick (.slot 7) (.n2 (.bin .eql) (.slot 8) (.slot 10)) (.lit (.bool false))) (.n2 (.sbin .eql) (.slot 9) (.slot 11)) (.lit (.bool false))) (.n2 (.sbin .eql) (.slot 43) (.slot 46)) (.lit (.bool false))) (.slot 54) (.lit (.bool false))) ::
  .asg 6 (.n3 .pick (.n3 .pick (.n3 .pick (.n3 .pick (.slot 7) (.n2 (.bin .eql) (.slot 8) (.slot 10)) (.lit (.bool false))) (.n2 (.sbin .eql) (.slot 9) (.slot 11)) (.lit (.bool false))) (.n2 (.sbin .eql) (.slot 43) (.slot 46)) (.lit (.bool false))) (.slot 54) (.lit (.bool false))) ::
  []
def l8_3 : List HS :=
  .eff (some 54) (.call { callee := .value (.func 21), args := #[.tmp 51, .tmp 53], argTypes := #[25, 25] }) 4 [(51, .slot 51), (53, .slot 53)] (some (.n3 .pick (.n3 .pick (.n3 .pick (.slot 7) (.n2 (.bin .eql) (.slot 8) (.slot 10)) (.lit (.bool false))) (.n2 (.sbin .eql) (.slot 9) (.slot 11)) (.lit (.bool false))) (.n2 (.sbin .eql) (.slot 43) (.slot 46)) (.lit (.bool false)), true)) [] ::
  l8_2
def l8_4 : List HS :=
  .eff (some 53) (.call { callee := .value (.func 25), args := #[.tmp 52], argTypes := #[22] }) 25 [(52, .slot 0)] (some (.n3 .pick (.n3 .pick (.n3 .pick (.slot 7) (.n2 (.bin .eql) (.slot 8) (.slot 10)) (.lit (.bool false))) (.n2 (.sbin .eql) (.slot 9) (.slot 11)) (.lit (.bool false))) (.n2 (.sbin .eql) (.slot 43) (.slot 46)) (.lit (.bool false)), true)) [] ::
  l8_3
def l8_5 : List HS :=
  .need (.gif (.n3 .pick (.n3 .pick (.slot 7) (.n2 (.bin .eql) (.slot 8) (.slot 10)) (.lit (.bool false))) (.n2 (.sbin .eql) (.slot 9) (.slot 11)) (.lit (.bool false))) true (.n2 (.sbin .eql) (.slot 43) (.slot 46))) ::
  .need (.n3 .pick (.n3 .pick (.n3 .pick (.slot 7) (.n2 (.bin .eql) (.slot 8) (.slot 10)) (.lit (.bool false))) (.n2 (.sbin .eql) (.slot 9) (.slot 11)) (.lit (.bool false))) (.n2 (.sbin .eql) (.slot 43) (.slot 46)) (.lit (.bool false))) ::
  .eff (some 51) (.call { callee := .value (.func 11), args := #[.tmp 50], argTypes := #[22] }) 25 [(50, .slot 0)] (some (.n3 .pick (.n3 .pick (.n3 .pick (.slot 7) (.n2 (.bin .eql) (.slot 8) (.slot 10)) (.lit (.bool false))) (.n2 (.sbin .eql) (.slot 9) (.slot 11)) (.lit (.bool false))) (.n2 (.sbin .eql) (.slot 43) (.slot 46)) (.lit (.bool false)), true)) [] ::
  l8_4
def l8_6 : List HS :=
  .eff (some 46) (.call { callee := .value (.func 24), args := #[.tmp 44, .tmp 45], argTypes := #[22, 9] }) 9 [(44, .slot 0), (45, .slot 2)] (some (.n3 .pick (.n3 .pick (.slot 7) (.n2 (.bin .eql) (.slot 8) (.slot 10)) (.lit (.bool false))) (.n2 (.sbin .eql) (.slot 9) (.slot 11)) (.lit (.bool false)), true)) [] ::
  l8_5
def h8_1 : HC :=
  (.seq
  (.reg [.eff (some 20) (.call { callee := .value (.func 15), args := #[.tmp 18, .tmp 19], argTypes := #[22, 3] }) 35 [(18, .slot 0), (19, .slot 1)] none [],
    .need (.n1 (.ext 0) (.slot 20)),
    .need (.n1 (.ext 1) (.slot 20)),
    .asg 8 (.n1 (.ext 0) (.slot 20)),
    .asg 9 (.n1 (.ext 1) (.slot 20))])
  (.seq
  (.reg [.eff (some 26) (.call { callee := .value (.func 23), args := #[.tmp 24, .tmp 25], argTypes := #[22, 3] }) 35 [(24, .slot 0), (25, .slot 1)] none [],
    .need (.n1 (.ext 0) (.slot 26)),
    .need (.n1 (.ext 1) (.slot 26)),
    .asg 10 (.n1 (.ext 0) (.slot 26)),
    .asg 11 (.n1 (.ext 1) (.slot 26))])
  (.seq
  (.reg (.need (.gif (.slot 7) true (.n2 (.bin .eql) (.slot 8) (.slot 10))) ::
    .need (.n3 .pick (.slot 7) (.n2 (.bin .eql) (.slot 8) (.slot 10)) (.lit (.bool false))) ::
    .need (.gif (.n3 .pick (.slot 7) (.n2 (.bin .eql) (.slot 8) (.slot 10)) (.lit (.bool false))) true (.n2 (.sbin .eql) (.slot 9) (.slot 11))) ::
    .need (.n3 .pick (.n3 .pick (.slot 7) (.n2 (.bin .eql) (.slot 8) (.slot 10)) (.lit (.bool false))) (.n2 (.sbin .eql) (.slot 9) (.slot 11)) (.lit (.bool false))) ::
    .eff (some 43) (.call { callee := .value (.func 22), args := #[.tmp 41, .tmp 42], argTypes := #[22, 9] }) 9 [(41, .slot 0), (42, .slot 2)] (some (.n3 .pick (.n3 .pick (.slot 7) (.n2 (.bin .eql) (.slot 8) (.slot 10)) (.lit (.bool false))) (.n2 (.sbin .eql) (.slot 9) (.slot 11)) (.lit (.bool false)), true)) [] ::
    l8_6))
  .ret)))
def h8 : HC :=
  (.seq
  (.reg [.asg 6 (.lit (.bool false))])
  (.seq
  (.reg [.eff (some 12) (.call { callee := .value (.func 9), args := #[], argTypes := #[] }) 4 [] none [],
    .asg 7 (.slot 12)])
  (.seq
  (.seq
  (.reg [.eff (some 14) (.call { callee := .value (.func 10), args := #[.tmp 13], argTypes := #[22] }) 4 [(13, .slot 0)] none [],
    .need (.n1 .bnot (.slot 14)),
    .asg 15 (.n1 .bnot (.slot 14))])
  (.cond (.slot 15)
    (.seq
    (.reg [.asg 6 (.slot 7)])
    .ret)
    .skip))
  h8_1)))
theorem k8 : fnOK Try.prog 29352562483322823 [] [.tmp 6] 3 Try.f8 = some h8 := by kernel_rfl
theorem c8 : callable Try.prog 8 = true := by kernel_rfl
theorem q8 {args : List Value} (ha : args.length = 3) {w : World} {next : Value → World → Prop} {QP : List PanicEntry → World → Prop} (H : hw Try.prog noPanic h8 (endV [.tmp 6] next) (σ0 args) w) : callK Try.prog 8 args w next QP := fn_rule Try.func8 mixed k8 ha H
theorem r8 {args : List Value} (ha : args.length = 3) {w : World} {next : Value → World → Prop} {QP : List PanicEntry → World → Prop} (H : hw Try.prog noPanic h8 (endV [.tmp 6] next) (σ0 args) w) : callvK Try.prog (.func (.func 8) #[] #[]) args w next QP := callf c8 (q8 ha H)

end Go.Proofs.Y

/- the functions of the program as code over named slots, printed by hl.py -/
set_option maxRecDepth 100000
namespace Go.Proofs.Y
open Go Go.HL Go.Proofs
/- missive/missivelaw21.small -/
def l9_4 : List HS :=
  .need (.n3 .pick (.slot 36) (.slot 44) (.lit (.bool false))) ::
  .asg 5 (.n3 .pick (.slot 36) (.slot 44) (.lit (.bool false))) ::
  []
def l9_5 : List HS :=
  .eff (some 44) (.call { callee := .value (.func 21), args := #[.tmp 38, .tmp 43], argTypes := #[25, 25] }) 4 [(38, .slot 2), (43, .slot 43)] (some (.slot 36, true)) [] ::
  l9_4
def l9_7 : List HS :=
  .need (.n3 .pick (.n3 .pick (.slot 5) (.slot 52) (.lit (.bool false))) (.slot 60) (.lit (.bool false))) ::
  .asg 0 (.n3 .pick (.n3 .pick (.slot 5) (.slot 52) (.lit (.bool false))) (.slot 60) (.lit (.bool false))) ::
  []
def l9_8 : List HS :=
  .eff (some 60) (.call { callee := .value (.func 21), args := #[.tmp 55, .tmp 59], argTypes := #[25, 25] }) 4 [(55, .slot 4), (59, .slot 59)] (some (.n3 .pick (.slot 5) (.slot 52) (.lit (.bool false)), true)) [] ::
  l9_7
def l9_9 : List HS :=
  .need (.n3 .pick (.slot 5) (.slot 52) (.lit (.bool false))) ::
  .need (.gif (.n3 .pick (.slot 5) (.slot 52) (.lit (.bool false))) true (.n2 (.put 0 1) (.lit (.agg #[(str []), (.bool false), (.int .i64 0), (.int .i64 0)])) (.lit (str [99])))) ::
  .need (.gif (.n3 .pick (.slot 5) (.slot 52) (.lit (.bool false))) true (.n2 (.put 2 1) (.n2 (.put 0 1) (.lit (.agg #[(str []), (.bool false), (.int .i64 0), (.int .i64 0)])) (.lit (str [99]))) (.lit (.int .i64 (-1))))) ::
  .need (.gif (.n3 .pick (.slot 5) (.slot 52) (.lit (.bool false))) true (.n2 (.put 0 1) (.lit (.agg #[(str []), (.bool false), (.int .i64 0), (.int .i64 0)])) (.lit (str [97])))) ::
  .need (.gif (.n3 .pick (.slot 5) (.slot 52) (.lit (.bool false))) true (.n2 (.put 2 1) (.n2 (.put 0 1) (.lit (.agg #[(str []), (.bool false), (.int .i64 0), (.int .i64 0)])) (.lit (str [97]))) (.lit (.int .i64 (-1))))) ::
  .need (.gif (.n3 .pick (.slot 5) (.slot 52) (.lit (.bool false))) true (.n2 (.put 0 1) (.lit (.agg #[(str []), (.bool false), (.int .i64 0), (.int .i64 0)])) (.lit (str [98])))) ::
  .need (.gif (.n3 .pick (.slot 5) (.slot 52) (.lit (.bool false))) true (.n2 (.put 2 1) (.n2 (.put 0 1) (.lit (.agg #[(str []), (.bool false), (.int .i64 0), (.int .i64 0)])) (.lit (str [98]))) (.lit (.int .i64 1)))) ::
  .need (.gif (.n3 .pick (.slot 5) (.slot 52) (.lit (.bool false))) true (.n2 (.put 3 1) (.n2 (.put 2 1) (.n2 (.put 0 1) (.lit (.agg #[(str []), (.bool false), (.int .i64 0), (.int .i64 0)])) (.lit (str [98]))) (.lit (.int .i64 1))) (.lit (.int .i64 1)))) ::
  .eff (some 59) (.buildSlice 25 3 #[(0, .tmp 56), (1, .tmp 57), (2, .tmp 58)]) 25 [(56, .n2 (.put 2 1) (.n2 (.put 0 1) (.lit (.agg #[(str []), (.bool false), (.int .i64 0), (.int .i64 0)])) (.lit (str [99]))) (.lit (.int .i64 (-1)))), (57, .n2 (.put 2 1) (.n2 (.put 0 1) (.lit (.agg #[(str []), (.bool false), (.int .i64 0), (.int .i64 0)])) (.lit (str [97]))) (.lit (.int .i64 (-1)))), (58, .n2 (.put 3 1) (.n2 (.put 2 1) (.n2 (.put 0 1) (.lit (.agg #[(str []), (.bool false), (.int .i64 0), (.int .i64 0)])) (.lit (str [98]))) (.lit (.int .i64 1))) (.lit (.int .i64 1)))] (some (.n3 .pick (.slot 5) (.slot 52) (.lit (.bool false)), true)) [] ::
  l9_8
def l9_10 : List HS :=
  .eff (some 52) (.call { callee := .value (.func 21), args := #[.tmp 48, .tmp 51], argTypes := #[25, 25] }) 4 [(48, .slot 3), (51, .slot 51)] (some (.slot 5, true)) [] ::
  l9_9
def h9_6 : HC :=
  (.seq
  (.reg (.need (.gif (.slot 5) true (.n2 (.put 0 1) (.lit (.agg #[(str []), (.bool false), (.int .i64 0), (.int .i64 0)])) (.lit (str [97])))) ::
    .need (.gif (.slot 5) true (.n2 (.put 2 1) (.n2 (.put 0 1) (.lit (.agg #[(str []), (.bool false), (.int .i64 0), (.int .i64 0)])) (.lit (str [97]))) (.lit (.int .i64 (-1))))) ::
    .need (.gif (.slot 5) true (.n2 (.put 0 1) (.lit (.agg #[(str []), (.bool false), (.int .i64 0), (.int .i64 0)])) (.lit (str [98])))) ::
    .need (.gif (.slot 5) true (.n2 (.put 3 1) (.n2 (.put 0 1) (.lit (.agg #[(str []), (.bool false), (.int .i64 0), (.int .i64 0)])) (.lit (str [98]))) (.lit (.int .i64 1)))) ::
    .eff (some 51) (.buildSlice 25 2 #[(0, .tmp 49), (1, .tmp 50)]) 25 [(49, .n2 (.put 2 1) (.n2 (.put 0 1) (.lit (.agg #[(str []), (.bool false), (.int .i64 0), (.int .i64 0)])) (.lit (str [97]))) (.lit (.int .i64 (-1)))), (50, .n2 (.put 3 1) (.n2 (.put 0 1) (.lit (.agg #[(str []), (.bool false), (.int .i64 0), (.int .i64 0)])) (.lit (str [98]))) (.lit (.int .i64 1)))] (some (.slot 5, true)) [] ::
    l9_10))
  .ret)
def h9_3 : HC :=
  (.seq
  (.reg [.need (.n2 (.put 0 1) (.lit (.agg #[(str []), (.int .i64 0), (.slice none 0 0), (str []), (.bool false)])) (.lit (str [97]))),
    .need (.n2 (.put 1 1) (.n2 (.put 0 1) (.lit (.agg #[(str []), (.int .i64 0), (.slice none 0 0), (str []), (.bool false)])) (.lit (str [97]))) (.lit (.int .i64 1))),
    .need (.n2 (.put 3 1) (.n2 (.put 1 1) (.n2 (.put 0 1) (.lit (.agg #[(str []), (.int .i64 0), (.slice none 0 0), (str []), (.bool false)])) (.lit (str [97]))) (.lit (.int .i64 1))) (.lit (str [88]))),
    .need (.n2 (.put 0 1) (.lit (.agg #[(str []), (.int .i64 0), (.slice none 0 0), (str []), (.bool false)])) (.lit (str [98]))),
    .need (.n2 (.put 1 1) (.n2 (.put 0 1) (.lit (.agg #[(str []), (.int .i64 0), (.slice none 0 0), (str []), (.bool false)])) (.lit (str [98]))) (.lit (.int .i64 2))),
    .need (.n2 (.put 3 1) (.n2 (.put 1 1) (.n2 (.put 0 1) (.lit (.agg #[(str []), (.int .i64 0), (.slice none 0 0), (str []), (.bool false)])) (.lit (str [98]))) (.lit (.int .i64 2))) (.lit (str [120]))),
    .need (.n2 (.put 4 1) (.n2 (.put 3 1) (.n2 (.put 1 1) (.n2 (.put 0 1) (.lit (.agg #[(str []), (.int .i64 0), (.slice none 0 0), (str []), (.bool false)])) (.lit (str [98]))) (.lit (.int .i64 2))) (.lit (str [120]))) (.lit (.bool true))),
    .need (.n2 (.put 0 1) (.lit (.agg #[(str []), (.int .i64 0), (.slice none 0 0), (str []), (.bool false)])) (.lit (str [99]))),
    .need (.n2 (.put 3 1) (.n2 (.put 0 1) (.lit (.agg #[(str []), (.int .i64 0), (.slice none 0 0), (str []), (.bool false)])) (.lit (str [99]))) (.lit (str [120]))),
    .need (.n2 (.put 4 1) (.n2 (.put 3 1) (.n2 (.put 0 1) (.lit (.agg #[(str []), (.int .i64 0), (.slice none 0 0), (str []), (.bool false)])) (.lit (str [99]))) (.lit (str [120]))) (.lit (.bool true))),
    .eff (some 29) (.buildSlice 22 3 #[(0, .tmp 26), (1, .tmp 27), (2, .tmp 28)]) 22 [(26, .n2 (.put 3 1) (.n2 (.put 1 1) (.n2 (.put 0 1) (.lit (.agg #[(str []), (.int .i64 0), (.slice none 0 0), (str []), (.bool false)])) (.lit (str [97]))) (.lit (.int .i64 1))) (.lit (str [88]))), (27, .n2 (.put 4 1) (.n2 (.put 3 1) (.n2 (.put 1 1) (.n2 (.put 0 1) (.lit (.agg #[(str []), (.int .i64 0), (.slice none 0 0), (str []), (.bool false)])) (.lit (str [98]))) (.lit (.int .i64 2))) (.lit (str [120]))) (.lit (.bool true))), (28, .n2 (.put 4 1) (.n2 (.put 3 1) (.n2 (.put 0 1) (.lit (.agg #[(str []), (.int .i64 0), (.slice none 0 0), (str []), (.bool false)])) (.lit (str [99]))) (.lit (str [120]))) (.lit (.bool true)))] none [],
    .eff (some 30) (.call { callee := .value (.func 11), args := #[.tmp 29], argTypes := #[22] }) 25 [(29, .slot 29)] none [],
    .asg 4 (.slot 30)])
  (.seq
  (.reg (.need (.n2 (.put 0 1) (.lit (.agg #[(str []), (.bool false), (.int .i64 0), (.int .i64 0)])) (.lit (str [97]))) ::
    .need (.n2 (.put 2 1) (.n2 (.put 0 1) (.lit (.agg #[(str []), (.bool false), (.int .i64 0), (.int .i64 0)])) (.lit (str [97]))) (.lit (.int .i64 (-1)))) ::
    .need (.n2 (.put 0 1) (.lit (.agg #[(str []), (.bool false), (.int .i64 0), (.int .i64 0)])) (.lit (str [98]))) ::
    .need (.n2 (.put 3 1) (.n2 (.put 0 1) (.lit (.agg #[(str []), (.bool false), (.int .i64 0), (.int .i64 0)])) (.lit (str [98]))) (.lit (.int .i64 1))) ::
    .need (.n2 (.put 0 1) (.lit (.agg #[(str []), (.bool false), (.int .i64 0), (.int .i64 0)])) (.lit (str [99]))) ::
    .need (.n2 (.put 2 1) (.n2 (.put 0 1) (.lit (.agg #[(str []), (.bool false), (.int .i64 0), (.int .i64 0)])) (.lit (str [99]))) (.lit (.int .i64 1))) ::
    .need (.n2 (.put 3 1) (.n2 (.put 2 1) (.n2 (.put 0 1) (.lit (.agg #[(str []), (.bool false), (.int .i64 0), (.int .i64 0)])) (.lit (str [99]))) (.lit (.int .i64 1))) (.lit (.int .i64 2))) ::
    .eff (some 35) (.buildSlice 25 3 #[(0, .tmp 32), (1, .tmp 33), (2, .tmp 34)]) 25 [(32, .n2 (.put 2 1) (.n2 (.put 0 1) (.lit (.agg #[(str []), (.bool false), (.int .i64 0), (.int .i64 0)])) (.lit (str [97]))) (.lit (.int .i64 (-1)))), (33, .n2 (.put 3 1) (.n2 (.put 0 1) (.lit (.agg #[(str []), (.bool false), (.int .i64 0), (.int .i64 0)])) (.lit (str [98]))) (.lit (.int .i64 1))), (34, .n2 (.put 3 1) (.n2 (.put 2 1) (.n2 (.put 0 1) (.lit (.agg #[(str []), (.bool false), (.int .i64 0), (.int .i64 0)])) (.lit (str [99]))) (.lit (.int .i64 1))) (.lit (.int .i64 2)))] none [] ::
    .eff (some 36) (.call { callee := .value (.func 21), args := #[.tmp 31, .tmp 35], argTypes := #[25, 25] }) 4 [(31, .slot 1), (35, .slot 35)] none [] ::
    .need (.gif (.slot 36) true (.n2 (.put 0 1) (.lit (.agg #[(str []), (.bool false), (.int .i64 0), (.int .i64 0)])) (.lit (str [100])))) ::
    .need (.gif (.slot 36) true (.n2 (.put 2 1) (.n2 (.put 0 1) (.lit (.agg #[(str []), (.bool false), (.int .i64 0), (.int .i64 0)])) (.lit (str [100]))) (.lit (.int .i64 (-1))))) ::
    .need (.gif (.slot 36) true (.n2 (.put 0 1) (.lit (.agg #[(str []), (.bool false), (.int .i64 0), (.int .i64 0)])) (.lit (str [97])))) ::
    .need (.gif (.slot 36) true (.n2 (.put 1 1) (.n2 (.put 0 1) (.lit (.agg #[(str []), (.bool false), (.int .i64 0), (.int .i64 0)])) (.lit (str [97]))) (.lit (.bool true)))) ::
    .need (.gif (.slot 36) true (.n2 (.put 2 1) (.n2 (.put 1 1) (.n2 (.put 0 1) (.lit (.agg #[(str []), (.bool false), (.int .i64 0), (.int .i64 0)])) (.lit (str [97]))) (.lit (.bool true))) (.lit (.int .i64 (-1))))) ::
    .need (.gif (.slot 36) true (.n2 (.put 0 1) (.lit (.agg #[(str []), (.bool false), (.int .i64 0), (.int .i64 0)])) (.lit (str [98])))) ::
    .need (.gif (.slot 36) true (.n2 (.put 2 1) (.n2 (.put 0 1) (.lit (.agg #[(str []), (.bool false), (.int .i64 0), (.int .i64 0)])) (.lit (str [98]))) (.lit (.int .i64 1)))) ::
    .need (.gif (.slot 36) true (.n2 (.put 3 1) (.n2 (.put 2 1) (.n2 (.put 0 1) (.lit (.agg #[(str []), (.bool false), (.int .i64 0), (.int .i64 0)])) (.lit (str [98]))) (.lit (.int .i64 1))) (.lit (.int .i64 1)))) ::
    .need (.gif (.slot 36) true (.n2 (.put 0 1) (.lit (.agg #[(str []), (.bool false), (.int .i64 0), (.int .i64 0)])) (.lit (str [99])))) ::
    .need (.gif (.slot 36) true (.n2 (.put 2 1) (.n2 (.put 0 1) (.lit (.agg #[(str []), (.bool false), (.int .i64 0), (.int .i64 0)])) (.lit (str [99]))) (.lit (.int .i64 1)))) ::
    .need (.gif (.slot 36) true (.n2 (.put 3 1) (.n2 (.put 2 1) (.n2 (.put 0 1) (.lit (.agg #[(str []), (.bool false), (.int .i64 0), (.int .i64 0)])) (.lit (str [99]))) (.lit (.int .i64 1))) (.lit (.int .i64 1)))) ::
    .eff (some 43) (.buildSlice 25 4 #[(0, .tmp 39), (1, .tmp 40), (2, .tmp 41), (3, .tmp 42)]) 25 [(39, .n2 (.put 2 1) (.n2 (.put 0 1) (.lit (.agg #[(str []), (.bool false), (.int .i64 0), (.int .i64 0)])) (.lit (str [100]))) (.lit (.int .i64 (-1)))), (40, .n2 (.put 2 1) (.n2 (.put 1 1) (.n2 (.put 0 1) (.lit (.agg #[(str []), (.bool false), (.int .i64 0), (.int .i64 0)])) (.lit (str [97]))) (.lit (.bool true))) (.lit (.int .i64 (-1)))), (41, .n2 (.put 3 1) (.n2 (.put 2 1) (.n2 (.put 0 1) (.lit (.agg #[(str []), (.bool false), (.int .i64 0), (.int .i64 0)])) (.lit (str [98]))) (.lit (.int .i64 1))) (.lit (.int .i64 1))), (42, .n2 (.put 3 1) (.n2 (.put 2 1) (.n2 (.put 0 1) (.lit (.agg #[(str []), (.bool false), (.int .i64 0), (.int .i64 0)])) (.lit (str [99]))) (.lit (.int .i64 1))) (.lit (.int .i64 1)))] (some (.slot 36, true)) [] ::
    l9_5))
  h9_6))
def h9_2 : HC :=
  (.seq
  (.reg [.eff (some 20) (.buildSlice 32 1 #[(0, .const (str [98]))]) 32 [] none [],
    .need (.n2 (.put 0 1) (.lit (.agg #[(str []), (.int .i64 0), (.slice none 0 0), (str []), (.bool false)])) (.lit (str [97]))),
    .need (.n2 (.put 1 1) (.n2 (.put 0 1) (.lit (.agg #[(str []), (.int .i64 0), (.slice none 0 0), (str []), (.bool false)])) (.lit (str [97]))) (.lit (.int .i64 1))),
    .need (.n2 (.put 2 1) (.n2 (.put 1 1) (.n2 (.put 0 1) (.lit (.agg #[(str []), (.int .i64 0), (.slice none 0 0), (str []), (.bool false)])) (.lit (str [97]))) (.lit (.int .i64 1))) (.slot 20)),
    .need (.n2 (.put 3 1) (.n2 (.put 2 1) (.n2 (.put 1 1) (.n2 (.put 0 1) (.lit (.agg #[(str []), (.int .i64 0), (.slice none 0 0), (str []), (.bool false)])) (.lit (str [97]))) (.lit (.int .i64 1))) (.slot 20)) (.lit (str [120]))),
    .eff (some 22) (.buildSlice 32 1 #[(0, .const (str [97]))]) 32 [] none [],
    .need (.n2 (.put 0 1) (.lit (.agg #[(str []), (.int .i64 0), (.slice none 0 0), (str []), (.bool false)])) (.lit (str [98]))),
    .need (.n2 (.put 1 1) (.n2 (.put 0 1) (.lit (.agg #[(str []), (.int .i64 0), (.slice none 0 0), (str []), (.bool false)])) (.lit (str [98]))) (.lit (.int .i64 2))),
    .need (.n2 (.put 2 1) (.n2 (.put 1 1) (.n2 (.put 0 1) (.lit (.agg #[(str []), (.int .i64 0), (.slice none 0 0), (str []), (.bool false)])) (.lit (str [98]))) (.lit (.int .i64 2))) (.slot 22)),
    .need (.n2 (.put 3 1) (.n2 (.put 2 1) (.n2 (.put 1 1) (.n2 (.put 0 1) (.lit (.agg #[(str []), (.int .i64 0), (.slice none 0 0), (str []), (.bool false)])) (.lit (str [98]))) (.lit (.int .i64 2))) (.slot 22)) (.lit (str [120]))),
    .eff (some 24) (.buildSlice 22 2 #[(0, .tmp 21), (1, .tmp 23)]) 22 [(21, .n2 (.put 3 1) (.n2 (.put 2 1) (.n2 (.put 1 1) (.n2 (.put 0 1) (.lit (.agg #[(str []), (.int .i64 0), (.slice none 0 0), (str []), (.bool false)])) (.lit (str [97]))) (.lit (.int .i64 1))) (.slot 20)) (.lit (str [120]))), (23, .n2 (.put 3 1) (.n2 (.put 2 1) (.n2 (.put 1 1) (.n2 (.put 0 1) (.lit (.agg #[(str []), (.int .i64 0), (.slice none 0 0), (str []), (.bool false)])) (.lit (str [98]))) (.lit (.int .i64 2))) (.slot 22)) (.lit (str [120])))] none [],
    .eff (some 25) (.call { callee := .value (.func 11), args := #[.tmp 24], argTypes := #[22] }) 25 [(24, .slot 24)] none [],
    .asg 3 (.slot 25)])
  h9_3)
def h9_1 : HC :=
  (.seq
  (.reg [.eff (some 13) (.buildSlice 32 1 #[(0, .const (str [97]))]) 32 [] none [],
    .need (.n2 (.put 0 1) (.lit (.agg #[(str []), (.int .i64 0), (.slice none 0 0), (str []), (.bool false)])) (.lit (str [98]))),
    .need (.n2 (.put 1 1) (.n2 (.put 0 1) (.lit (.agg #[(str []), (.int .i64 0), (.slice none 0 0), (str []), (.bool false)])) (.lit (str [98]))) (.lit (.int .i64 2))),
    .need (.n2 (.put 2 1) (.n2 (.put 1 1) (.n2 (.put 0 1) (.lit (.agg #[(str []), (.int .i64 0), (.slice none 0 0), (str []), (.bool false)])) (.lit (str [98]))) (.lit (.int .i64 2))) (.slot 13)),
    .need (.n2 (.put 3 1) (.n2 (.put 2 1) (.n2 (.put 1 1) (.n2 (.put 0 1) (.lit (.agg #[(str []), (.int .i64 0), (.slice none 0 0), (str []), (.bool false)])) (.lit (str [98]))) (.lit (.int .i64 2))) (.slot 13)) (.lit (str [120]))),
    .need (.n2 (.put 4 1) (.n2 (.put 3 1) (.n2 (.put 2 1) (.n2 (.put 1 1) (.n2 (.put 0 1) (.lit (.agg #[(str []), (.int .i64 0), (.slice none 0 0), (str []), (.bool false)])) (.lit (str [98]))) (.lit (.int .i64 2))) (.slot 13)) (.lit (str [120]))) (.lit (.bool true))),
    .eff (some 15) (.buildSlice 32 1 #[(0, .const (str [97]))]) 32 [] none [],
    .need (.n2 (.put 0 1) (.lit (.agg #[(str []), (.int .i64 0), (.slice none 0 0), (str []), (.bool false)])) (.lit (str [99]))),
    .need (.n2 (.put 1 1) (.n2 (.put 0 1) (.lit (.agg #[(str []), (.int .i64 0), (.slice none 0 0), (str []), (.bool false)])) (.lit (str [99]))) (.lit (.int .i64 3))),
    .need (.n2 (.put 2 1) (.n2 (.put 1 1) (.n2 (.put 0 1) (.lit (.agg #[(str []), (.int .i64 0), (.slice none 0 0), (str []), (.bool false)])) (.lit (str [99]))) (.lit (.int .i64 3))) (.slot 15)),
    .need (.n2 (.put 3 1) (.n2 (.put 2 1) (.n2 (.put 1 1) (.n2 (.put 0 1) (.lit (.agg #[(str []), (.int .i64 0), (.slice none 0 0), (str []), (.bool false)])) (.lit (str [99]))) (.lit (.int .i64 3))) (.slot 15)) (.lit (str [120]))),
    .need (.n2 (.put 4 1) (.n2 (.put 3 1) (.n2 (.put 2 1) (.n2 (.put 1 1) (.n2 (.put 0 1) (.lit (.agg #[(str []), (.int .i64 0), (.slice none 0 0), (str []), (.bool false)])) (.lit (str [99]))) (.lit (.int .i64 3))) (.slot 15)) (.lit (str [120]))) (.lit (.bool true))),
    .need (.n2 (.put 0 1) (.lit (.agg #[(str []), (.int .i64 0), (.slice none 0 0), (str []), (.bool false)])) (.lit (str [100]))),
    .need (.n2 (.put 1 1) (.n2 (.put 0 1) (.lit (.agg #[(str []), (.int .i64 0), (.slice none 0 0), (str []), (.bool false)])) (.lit (str [100]))) (.lit (.int .i64 1))),
    .need (.n2 (.put 3 1) (.n2 (.put 1 1) (.n2 (.put 0 1) (.lit (.agg #[(str []), (.int .i64 0), (.slice none 0 0), (str []), (.bool false)])) (.lit (str [100]))) (.lit (.int .i64 1))) (.lit (str [121]))),
    .eff (some 18) (.buildSlice 22 3 #[(0, .tmp 14), (1, .tmp 16), (2, .tmp 17)]) 22 [(14, .n2 (.put 4 1) (.n2 (.put 3 1) (.n2 (.put 2 1) (.n2 (.put 1 1) (.n2 (.put 0 1) (.lit (.agg #[(str []), (.int .i64 0), (.slice none 0 0), (str []), (.bool false)])) (.lit (str [98]))) (.lit (.int .i64 2))) (.slot 13)) (.lit (str [120]))) (.lit (.bool true))), (16, .n2 (.put 4 1) (.n2 (.put 3 1) (.n2 (.put 2 1) (.n2 (.put 1 1) (.n2 (.put 0 1) (.lit (.agg #[(str []), (.int .i64 0), (.slice none 0 0), (str []), (.bool false)])) (.lit (str [99]))) (.lit (.int .i64 3))) (.slot 15)) (.lit (str [120]))) (.lit (.bool true))), (17, .n2 (.put 3 1) (.n2 (.put 1 1) (.n2 (.put 0 1) (.lit (.agg #[(str []), (.int .i64 0), (.slice none 0 0), (str []), (.bool false)])) (.lit (str [100]))) (.lit (.int .i64 1))) (.lit (str [121])))] none [],
    .eff (some 19) (.call { callee := .value (.func 11), args := #[.tmp 18], argTypes := #[22] }) 25 [(18, .slot 18)] none [],
    .asg 2 (.slot 19)])
  h9_2)
def h9 : HC :=
  (.seq
  (.reg [.asg 0 (.lit (.bool false))])
  (.seq
  (.reg [.eff (some 6) (.buildSlice 32 2 #[(0, .const (str [97])), (1, .const (str [98]))]) 32 [] none [],
    .need (.n2 (.put 0 1) (.lit (.agg #[(str []), (.int .i64 0), (.slice none 0 0), (str []), (.bool false)])) (.lit (str [99]))),
    .need (.n2 (.put 1 1) (.n2 (.put 0 1) (.lit (.agg #[(str []), (.int .i64 0), (.slice none 0 0), (str []), (.bool false)])) (.lit (str [99]))) (.lit (.int .i64 3))),
    .need (.n2 (.put 2 1) (.n2 (.put 1 1) (.n2 (.put 0 1) (.lit (.agg #[(str []), (.int .i64 0), (.slice none 0 0), (str []), (.bool false)])) (.lit (str [99]))) (.lit (.int .i64 3))) (.slot 6)),
    .need (.n2 (.put 3 1) (.n2 (.put 2 1) (.n2 (.put 1 1) (.n2 (.put 0 1) (.lit (.agg #[(str []), (.int .i64 0), (.slice none 0 0), (str []), (.bool false)])) (.lit (str [99]))) (.lit (.int .i64 3))) (.slot 6)) (.lit (str [120]))),
    .need (.n2 (.put 4 1) (.n2 (.put 3 1) (.n2 (.put 2 1) (.n2 (.put 1 1) (.n2 (.put 0 1) (.lit (.agg #[(str []), (.int .i64 0), (.slice none 0 0), (str []), (.bool false)])) (.lit (str [99]))) (.lit (.int .i64 3))) (.slot 6)) (.lit (str [120]))) (.lit (.bool true))),
    .need (.n2 (.put 0 1) (.lit (.agg #[(str []), (.int .i64 0), (.slice none 0 0), (str []), (.bool false)])) (.lit (str [97]))),
    .need (.n2 (.put 1 1) (.n2 (.put 0 1) (.lit (.agg #[(str []), (.int .i64 0), (.slice none 0 0), (str []), (.bool false)])) (.lit (str [97]))) (.lit (.int .i64 1))),
    .need (.n2 (.put 3 1) (.n2 (.put 1 1) (.n2 (.put 0 1) (.lit (.agg #[(str []), (.int .i64 0), (.slice none 0 0), (str []), (.bool false)])) (.lit (str [97]))) (.lit (.int .i64 1))) (.lit (str [120]))),
    .eff (some 9) (.buildSlice 32 1 #[(0, .const (str [97]))]) 32 [] none [],
    .need (.n2 (.put 0 1) (.lit (.agg #[(str []), (.int .i64 0), (.slice none 0 0), (str []), (.bool false)])) (.lit (str [98]))),
    .need (.n2 (.put 1 1) (.n2 (.put 0 1) (.lit (.agg #[(str []), (.int .i64 0), (.slice none 0 0), (str []), (.bool false)])) (.lit (str [98]))) (.lit (.int .i64 2))),
    .need (.n2 (.put 2 1) (.n2 (.put 1 1) (.n2 (.put 0 1) (.lit (.agg #[(str []), (.int .i64 0), (.slice none 0 0), (str []), (.bool false)])) (.lit (str [98]))) (.lit (.int .i64 2))) (.slot 9)),
    .need (.n2 (.put 3 1) (.n2 (.put 2 1) (.n2 (.put 1 1) (.n2 (.put 0 1) (.lit (.agg #[(str []), (.int .i64 0), (.slice none 0 0), (str []), (.bool false)])) (.lit (str [98]))) (.lit (.int .i64 2))) (.slot 9)) (.lit (str [120]))),
    .need (.n2 (.put 4 1) (.n2 (.put 3 1) (.n2 (.put 2 1) (.n2 (.put 1 1) (.n2 (.put 0 1) (.lit (.agg #[(str []), (.int .i64 0), (.slice none 0 0), (str []), (.bool false)])) (.lit (str [98]))) (.lit (.int .i64 2))) (.slot 9)) (.lit (str [120]))) (.lit (.bool true))),
    .eff (some 11) (.buildSlice 22 3 #[(0, .tmp 7), (1, .tmp 8), (2, .tmp 10)]) 22 [(7, .n2 (.put 4 1) (.n2 (.put 3 1) (.n2 (.put 2 1) (.n2 (.put 1 1) (.n2 (.put 0 1) (.lit (.agg #[(str []), (.int .i64 0), (.slice none 0 0), (str []), (.bool false)])) (.lit (str [99]))) (.lit (.int .i64 3))) (.slot 6)) (.lit (str [120]))) (.lit (.bool true))), (8, .n2 (.put 3 1) (.n2 (.put 1 1) (.n2 (.put 0 1) (.lit (.agg #[(str []), (.int .i64 0), (.slice none 0 0), (str []), (.bool false)])) (.lit (str [97]))) (.lit (.int .i64 1))) (.lit (str [120]))), (10, .n2 (.put 4 1) (.n2 (.put 3 1) (.n2 (.put 2 1) (.n2 (.put 1 1) (.n2 (.put 0 1) (.lit (.agg #[(str []), (.int .i64 0), (.slice none 0 0), (str []), (.bool false)])) (.lit (str [98]))) (.lit (.int .i64 2))) (.slot 9)) (.lit (str [120]))) (.lit (.bool true)))] none [],
    .eff (some 12) (.call { callee := .value (.func 11), args := #[.tmp 11], argTypes := #[22] }) 25 [(11, .slot 11)] none [],
    .asg 1 (.slot 12)])
  h9_1))
theorem k9 : fnOK Try.prog 1736164149376629375 [] [.tmp 0] 0 Try.f9 = some h9 := by kernel_rfl
theorem c9 : callable Try.prog 9 = true := by kernel_rfl
theorem q9 {args : List Value} (ha : args.length = 0) {w : World} {next : Value → World → Prop} {QP : List PanicEntry → World → Prop} (H : hw Try.prog noPanic h9 (endV [.tmp 0] next) (σ0 args) w) : callK Try.prog 9 args w next QP := fn_rule Try.func9 mixed k9 ha H
theorem r9 {args : List Value} (ha : args.length = 0) {w : World} {next : Value → World → Prop} {QP : List PanicEntry → World → Prop} (H : hw Try.prog noPanic h9 (endV [.tmp 0] next) (σ0 args) w) : callvK Try.prog (.func (.func 9) #[] #[]) args w next QP := callf c9 (q9 ha H)

/- missive/missivelaw21.few -/
def h10_4 : HC :=
  (.reg [.need (.n2 (.bin .add) (.slot 3) (.lit (.int .i64 1))),
    .asg 3 (.n2 (.bin .add) (.slot 3) (.lit (.int .i64 1)))])
def h10_3 : HC :=
  (.seq
  (.block 1
    (.seq
    (.reg [.need (.n2 (.iaddr 5) (.slot 0) (.slot 3)),
      .need (.n1 (.faddr 2) (.n2 (.iaddr 5) (.slot 0) (.slot 3))),
      .need (.n1 .ld (.n1 (.faddr 2) (.n2 (.iaddr 5) (.slot 0) (.slot 3)))),
      .need (.n1 .lensl (.n1 .ld (.n1 (.faddr 2) (.n2 (.iaddr 5) (.slot 0) (.slot 3))))),
      .need (.n2 (.bin .gtr) (.n1 .lensl (.n1 .ld (.n1 (.faddr 2) (.n2 (.iaddr 5) (.slot 0) (.slot 3))))) (.lit (.int .i64 20))),
      .need (.gif (.n2 (.bin .gtr) (.n1 .lensl (.n1 .ld (.n1 (.faddr 2) (.n2 (.iaddr 5) (.slot 0) (.slot 3))))) (.lit (.int .i64 20))) false (.n2 (.iaddr 5) (.slot 0) (.slot 3))),
      .need (.gif (.n2 (.bin .gtr) (.n1 .lensl (.n1 .ld (.n1 (.faddr 2) (.n2 (.iaddr 5) (.slot 0) (.slot 3))))) (.lit (.int .i64 20))) false (.n1 (.faddr 3) (.n2 (.iaddr 5) (.slot 0) (.slot 3)))),
      .need (.gif (.n2 (.bin .gtr) (.n1 .lensl (.n1 .ld (.n1 (.faddr 2) (.n2 (.iaddr 5) (.slot 0) (.slot 3))))) (.lit (.int .i64 20))) false (.n1 .ld (.n1 (.faddr 3) (.n2 (.iaddr 5) (.slot 0) (.slot 3))))),
      .need (.gif (.n2 (.bin .gtr) (.n1 .lensl (.n1 .ld (.n1 (.faddr 2) (.n2 (.iaddr 5) (.slot 0) (.slot 3))))) (.lit (.int .i64 20))) false (.n1 .lens (.n1 .ld (.n1 (.faddr 3) (.n2 (.iaddr 5) (.slot 0) (.slot 3)))))),
      .need (.gif (.n2 (.bin .gtr) (.n1 .lensl (.n1 .ld (.n1 (.faddr 2) (.n2 (.iaddr 5) (.slot 0) (.slot 3))))) (.lit (.int .i64 20))) false (.n2 (.bin .gtr) (.n1 .lens (.n1 .ld (.n1 (.faddr 3) (.n2 (.iaddr 5) (.slot 0) (.slot 3))))) (.lit (.int .i64 200)))),
      .need (.n3 .pick (.n2 (.bin .gtr) (.n1 .lensl (.n1 .ld (.n1 (.faddr 2) (.n2 (.iaddr 5) (.slot 0) (.slot 3))))) (.lit (.int .i64 20))) (.lit (.bool true)) (.n2 (.bin .gtr) (.n1 .lens (.n1 .ld (.n1 (.faddr 3) (.n2 (.iaddr 5) (.slot 0) (.slot 3))))) (.lit (.int .i64 200)))),
      .asg 33 (.n3 .pick (.n2 (.bin .gtr) (.n1 .lensl (.n1 .ld (.n1 (.faddr 2) (.n2 (.iaddr 5) (.slot 0) (.slot 3))))) (.lit (.int .i64 20))) (.lit (.bool true)) (.n2 (.bin .gtr) (.n1 .lens (.n1 .ld (.n1 (.faddr 3) (.n2 (.iaddr 5) (.slot 0) (.slot 3))))) (.lit (.int .i64 200))))])
    (.cond (.slot 33)
      (.seq
      (.reg [.asg 2 (.lit (.bool false))])
      .ret)
      .skip)))
  h10_4)
def h10_2 : HC :=
  (.seq
  (.seq
  (.reg [.need (.n1 .lensl (.slot 0)),
    .need (.n2 (.bin .lss) (.slot 3) (.n1 .lensl (.slot 0))),
    .asg 15 (.n2 (.bin .lss) (.slot 3) (.n1 .lensl (.slot 0)))])
  (.cond (.slot 15)
    .skip
    (.exit 0)))
  h10_3)
def h10_5 : HC :=
  (.seq
  (.reg [.asg 2 (.lit (.bool true))])
  .ret)
def h10_1 : HC :=
  (.seq
  (.seq
  (.reg [.asg 3 (.lit (.int .i64 0))])
  (.block 0
    (.loop
      h10_2)))
  h10_5)
def h10 : HC :=
  (.seq
  (.reg [.asg 2 (.lit (.bool false))])
  (.seq
  (.seq
  (.reg [.need (.n1 .lensl (.slot 0)),
    .need (.n2 (.bin .gtr) (.n1 .lensl (.slot 0)) (.lit (.int .i64 40))),
    .eff (some 9) (.call { callee := .value (.func 26), args := #[.tmp 8], argTypes := #[22] }) 4 [(8, .slot 0)] (some (.n2 (.bin .gtr) (.n1 .lensl (.slot 0)) (.lit (.int .i64 40)), false)) [],
    .need (.gif (.n2 (.bin .gtr) (.n1 .lensl (.slot 0)) (.lit (.int .i64 40))) false (.n1 .bnot (.slot 9))),
    .need (.n3 .pick (.n2 (.bin .gtr) (.n1 .lensl (.slot 0)) (.lit (.int .i64 40))) (.lit (.bool true)) (.n1 .bnot (.slot 9))),
    .asg 11 (.n3 .pick (.n2 (.bin .gtr) (.n1 .lensl (.slot 0)) (.lit (.int .i64 40))) (.lit (.bool true)) (.n1 .bnot (.slot 9)))])
  (.cond (.slot 11)
    (.seq
    (.reg [.asg 2 (.lit (.bool false))])
    .ret)
    .skip))
  h10_1))
theorem k10 : fnOK Try.prog 8589969933 [] [.tmp 2] 1 Try.f10 = some h10 := by kernel_rfl
theorem c10 : callable Try.prog 10 = true := by kernel_rfl
theorem q10 {args : List Value} (ha : args.length = 1) {w : World} {next : Value → World → Prop} {QP : List PanicEntry → World → Prop} (H : hw Try.prog noPanic h10 (endV [.tmp 2] next) (σ0 args) w) : callK Try.prog 10 args w next QP := fn_rule Try.func10 mixed k10 ha H
theorem r10 {args : List Value} (ha : args.length = 1) {w : World} {next : Value → World → Prop} {QP : List PanicEntry → World → Prop} (H : hw Try.prog noPanic h10 (endV [.tmp 2] next) (σ0 args) w) : callvK Try.prog (.func (.func 10) #[] #[]) args w next QP := callf c10 (q10 ha H)

/- missive/missivelaw21.find -/
def h13_3 : HC :=
  (.reg [.need (.n2 (.bin .add) (.slot 5) (.lit (.int .i64 1))),
    .asg 5 (.n2 (.bin .add) (.slot 5) (.lit (.int .i64 1)))])
def h13_2 : HC :=
  (.seq
  (.block 1
    (.seq
    (.reg [.need (.n2 (.iaddr 4) (.slot 0) (.slot 5)),
      .need (.n1 (.faddr 0) (.n2 (.iaddr 4) (.slot 0) (.slot 5))),
      .need (.n1 .ld (.n1 (.faddr 0) (.n2 (.iaddr 4) (.slot 0) (.slot 5)))),
      .need (.n2 (.sbin .eql) (.n1 .ld (.n1 (.faddr 0) (.n2 (.iaddr 4) (.slot 0) (.slot 5)))) (.slot 1)),
      .asg 18 (.n2 (.sbin .eql) (.n1 .ld (.n1 (.faddr 0) (.n2 (.iaddr 4) (.slot 0) (.slot 5)))) (.slot 1))])
    (.cond (.slot 18)
      (.seq
      (.reg [.asg 4 (.slot 5)])
      .ret)
      .skip)))
  h13_3)
def h13_1 : HC :=
  (.seq
  (.seq
  (.reg [.need (.n1 .lensl (.slot 0)),
    .need (.n2 (.bin .lss) (.slot 5) (.n1 .lensl (.slot 0))),
    .asg 9 (.n2 (.bin .lss) (.slot 5) (.n1 .lensl (.slot 0)))])
  (.cond (.slot 9)
    .skip
    (.exit 0)))
  h13_2)
def h13_4 : HC :=
  (.seq
  (.reg [.asg 4 (.lit (.int .i64 (-1)))])
  .ret)
def h13 : HC :=
  (.seq
  (.reg [.asg 4 (.lit (.int .i64 0))])
  (.seq
  (.seq
  (.reg [.asg 5 (.lit (.int .i64 0))])
  (.block 0
    (.loop
      h13_1)))
  h13_4))
theorem k13 : fnOK Try.prog 262707 [] [.tmp 4] 2 Try.f13 = some h13 := by kernel_rfl
theorem c13 : callable Try.prog 13 = true := by kernel_rfl
theorem q13 {args : List Value} (ha : args.length = 2) {w : World} {next : Value → World → Prop} {QP : List PanicEntry → World → Prop} (H : hw Try.prog noPanic h13 (endV [.tmp 4] next) (σ0 args) w) : callK Try.prog 13 args w next QP := fn_rule Try.func13 mixed k13 ha H
theorem r13 {args : List Value} (ha : args.length = 2) {w : World} {next : Value → World → Prop} {QP : List PanicEntry → World → Prop} (H : hw Try.prog noPanic h13 (endV [.tmp 4] next) (σ0 args) w) : callvK Try.prog (.func (.func 13) #[] #[]) args w next QP := callf c13 (q13 ha H)

/- missive/missivelaw21.circle -/
def h18_3 : HC :=
  (.reg [.eff (some 38) (.call { callee := .value (.func 17), args := #[.tmp 36, .tmp 37], argTypes := #[22, 3] }) 3 [(36, .slot 0), (37, .slot 5)] none [],
    .asg 5 (.slot 38)])
def h18_4 : HC :=
  (.reg [.need (.n2 (.bin .add) (.slot 6) (.lit (.int .i64 1))),
    .asg 6 (.n2 (.bin .add) (.slot 6) (.lit (.int .i64 1)))])
def h18_2 : HC :=
  (.seq
  (.block 1
    (.seq
    (.seq
    (.draw [.need (.n2 (.iaddr 5) (.slot 0) (.slot 5)),
      .need (.n1 (.faddr 0) (.n2 (.iaddr 5) (.slot 0) (.slot 5))),
      .need (.n1 .ld (.n1 (.faddr 0) (.n2 (.iaddr 5) (.slot 0) (.slot 5)))),
      .need (.n2 (.iaddr 5) (.slot 0) (.slot 1)),
      .need (.n1 (.faddr 0) (.n2 (.iaddr 5) (.slot 0) (.slot 1))),
      .need (.n1 .ld (.n1 (.faddr 0) (.n2 (.iaddr 5) (.slot 0) (.slot 1)))),
      .need (.n2 (.sbin .lss) (.n1 .ld (.n1 (.faddr 0) (.n2 (.iaddr 5) (.slot 0) (.slot 5)))) (.n1 .ld (.n1 (.faddr 0) (.n2 (.iaddr 5) (.slot 0) (.slot 1))))),
      .asg 35 (.n2 (.sbin .lss) (.n1 .ld (.n1 (.faddr 0) (.n2 (.iaddr 5) (.slot 0) (.slot 5)))) (.n1 .ld (.n1 (.faddr 0) (.n2 (.iaddr 5) (.slot 0) (.slot 1)))))])
    (.cond (.slot 35)
      (.seq
      (.reg [.asg 4 (.lit (.bool false))])
      .ret)
      .skip))
    h18_3))
  h18_4)
def h18_1 : HC :=
  (.seq
  (.seq
  (.reg [.need (.n1 .lensl (.slot 0)),
    .need (.n2 (.bin .lss) (.slot 6) (.n1 .lensl (.slot 0))),
    .need (.gif (.n2 (.bin .lss) (.slot 6) (.n1 .lensl (.slot 0))) true (.n2 (.bin .geq) (.slot 5) (.lit (.int .i64 0)))),
    .need (.n3 .pick (.n2 (.bin .lss) (.slot 6) (.n1 .lensl (.slot 0))) (.n2 (.bin .geq) (.slot 5) (.lit (.int .i64 0))) (.lit (.bool false))),
    .need (.gif (.n3 .pick (.n2 (.bin .lss) (.slot 6) (.n1 .lensl (.slot 0))) (.n2 (.bin .geq) (.slot 5) (.lit (.int .i64 0))) (.lit (.bool false))) true (.n2 (.bin .neq) (.slot 5) (.slot 1))),
    .need (.n3 .pick (.n3 .pick (.n2 (.bin .lss) (.slot 6) (.n1 .lensl (.slot 0))) (.n2 (.bin .geq) (.slot 5) (.lit (.int .i64 0))) (.lit (.bool false))) (.n2 (.bin .neq) (.slot 5) (.slot 1)) (.lit (.bool false))),
    .asg 22 (.n3 .pick (.n3 .pick (.n2 (.bin .lss) (.slot 6) (.n1 .lensl (.slot 0))) (.n2 (.bin .geq) (.slot 5) (.lit (.int .i64 0))) (.lit (.bool false))) (.n2 (.bin .neq) (.slot 5) (.slot 1)) (.lit (.bool false)))])
  (.cond (.slot 22)
    .skip
    (.exit 0)))
  h18_2)
def h18_5 : HC :=
  (.seq
  (.reg [.need (.n2 (.bin .eql) (.slot 5) (.slot 1)),
    .asg 4 (.n2 (.bin .eql) (.slot 5) (.slot 1))])
  .ret)
def h18 : HC :=
  (.seq
  (.reg [.asg 4 (.lit (.bool false))])
  (.seq
  (.reg [.eff (some 9) (.call { callee := .value (.func 17), args := #[.tmp 7, .tmp 8], argTypes := #[22, 3] }) 3 [(7, .slot 0), (8, .slot 1)] none [],
    .asg 5 (.slot 9)])
  (.seq
  (.seq
  (.reg [.asg 6 (.lit (.int .i64 0))])
  (.block 0
    (.loop
      h18_1)))
  h18_5)))
theorem k18 : fnOK Try.prog 309241840243 [⟨5, [0, 0, 3, 7, 15, 0, 0, 96, 224, 480, 1023], [(0, []), (1, []), (2, []), (3, []), (4, []), (5, []), (6, []), (7, []), (8, []), (9, []), (10, [])], none⟩] [.tmp 4] 2 Try.f18 = some h18 := by kernel_rfl
theorem c18 : callable Try.prog 18 = true := by kernel_rfl
theorem q18 {args : List Value} (ha : args.length = 2) {w : World} {next : Value → World → Prop} {QP : List PanicEntry → World → Prop} (H : hw Try.prog noPanic h18 (endV [.tmp 4] next) (σ0 args) w) : callK Try.prog 18 args w next QP := fn_rule Try.func18 mixed k18 ha H
theorem r18 {args : List Value} (ha : args.length = 2) {w : World} {next : Value → World → Prop} {QP : List PanicEntry → World → Prop} (H : hw Try.prog noPanic h18 (endV [.tmp 4] next) (σ0 args) w) : callvK Try.prog (.func (.func 18) #[] #[]) args w next QP := callf c18 (q18 ha H)

/- missive/missivelaw21.circles -/
def h20_5 : HC :=
  (.reg [.eff (some 30) (.call { callee := .value (.func 17), args := #[.tmp 28, .tmp 29], argTypes := #[22, 3] }) 3 [(28, .slot 0), (29, .slot 4)] none [],
    .asg 4 (.slot 30)])
def h20_6 : HC :=
  (.reg [.need (.n2 (.bin .add) (.slot 5) (.lit (.int .i64 1))),
    .asg 5 (.n2 (.bin .add) (.slot 5) (.lit (.int .i64 1)))])
def h20_4 : HC :=
  (.seq
  (.block 3
    (.seq
    (.seq
    (.reg [.need (.n2 (.bin .eql) (.slot 4) (.slot 3)),
      .asg 27 (.n2 (.bin .eql) (.slot 4) (.slot 3))])
    (.cond (.slot 27)
      (.seq
      (.reg [.asg 2 (.lit (.bool true))])
      .ret)
      .skip))
    h20_5))
  h20_6)
def h20_3 : HC :=
  (.seq
  (.seq
  (.reg [.need (.n1 .lensl (.slot 0)),
    .need (.n2 (.bin .lss) (.slot 5) (.n1 .lensl (.slot 0))),
    .need (.gif (.n2 (.bin .lss) (.slot 5) (.n1 .lensl (.slot 0))) true (.n2 (.bin .geq) (.slot 4) (.lit (.int .i64 0)))),
    .need (.n3 .pick (.n2 (.bin .lss) (.slot 5) (.n1 .lensl (.slot 0))) (.n2 (.bin .geq) (.slot 4) (.lit (.int .i64 0))) (.lit (.bool false))),
    .asg 22 (.n3 .pick (.n2 (.bin .lss) (.slot 5) (.n1 .lensl (.slot 0))) (.n2 (.bin .geq) (.slot 4) (.lit (.int .i64 0))) (.lit (.bool false)))])
  (.cond (.slot 22)
    .skip
    (.exit 2)))
  h20_4)
def h20_7 : HC :=
  (.reg [.need (.n2 (.bin .add) (.slot 3) (.lit (.int .i64 1))),
    .asg 3 (.n2 (.bin .add) (.slot 3) (.lit (.int .i64 1)))])
def h20_2 : HC :=
  (.seq
  (.block 1
    (.seq
    (.reg [.eff (some 14) (.call { callee := .value (.func 17), args := #[.tmp 12, .tmp 13], argTypes := #[22, 3] }) 3 [(12, .slot 0), (13, .slot 3)] none [],
      .asg 4 (.slot 14)])
    (.seq
    (.reg [.asg 5 (.lit (.int .i64 0))])
    (.block 2
      (.loop
        h20_3)))))
  h20_7)
def h20_1 : HC :=
  (.seq
  (.seq
  (.reg [.need (.n1 .lensl (.slot 0)),
    .need (.n2 (.bin .lss) (.slot 3) (.n1 .lensl (.slot 0))),
    .asg 9 (.n2 (.bin .lss) (.slot 3) (.n1 .lensl (.slot 0)))])
  (.cond (.slot 9)
    .skip
    (.exit 0)))
  h20_2)
def h20_8 : HC :=
  (.seq
  (.reg [.asg 2 (.lit (.bool false))])
  .ret)
def h20 : HC :=
  (.seq
  (.reg [.asg 2 (.lit (.bool false))])
  (.seq
  (.seq
  (.reg [.asg 3 (.lit (.int .i64 0))])
  (.block 0
    (.loop
      h20_1)))
  h20_8))
theorem k20 : fnOK Try.prog 1212170813 [] [.tmp 2] 1 Try.f20 = some h20 := by kernel_rfl
theorem c20 : callable Try.prog 20 = true := by kernel_rfl
theorem q20 {args : List Value} (ha : args.length = 1) {w : World} {next : Value → World → Prop} {QP : List PanicEntry → World → Prop} (H : hw Try.prog noPanic h20 (endV [.tmp 2] next) (σ0 args) w) : callK Try.prog 20 args w next QP := fn_rule Try.func20 mixed k20 ha H
theorem r20 {args : List Value} (ha : args.length = 1) {w : World} {next : Value → World → Prop} {QP : List PanicEntry → World → Prop} (H : hw Try.prog noPanic h20 (endV [.tmp 2] next) (σ0 args) w) : callvK Try.prog (.func (.func 20) #[] #[]) args w next QP := callf c20 (q20 ha H)

end Go.Proofs.Y

/- TE: thread: what study lays; circles and their breakers. -/
namespace Go.Proofs.Y
open Go Go.HL Go.Proofs

/-! ### plain: rounds of circles -/
structure CI (its : List It) (i : Nat) (st : List Int) (br : List Bool) : Prop where
  ls : st.length = its.length
  lb : br.length = its.length
  two : ∀ x, x < its.length → st[x]? = some 0 ∨ st[x]? = some 2
  past : ∀ x, x < i → st[x]? = some 2
  shut : ∀ x j, st[x]? = some 2 → nearI its x = some j → st[j]? = some 2
  brk : ∀ x, x < its.length → br[x]? = some (decide (st[x]? = some 2) && brkI its x)
/-- on the way -/
structure CP (its : List It) (i : Nat) (st st' : List Int) (p : List Nat) (k : Option Nat) : Prop where
  chain : Chain (nearI its) p k
  nodup : p.Nodup
  lt : ∀ x ∈ p, x < its.length
  ls : st'.length = its.length
  get : ∀ x, x < its.length → st'[x]? = if x ∈ p then some 1 else st[x]?
  was : ∀ x ∈ p, st[x]? = some 0
  klt : ∀ j, k = some j → j < its.length
  beg : (p = [] ∧ k = some i) ∨ i ∈ p
theorem CP.start {its : List It} {i : Nat} {st : List Int} (hi : i < its.length) (hl : st.length = its.length) : CP its i st st [] (some i) :=
  ⟨fun t x h => by simp at h, by simp, by simp, hl, by simp, by simp, fun j h => by obtain rfl := Option.some.inj h; exact hi, .inl ⟨rfl, rfl⟩⟩
theorem CP.step {its : List It} {i j : Nat} {st st' : List Int} {p : List Nat} (h : CP its i st st' p (some j)) (h0 : st'[j]? = some 0) : CP its i st (st'.set j 1) (p ++ [j]) (nearI its j) := by
  have hj := h.klt j rfl
  have hjp : j ∉ p := fun hp => by
    rw [h.get j hj, if_pos hp] at h0; cases h0
  have h0' : st[j]? = some 0 := by rw [h.get j hj, if_neg hjp] at h0; exact h0
  refine ⟨h.chain.snoc, ?_, ?_, by simpa using h.ls, fun x hx => ?_, ?_, fun x hx => nearI_lt hx, ?_⟩
  · exact List.nodup_append.2 ⟨h.nodup, by simp, fun a ha b hb e => hjp (by simp at hb; rw [← hb, ← e]; exact ha)⟩
  · intro x hx
    rcases List.mem_append.1 hx with hx | hx
    · exact h.lt x hx
    · rw [List.mem_singleton.1 hx]; exact hj
  · rw [List.getElem?_set]
    by_cases e : j = x
    · subst e
      rw [if_pos rfl, if_pos (by rw [h.ls]; exact hj), if_pos (by simp)]
    · rw [if_neg e, h.get x hx]
      have : (x ∈ p ++ [j]) ↔ x ∈ p := by simp [Ne.symm e]
      simp only [this]
  · intro x hx
    rcases List.mem_append.1 hx with hx | hx
    · exact h.was x hx
    · rw [List.mem_singleton.1 hx]; exact h0'
  · rcases h.beg with ⟨-, e⟩ | e
    · obtain rfl := Option.some.inj e
      exact .inr (by simp)
    · exact .inr (by simp [e])
theorem idAt_at {its : List It} {i : Nat} (h : i < its.length) : idAt its i = its[i].id := by
  unfold idAt; rw [List.getElem?_eq_getElem h]
theorem idAt_inj {its : List It} (hd : dist its) {x y : Nat} (hx : x < its.length) (hy : y < its.length) (e : idAt its x = idAt its y) : x = y := by
  rw [idAt_at hx, idAt_at hy] at e
  exact dist_at hd hx hy e
theorem brkI_iff {its : List It} {i : Nat} (hi : i < its.length) : brkI its i = true ↔ Brk (nearI its) (idAt its) i := brkL_Brk (n := its.length) _ (fun i j h => nearI_lt h) hi
/-- the end of a way that leads to nothing new -/
theorem CI.free {its : List It} {i : Nat} {st st' st2 : List Int} {br : List Bool} {p : List Nat} {k : Option Nat} (h : CI its i st br) (c : CP its i st st' p k) (hk : ∀ j, k = some j → st[j]? = some 2)
    (h2 : ∀ x, x < its.length → st2[x]? = if x ∈ p then some 2 else st[x]?) (hl : st2.length = its.length) : CI its (i + 1) st2 br := by
  have hD : ∀ x j, st[x]? = some 2 → nearI its x = some j → st[j]? = some 2 := h.shut
  have hfree := path_free (D := fun x => st[x]? = some 2) c.chain c.nodup hD hk (fun x hx e => by rw [c.was x hx] at e; cases e)
  refine ⟨hl, h.lb, fun x hx => ?_, fun x hx => ?_, fun x j hx hj => ?_, fun x hx => ?_⟩
  · rw [h2 x hx]
    by_cases e : x ∈ p
    · rw [if_pos e]; exact .inr rfl
    · rw [if_neg e]; exact h.two x hx
  · rcases Nat.lt_or_ge x i with hxi | hxi
    · have hs := h.past x hxi
      have hxl : x < its.length := by rw [← h.ls]; exact (List.getElem?_eq_some_iff.1 hs).1
      rw [h2 x hxl]
      by_cases e : x ∈ p
      · rw [if_pos e]
      · rw [if_neg e]; exact hs
    · obtain rfl : x = i := by omega
      rcases c.beg with ⟨e1, e2⟩ | e
      · rw [h2 x (c.klt x e2), e1, if_neg (by simp)]
        exact hk x e2
      · rw [h2 x (c.lt x e), if_pos e]
  · have hxl : x < its.length := by rw [← hl]; exact (List.getElem?_eq_some_iff.1 hx).1
    have hjl := nearI_lt hj
    rw [h2 x hxl] at hx
    rw [h2 j hjl]
    by_cases ej : j ∈ p
    · rw [if_pos ej]
    · rw [if_neg ej]
      by_cases e : x ∈ p
      · obtain ⟨t, ht⟩ := List.mem_iff_getElem?.1 e
        have := c.chain t x ht
        rw [hj] at this
        cases hn : p[t + 1]? with
        | none => rw [hn] at this; exact hk j this.symm
        | some y =>
          rw [hn] at this
          obtain rfl : j = y := Option.some.inj this
          exact absurd (List.mem_iff_getElem?.2 ⟨_, hn⟩) ej
      · rw [if_neg e] at hx
        exact h.shut x j hx hj
  · rw [h.brk x hx, h2 x hx]
    by_cases e : x ∈ p
    · rw [if_pos e, c.was x e]
      have : brkI its x = false := by
        cases hb : brkI its x
        · rfl
        · exact absurd ((brkI_iff hx).1 hb).1 (hfree x e)
      simp [this]
    · rw [if_neg e]
/-- the end of a way that leads back into itself -/
theorem CI.back {its : List It} {i k s b : Nat} {st st' st2 : List Int} {br : List Bool} {p : List Nat} (hd : dist its) (h : CI its i st br) (c : CP its i st st' p (some k)) (hs : p[s]? = some k)
    (hb : b ∈ p.drop s) (hmin : ∀ y ∈ p.drop s, bl (idAt its y) (idAt its b) = false)
    (h2 : ∀ x, x < its.length → st2[x]? = if x ∈ p then some 2 else st[x]?) (hl : st2.length = its.length) : CI its (i + 1) st2 (br.set b true) := by
  have hkp : k ∈ p := List.mem_iff_getElem?.2 ⟨s, hs⟩
  have hbrk := path_brk (ids := idAt its) c.chain c.nodup hs (fun x hx y hy e => idAt_inj hd (c.lt x hx) (c.lt y hy) e) hb hmin
  have hbp := List.mem_of_mem_drop hb
  refine ⟨hl, by simpa using h.lb, fun x hx => ?_, fun x hx => ?_, fun x j hx hj => ?_, fun x hx => ?_⟩
  · rw [h2 x hx]
    by_cases e : x ∈ p
    · rw [if_pos e]; exact .inr rfl
    · rw [if_neg e]; exact h.two x hx
  · rcases Nat.lt_or_ge x i with hxi | hxi
    · have hs := h.past x hxi
      have hxl : x < its.length := by rw [← h.ls]; exact (List.getElem?_eq_some_iff.1 hs).1
      rw [h2 x hxl]
      by_cases e : x ∈ p
      · rw [if_pos e]
      · rw [if_neg e]; exact hs
    · obtain rfl : x = i := by omega
      rcases c.beg with ⟨e1, e2⟩ | e
      · rw [e1] at hkp; cases hkp
      · rw [h2 x (c.lt x e), if_pos e]
  · have hxl : x < its.length := by rw [← hl]; exact (List.getElem?_eq_some_iff.1 hx).1
    have hjl := nearI_lt hj
    rw [h2 x hxl] at hx
    rw [h2 j hjl]
    by_cases ej : j ∈ p
    · rw [if_pos ej]
    · rw [if_neg ej]
      by_cases e : x ∈ p
      · obtain ⟨t, ht⟩ := List.mem_iff_getElem?.1 e
        have := c.chain t x ht
        rw [hj] at this
        cases hn : p[t + 1]? with
        | none =>
          rw [hn] at this
          obtain rfl : j = k := Option.some.inj this
          exact absurd hkp ej
        | some y =>
          rw [hn] at this
          obtain rfl : j = y := Option.some.inj this
          exact absurd (List.mem_iff_getElem?.2 ⟨_, hn⟩) ej
      · rw [if_neg e] at hx
        exact h.shut x j hx hj
  · rw [List.getElem?_set, h2 x hx]
    by_cases e : x ∈ p
    · rw [if_pos e]
      by_cases ex : b = x
      · subst ex
        rw [if_pos rfl, if_pos (by rw [h.lb]; exact hx)]
        have : brkI its b = true := (brkI_iff hx).2 ((hbrk b e).2 rfl)
        simp [this]
      · rw [if_neg ex, h.brk x hx, c.was x e]
        have : brkI its x = false := by
          cases hb : brkI its x
          · rfl
          · exact absurd ((hbrk x e).1 ((brkI_iff hx).1 hb)).symm ex
        simp [this]
    · have ex : b ≠ x := fun ex => e (ex ▸ hbp)
      rw [if_neg e, if_neg ex, h.brk x hx]

/-! ### the memory -/
def ints (l : List Nat) : List Value := l.map fun (k : Nat) => .int .i64 (k : Int)
theorem ints_rows (l : List Nat) : rows (fun k : Nat => [Value.int .i64 k]) l = ints l := rows_one l
/-- the forest that study lays -/
structure Fo (B : Nat) (w : World) (v : Value) (its : List It) (rvs : List Value) (fb ib nb bb hb : Nat) (ks : List (Bytes × Value)) (ne : List Int) (br : List Bool) (hs : List (Bytes × Value)) (F : Bytes → List Nat) : Prop where
  kp : Kp B w v its rvs
  f : Blk w fb 64 [v, .map (some ib), .slice (some ⟨nb, 0, none⟩) its.length its.length, .slice (some ⟨bb, 0, none⟩) its.length its.length, .map (some hb)]
  ix : Mp w ib ks
  nev : Blk w nb 3 (ne.map fun z => .int .i64 z)
  brv : Blk w bb 4 (br.map .bool)
  hm : HM (fun k : Nat => [Value.int .i64 k]) 3 1 w B hb hs F
  lne : ne.length = its.length
  lbr : br.length = its.length
  diff : [fb, ib, nb, bb, hb].Nodup
  high : ∀ k ∈ [fb, ib, nb, bb, hb], B ≤ k
  own : ∀ p ∈ hs, ∀ k, p.2.ownBlock = some k → k ∉ [fb, ib, nb, bb, hb]
section
variable {B : Nat} {w w' : World} {v : Value} {its : List It} {rvs : List Value} {fb ib nb bb hb : Nat} {ks : List (Bytes × Value)} {ne : List Int} {br : List Bool} {hs : List (Bytes × Value)} {F : Bytes → List Nat}
  {next : Value → World → Prop} {QP : List PanicEntry → World → Prop}
theorem Fo.mod {S : Nat → Prop} (h : Fo B w v its rvs fb ib nb bb hb ks ne br hs F) (m : Mod S w w') (hS : ∀ k, S k → B ≤ k ∧ k ∉ [fb, ib, nb, bb, hb] ∧ ∀ p ∈ hs, p.2.ownBlock ≠ some k) : Fo B w' v its rvs fb ib nb bb hb ks ne br hs F := by
  have hn : ∀ k ∈ [fb, ib, nb, bb, hb], ¬ S k := fun k hk hs => (hS k hs).2.1 hk
  exact ⟨h.kp.mod m fun k hk => (hS k hk).1, h.f.mod m (hn _ (by simp)), h.ix.mod m (hn _ (by simp)), h.nev.mod m (hn _ (by simp)), h.brv.mod m (hn _ (by simp)),
    h.hm.mod m (hn _ (by simp)) fun p hp k hk hs => (hS k hs).2.2 p hp hk, h.lne, h.lbr, h.diff, h.high, h.own⟩
theorem Fo.up (h : Fo B w v its rvs fb ib nb bb hb ks ne br hs F) (m : Mod none' w w') : Fo B w' v its rvs fb ib nb bb hb ks ne br hs F := h.mod m fun _ h => h.elim
theorem Fo.lt (h : Fo B w v its rvs fb ib nb bb hb ks ne br hs F) : ∀ k ∈ [fb, ib, nb, bb, hb], k < w.heap.size := by
  intro k hk
  simp only [List.mem_cons, List.not_mem_nil, or_false] at hk
  rcases hk with rfl | rfl | rfl | rfl | rfl
  · exact h.f.lt
  · exact h.ix.lt
  · exact h.nev.lt
  · exact h.brv.lt
  · exact h.hm.mp.lt
/-- a block that came later is none of its own -/
theorem Fo.later (h : Fo B w v its rvs fb ib nb bb hb ks ne br hs F) {k : Nat} (hk : w.heap.size ≤ k) : B ≤ k ∧ k ∉ [fb, ib, nb, bb, hb] ∧ ∀ p ∈ hs, p.2.ownBlock ≠ some k := by
  refine ⟨Nat.le_trans h.kp.base hk, fun hm => by have := h.lt k hm; omega, fun p hp hpk => ?_⟩
  obtain ⟨l, -, -, own⟩ := h.hm.val p hp
  have := own.lt k hpk
  omega

/-- slices.Index, of a number that is there -/
theorem index_ {p : List Nat} {v : Value} {k : Nat} (hv : Sl w v 1 p.length (ints p)) (hk : k ∈ p) (hn : p.length ≤ 1000000000)
    (kk : ∀ s : Nat, p[s]? = some k → next (.int .i64 s) w) : callvK Try.prog (.func (.func 54) #[] #[]) [v, .int .i64 k] w next QP := by
  refine r54 rfl ?_
  obtain ⟨-, va, vc, rfl, -, hcell⟩ := hv
  unfold h54
  try simp only [go_sem]
  refine loopN p.length (fun i τ w' => τ 0 = .slice va p.length vc ∧ τ 1 = .int .i64 k ∧ τ 7 = .int .i64 p.length ∧ τ 8 = .int .i64 i ∧ k ∉ p.take i ∧ w' = w) ⟨0, by omega, rfl, rfl, rfl, rfl, by simp, rfl⟩ ?_
  rintro i τ w1 hi ⟨t0, t1, t7, t8, hno, rfl⟩
  unfold h54_1
  have hil : i < p.length := by
    rcases Nat.lt_or_ge i p.length with h | h
    · exact h
    · rw [List.take_of_length_le h] at hno; exact absurd hk hno
  have eg : decide ((i : Int) < (p.length : Int)) = true := by simpa using hil
  try simp only [go_sem, t0, t1, t7, t8, eg]
  obtain ⟨g, o, rfl, hce⟩ := hcell (by omega)
  have hc : w1.cell? ⟨g, o + i, none⟩ = some (.int .i64 (p[i] : Nat)) := by
    rw [hce i (by omega)]; simp [ints, hil]
  unfold h54_2
  try simp only [go_sem, t0, t1, t7, t8, hc]
  repeat refine ⟨⟨by omega, by omega⟩, ?_⟩
  refine ⟨fun he => ?_, fun hne => ?_⟩
  · have he : k = p[i] := by have := of_decide_eq_true he; omega
    try simp only [go_sem, t0, t1, t7, t8]
    exact kk i (by rw [List.getElem?_eq_getElem hil, he])
  · have hne : ¬ k = p[i] := by have := of_decide_eq_false hne; omega
    unfold h54_3
    try simp only [go_sem, t0, t1, t7, t8]
    rw [w64 (by omega) (by omega)]
    have hno' : k ∉ p.take (i + 1) := by
      rw [List.take_succ_eq_append_getElem hil]
      intro h
      rcases List.mem_append.1 h with h | h
      · exact hno h
      · exact hne (List.mem_singleton.1 h)
    refine ⟨i + 1, by omega, by omega, ?_⟩
    (repeat' first | assumption | rfl | omega | apply And.intro)
theorem closure56_ {b1 : Nat} (hF : Fo B w v its rvs fb ib nb bb hb ks ne br hs F) (hb1 : Blk w b1 46 [ptr fb]) {x y : Nat} (hx : x < its.length) (hy : y < its.length)
    (hn : its.length ≤ 1000000) (k : ∀ w', Mod none' w w' → next (.int .i64 (cmpS (idAt its x) (idAt its y))) w') : callvK Try.prog (.func (.func 56) #[] #[ptr b1]) [.int .i64 x, .int .i64 y] w next QP := by
  refine callv (first := []) (caps := [ptr b1]) c56 (q56 rfl ?_)
  simp only [List.nil_append, List.append_nil, List.cons_append]
  obtain ⟨va, vc, rfl, -, -⟩ := hF.kp.i.sl.form
  obtain ⟨g, o, rfl⟩ := hF.kp.i.addr (by omega)
  obtain ⟨rx, -, ax⟩ := hF.kp.i.at hx
  obtain ⟨ry, -, ay⟩ := hF.kp.i.at hy
  have c0 := hb1.cell 0
  have f0 := hF.f.cell 0
  simp only [List.getElem?_cons_zero] at c0 f0
  have x0 := ax.c0
  have y0 := ay.c0
  unfold h56
  try simp only [go_sem, c0, f0, x0, y0]
  repeat refine ⟨⟨by omega, by omega⟩, ?_⟩
  refine cmps_ _ _ ?_
  try simp only [go_sem]
  rw [idAt_at hx, idAt_at hy] at k
  exact k _ (Mod.drew _ _)
/-- slices.MinFunc of the items of a circle -/
theorem minfunc_ {b1 : Nat} (hF : Fo B w v its rvs fb ib nb bb hb ks ne br hs F) (hb1 : Blk w b1 46 [ptr fb]) {p : List Nat} {pv : Value} (hv : Sl w pv 1 p.length (ints p)) (hp : p ≠ []) (hlt : ∀ x ∈ p, x < its.length)
    (hn : its.length ≤ 1000000) (hpn : p.length ≤ 1000000000) (k : ∀ b w', b ∈ p → (∀ y ∈ p, bl (idAt its y) (idAt its b) = false) → Mod none' w w' → next (.int .i64 (b : Nat)) w') : callvK Try.prog (.func (.func 55) #[] #[]) [pv, .func (.func 56) #[] #[ptr b1]] w next QP := by
  refine r55 rfl ?_
  have hl := List.length_pos_iff.2 hp
  have hv0 := hv
  obtain ⟨-, va, vc, rfl, -, hcell⟩ := hv
  obtain ⟨g, o, rfl, hce⟩ := hcell hl
  have at' : ∀ w', Mod none' w w' → ∀ i (h : i < p.length), w'.cell? ⟨g, o + i, none⟩ = some (.int .i64 (p[i] : Nat)) := by
    intro w' m i h
    refine m.cell ?_ (fun h => h)
    rw [hce i (by omega)]; simp [ints, h]
  have c0 := at' w (Mod.refl _ _) 0 hl
  rw [Nat.add_zero] at c0
  have eg : decide ((p.length : Int) < 1) = false := by simp; omega
  unfold h55
  try simp only [go_sem, eg]
  unfold h55_1
  have c0' : w.cell? ⟨g, o + (0 : Int).toNat, none⟩ = some (.int .i64 (p[0] : Nat)) := by simpa using c0
  try simp only [go_sem, c0, c0']
  refine ⟨by omega, ?_⟩
  refine loopN p.length (fun i τ w' => ∃ b, τ 0 = .slice (some ⟨g, o, none⟩) p.length vc ∧ τ 1 = .func (.func 56) #[] #[ptr b1] ∧ τ 5 = .int .i64 (b : Nat) ∧ τ 6 = .int .i64 i ∧ 1 ≤ i ∧ b ∈ p.take i ∧ (∀ y ∈ p.take i, bl (idAt its y) (idAt its b) = false) ∧ Mod none' w w') ⟨1, by omega, p[0], rfl, rfl, rfl, rfl, by omega, ?_, ?_, Mod.refl _ _⟩ ?_
  · rw [List.take_succ_eq_append_getElem hl]; simp
  · rw [List.take_succ_eq_append_getElem hl]
    intro y hy
    simp at hy
    subst hy
    exact bl_irr _
  rintro i τ w1 hi ⟨b, t0, t1, t5, t6, hi1, hb, hmin, m1⟩
  unfold h55_2
  try simp only [go_sem, t0, t1, t5, t6]
  refine ⟨fun hlt' => ?_, fun hge => ?_⟩
  · have hil : i < p.length := by
      have := of_decide_eq_true hlt'
      omega
    have ci := at' w1 m1 i hil
    unfold h55_3
    try simp only [go_sem, t0, t1, t5, t6, ci]
    repeat refine ⟨⟨by omega, by omega⟩, ?_⟩
    refine closure56_ (hF.up m1) (hb1.mod m1 fun h => h) (hlt _ (List.getElem_mem hil)) (hlt _ (List.mem_of_mem_take hb)) hn ?_
    intro w2 m2
    have m12 := m1.trans' m2
    have ci := at' w2 m12 i hil
    have hcm : decide (cmpS (idAt its p[i]) (idAt its b) < 0) = bl (idAt its p[i]) (idAt its b) := by
      unfold cmpS
      cases hh : bl (idAt its p[i]) (idAt its b)
      · by_cases e : idAt its p[i] = idAt its b <;> simp [e]
      · simp
    try simp only [go_sem, t0, t1, t5, t6, hcm]
    refine ⟨fun hlt2 => ?_, fun hlt2 => ?_⟩
    · unfold h55_4
      try simp only [go_sem, t0, t1, t5, t6, ci]
      repeat refine ⟨⟨by omega, by omega⟩, ?_⟩
      try simp only [go_sem, t0, t1, t5, t6, ci]
      rw [w64 (by omega) (by omega)]
      have g1 : p[i] ∈ p.take (i + 1) := by rw [List.take_succ_eq_append_getElem hil]; exact List.mem_append.2 (.inr (List.mem_singleton.2 rfl))
      have g2 : ∀ y ∈ p.take (i + 1), bl (idAt its y) (idAt its p[i]) = false := by
        rw [List.take_succ_eq_append_getElem hil]
        intro y hy
        rcases List.mem_append.1 hy with hy | hy
        · cases hh : bl (idAt its y) (idAt its p[i])
          · rfl
          · have := bl_tr hh hlt2
            rw [hmin y hy] at this; cases this
        · rw [List.mem_singleton.1 hy]; exact bl_irr _
      refine ⟨i + 1, by omega, by omega, p[i], ?_⟩
      (repeat' first | assumption | rfl | omega | apply And.intro)
    · unfold h55_4
      try simp only [go_sem, t0, t1, t5, t6]
      rw [w64 (by omega) (by omega)]
      have g1 : b ∈ p.take (i + 1) := by rw [List.take_succ_eq_append_getElem hil]; exact List.mem_append.2 (.inl hb)
      have g2 : ∀ y ∈ p.take (i + 1), bl (idAt its y) (idAt its b) = false := by
        rw [List.take_succ_eq_append_getElem hil]
        intro y hy
        rcases List.mem_append.1 hy with hy | hy
        · exact hmin y hy
        · rw [List.mem_singleton.1 hy]; exact hlt2
      refine ⟨i + 1, by omega, by omega, b, ?_⟩
      (repeat' first | assumption | rfl | omega | apply And.intro)
  · have hil : i = p.length := by
      have := of_decide_eq_false hge
      omega
    subst hil
    rw [List.take_length] at hb hmin
    unfold h55_5
    try simp only [go_sem, t0, t1, t5, t6]
    exact k b w1 hb hmin m1
end
end Go.Proofs.Y

/- TF: thread: circles, walked. -/
namespace Go.Proofs.Y
open Go Go.HL Go.Proofs

section
variable {B : Nat} {w w' : World} {v : Value} {its : List It} {rvs : List Value} {fb ib nb bb hb : Nat} {ks : List (Bytes × Value)} {ne : List Int} {br : List Bool} {hs : List (Bytes × Value)} {F : Bytes → List Nat}
  {next : Value → World → Prop} {QP : List PanicEntry → World → Prop}
theorem Fo.setbr (h : Fo B w v its rvs fb ib nb bb hb ks ne br hs F) {b : Nat} (m : Mod (fun k => k = bb) w w') (hb' : Blk w' bb 4 ((br.map .bool).set b (.bool true))) : Fo B w' v its rvs fb ib nb bb hb ks ne (br.set b true) hs F := by
  have hd := h.diff
  simp only [List.nodup_cons, List.mem_cons, List.not_mem_nil, or_false, not_or] at hd
  obtain ⟨⟨d1, d2, d3, d4⟩, ⟨d5, d6, d7⟩, ⟨d8, d9⟩, d10, -⟩ := hd
  have hB := h.high bb (by simp)
  refine ⟨h.kp.mod m fun k hk => by have hk : k = bb := hk; omega, h.f.mod m d3, h.ix.mod m d6, h.nev.mod m d8, by rw [List.map_set]; exact hb', h.hm.mod m (fun e => d10 e.symm) fun p hp k hk e => ?_, h.lne, by simpa using h.lbr, h.diff, h.high, h.own⟩
  have e : k = bb := e
  exact h.own p hp k hk (by simp [e])

/-- the state of the walk -/
structure CS (w0 : World) (w : World) (b1 sb : Nat) (fb : Nat) (st : List Int) : Prop where
  bx : Blk w b1 46 [ptr fb]
  st : Blk w sb 3 (st.map fun z => .int .i64 z)
  h1 : w0.heap.size ≤ b1
  h2 : w0.heap.size ≤ sb
  ne : b1 ≠ sb
theorem CS.mod {w0 : World} {b1 sb : Nat} {st : List Int} {S : Nat → Prop} (h : CS w0 w b1 sb fb st) (m : Mod S w w') (h1 : ¬ S b1) (h2 : ¬ S sb) : CS w0 w' b1 sb fb st := ⟨h.bx.mod m h1, h.st.mod m h2, h.h1, h.h2, h.ne⟩

/-- the marks at the end of a round -/
theorem done_ {b1 sb : Nat} {st st' : List Int} {p : List Nat} {k : Option Nat} {i : Nat} {pv : Value} {τ : Env} {Q : HX → Env → World → Prop} {w0 : World} (c : CP its i st st' p k) (hs : CS w0 w b1 sb fb st')
    (own : HL.Own w pv 3 1 p.length (ints p)) (hpf : ∀ k, pv.ownBlock = some k → k ≠ sb) (hn : its.length ≤ 1000000) (hpn : p.length ≤ its.length) (hls : st.length = its.length)
    (t2 : τ 2 = .slice (some ⟨sb, 0, none⟩) its.length its.length) (t4 : τ 4 = pv)
    (kk : ∀ σ w' st2, σ 1 = τ 1 → σ 2 = τ 2 → σ 20 = τ 20 → σ 21 = τ 21 → st2.length = its.length → (∀ x, x < its.length → st2[x]? = if x ∈ p then some 2 else st[x]?) → CS w0 w' b1 sb fb st2 → Mod (fun k => k = sb) w w' → Q .normal σ w') : hw Try.prog noPanic h40_7 Q τ w := by
  obtain ⟨-, va, vc, rfl, hvc, hcell⟩ := own.sl
  unfold h40_7
  try simp only [go_sem, t2, t4]
  refine loopN p.length (fun q σ w' => ∃ st2 : List Int, σ 1 = τ 1 ∧ σ 2 = τ 2 ∧ σ 20 = τ 20 ∧ σ 21 = τ 21 ∧ σ 71 = .slice va p.length vc ∧ σ 72 = .int .i64 p.length ∧ σ 73 = .int .i64 q ∧ st2.length = its.length ∧ (∀ x, x < its.length → st2[x]? = if x ∈ p.take q then some 2 else st'[x]?) ∧ CS w0 w' b1 sb fb st2 ∧ Mod (fun k => k = sb) w w') ⟨0, by omega, st', rfl, rfl, rfl, rfl, rfl, rfl, rfl, c.ls, by simp, hs, Mod.refl _ _⟩ ?_
  rintro q σ w1 hq ⟨st2, s1, s2, s20, s21, s71, s72, s73, l2, g2, cs2, m1⟩
  unfold h40_8
  try simp only [go_sem, s71, s72, s73]
  refine ⟨fun hlt => ?_, fun hge => ?_⟩
  · have hql : q < p.length := by
      have := of_decide_eq_true hlt
      omega
    obtain ⟨g, o, rfl, hce⟩ := hcell (by omega)
    have hpl := c.lt _ (List.getElem_mem hql)
    have hc : w1.cell? ⟨g, o + q, none⟩ = some (.int .i64 (p[q] : Nat)) := by
      refine m1.cell ?_ (fun e => hpf g rfl e)
      rw [hce q (by omega)]; simp [ints, hql]
    rw [t2] at s2
    unfold h40_9
    try simp only [go_sem, s2, s71, s72, s73, hc]
    repeat refine ⟨⟨by omega, by omega⟩, ?_⟩
    refine store1 sz3 cs2.st (by simp; omega) rfl ?_
    intro w2 bk2 m2 hs2
    unfold h40_10
    try simp only [go_sem, s1, s2, s20, s21, s71, s72, s73]
    rw [w64 (by omega) (by omega)]
    have g1 : (st2.set p[q] 2).length = its.length := by simpa using l2
    have g3 : ∀ x, x < its.length → (st2.set p[q] 2)[x]? = if x ∈ p.take (q + 1) then some 2 else st'[x]? := by
      intro x hx
      rw [List.getElem?_set]
      have hmem : x ∈ p.take (q + 1) ↔ x ∈ p.take q ∨ x = p[q] := by
        rw [List.take_succ_eq_append_getElem hql, List.mem_append, List.mem_singleton]
      by_cases e : p[q] = x
      · rw [if_pos e, if_pos (by rw [l2]; omega), if_pos (hmem.2 (.inr e.symm))]
      · rw [if_neg e, g2 x hx]
        by_cases e2 : x ∈ p.take q
        · rw [if_pos e2, if_pos (hmem.2 (.inl e2))]
        · rw [if_neg e2, if_neg (fun h => (hmem.1 h).elim e2 fun h => e h.symm)]
    have g4 : CS w0 w2 b1 sb fb (st2.set p[q] 2) := ⟨cs2.bx.mod m2 cs2.ne, by rw [List.map_set]; simpa using bk2, cs2.h1, cs2.h2, cs2.ne⟩
    have g5 := m1.trans' m2
    rw [← t2] at *
    refine ⟨q + 1, by omega, by omega, st2.set p[q] 2, ?_⟩
    (repeat' first | assumption | rfl | omega | apply And.intro)
  · have hql : q = p.length := by
      have := of_decide_eq_false hge
      omega
    subst hql
    rw [List.take_length] at g2
    try simp only [go_sem]
    refine kk _ w1 st2 s1 s2 s20 s21 l2 (fun x hx => ?_) cs2 m1
    rw [g2 x hx]
    by_cases e : x ∈ p
    · rw [if_pos e, if_pos e]
    · rw [if_neg e, if_neg e, c.get x hx, if_neg e]

theorem oi_some (j : Nat) : oi (some j) = (j : Int) := rfl
theorem oi_none : oi none = -1 := rfl

theorem circles_ (hd : dist its) (hF : Fo B w v its rvs fb ib nb bb hb ks ne (List.replicate its.length false) hs F) (hne : ∀ x, x < its.length → ne[x]? = some (oi (nearI its x))) (hn : its.length ≤ 1000000)
    (k : ∀ br' w', (∀ x, x < its.length → br'[x]? = some (brkI its x)) → Fo B w' v its rvs fb ib nb bb hb ks ne br' hs F → Mod (fun k => k = bb) w w' → next (.tuple #[]) w') : callvK Try.prog (.func (.func 40) #[] #[]) [ptr fb] w next QP := by
  refine r40 rfl ?_
  obtain ⟨va, vc, rfl, -, -⟩ := hF.kp.i.sl.form
  unfold h40
  try simp only [go_sem]
  refine box_ (cs := [ptr fb]) rfl ?_
  intro b1 w1 hb1 bk1 m1 s1
  have hF1 := hF.up m1
  have c1 := bk1.cell 0
  have f0 := hF1.f.cell 0
  simp only [List.getElem?_cons_zero] at c1 f0
  try simp only [go_sem, c1, f0]
  refine msl1 sl60 rfl its.length rfl (by omega) (by unfold maxLen; omega) ?_
  intro sb w2 hsb own2 bk2 m2 s2
  have hF2 := hF1.up m2
  have bk1' := bk1.mod m2 fun h => h
  have c2 := bk1'.cell 0
  have f2 := hF2.f.cell 0
  simp only [List.getElem?_cons_zero] at c2 f2
  try simp only [go_sem, c2, f2]
  have hz : (List.replicate its.length (Value.int .i64 0)) = ((List.replicate its.length (0 : Int)).map fun z => Value.int .i64 z) := by simp
  rw [hz] at bk2
  have cs2 : CS w w2 b1 sb fb (List.replicate its.length 0) := ⟨bk1', bk2, by omega, by omega, by omega⟩
  have m02 : Mod (fun k => k = bb) w w2 := (m1.trans' m2).up
  have ci0 : CI its 0 (List.replicate its.length 0) (List.replicate its.length false) := ⟨by simp, by simp, fun x hx => by simp [hx], fun x hx => by omega, fun x j hx => by
    rw [List.getElem?_replicate] at hx
    split at hx <;> simp at hx, fun x hx => by simp [hx]⟩
  have hbbw : bb < w.heap.size := hF.lt bb (by simp)
  have hfbb : fb ≠ bb := fun e => by
    have := hF.diff
    simp only [List.nodup_cons, List.mem_cons, List.not_mem_nil, or_false, not_or] at this
    exact this.1.2.2.1 e
  refine loopN its.length (fun i τ w' => ∃ st br', τ 1 = ptr b1 ∧ τ 2 = .slice (some ⟨sb, 0, none⟩) its.length its.length ∧ τ 20 = .int .i64 its.length ∧ τ 21 = .int .i64 i ∧ CI its i st br' ∧ CS w w' b1 sb fb st ∧ Fo B w' (.slice va its.length vc) its rvs fb ib nb bb hb ks ne br' hs F ∧ Mod (fun k => k = bb) w w' ∧ w2.heap.size ≤ w'.heap.size) ⟨0, by omega, _, _, rfl, rfl, rfl, rfl, ci0, cs2, hF2, m02, Nat.le_refl _⟩ ?_
  rintro i τ w3 hi ⟨st, br', t1, t2, t20, t21, ci, cs3, hF3, m3, hsz3⟩
  unfold h40_1
  try simp only [go_sem, t1, t2, t20, t21]
  refine ⟨fun hlt => ?_, fun hge => ?_⟩
  · have hil : i < its.length := by
      have := of_decide_eq_true hlt
      omega
    unfold h40_2
    try simp only [go_sem, t1, t2, t20, t21]
    refine loopN its.length (fun q τ w' => ∃ st' p kk pv, q = p.length ∧ τ 1 = ptr b1 ∧ τ 2 = .slice (some ⟨sb, 0, none⟩) its.length its.length ∧ τ 20 = .int .i64 its.length ∧ τ 21 = .int .i64 i ∧ τ 4 = pv ∧ τ 5 = .int .i64 (oi kk) ∧ CP its i st st' p kk ∧ CS w w' b1 sb fb st' ∧ Fo B w' (.slice va its.length vc) its rvs fb ib nb bb hb ks ne br' hs F ∧ HL.Own w' pv 3 1 p.length (ints p) ∧ (∀ k, pv.ownBlock = some k → w2.heap.size ≤ k) ∧ Mod (fun k => k = bb) w w' ∧ w2.heap.size ≤ w'.heap.size) ⟨0, by omega, st, [], some i, .slice none 0 0, rfl, t1, t2, t20, t21, rfl, rfl, CP.start hil ci.ls, cs3, hF3, Own.nil _ _ _, (fun k hk => by cases hk), m3, hsz3⟩ ?_
    rintro q τ w4 hq ⟨st', p, kk, pv, rfl, t1, t2, t20, t21, t4, t5, cp, cs4, hF4, own4, hpf4, m4, hsz4⟩
    have hpl : p.length ≤ its.length := nodup_le its.length p cp.nodup cp.lt
    -- the end of a round, whatever was marked
    have fin : ∀ (br2 : List Bool) (w5 : World) (σ : Env), (∀ st2 : List Int, st2.length = its.length → (∀ x, x < its.length → st2[x]? = if x ∈ p then some 2 else st[x]?) → CI its (i + 1) st2 br2) → σ 1 = ptr b1 → σ 2 = .slice (some ⟨sb, 0, none⟩) its.length its.length → σ 20 = .int .i64 its.length → σ 21 = .int .i64 i → σ 4 = pv →
        CS w w5 b1 sb fb st' → Fo B w5 (.slice va its.length vc) its rvs fb ib nb bb hb ks ne br2 hs F → HL.Own w5 pv 3 1 p.length (ints p) → Mod (fun k => k = bb) w w5 → w2.heap.size ≤ w5.heap.size →
        hw Try.prog noPanic h40_7 (blockX 1 (seqX (hw Try.prog noPanic h40_11 (seqX (fun σ' w' => ∃ i', i < i' ∧ i' ≤ its.length ∧ ∃ st br', σ' 1 = ptr b1 ∧ σ' 2 = .slice (some ⟨sb, 0, none⟩) its.length its.length ∧ σ' 20 = .int .i64 its.length ∧ σ' 21 = .int .i64 i' ∧ CI its i' st br' ∧ CS w w' b1 sb fb st ∧ Fo B w' (.slice va its.length vc) its rvs fb ib nb bb hb ks ne br' hs F ∧ Mod (fun k => k = bb) w w' ∧ w2.heap.size ≤ w'.heap.size) (blockX 0 (endV [] next)))) (seqX (fun σ' w' => ∃ i', i < i' ∧ i' ≤ its.length ∧ ∃ st br', σ' 1 = ptr b1 ∧ σ' 2 = .slice (some ⟨sb, 0, none⟩) its.length its.length ∧ σ' 20 = .int .i64 its.length ∧ σ' 21 = .int .i64 i' ∧ CI its i' st br' ∧ CS w w' b1 sb fb st ∧ Fo B w' (.slice va its.length vc) its rvs fb ib nb bb hb ks ne br' hs F ∧ Mod (fun k => k = bb) w w' ∧ w2.heap.size ≤ w'.heap.size) (blockX 0 (endV [] next))))) σ w5 := by
      intro br2 w5 σ hci s1 s2 s20 s21 s4 cs5 hF5 own5 m5 hsz5
      refine done_ (i := i) cp cs5 own5 (fun k hk e => by have := hpf4 k hk; omega) hn hpl ci.ls s2 s4 ?_
      intro σ' w6 st2 q1 q2 q20 q21 l2 g2 cs6 m6
      try simp only [go_sem]
      unfold h40_11
      rw [s1] at q1; rw [s2] at q2; rw [s20] at q20; rw [s21] at q21
      try simp only [go_sem, q1, q2, q20, q21]
      rw [w64 (by omega) (by omega)]
      have hci' := hci st2 l2 g2
      have hF6 : Fo B w6 (.slice va its.length vc) its rvs fb ib nb bb hb ks ne br2 hs F := hF5.mod m6 fun k e => by
        have e : k = sb := e
        subst e
        have := hF2.later (k := k) 
        refine ⟨by have := hF.kp.base; have := cs5.h2; omega, fun hm => ?_, fun p' hp' hpk => ?_⟩
        · have := hF.lt k hm; have := cs5.h2; omega
        · obtain ⟨l, -, -, own⟩ := hF.hm.val p' hp'
          have := own.lt k hpk; have := cs5.h2; omega
      have m06 : Mod (fun k => k = bb) w w6 := m5.trans m6 fun j hj e => by
        have e : j = sb := e
        have := cs5.h2; omega
      have hsz6 : w2.heap.size ≤ w6.heap.size := Nat.le_trans hsz5 m6.size
      refine ⟨i + 1, by omega, by omega, st2, br2, ?_⟩
      (repeat' first | assumption | rfl | omega | apply And.intro)
    unfold h40_3
    cases kk with
    | none =>
      have eg : decide ((0 : Int) ≤ oi none) = false := rfl
      try simp only [go_sem, t1, t2, t20, t21, t4, t5, eg]
      unfold h40_6
      try simp only [go_sem, t1, t2, t20, t21, t4, t5, eg]
      exact fin br' w4 _ (fun st2 l2 g2 => ci.free cp (fun j h => by cases h) g2 l2) t1 t2 t20 t21 t4 cs4 hF4 own4 m4 hsz4
    | some j =>
      rw [oi_some] at t5
      have hj := cp.klt j rfl
      have eg : decide ((0 : Int) ≤ (j : Int)) = true := by simp
      obtain ⟨z, hz⟩ : ∃ z, st'[j]? = some z := ⟨_, List.getElem?_eq_getElem (by rw [cp.ls]; exact hj)⟩
      have cz : w4.cell? ⟨sb, j, none⟩ = some (.int .i64 z) := by rw [cs4.st.cell, List.getElem?_map, hz]; rfl
      by_cases h0 : z = 0
      · subst h0
        have ez : decide ((0 : Int) = 0) = true := rfl
        try simp only [go_sem, t1, t2, t20, t21, t4, t5, eg, cz, ez]
        repeat refine ⟨⟨by omega, by omega⟩, ?_⟩
        unfold h40_4
        try simp only [go_sem, t1, t2, t20, t21, t4, t5]
        repeat refine ⟨⟨by omega, by omega⟩, ?_⟩
        refine store1 sz3 cs4.st (by simp; rw [cp.ls]; exact hj) rfl ?_
        intro w5 bk5 m5 hs5
        have cp5 := cp.step hz
        have hpl5 : (p ++ [j]).length ≤ its.length := nodup_le its.length _ cp5.nodup cp5.lt
        rw [List.length_append, List.length_singleton] at hpl5
        have cs5 : CS w w5 b1 sb fb (st'.set j 1) := ⟨cs4.bx.mod m5 cs4.ne, by rw [List.map_set]; exact bk5, cs4.h1, cs4.h2, cs4.ne⟩
        have hsbF : ∀ k, k = sb → B ≤ k ∧ k ∉ [fb, ib, nb, bb, hb] ∧ ∀ p ∈ hs, p.2.ownBlock ≠ some k := fun k e => by
          subst e
          have h2 := cs4.h2
          refine ⟨by have := hF.kp.base; omega, fun hm => ?_, fun p' hp' hpk => ?_⟩
          · have := hF.lt k hm; omega
          · obtain ⟨l, -, -, own⟩ := hF.hm.val p' hp'
            have := own.lt k hpk; omega
        have hF5 := hF4.mod m5 hsbF
        have own5 := own4.mod m5 fun k hk e => by
          have e : k = sb := e
          have := hpf4 k hk; omega
        have m05 : Mod (fun k => k = bb) w w5 := m4.trans m5 fun x hx e => by
          have e : x = sb := e
          have := cs4.h2; omega
        have hsz5 : w2.heap.size ≤ w5.heap.size := by omega
        try simp only [go_sem, t1, t2, t20, t21, t4, t5]
        refine bsl1 (cs := [.int .i64 j]) sl60 rfl rfl (by omega) ?_
        intro b6 w6 hb6 own6 bk6 m6 s6
        try simp only [go_sem, t1, t2, t20, t21, t4, t5]
        refine append_ sl60 (own5.mod m6 fun _ _ h => h) own6.sl (by intro u hu; rw [List.mem_singleton.1 hu]; rfl) (by omega) (by unfold maxLen; omega) ?_
        intro v7 w7 own7 m7 hf7 _
        have m67 : Mod (ownS pv) w5 w7 := (m6.up (S := ownS pv)).trans' m7
        have hpvS : ∀ x, ownS pv x → w2.heap.size ≤ x := hpf4
        have cs7 : CS w w7 b1 sb fb (st'.set j 1) := cs5.mod m67 (fun h => by have := hpvS _ h; omega) (fun h => by have := hpvS _ h; omega)
        have hF7 := hF5.mod m67 fun k e => by
          have h2 := hpvS k e
          refine ⟨by have := hF2.kp.base; omega, fun hm => ?_, fun p' hp' hpk => ?_⟩
          · have := hF2.lt k hm; omega
          · obtain ⟨l, -, -, own⟩ := hF2.hm.val p' hp'
            have := own.lt k hpk; omega
        have m07 : Mod (fun k => k = bb) w w7 := m05.trans m67 fun x hx e => by
          have := hpvS x e
          have := m02.size
          omega
        have hsz7 : w2.heap.size ≤ w7.heap.size := Nat.le_trans hsz5 m67.size
        have own7' : HL.Own w7 v7 3 1 (p ++ [j]).length (ints (p ++ [j])) := by
          rw [List.length_append, List.length_singleton]
          unfold ints
          rw [List.map_append]
          exact own7
        have hpf7 : ∀ k, v7.ownBlock = some k → w2.heap.size ≤ k := fun k hk => by
          rcases hf7 k hk with h | h
          · exact hpf4 k h
          · have := m6.size; omega
        unfold h40_5
        have d1 := cs7.bx.cell 0
        have d2 := hF7.f.cell 2
        simp only [List.getElem?_cons_zero, List.getElem?_cons_succ] at d1 d2
        have d3 : w7.cell? ⟨nb, j, none⟩ = some (.int .i64 (oi (nearI its j))) := by rw [hF7.nev.cell, List.getElem?_map, hne j hj]; rfl
        try simp only [go_sem, t1, t2, t20, t21, t4, t5, d1, d2, d3]
        repeat refine ⟨⟨by omega, by omega⟩, ?_⟩
        refine ⟨(p ++ [j]).length, by simp, by simp; omega, st'.set j 1, p ++ [j], nearI its j, v7, ?_⟩
        (repeat' first | assumption | rfl | omega | apply And.intro)
      · have ez : decide (z = 0) = false := by simpa using h0
        try simp only [go_sem, t1, t2, t20, t21, t4, t5, eg, cz, ez]
        repeat refine ⟨⟨by omega, by omega⟩, ?_⟩
        unfold h40_6
        have hz' := hz
        rw [cp.get j hj] at hz'
        by_cases hjp : j ∈ p
        · rw [if_pos hjp] at hz'
          obtain rfl : 1 = z := Option.some.inj hz'
          have ez1 : decide ((1 : Int) = 1) = true := rfl
          try simp only [go_sem, t1, t2, t20, t21, t4, t5, eg, cz, ez1]
          repeat refine ⟨⟨by omega, by omega⟩, ?_⟩
          refine index_ own4.sl hjp (by omega) fun s hs => ?_
          have hsl := (List.getElem?_eq_some_iff.1 hs).1
          obtain ⟨-, va4, vc4, e4, hvc4, hce4⟩ := own4.sl
          obtain ⟨g4, o4, rfl, hcc4⟩ := hce4 (by omega)
          subst e4
          have hslice : Sl w4 (.slice (some ⟨g4, o4 + s, none⟩) (p.length - s) (vc4 - s)) 1 (p.drop s).length (ints (p.drop s)) := by
            refine ⟨by simp [ints], some ⟨g4, o4 + s, none⟩, vc4 - s, by rw [List.length_drop], by rw [List.length_drop]; omega, fun _ => ⟨g4, o4 + s, rfl, fun q hq => ?_⟩⟩
            rw [Nat.mul_one, List.length_drop] at hq
            rw [Nat.add_assoc, hcc4 (s + q) (by omega)]
            unfold ints
            rw [List.map_drop, List.getElem?_drop]
          have eif : (if vc4 = s then some (⟨g4, o4, none⟩ : Addr) else Option.map (fun x : Addr => x.add s) (some (⟨g4, o4, none⟩ : Addr))) = some ⟨g4, o4 + s, none⟩ := by
            rw [if_neg (by omega)]; simp only [Option.map_some, e_add]
          try simp only [go_sem, t1, t2, t20, t21, t4, t5, eif]
          repeat (refine ⟨by omega, ?_⟩)
          refine minfunc_ hF4 cs4.bx hslice (by intro e; have := congrArg List.length e; simp at this; omega) (fun x hx => cp.lt x (List.mem_of_mem_drop hx)) hn (by rw [List.length_drop]; omega) ?_
          intro b w5 hbp hmin m5
          have hbl := cp.lt b (List.mem_of_mem_drop hbp)
          have hF5 := hF4.up m5
          have cs5 := cs4.mod m5 (fun h => h) (fun h => h)
          have d1 := cs5.bx.cell 0
          have d2 := hF5.f.cell 3
          simp only [List.getElem?_cons_zero, List.getElem?_cons_succ] at d1 d2
          try simp only [go_sem, t1, t2, t20, t21, t4, t5, d1, d2]
          repeat refine ⟨⟨by omega, by omega⟩, ?_⟩
          refine store1 sz4 hF5.brv (by simp; rw [ci.lb]; exact hbl) rfl ?_
          intro w6 bk6 m6 hs6
          have hF6 := hF5.setbr m6 bk6
          have cs6 := cs5.mod m6 (fun h => by have h : b1 = bb := h; have := cs4.h1; omega) (fun h => by have h : sb = bb := h; have := cs4.h2; omega)
          have own6 := (own4.mod m5 fun _ _ h => h).mod m6 fun k hk h => by
            have h : k = bb := h
            have := hpf4 k hk
            have := m02.size
            omega
          have m06 : Mod (fun k => k = bb) w w6 := (m4.trans' m5.up).trans' m6
          try simp only [go_sem, t1, t2, t20, t21, t4, t5]
          exact fin (br'.set b true) w6 _ (fun st2 l2 g2 => ci.back hd cp hs hbp hmin g2 l2) t1 t2 t20 t21 t4 cs6 hF6 own6 m06 (by have := m5.size; omega)
        · rw [if_neg hjp] at hz'
          have h2 : st[j]? = some 2 := by
            rcases ci.two j hj with h | h
            · rw [h] at hz'; exact absurd (Option.some.inj hz').symm h0
            · exact h
          rw [h2] at hz'
          obtain rfl : 2 = z := Option.some.inj hz'
          have ez1 : decide ((2 : Int) = 1) = false := rfl
          try simp only [go_sem, t1, t2, t20, t21, t4, t5, eg, cz, ez1]
          repeat refine ⟨⟨by omega, by omega⟩, ?_⟩
          exact fin br' w4 _ (fun st2 l2 g2 => ci.free cp (fun x e => by obtain rfl := Option.some.inj e; exact h2) g2 l2) t1 t2 t20 t21 t4 cs4 hF4 own4 m4 hsz4
  · have hil : i = its.length := by
      have := of_decide_eq_false hge
      omega
    subst hil
    try simp only [go_sem]
    refine k br' w3 (fun x hx => ?_) hF3 m3
    rw [ci.brk x hx, ci.past x hx]; simp
end
end Go.Proofs.Y
