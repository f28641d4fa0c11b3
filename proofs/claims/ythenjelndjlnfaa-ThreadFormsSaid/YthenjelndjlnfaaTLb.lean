/- TLb: thread: slices of records spelt out; few; finding. -/
import Derived.Test.YthenjelndjlnfaaTR
import Derived.Test.YthenjelndjlnfaaTB
set_option linter.unusedSimpArgs false
set_option linter.unusedVariables false
set_option maxRecDepth 100000
namespace Go.Proofs.Y
open Go Go.HL Go.Proofs

theorem fill_rec {place : Nat → Option (Nat × Nat)} {cells : Array Value} {i o n : Nat} {v : Value} {cs : List Value} {rest : List (Nat × Value)} (hp : place i = some (o, n)) (hv : v.cells = cs.toArray) (hl : cs.length = n) (ho : o + n ≤ cells.size) :
    Instr.fill place cells ((i, v) :: rest) = Instr.fill place (cells.toList.take o ++ cs ++ cells.toList.drop (o + n)).toArray rest := by
  rw [Instr.fill, hp]
  simp only [hv, List.size_toArray, hl]
  rw [if_neg (by simp; omega)]
  congr 1
  rw [← Array.foldl_toList]
  simp only [Array.toList_zipIdx, List.toList_toArray]
  have key : ∀ (l : List Value) (k : Nat) (Z : Array Value), o + k + l.length ≤ Z.size → (l.zipIdx k).foldl (fun cs (x : Value × Nat) => cs.setIfInBounds (o + x.2) x.1) Z = (Z.toList.take (o + k) ++ l ++ Z.toList.drop (o + k + l.length)).toArray := by
    intro l
    induction l with
    | nil => intro k Z hk; simp
    | cons x r ih =>
      intro k Z hk
      rw [List.zipIdx_cons, List.foldl_cons, ih _ _ (by simp at hk ⊢; omega)]
      apply Array.toList_inj.1
      apply List.ext_getElem?
      intro j
      simp only [List.length_cons] at hk
      simp only [Array.toList_setIfInBounds, List.append_assoc, List.getElem?_append, List.length_take, List.length_set, Array.length_toList, List.getElem?_take, List.getElem?_set, List.getElem?_drop, List.length_cons, List.getElem?_cons]
      repeat' split
      all_goals first
        | rfl
        | (exfalso; omega)
        | (congr 1; omega)
        | (exfalso; simp_all; omega)
  have := key cs 0 cells (by omega)
  simpa [hl] using this


theorem fill_all {sz : Nat} (h0 : 0 < sz) : ∀ (ls : List (Value × List Value)) (k : Nat) (cells : Array Value), (∀ p ∈ ls, p.1.cells = p.2.toArray ∧ p.2.length = sz) → cells.size = (k + ls.length) * sz →
    Instr.fill (fun i => some (i * sz, sz)) cells ((ls.zipIdx k).map fun p => (p.2, p.1.1)) = some (cells.toList.take (k * sz) ++ ls.flatMap (·.2)).toArray
  | [], k, cells, _, hs => by
    simp only [List.zipIdx_nil, List.map_nil, Instr.fill, List.flatMap_nil, List.append_nil]
    rw [List.take_of_length_le (by simp [hs])]
  | p :: ls, k, cells, h, hs => by
    obtain ⟨h1, h2⟩ := h p (by simp)
    simp only [List.length_cons] at hs
    have hle : k * sz + sz ≤ cells.size := by
      rw [hs, show k + (ls.length + 1) = (k + 1) + ls.length by omega, Nat.add_mul, Nat.add_mul]; omega
    rw [List.zipIdx_cons, List.map_cons, fill_rec (o := k * sz) (n := sz) (cs := p.2) rfl h1 h2 hle]
    have hsz : ((cells.toList.take (k * sz) ++ p.2 ++ cells.toList.drop (k * sz + sz)).toArray).size = cells.size := by
      simp only [List.size_toArray, List.length_append, List.length_take, List.length_drop, Array.length_toList, h2]; omega
    rw [fill_all h0 ls (k + 1) _ (fun q hq => h q (by simp [hq])) (by rw [hsz, hs]; congr 1; omega)]
    congr 1
    have e : (k + 1) * sz = (cells.toList.take (k * sz) ++ p.2).length := by
      simp only [List.length_append, List.length_take, Array.length_toList, h2]
      rw [Nat.add_mul, Nat.min_eq_left (by omega)]; omega
    rw [e, List.take_left, List.flatMap_cons, List.append_assoc]
section
variable {P : Program} {w : World} {next : Value → World → Prop} {QP : List PanicEntry → World → Prop}
theorem bslR {t e sz by_ n : Nat} {z : Value} (ht : SlTy P t e sz by_ z) {parts : List (Nat × Value)} (ls : List (Value × List Value)) (h : ∀ p ∈ ls, p.1.cells = p.2.toArray ∧ p.2.length = sz) (hn : ls.length = n) (hp : parts = ls.zipIdx.map fun p => (p.2, p.1.1)) (hb : n * sz ≤ 16777216)
    (k : ∀ b w', w.heap.size = b → HL.Own w' (.slice (some ⟨b, 0, none⟩) n n) e sz n (ls.flatMap (·.2)) → Mod none' w w' → w'.heap.size = b + 1 → next (.slice (some ⟨b, 0, none⟩) n n) w') : bslK P t n parts w next QP := by
  subst hp hn
  have hl : ∀ ls : List (Value × List Value), (∀ p ∈ ls, p.1.cells = p.2.toArray ∧ p.2.length = sz) → (ls.flatMap (·.2)).length = ls.length * sz := by
    intro ls
    induction ls with
    | nil => intro _; simp
    | cons p ls ih =>
      intro h
      rw [List.flatMap_cons, List.length_append, ih fun q hq => h q (by simp [hq]), (h p (by simp)).2, List.length_cons, Nat.add_mul]; omega
  refine bsl_ ht (cs := ls.flatMap (·.2)) (hl ls h) hb ?_ (fun b w' h1 h2 _ h3 h4 => k b w' h1 h2 h3 h4)
  rw [fill_all ht.pos ls 0 _ h (by simp)]
  simp
end
section
variable {w w' : World} {its : List It} {rvs : List Value} {next : Value → World → Prop} {QP : List PanicEntry → World → Prop}
/-- a slice of items, spelt out -/
theorem bslI {ps : List (It × Value)} {n : Nat} {parts : List (Nat × Value)} (hps : ps.length = n) (hn : n ≤ 1000) (hp : parts = (ps.map fun p => (p.1.v p.2, p.1.cells p.2)).zipIdx.map fun p => (p.2, p.1.1)) (hr : ∀ i (h : i < ps.length), Sl w ps[i].2 1 ps[i].1.refs.length (ps[i].1.refs.map str))
    (k : ∀ v w', Its w' v (ps.map (·.1)) (ps.map (·.2)) → Mod none' w w' → next v w') : bslK Try.prog 22 n parts w next QP := by
  subst hps
  refine bslR sl22 (ps.map fun p => (p.1.v p.2, p.1.cells p.2)) ?_ (by simp) hp (by omega) ?_
  · intro p hp
    obtain ⟨q, hq, rfl⟩ := List.mem_map.1 hp
    exact ⟨rfl, rfl⟩
  intro b w1 hb own m _
  refine k _ w1 ⟨by simp, ?_, fun i h1 h2 => ?_⟩ m
  · have e : (List.map (·.1) ps).zip (List.map (·.2) ps) = ps := by
      clear hr k own hp hn
      induction ps with
      | nil => rfl
      | cons p ps ih => simp only [List.map_cons, List.zip_cons_cons]; rw [ih]
    rw [e, List.length_map]
    have e2 : (ps.map fun p => (p.1.v p.2, p.1.cells p.2)).flatMap (·.2) = rows cellsP ps := by
      rw [List.flatMap_map]; rfl
    rw [← e2]; exact own.sl
  · have h3 : i < ps.length := by simpa using h1
    have := (hr i h3).mod m fun _ _ h => h
    simpa using this
/-- a slice of nodes, spelt out -/
theorem bslN {ns : List Nd} {n : Nat} {parts : List (Nat × Value)} (hns : ns.length = n) (hn : n ≤ 1000) (hp : parts = (ns.map fun q => (Value.agg q.cells.toArray, q.cells)).zipIdx.map fun p => (p.2, p.1.1))
    (k : ∀ v w', Sl w' v 4 ns.length (rows Nd.cells ns) → Mod none' w w' → next v w') : bslK Try.prog 25 n parts w next QP := by
  subst hns
  refine bslR sl25 (ns.map fun q => (Value.agg q.cells.toArray, q.cells)) ?_ (by simp) hp (by omega) ?_
  · intro p hp
    obtain ⟨q, hq, rfl⟩ := List.mem_map.1 hp
    exact ⟨rfl, rfl⟩
  intro b w1 hb own m _
  refine k _ w1 ?_ m
  have e2 : (ns.map fun q => (Value.agg q.cells.toArray, q.cells)).flatMap (·.2) = rows Nd.cells ns := by
    rw [List.flatMap_map]; rfl
  rw [← e2]; exact own.sl
/-- a slice of texts, spelt out -/
theorem bslT {l : List Bytes} {n : Nat} {parts : List (Nat × Value)} (hl : l.length = n) (hn : n ≤ 1000) (hp : parts = (l.map fun q => (str q, [str q])).zipIdx.map fun p => (p.2, p.1.1))
    (k : ∀ b w', Sl w' (.slice (some ⟨b, 0, none⟩) n n) 1 l.length (l.map str) → Mod none' w w' → next (.slice (some ⟨b, 0, none⟩) n n) w') : bslK Try.prog 32 n parts w next QP := by
  subst hl
  refine bslR sl32 (l.map fun q => (str q, [str q])) ?_ (by simp) hp (by omega) ?_
  · intro p hp
    obtain ⟨q, hq, rfl⟩ := List.mem_map.1 hp
    exact ⟨rfl, rfl⟩
  intro b w1 hb own m _
  refine k _ w1 ?_ m
  have e2 : (l.map fun q => (str q, [str q])).flatMap (·.2) = l.map str := by
    rw [List.flatMap_map]; exact rows_one l
  rw [← e2]; exact own.sl

/-! ### few -/
structure fewP (its : List It) : Prop where
  n : its.length ≤ 40
  d : dist its
  e : ne0 its
  z : ∀ x ∈ its, x.refs.length ≤ 20 ∧ x.base.length ≤ 200
theorem fewP.sz (h : fewP its) : szI its := fun x hx => by
  have := h.z x hx
  omega
theorem distinct_ {v : Value} (hK : Its w v its rvs) (hn : its.length ≤ 40) (k : ∀ b w', (b = true → dist its ∧ ne0 its) → Mod none' w w' → next (.bool b) w') : callvK Try.prog (.func (.func 26) #[] #[]) [v] w next QP := by
  refine r26 rfl ?_
  obtain ⟨va, vc, rfl, -, -⟩ := hK.sl.form
  unfold h26
  try simp only [go_sem]
  refine loopN its.length (fun i τ w' => τ 0 = .slice va its.length vc ∧ τ 3 = .int .i64 i ∧ (∀ x, x < i → ∃ h : x < its.length, its[x].id ≠ []) ∧ (∀ x y (hx : x < its.length) (hy : y < its.length), x < i → y < x → its[y].id ≠ its[x].id) ∧ Mod none' w w') ⟨0, by omega, rfl, rfl, fun x hx => by omega, fun x y _ _ hx => by omega, Mod.refl _ _⟩ ?_
  rintro i τ w1 hi ⟨t0, t3, h1, h2, m1⟩
  unfold h26_1
  try simp only [go_sem, t0, t3]
  refine ⟨fun hlt => ?_, fun hge => ?_⟩
  · have hil : i < its.length := by
      have := of_decide_eq_true hlt
      omega
    obtain ⟨g, o, rfl⟩ := hK.addr (by omega)
    have at' : ∀ w', Mod none' w w' → ∀ j (hj : j < its.length), w'.cell? ⟨g, o + j * 5, none⟩ = some (str its[j].id) := fun w' m j hj => by
      obtain ⟨rv, -, ax⟩ := hK.at hj
      exact m.cell ax.c0 fun h => h
    have xi := at' w1 m1 i hil
    unfold h26_2
    try simp only [go_sem, t0, t3, xi]
    repeat refine ⟨⟨by omega, by omega⟩, ?_⟩
    refine ⟨fun he => ?_, fun hne => ?_⟩
    · try simp only [go_sem]
      exact k false w1 (fun h => by cases h) m1
    · have hne : its[i].id ≠ [] := by simpa using hne
      unfold h26_3
      try simp only [go_sem, t0, t3]
      refine loopN i (fun q τ w' => τ 0 = .slice (some ⟨g, o, none⟩) its.length vc ∧ τ 3 = .int .i64 i ∧ τ 4 = .int .i64 q ∧ (∀ y (hy : y < its.length), y < q → its[y].id ≠ its[i].id) ∧ Mod none' w w') ⟨0, by omega, t0, t3, rfl, fun y _ hy => by omega, m1⟩ ?_
      rintro q τ w2 hq ⟨t0, t3, t4, h3, m2⟩
      unfold h26_4
      try simp only [go_sem, t0, t3, t4]
      refine ⟨fun hlt2 => ?_, fun hge2 => ?_⟩
      · have hqi : q < i := by
          have := of_decide_eq_true hlt2
          omega
        have xi := at' w2 m2 i hil
        have xq := at' w2 m2 q (by omega)
        unfold h26_5
        try simp only [go_sem, t0, t3, t4, xi, xq]
        repeat refine ⟨⟨by omega, by omega⟩, ?_⟩
        refine ⟨fun he => ?_, fun hne2 => ?_⟩
        · try simp only [go_sem]
          exact k false w2.drew (fun h => by cases h) (m2.trans' (Mod.drew _ _))
        · have hne2 : its[q].id ≠ its[i].id := by simpa using hne2
          unfold h26_6
          try simp only [go_sem, t0, t3, t4]
          rw [w64 (by omega) (by omega)]
          have m3 := m2.trans' (Mod.drew none' w2)
          have h4 : ∀ y (hy : y < its.length), y < q + 1 → its[y].id ≠ its[i].id := by
            intro y hy hyq
            by_cases e : y = q
            · subst e; exact hne2
            · exact h3 y hy (by omega)
          refine ⟨q + 1, by omega, by omega, ?_⟩
          (repeat' first | assumption | rfl | omega | apply And.intro)
      · have hqi : q = i := by
          have := of_decide_eq_false hge2
          omega
        subst hqi
        try simp only [go_sem]
        unfold h26_7
        try simp only [go_sem, t0, t3]
        rw [w64 (by omega) (by omega)]
        have h5 : ∀ x, x < q + 1 → ∃ h : x < its.length, its[x].id ≠ [] := by
          intro x hx
          by_cases e : x = q
          · subst e; exact ⟨hil, hne⟩
          · exact h1 x (by omega)
        have h6 : ∀ x y (hx : x < its.length) (hy : y < its.length), x < q + 1 → y < x → its[y].id ≠ its[x].id := by
          intro x y hx hy hxq hyx
          by_cases e : x = q
          · subst e; exact h3 y hy hyx
          · exact h2 x y hx hy (by omega) hyx
        refine ⟨q + 1, by omega, by omega, ?_⟩
        (repeat' first | assumption | rfl | omega | apply And.intro)
  · have hil : i = its.length := by
      have := of_decide_eq_false hge
      omega
    subst hil
    unfold h26_8
    try simp only [go_sem]
    refine k true w1 (fun _ => ⟨?_, fun x hx => ?_⟩) m1
    · unfold dist List.Nodup
      rw [List.pairwise_map, List.pairwise_iff_getElem]
      intro x y hx hy hxy
      exact h2 y x hy hx hy hxy
    · obtain ⟨i, hi, rfl⟩ := List.getElem_of_mem hx
      exact (h1 i hi).2
theorem few_ {v : Value} (hK : Its w v its rvs) (hml : its.length ≤ 9223372036854775807) (k : ∀ b w', (b = true → fewP its) → Mod none' w w' → next (.bool b) w') : callvK Try.prog (.func (.func 10) #[] #[]) [v] w next QP := by
  refine r10 rfl ?_
  obtain ⟨va, vc, rfl, -, -⟩ := hK.sl.form
  unfold h10
  by_cases hn : its.length ≤ 40
  · have e1 : decide ((40 : Int) < (its.length : Int)) = false := by simp; omega
    try simp only [go_sem, e1]
    refine distinct_ hK hn ?_
    intro b w1 hb m1
    try simp only [go_sem]
    cases b with
    | false =>
      try simp only [go_sem]
      exact k false w1 (fun h => by cases h) m1
    | true =>
      obtain ⟨hd, he⟩ := hb rfl
      try simp only [go_sem]
      unfold h10_1
      try simp only [go_sem]
      refine loopN its.length (fun i τ w' => τ 0 = .slice va its.length vc ∧ τ 3 = .int .i64 i ∧ (∀ x (hx : x < its.length), x < i → its[x].refs.length ≤ 20 ∧ its[x].base.length ≤ 200) ∧ Mod none' w w') ⟨0, by omega, rfl, rfl, fun x _ hx => by omega, m1⟩ ?_
      rintro i τ w2 hi ⟨t0, t3, h1, m2⟩
      unfold h10_2
      try simp only [go_sem, t0, t3]
      refine ⟨fun hlt => ?_, fun hge => ?_⟩
      · have hil : i < its.length := by
          have := of_decide_eq_true hlt
          omega
        obtain ⟨g, o, rfl⟩ := hK.addr (by omega)
        obtain ⟨rv, hrv, ax⟩ := (Its.mk hK.len (hK.sl.mod m2 fun _ _ h => h) (fun i h h2 => (hK.refs i h h2).mod m2 fun _ _ h => h) : Its w2 _ its rvs).at hil
        have x2 := ax.c2
        have x3 := ax.c3
        obtain ⟨ra, rc, rfl, -, -⟩ := hrv.form
        unfold h10_3
        try simp only [go_sem, t0, t3, x2, x3]
        repeat refine ⟨⟨by omega, by omega⟩, ?_⟩
        refine ⟨fun _ => ⟨by omega, by omega⟩, fun hb => ?_, fun hb => ?_⟩
        · exact k false w2 (fun h => by cases h) m2
        · have hb2 : its[i].refs.length ≤ 20 ∧ its[i].base.length ≤ 200 := by
            by_cases h20 : (20 : Int) < its[i].refs.length
            · simp [h20] at hb
            · simp only [h20, decide_false, Bool.false_eq_true, if_false] at hb
              have := of_decide_eq_false hb
              omega
          unfold h10_4
          try simp only [go_sem, t0, t3]
          rw [w64 (by omega) (by omega)]
          have h4 : ∀ x (hx : x < its.length), x < i + 1 → its[x].refs.length ≤ 20 ∧ its[x].base.length ≤ 200 := by
            intro x hx hxi
            by_cases e : x = i
            · subst e; exact hb2
            · exact h1 x hx (by omega)
          refine ⟨i + 1, by omega, by omega, ?_⟩
          (repeat' first | assumption | rfl | omega | apply And.intro)
      · have hil : i = its.length := by
          have := of_decide_eq_false hge
          omega
        subst hil
        unfold h10_5
        try simp only [go_sem]
        refine k true w2 (fun _ => ⟨hn, hd, he, fun x hx => ?_⟩) m2
        obtain ⟨i, hi, rfl⟩ := List.getElem_of_mem hx
        exact h1 i hi hi
  · have e1 : decide ((40 : Int) < (its.length : Int)) = true := by simp; omega
    try simp only [go_sem, e1]
    exact k false w (fun h => by cases h) (Mod.refl _ _)

/-! ### the examples -/
def sI1 : List It := [⟨[99], 3, [[97], [98]], [120], true⟩, ⟨[97], 1, [], [120], false⟩, ⟨[98], 2, [[97]], [120], true⟩]
def sI2 : List It := [⟨[98], 2, [[97]], [120], true⟩, ⟨[99], 3, [[97]], [120], true⟩, ⟨[100], 1, [], [121], false⟩]
def sI3 : List It := [⟨[97], 1, [[98]], [120], false⟩, ⟨[98], 2, [[97]], [120], false⟩]
def sI4 : List It := [⟨[97], 1, [], [88], false⟩, ⟨[98], 2, [], [120], true⟩, ⟨[99], 0, [], [120], true⟩]
def sN1 : List Nd := [⟨[97], false, -1, 0⟩, ⟨[98], false, 0, 1⟩, ⟨[99], false, 1, 2⟩]
def sN2 : List Nd := [⟨[100], false, -1, 0⟩, ⟨[97], true, -1, 0⟩, ⟨[98], false, 1, 1⟩, ⟨[99], false, 1, 1⟩]
def sN3 : List Nd := [⟨[97], false, -1, 0⟩, ⟨[98], false, 0, 1⟩]
def sN4 : List Nd := [⟨[99], false, -1, 0⟩, ⟨[97], false, -1, 0⟩, ⟨[98], false, 1, 1⟩]
theorem sF1 : forestB sI1 = sN1 := by decide +kernel
theorem sF2 : forestB sI2 = sN2 := by decide +kernel
theorem sF3 : forestB sI3 = sN3 := by decide +kernel
theorem sF4 : forestB sI4 = sN4 := by decide +kernel
instance (l : List It) : Decidable (dist l) := by unfold dist; infer_instance
instance (l : List It) : Decidable (ne0 l) := by unfold ne0; infer_instance
theorem sl_nil (w : World) : Sl w (.slice none 0 0) 1 0 ([].map str) := (Own.nil w 9 1).sl
attribute [local go_sem] List.set_cons_zero List.set_cons_succ Nat.reduceLeDiff Nat.le_refl
/-- a forest of few items, spelt out -/
theorem small1_ {v : Value} {ns : List Nd} {its : List It} {rvs : List Value} (hK : Its w v its rvs) (h : decide (dist its) && decide (ne0 its) = true) (hz : (its.all fun x => decide (x.refs.length ≤ 20) && decide (x.base.length ≤ 200)) = true) (hl : its.length ≤ 40) (hf : forestB its = ns)
    (k : ∀ v' w', Sl w' v' 4 ns.length (rows Nd.cells ns) → Mod none' w w' → next v' w') : callvK Try.prog (.func (.func 11) #[] #[]) [v] w next QP := by
  simp only [Bool.and_eq_true, decide_eq_true_eq] at h
  refine Forest_ h.1 h.2 hK (fun x hx => ?_) (by omega) fun v' w' own _ m => k v' w' (by rw [← hf]; exact own.sl) m
  have := List.all_eq_true.1 hz x hx
  simp only [Bool.and_eq_true, decide_eq_true_eq] at this
  omega
theorem small_ (k : ∀ w', Mod none' w w' → next (.bool true) w') : callvK Try.prog (.func (.func 9) #[] #[]) [] w next QP := by
  refine r9 rfl ?_
  unfold h9
  try simp only [go_sem]
  refine bslT (l := [[97], [98]]) rfl (by omega) rfl ?_
  intro b1 w1 t1 m1
  try simp only [go_sem]
  refine bslT (l := [[97]]) rfl (by omega) rfl ?_
  intro b2 w2 t2 m2
  try simp only [go_sem]
  refine bslI (ps := [(⟨[99], 3, [[97], [98]], [120], true⟩, .slice (some ⟨b1, 0, none⟩) 2 2), (⟨[97], 1, [], [120], false⟩, .slice none 0 0), (⟨[98], 2, [[97]], [120], true⟩, .slice (some ⟨b2, 0, none⟩) 1 1)]) rfl (by omega) rfl ?_ ?_
  · intro i h
    match i, h with
    | 0, _ => exact t1.mod m2 fun _ _ h => h
    | 1, _ => exact sl_nil _
    | 2, _ => exact t2
  intro v3 w3 i3 m3
  try simp only [go_sem]
  refine small1_ (its := sI1) (ns := sN1) i3 (by decide +kernel) (by decide +kernel) (by decide) sF1 ?_
  intro v4 w4 f4 m4
  have M4 := ((m1.trans' m2).trans' m3).trans' m4
  try simp only [go_sem]
  unfold h9_1
  try simp only [go_sem]
  refine bslT (l := [[97]]) rfl (by omega) rfl ?_
  intro b5 w5 t5 m5
  try simp only [go_sem]
  refine bslT (l := [[97]]) rfl (by omega) rfl ?_
  intro b6 w6 t6 m6
  try simp only [go_sem]
  refine bslI (ps := [(⟨[98], 2, [[97]], [120], true⟩, .slice (some ⟨b5, 0, none⟩) 1 1), (⟨[99], 3, [[97]], [120], true⟩, .slice (some ⟨b6, 0, none⟩) 1 1), (⟨[100], 1, [], [121], false⟩, .slice none 0 0)]) rfl (by omega) rfl ?_ ?_
  · intro i h
    match i, h with
    | 0, _ => exact t5.mod m6 fun _ _ h => h
    | 1, _ => exact t6
    | 2, _ => exact sl_nil _
  intro v7 w7 i7 m7
  try simp only [go_sem]
  refine small1_ (its := sI2) (ns := sN2) i7 (by decide +kernel) (by decide +kernel) (by decide) sF2 ?_
  intro v8 w8 f8 m8
  have M8 := ((m5.trans' m6).trans' m7).trans' m8
  try simp only [go_sem]
  unfold h9_2
  try simp only [go_sem]
  refine bslT (l := [[98]]) rfl (by omega) rfl ?_
  intro b9 w9 t9 m9
  try simp only [go_sem]
  refine bslT (l := [[97]]) rfl (by omega) rfl ?_
  intro b10 w10 t10 m10
  try simp only [go_sem]
  refine bslI (ps := [(⟨[97], 1, [[98]], [120], false⟩, .slice (some ⟨b9, 0, none⟩) 1 1), (⟨[98], 2, [[97]], [120], false⟩, .slice (some ⟨b10, 0, none⟩) 1 1)]) rfl (by omega) rfl ?_ ?_
  · intro i h
    match i, h with
    | 0, _ => exact t9.mod m10 fun _ _ h => h
    | 1, _ => exact t10
  intro v11 w11 i11 m11
  try simp only [go_sem]
  refine small1_ (its := sI3) (ns := sN3) i11 (by decide +kernel) (by decide +kernel) (by decide) sF3 ?_
  intro v12 w12 f12 m12
  have M12 := ((m9.trans' m10).trans' m11).trans' m12
  try simp only [go_sem]
  unfold h9_3
  try simp only [go_sem]
  refine bslI (ps := [(⟨[97], 1, [], [88], false⟩, .slice none 0 0), (⟨[98], 2, [], [120], true⟩, .slice none 0 0), (⟨[99], 0, [], [120], true⟩, .slice none 0 0)]) rfl (by omega) rfl ?_ ?_
  · intro i h
    match i, h with
    | 0, _ => exact sl_nil _
    | 1, _ => exact sl_nil _
    | 2, _ => exact sl_nil _
  intro v13 w13 i13 m13
  try simp only [go_sem]
  refine small1_ (its := sI4) (ns := sN4) i13 (by decide +kernel) (by decide +kernel) (by decide) sF4 ?_
  intro v14 w14 f14 m14
  have M14 := m13.trans' m14
  try simp only [go_sem]
  refine bslN (ns := sN1) rfl (by omega) rfl ?_
  intro v15 w15 f15 m15
  try simp only [go_sem]
  have g4 := f4.mod (((M8.trans' M12).trans' M14).trans' m15) fun _ _ h => h
  refine same_ g4 f15 (by decide) ?_
  intro w16 m16
  try simp only [go_sem]
  refine bslN (ns := sN2) rfl (by omega) rfl ?_
  intro v17 w17 f17 m17
  have M17 := (m15.trans' m16).trans' m17
  try simp only [go_sem]
  unfold l9_5
  try simp only [go_sem]
  have g8 := f8.mod ((M12.trans' M14).trans' M17) fun _ _ h => h
  refine same_ g8 f17 (by decide) ?_
  intro w18 m18
  try simp only [go_sem]
  unfold l9_4
  try simp only [go_sem]
  unfold h9_6
  try simp only [go_sem]
  refine bslN (ns := sN3) rfl (by omega) rfl ?_
  intro v19 w19 f19 m19
  try simp only [go_sem]
  unfold l9_10
  try simp only [go_sem]
  have M19 := (M17.trans' m18).trans' m19
  have g12 := f12.mod (M14.trans' M19) fun _ _ h => h
  refine same_ g12 f19 (by decide) ?_
  intro w20 m20
  try simp only [go_sem]
  unfold l9_9
  try simp only [go_sem]
  refine bslN (ns := sN4) rfl (by omega) rfl ?_
  intro v21 w21 f21 m21
  try simp only [go_sem]
  unfold l9_8
  try simp only [go_sem]
  have M21 := (M19.trans' m20).trans' m21
  have g14 := f14.mod M21 fun _ _ h => h
  refine same_ g14 f21 (by decide) ?_
  intro w22 m22
  try simp only [go_sem]
  unfold l9_7
  try simp only [go_sem]
  exact k w22 (((((M4.trans' M8).trans' M12).trans' M14).trans' M21).trans' m22)
end
end Go.Proofs.Y

/- TMa: thread: the reference's references, finding, nearest; circles. -/
namespace Go.Proofs.Y
open Go Go.HL Go.Proofs

section
variable {w w' : World} {its : List It} {rvs : List Value} {next : Value → World → Prop} {QP : List PanicEntry → World → Prop}
theorem Its.up {v : Value} (h : Its w v its rvs) (m : Mod none' w w') : Its w' v its rvs := ⟨h.len, h.sl.mod m fun _ _ h => h, fun i h1 h2 => (h.refs i h1 h2).mod m fun _ _ h => h⟩
theorem rrefs_ {x : It} {rx : Value} (hv : Sl w rx 1 x.refs.length (x.refs.map str)) (hn : x.refs.length ≤ 1000000)
    (k : ∀ v' w', Sl w' v' 1 x.rf.length (x.rf.map str) → Mod none' w w' → next v' w') : callvK Try.prog (.func (.func 16) #[] #[]) [x.v rx] w next QP := by
  refine r16 rfl ?_
  obtain ⟨ra, rc, rfl, -, hcell⟩ := hv.form
  unfold h16
  try simp only [go_sem]
  refine box_ (cs := x.cells (.slice ra x.refs.length rc)) rfl ?_
  intro b w1 hb bk m1 s1
  try simp only [go_sem]
  refine loopN x.refs.length (fun i τ w' => ∃ v', τ 1 = ptr b ∧ τ 3 = v' ∧ τ 4 = .int .i64 i ∧ HL.Own w' v' 9 1 ((x.refs.take i).filter fun r => !delB x r).length (((x.refs.take i).filter fun r => !delB x r).map str) ∧ (∀ k, v'.ownBlock = some k → w1.heap.size ≤ k) ∧ Blk w' b 34 (x.cells (.slice ra x.refs.length rc)) ∧ Mod none' w w') ⟨0, by omega, .slice none 0 0, rfl, rfl, rfl, Own.nil _ _ _, fun k hk => (by cases hk), bk, m1⟩ ?_
  rintro i τ w2 hi ⟨v', t1, t3, t4, own2, hf2, bk2, m2⟩
  have a2 := ItAt.blk bk2
  have z0 := a2.c0
  have z2 := a2.c2
  unfold h16_1
  try simp only [go_sem, t1, t3, t4, z2]
  refine ⟨fun hlt => ?_, fun hge => ?_⟩
  · have hil : i < x.refs.length := by
      have := of_decide_eq_true hlt
      omega
    obtain ⟨g, o, rfl, hce⟩ := hcell (by omega)
    have hc : w2.cell? ⟨g, o + i, none⟩ = some (str x.refs[i]) := by
      refine m2.cell ?_ (fun h => h)
      rw [hce i (by omega)]; simp [hil]
    have hfil : (x.refs.take (i + 1)).filter (fun r => !delB x r) = (x.refs.take i).filter (fun r => !delB x r) ++ (if delB x x.refs[i] = true then [] else [x.refs[i]]) := by
      rw [List.take_succ_eq_append_getElem hil, List.filter_append]
      cases h : delB x x.refs[i] <;> simp [h]
    have hlen : ((x.refs.take i).filter fun r => !delB x r).length ≤ 1000000 := Nat.le_trans (List.length_filter_le _ _) (by simp; omega)
    unfold h16_2
    try simp only [go_sem, t1, t3, t4, z0, z2, hc]
    refine ⟨⟨by omega, by omega⟩, fun _ => ⟨by omega, by omega⟩, ?_⟩
    have hif : (if (!decide (x.refs[i] = x.id)) = true then !decide (x.refs[i] = []) else false) = !delB x x.refs[i] := by
      unfold delB
      by_cases h1 : x.refs[i] = x.id <;> simp [h1]
    rw [hif]
    refine ⟨fun hd => ?_, fun hd => ?_⟩
    · have hd : delB x x.refs[i] = false := by simpa using hd
      rw [hd] at hfil
      refine ⟨⟨by omega, by omega⟩, ?_⟩
      refine bsl1 (cs := [str x.refs[i]]) sl32 rfl rfl (by omega) ?_
      intro b3 w3 hb3 own3 bk3 m3 s3
      have m23 := (Mod.drew none' w2).trans' m3
      try simp only [go_sem, t1, t3, t4]
      refine append_ sl32 (own2.mod m23 fun _ _ h => h) own3.sl (by intro u hu; rw [List.mem_singleton.1 hu]; rfl) (by omega) (by unfold maxLen; omega) ?_
      intro v4 w4 own4 m4 hf4 _
      have hb1 : b < w1.heap.size := bk.lt
      have bk4 : Blk w4 b 34 (x.cells (.slice (some ⟨g, o, none⟩) x.refs.length rc)) := (bk2.mod m23 fun h => h).mod m4 fun h => by
        have := hf2 b h
        omega
      have own4' : HL.Own w4 v4 9 1 ((x.refs.take (i + 1)).filter fun r => !delB x r).length (((x.refs.take (i + 1)).filter fun r => !delB x r).map str) := by
        rw [hfil]
        simp only [Bool.false_eq_true, if_false, List.length_append, List.length_singleton, List.map_append, List.map_cons, List.map_nil]
        exact own4
      have hw1 : w1.heap.size = b + 1 := s1
      have hf4' : ∀ k, v4.ownBlock = some k → w1.heap.size ≤ k := fun k hk => by
        rcases hf4 k hk with h | h
        · exact hf2 k h
        · have hbl := (bk2.mod m23 fun h => h).lt
          have := m3.size
          have h2 : w1.heap.size ≤ w2.heap.size := by
            have := bk2.lt
            omega
          have h3 : w2.drew.heap.size = w2.heap.size := rfl
          omega
      have m04 : Mod none' w w4 := (m2.trans' m23).trans m4 fun j hj h => by
        have := hf2 j h
        have := m1.size
        omega
      unfold h16_3
      try simp only [go_sem, t1, t3, t4]
      rw [w64 (by omega) (by omega)]
      refine ⟨i + 1, by omega, by omega, v4, ?_⟩
      (repeat' first | assumption | rfl | omega | apply And.intro)
    · have hd : delB x x.refs[i] = true := by simpa using hd
      rw [hd] at hfil
      simp only [if_true, List.append_nil] at hfil
      rw [← hfil] at own2
      have m5 := m2.trans' (Mod.drew none' w2)
      have own5 := own2.mod (Mod.drew none' w2) fun _ _ h => h
      have bk5 := bk2.mod (Mod.drew none' w2) fun h => h
      unfold h16_3
      try simp only [go_sem, t1, t3, t4]
      rw [w64 (by omega) (by omega)]
      refine ⟨i + 1, by omega, by omega, v', ?_⟩
      (repeat' first | assumption | rfl | omega | apply And.intro)
  · have hil : i = x.refs.length := by
      have := of_decide_eq_false hge
      omega
    subst hil
    rw [List.take_length] at own2
    unfold h16_4
    try simp only [go_sem, t1, t3, t4]
    exact k v' w2 own2.sl m2
theorem rfind_ {v : Value} {id : Bytes} (hK : Its w v its rvs) (hn : its.length ≤ 1000000) (k : next (.int .i64 (oi (findI its id))) w) : callvK Try.prog (.func (.func 12) #[] #[]) [v, str id] w next QP := by
  refine r12 rfl ?_
  obtain ⟨va, vc, rfl, -, -⟩ := hK.sl.form
  unfold h12
  try simp only [go_sem]
  refine loopN its.length (fun i τ w' => τ 0 = .slice va its.length vc ∧ τ 1 = str id ∧ τ 5 = .int .i64 i ∧ (∀ x (hx : x < its.length), x < i → its[x].id ≠ id) ∧ w' = w) ⟨0, by omega, rfl, rfl, rfl, fun x _ hx => by omega, rfl⟩ ?_
  rintro i τ w1 hi ⟨t0, t1, t5, hno, rfl⟩
  unfold h12_1
  try simp only [go_sem, t0, t1, t5]
  refine ⟨fun hlt => ?_, fun hge => ?_⟩
  · have hil : i < its.length := by
      have := of_decide_eq_true hlt
      omega
    obtain ⟨g, o, rfl⟩ := hK.addr (by omega)
    obtain ⟨rv, -, ax⟩ := hK.at hil
    have x0 := ax.c0
    unfold h12_2
    try simp only [go_sem, t0, t1, t5, x0]
    repeat refine ⟨⟨by omega, by omega⟩, ?_⟩
    refine ⟨fun he => ?_, fun hne => ?_⟩
    · have he : its[i].id = id := by simpa using he
      have : findI its id = some i := by
        unfold findI
        rw [List.findIdx?_eq_some_iff_getElem]
        exact ⟨hil, by simpa using he, fun j hj => by simpa using hno j (by omega) hj⟩
      rw [this] at k
      try simp only [go_sem, t0, t1, t5]
      exact k
    · have hne : its[i].id ≠ id := by simpa using hne
      unfold h12_3
      try simp only [go_sem, t0, t1, t5]
      rw [w64 (by omega) (by omega)]
      have h4 : ∀ x (hx : x < its.length), x < i + 1 → its[x].id ≠ id := by
        intro x hx hxi
        by_cases e : x = i
        · subst e; exact hne
        · exact hno x hx (by omega)
      refine ⟨i + 1, by omega, by omega, ?_⟩
      (repeat' first | assumption | rfl | omega | apply And.intro)
  · have hil : i = its.length := by
      have := of_decide_eq_false hge
      omega
    subst hil
    have : findI its id = none := by
      unfold findI
      rw [List.findIdx?_eq_none_iff]
      intro x hx
      obtain ⟨i, hi, rfl⟩ := List.getElem_of_mem hx
      simpa using hno i hi hi
    rw [this] at k
    unfold h12_4
    try simp only [go_sem]
    exact k
theorem near_ {v : Value} {i : Nat} (hK : Its w v its rvs) (hi : i < its.length) (hn : its.length ≤ 1000000) (hr : its[i].refs.length ≤ 1000000) (k : ∀ w', Mod none' w w' → next (.int .i64 (oi (nearI its i))) w') : callvK Try.prog (.func (.func 17) #[] #[]) [v, .int .i64 i] w next QP := by
  refine r17 rfl ?_
  obtain ⟨va, vc, rfl, -, -⟩ := hK.sl.form
  obtain ⟨g, o, rfl⟩ := hK.addr (by omega)
  obtain ⟨rv, hrv, ax⟩ := hK.at hi
  have x1 := ax.ln
  have x2 := ax.sm
  have hrl : its[i].rf.length ≤ 1000000 := by
    have := List.length_filter_le (fun r => !delB its[i] r) its[i].refs
    unfold It.rf
    omega
  rw [near_rf hi] at k
  unfold h17
  try simp only [go_sem, x1, x2]
  repeat refine ⟨⟨by omega, by omega⟩, ?_⟩
  refine rrefs_ hrv hr ?_
  intro v1 w1 sl1 m1
  obtain ⟨ra, rc, rfl, -, hcell⟩ := sl1.form
  try simp only [go_sem]
  rw [w64 (by omega) (by omega)]
  refine ⟨fun q τ w' => q ≤ its[i].rf.length ∧ τ 0 = .slice (some ⟨g, o, none⟩) its.length vc ∧ τ 5 = .slice ra its[i].rf.length rc ∧ τ 6 = .int .i64 ((q : Int) - 1) ∧ nearL its (its[i].rf.drop q) = none ∧ Mod none' w w' ∧ w' = w1, its[i].rf.length, ⟨Nat.le_refl _, rfl, rfl, by simp [upd], by rw [List.drop_length]; rfl, m1, rfl⟩, ?_⟩
  rintro q τ w2 ⟨hq, t0, t5, t6, hno, m2, rfl⟩
  unfold h17_1
  cases q with
  | zero =>
    have eg : decide ((0 : Int) ≤ 0 - 1) = false := rfl
    try simp only [go_sem, t0, t5, t6, eg]
    rw [List.drop_zero] at hno
    rw [hno] at k
    unfold h17_4
    try simp only [go_sem]
    exact k w2 m2
  | succ q =>
    have e1 : ((q + 1 : Nat) : Int) - 1 = (q : Int) := by omega
    rw [e1] at t6
    have eg : decide ((0 : Int) ≤ (q : Int)) = true := by simp
    obtain ⟨gr, ro, rfl, hce⟩ := hcell (by omega)
    have hc : w2.cell? ⟨gr, ro + q, none⟩ = some (str its[i].rf[q]) := by
      rw [hce q (by omega), List.getElem?_map, List.getElem?_eq_getElem (by omega)]; rfl
    have hdrop : nearL its (its[i].rf.drop q) = (findI its its[i].rf[q]).or none ∨ nearL its (its[i].rf.drop q) = findI its its[i].rf[q] := by
      right
      rw [List.drop_eq_getElem_cons (by omega)]
      unfold nearL at hno ⊢
      rw [List.reverse_cons, List.findSome?_append, hno]
      simp
    have hdrop : nearL its (its[i].rf.drop q) = findI its its[i].rf[q] := by
      rcases hdrop with h | h
      · rw [h]; cases findI its its[i].rf[q] <;> rfl
      · exact h
    try simp only [go_sem, t0, t5, t6, eg]
    unfold h17_2
    try simp only [go_sem, t0, t5, t6, hc]
    repeat refine ⟨⟨by omega, by omega⟩, ?_⟩
    refine rfind_ (hK.up m1) hn ?_
    try simp only [go_sem, t0, t5, t6]
    cases hf : findI its its[i].rf[q] with
    | some z =>
      have eg2 : decide ((0 : Int) ≤ oi (some z)) = true := by simp [oi]
      have hall : nearL its its[i].rf = some z := by
        have e := List.take_append_drop q its[i].rf
        rw [← e]
        unfold nearL at hdrop ⊢
        rw [List.reverse_append, List.findSome?_append, hdrop, hf]; rfl
      rw [hall] at k
      try simp only [go_sem, eg2]
      exact k w2 m2
    | none =>
      have eg2 : decide ((0 : Int) ≤ oi none) = false := rfl
      try simp only [go_sem, eg2]
      unfold h17_3
      try simp only [go_sem, t0, t5, t6]
      rw [w64 (by omega) (by omega)]
      rw [hf] at hdrop
      refine ⟨q, by omega, ?_⟩
      (repeat' first | assumption | rfl | omega | apply And.intro)
theorem circ_ {v : Value} (hK : Its w v its rvs) (hz : szI its) (hn : its.length ≤ 1000000) (k : ∀ b w', (b = false → ∀ i, i < its.length → ¬ OnC (nearI its) i) → Mod none' w w' → next (.bool b) w') : callvK Try.prog (.func (.func 20) #[] #[]) [v] w next QP := by
  refine r20 rfl ?_
  obtain ⟨va, vc, rfl, -, -⟩ := hK.sl.form
  unfold h20
  try simp only [go_sem]
  refine loopN its.length (fun i τ w' => τ 0 = .slice va its.length vc ∧ τ 3 = .int .i64 i ∧ (∀ x, x < i → ¬ OnC (nearI its) x) ∧ Mod none' w w') ⟨0, by omega, rfl, rfl, fun x hx => by omega, Mod.refl _ _⟩ ?_
  rintro i τ w1 hi ⟨t0, t3, hno, m1⟩
  unfold h20_1
  try simp only [go_sem, t0, t3]
  refine ⟨fun hlt => ?_, fun hge => ?_⟩
  · have hil : i < its.length := by
      have := of_decide_eq_true hlt
      omega
    have hsz : ∀ j (h : j < its.length), its[j].refs.length ≤ 1000000 := fun j h => (hz _ (List.getElem_mem h)).1
    unfold h20_2
    try simp only [go_sem, t0, t3]
    refine near_ (hK.up m1) hil hn (hsz i hil) ?_
    intro w2 m2
    try simp only [go_sem, t0, t3]
    refine loopN its.length (fun q τ w' => τ 0 = .slice va its.length vc ∧ τ 3 = .int .i64 i ∧ τ 4 = .int .i64 (oi (itr (nearI its) (q + 1) i)) ∧ τ 5 = .int .i64 q ∧ (∀ m, m < q → itr (nearI its) (m + 1) i ≠ some i) ∧ Mod none' w w') ⟨0, by omega, t0, t3, rfl, rfl, fun m hm => by omega, m1.trans' m2⟩ ?_
    rintro q τ w3 hq ⟨t0, t3, t4, t5, hm, m3⟩
    -- the round's end
    have fin : (∀ m, m + 1 ≤ its.length → itr (nearI its) (m + 1) i ≠ some i) → ∀ x, x < i + 1 → ¬ OnC (nearI its) x := by
      intro h x hx hc
      by_cases e : x = i
      · subst e
        obtain ⟨m, h1, h2⟩ := back_short (n := its.length) (fun i j h => nearI_lt h) hil hc
        exact h m h1 h2
      · exact hno x (by omega) hc
    unfold h20_3
    by_cases hql : q < its.length
    · have eq : decide ((q : Int) < (its.length : Int)) = true := by simpa using hql
      cases hk : itr (nearI its) (q + 1) i with
      | none =>
        rw [hk] at t4
        have eg : decide ((0 : Int) ≤ oi none) = false := rfl
        try simp only [go_sem, t0, t3, t4, t5, eq, eg]
        unfold h20_7
        try simp only [go_sem, t0, t3]
        rw [w64 (by omega) (by omega)]
        have h9 := fin fun m hml => by
          by_cases hmq : m < q
          · exact hm m hmq
          · rw [itr_none hk (m + 1) (by omega)]; simp
        refine ⟨i + 1, by omega, by omega, ?_⟩
        (repeat' first | assumption | rfl | omega | apply And.intro)
      | some j =>
        rw [hk] at t4
        have hj : j < its.length := by
          obtain ⟨z, -, hz⟩ := Option.bind_eq_some_iff.1 hk
          exact nearI_lt hz
        have t4 : τ 4 = .int .i64 (j : Int) := t4
        have eg : decide ((0 : Int) ≤ (j : Int)) = true := by simp
        try simp only [go_sem, t0, t3, t4, t5, eq, eg]
        unfold h20_4
        try simp only [go_sem, t0, t3, t4, t5]
        refine ⟨fun he => ?_, fun hne => ?_⟩
        · try simp only [go_sem]
          exact k true w3 (fun h => by cases h) m3
        · have hne : j ≠ i := by
            have := of_decide_eq_false hne
            omega
          unfold h20_5
          try simp only [go_sem, t0, t3, t4, t5]
          refine near_ (hK.up m3) hj hn (hsz j hj) ?_
          intro w4 m4
          unfold h20_6
          try simp only [go_sem, t0, t3, t4, t5]
          rw [w64 (by omega) (by omega)]
          have e4 : nearI its j = itr (nearI its) (q + 1 + 1) i := by
            show _ = (itr (nearI its) (q + 1) i).bind _
            rw [hk]; rfl
          rw [e4]
          have h9 : ∀ m, m < q + 1 → itr (nearI its) (m + 1) i ≠ some i := by
            intro m hmq
            by_cases e : m = q
            · subst e
              rw [hk]
              exact fun e => hne (Option.some.inj e)
            · exact hm m (by omega)
          have m5 := m3.trans' m4
          refine ⟨q + 1, by omega, by omega, ?_⟩
          (repeat' first | assumption | rfl | omega | apply And.intro)
    · have eq : decide ((q : Int) < (its.length : Int)) = false := by simp; omega
      try simp only [go_sem, t0, t3, t4, t5, eq]
      unfold h20_7
      try simp only [go_sem, t0, t3]
      rw [w64 (by omega) (by omega)]
      have h9 := fin fun m hml => hm m (by omega)
      refine ⟨i + 1, by omega, by omega, ?_⟩
      (repeat' first | assumption | rfl | omega | apply And.intro)
  · have hil : i = its.length := by
      have := of_decide_eq_false hge
      omega
    subst hil
    unfold h20_8
    try simp only [go_sem]
    exact k false w1 (fun _ => hno) m1
end
end Go.Proofs.Y

/- TMc: thread: Root, find; ThreadRoots. -/
namespace Go.Proofs.Y
open Go Go.HL Go.Proofs

section
variable {w w' : World} {its : List It} {rvs : List Value} {next : Value → World → Prop} {QP : List PanicEntry → World → Prop}

theorem find_ {v : Value} {l : List Nd} {c : Bytes} (hK : Sl w v 4 l.length (rows Nd.cells l)) (hn : l.length ≤ 1000000) (k : next (.int .i64 (oi (findN l c))) w) : callvK Try.prog (.func (.func 13) #[] #[]) [v, str c] w next QP := by
  refine r13 rfl ?_
  obtain ⟨va, vc, rfl, -, -⟩ := hK.form
  unfold h13
  try simp only [go_sem]
  refine loopN l.length (fun i τ w' => τ 0 = .slice va l.length vc ∧ τ 1 = str c ∧ τ 5 = .int .i64 i ∧ (∀ x (hx : x < l.length), x < i → l[x].id ≠ c) ∧ w' = w) ⟨0, by omega, rfl, rfl, rfl, fun x _ hx => by omega, rfl⟩ ?_
  rintro i τ w1 hi ⟨t0, t1, t5, hno, rfl⟩
  unfold h13_1
  try simp only [go_sem, t0, t1, t5]
  refine ⟨fun hlt => ?_, fun hge => ?_⟩
  · have hil : i < l.length := by
      have := of_decide_eq_true hlt
      omega
    obtain ⟨ga, oa, ca, ea, -, hca⟩ := hK.get Nd.len rfl (by omega)
    simp only [Value.slice.injEq] at ea
    obtain ⟨rfl, -, rfl⟩ := ea
    have x0 := hca i 0 hil (by omega)
    simp only [Nd.cells, List.getElem?_cons_zero, Nat.add_zero] at x0
    unfold h13_2
    try simp only [go_sem, t0, t1, t5, x0]
    repeat refine ⟨⟨by omega, by omega⟩, ?_⟩
    refine ⟨fun he => ?_, fun hne => ?_⟩
    · have he : l[i].id = c := by simpa using he
      have : findN l c = some i := by
        unfold findN
        rw [List.findIdx?_eq_some_iff_getElem]
        exact ⟨hil, by simpa using he, fun j hj => by simpa using hno j (by omega) hj⟩
      rw [this] at k
      try simp only [go_sem, t0, t1, t5]
      exact k
    · have hne : l[i].id ≠ c := by simpa using hne
      unfold h13_3
      try simp only [go_sem, t0, t1, t5]
      rw [w64 (by omega) (by omega)]
      have h4 : ∀ x (hx : x < l.length), x < i + 1 → l[x].id ≠ c := by
        intro x hx hxi
        by_cases e : x = i
        · subst e; exact hne
        · exact hno x hx (by omega)
      refine ⟨i + 1, by omega, by omega, ?_⟩
      (repeat' first | assumption | rfl | omega | apply And.intro)
  · have hil : i = l.length := by
      have := of_decide_eq_false hge
      omega
    subst hil
    unfold h13_4
    try simp only [go_sem]
    have : findN l c = none := by
      unfold findN
      rw [List.findIdx?_eq_none_iff]
      intro x hx
      obtain ⟨j, hj, rfl⟩ := List.getElem_of_mem hx
      simpa using hno j hj hj
    rw [this] at k
    exact k

theorem Root_ {v : Value} {c : Bytes} (hd : dist its) (hne : ne0 its) (hK : Its w v its rvs) (hz : szI its) (hn : its.length ≤ 1000000) (k : ∀ w', Mod none' w w' → next (str (rootB its c)) w') : callvK Try.prog (.func (.func 22) #[] #[]) [v, str c] w next QP := by
  refine r22 rfl ?_
  obtain ⟨va, vc, rfl, -, -⟩ := hK.sl.form
  unfold h22
  try simp only [go_sem]
  refine study_ hd hK hz hn ?_
  intro fb w1 hS m1
  obtain ⟨B, ib, nb, bb, hb, ks, ne, br, hs, hF, hix, hne', hbr, hsr⟩ := hS.ex
  have f1 := hF.f.cell 1
  simp only [List.getElem?_cons_zero, List.getElem?_cons_succ] at f1
  try simp only [go_sem, f1]
  refine lookup_ u49 u9 zi hF.ix ?_
  rw [hix c]
  cases hf : findI its c with
  | none =>
    have hroot : rootB its c = if c ∈ ghL its its.length then c else [] := by unfold rootB; rw [hf]
    try simp only [go_sem, Option.map_none, Option.isSome_none]
    refine loopN its.length (fun i τ w' => τ 0 = .slice va its.length vc ∧ τ 1 = str c ∧ τ 5 = ptr fb ∧ τ 27 = .int .i64 its.length ∧ τ 28 = .int .i64 i ∧ (∀ x, x < i → ¬ (gh its x ≠ [] ∧ gh its x = c)) ∧ Mod none' w1 w') ⟨0, by omega, rfl, rfl, rfl, rfl, rfl, fun x hx => by omega, Mod.refl _ _⟩ ?_
    rintro i τ w2 hi ⟨t0, t1, t5, t27, t28, hno, m2⟩
    unfold h22_1
    try simp only [go_sem, t0, t1, t5, t27, t28]
    refine ⟨fun hlt => ?_, fun hge => ?_⟩
    · have hil : i < its.length := by
        have := of_decide_eq_true hlt
        omega
      unfold h22_2
      try simp only [go_sem, t0, t1, t5, t27, t28]
      refine par_ hd (hS.up m2) hil hz hn ?_
      intro w3 m3
      unfold parV
      have e1 : (parI its i).2 = gh its i := rfl
      try simp only [go_sem, t0, t1, t5, t27, t28, e1]
      refine ⟨fun hc => ?_, fun hc => ?_⟩
      · have hg : gh its i ≠ [] ∧ gh its i = c := by
          by_cases h1 : gh its i = [] <;> simp [h1] at hc ⊢
          exact hc
        have := k w3 ((m1.trans' m2).trans' m3)
        rw [hroot, if_pos ((ghL_mem its _ _).2 ⟨by rw [← hg.2]; exact hg.1, i, hil, hg.2⟩)] at this
        exact this
      · have hg : ¬ (gh its i ≠ [] ∧ gh its i = c) := by
          rintro ⟨h1, h2⟩
          simp [h1, h2] at hc
          exact h1 (h2.trans hc)
        unfold h22_3
        try simp only [go_sem, t0, t1, t5, t27, t28]
        rw [w64 (by omega) (by omega)]
        have h4 : ∀ x, x < i + 1 → ¬ (gh its x ≠ [] ∧ gh its x = c) := by
          intro x hx
          by_cases e : x = i
          · subst e; exact hg
          · exact hno x (by omega)
        have m23 := m2.trans' m3
        refine ⟨i + 1, by omega, by omega, ?_⟩
        (repeat' first | assumption | rfl | omega | apply And.intro)
    · have hil : i = its.length := by
        have := of_decide_eq_false hge
        omega
      subst hil
      unfold h22_4
      try simp only [go_sem]
      have := k w2 (m1.trans' m2)
      rw [hroot, if_neg (fun h => by
        obtain ⟨h1, x, h2, h3⟩ := (ghL_mem its _ _).1 h
        exact hno x h2 ⟨by rw [h3]; exact h1, h3⟩)] at this
      exact this
  | some i0 =>
    obtain ⟨hil0, hid⟩ := findI_idAt hf
    have hroot : rootB its c = rootI its its.length i0 := by unfold rootB; rw [hf]
    try simp only [go_sem, Option.map_some, Option.isSome_some]
    unfold h22_5
    try simp only [go_sem]
    refine loopN its.length (fun m τ w' => τ 0 = .slice va its.length vc ∧ τ 5 = ptr fb ∧ (∃ j : Nat, j < its.length ∧ τ 6 = .int .i64 j ∧ rootB its c = rootI its (its.length - m) j ∧ itr (upI its) (its.length - m) j = none) ∧ Mod none' w1 w') ⟨0, by omega, rfl, rfl, ⟨i0, hil0, rfl, hroot, up_ends hd hil0⟩, Mod.refl _ _⟩ ?_
    rintro m τ w2 hm ⟨t0, t5, ⟨j, hj, t6, hr, hit⟩, m2⟩
    obtain ⟨f, hfm⟩ : ∃ f, its.length - m = f + 1 := by
      cases hlm : its.length - m with
      | zero => rw [hlm] at hit; simp [itr] at hit
      | succ f => exact ⟨f, rfl⟩
    rw [hfm] at hr hit
    rw [itr_succ] at hit
    unfold rootI at hr
    have hu : upI its j = (parI its j).1 := by unfold upI; rw [if_pos hj]
    rw [hu] at hit
    unfold h22_6
    try simp only [go_sem, t0, t5, t6]
    refine par_ hd (hS.up m2) hj hz hn ?_
    intro w3 m3
    unfold parV
    have e1 : (parI its j).2 = gh its j := rfl
    have m23 := m2.trans' m3
    have m13 := m1.trans' m23
    try simp only [go_sem, t0, t5, t6, e1]
    refine ⟨fun hc => ?_, fun hc => ?_⟩
    · have hg : gh its j ≠ [] := by simpa using hc
      rw [if_pos hg] at hr
      have := k w3 m13
      rw [hr] at this
      exact this
    · have hg : ¬ gh its j ≠ [] := by simpa using hc
      rw [if_neg hg] at hr
      try simp only [go_sem, t0, t5, t6, e1]
      refine ⟨fun hc => ?_, fun hc => ?_⟩
      · cases hp : (parI its j).1 with
        | some q =>
          rw [hp] at hc
          have hc : (q : Int) < 0 := of_decide_eq_true hc
          omega
        | none =>
          rw [hp] at hr
          obtain ⟨g, o, rfl⟩ := hK.addr (by omega)
          obtain ⟨rv, -, ax⟩ := ((hK.up m1).up m23).at hj
          have x0 := ax.c0
          try simp only [go_sem, t0, t5, t6, x0]
          repeat refine ⟨⟨by omega, by omega⟩, ?_⟩
          have := k w3 m13
          rw [hr, idAt_at hj] at this
          exact this
      · cases hp : (parI its j).1 with
        | none => rw [hp] at hc; simp [oi] at hc
        | some q =>
          rw [hp] at hr hit hu
          have hq := (upI_lt hu).2
          unfold h22_7
          try simp only [go_sem, t0, t5, t6]
          have hfm2 : its.length - (m + 1) = f := by omega
          refine ⟨m + 1, by omega, by omega, ⟨q, hq, rfl, by rw [hfm2]; exact hr, by rw [hfm2]; exact hit⟩, m23⟩

theorem roots_ {v : Value} {c : Bytes} (hK : Its w v its rvs) (hml : its.length ≤ 9223372036854775807) (k : ∀ w', Mod none' w w' → next (.bool true) w') : callK Try.prog 7 [v, str c] w next QP := by
  refine q7 rfl ?_
  obtain ⟨va, vc, rfl, -, -⟩ := hK.sl.form
  unfold h7
  try simp only [go_sem]
  refine small_ ?_
  intro w1 m1
  try simp only [go_sem]
  refine few_ (hK.up m1) hml ?_
  intro b w2 hb m2
  have m02 := m1.trans' m2
  cases b with
  | false =>
    try simp only [go_sem]
    exact k w2 m02
  | true =>
    have hP := hb rfl
    have hd := hP.d
    have hne := hP.e
    have hn40 := hP.n
    try simp only [go_sem]
    unfold h7_1
    try simp only [go_sem]
    refine Forest_ hd hne (hK.up m02) hP.sz (by omega) ?_
    intro v3 w3 own3 hf3 m3
    have m03 := m02.trans' m3
    have hlen := forest_len hd hne
    obtain ⟨fa, fc, rfl, -, -⟩ := own3.form
    try simp only [go_sem]
    refine loopN (forestB its).length (fun i τ w' => τ 0 = .slice va its.length vc ∧ τ 1 = str c ∧ τ 5 = .bool true ∧ τ 6 = .slice fa (forestB its).length fc ∧ τ 7 = .int .i64 i ∧ Mod none' w3 w') ⟨0, by omega, rfl, rfl, rfl, rfl, rfl, Mod.refl _ _⟩ ?_
    rintro i τ w4 hi ⟨t0, t1, t5, t6, t7, m4⟩
    have sl4 := (own3.sl.mod m4 fun _ _ h => h)
    have m04 := m03.trans' m4
    unfold h7_2
    try simp only [go_sem, t0, t1, t5, t6, t7]
    refine ⟨fun hlt => ?_, fun hge => ?_⟩
    · have hil : i < (forestB its).length := by
        have := of_decide_eq_true hlt
        omega
      obtain ⟨e, he, hex, hnd⟩ := forest_at hil
      unfold h7_3
      try simp only [go_sem, t0, t1, t5, t6, t7]
      refine loopN i (fun m σ w' => σ 0 = .slice va its.length vc ∧ σ 1 = str c ∧ σ 5 = .bool true ∧ σ 6 = .slice fa (forestB its).length fc ∧ σ 7 = .int .i64 i ∧ (∃ e' ∈ enF its, σ 8 = .int .i64 e'.x ∧ e'.x + m ≤ i ∧ rootB its e.b.id = rootB its e'.b.id) ∧ Mod none' w4 w') ⟨0, by omega, t0, t1, t5, t6, t7, ⟨e, he, by rw [hex]; rfl, by omega, rfl⟩, Mod.refl _ _⟩ ?_
      rintro m σ w5 hm ⟨t0, t1, t5, t6, t7, ⟨e', he', t8, hem, hroot⟩, m5⟩
      obtain ⟨hx', hnd'⟩ := forest_x he'
      obtain ⟨ga, oa, ca, ea, -, hca⟩ := (sl4.mod m5 fun _ _ h => h).get Nd.len rfl (by omega)
      simp only [Value.slice.injEq] at ea
      obtain ⟨rfl, -, rfl⟩ := ea
      have x0 := hca i 0 hil (by omega)
      have x2 := hca e'.x 2 hx' (by omega)
      have z0 := hca e'.x 0 hx' (by omega)
      rw [hnd] at x0
      rw [hnd'] at x2 z0
      simp only [Nd.cells, En.nd, List.getElem?_cons_zero, List.getElem?_cons_succ, Nat.add_zero] at x0 x2 z0
      unfold h7_4
      try simp only [go_sem, t0, t1, t5, t6, t7, t8, x2]
      repeat refine ⟨⟨by omega, by omega⟩, ?_⟩
      refine ⟨fun _ => ⟨by omega, by omega⟩, ?_⟩
      rcases en_pid hd hne he' with ⟨hp, hu⟩ | ⟨q, hq, hp, hqx, hu⟩
      · have c1 : decide (0 ≤ e'.p) = false := by rw [hp]; rfl
        try simp only [go_sem, c1]
        unfold h7_6
        try simp only [go_sem, t0, t1, t5, t6, t7, t8, x0, z0]
        repeat refine ⟨⟨by omega, by omega⟩, ?_⟩
        refine Root_ hd hne ((hK.up m04).up m5 |>.up (Mod.drew none' w5)) hP.sz (by omega) ?_
        intro w6 m6
        have m56 := (Mod.drew none' w5).trans' m6
        have z0' := m56.cell z0 (fun h => h)
        have hr : rootB its e.b.id = e'.b.id := by
          rw [hroot, root_en hd hne he', hu]
        try simp only [go_sem, t0, t1, t5, t6, t7, t8, z0', z0, hr]
        unfold h7_7
        try simp only [go_sem, t0, t1, t5, t6, t7]
        rw [w64 (by omega) (by omega)]
        have m46 := (m4.trans' m5).trans' m56
        refine ⟨i + 1, by omega, by omega, ?_⟩
        (repeat' first | assumption | rfl | omega | apply And.intro)
      · have c1 : decide (0 ≤ e'.p) = true := by rw [hp]; exact decide_eq_true (by omega)
        have c2 : decide (e'.p < (e'.x : Int)) = true := by rw [hp]; exact decide_eq_true (by omega)
        try simp only [go_sem, c1, c2]
        unfold h7_5
        try simp only [go_sem, t0, t1, t5, t6, t7, t8, x2]
        repeat refine ⟨⟨by omega, by omega⟩, ?_⟩
        have hr : rootB its e.b.id = rootB its q.b.id := by
          rw [hroot, root_en hd hne he', hu]
        refine ⟨m + 1, by omega, by omega, ?_⟩
        rw [hp]
        exact ⟨⟨q, hq, rfl, by omega, hr⟩, m5⟩
    · have hil : i = (forestB its).length := by
        have := of_decide_eq_false hge
        omega
      subst hil
      unfold h7_8
      try simp only [go_sem, t0, t1, t5, t6]
      refine find_ sl4 (by omega) ?_
      unfold l7_10 l7_9
      try simp only [go_sem, t0, t1, t5, t6]
      cases hfn : findN (forestB its) c with
      | some q =>
        have c1 : decide (0 ≤ oi (some q)) = true := decide_eq_true (by unfold oi; simp only; omega)
        try simp only [go_sem, c1]
        exact k w4 m04
      | none =>
        have c1 : decide (0 ≤ oi none) = false := rfl
        try simp only [go_sem, c1]
        refine Root_ hd hne (hK.up m04) hP.sz (by omega) ?_
        intro w5 m5
        rw [root_none hd hne hfn]
        try simp only [go_sem]
        exact k w5 (m04.trans' m5)
end
end Go.Proofs.Y

/- TMe: thread: ThreadForms. -/
namespace Go.Proofs.Y
open Go Go.HL Go.Proofs

/-! ### plain -/
section
variable {its : List It}
def isI (its : List It) (x : Nd) : Bool := (findI its x.id).isSome
theorem count_all (hd : dist its) (hne : ne0 its) : (forestB its).countP (isI its) = its.length := by
  rw [List.countP_eq_length_filter]
  have h1 : (((forestB its).filter (isI its)).map (·.id)).Nodup := (forest_nodup hd hne).sublist ((List.filter_sublist).map _)
  have hp : (((forestB its).filter (isI its)).map (·.id)).Perm (its.map (·.id)) := by
    refine (List.perm_ext_iff_of_nodup h1 hd).2 fun c => ?_
    constructor
    · intro h
      obtain ⟨x, hx, rfl⟩ := List.mem_map.1 h
      obtain ⟨-, h2⟩ := List.mem_filter.1 hx
      unfold isI at h2
      obtain ⟨i, hi⟩ := Option.isSome_iff_exists.1 h2
      obtain ⟨h3, h4⟩ := findI_some hi
      rw [← h4]
      exact List.mem_map.2 ⟨_, List.getElem_mem h3, rfl⟩
    · intro h
      obtain ⟨x, hx, rfl⟩ := List.mem_map.1 h
      obtain ⟨i, hi, rfl⟩ := List.getElem_of_mem hx
      obtain ⟨e, he, eb⟩ := en_item hd hne hi
      have hid : e.b.id = its[i].id := by rw [eb]; exact idAt_at hi
      refine List.mem_map.2 ⟨e.nd, List.mem_filter.2 ⟨?_, ?_⟩, hid⟩
      · rw [forest_en]; exact List.mem_map.2 ⟨e, he, rfl⟩
      · unfold isI
        show (findI its e.b.id).isSome = true
        rw [hid, findI_at hd hi]; rfl
  have := hp.length_eq
  simpa using this
theorem en_first (hd : dist its) (hne : ne0 its) {e : En} (he : e ∈ enF its) (hg : e.b.ghost = true) : e.p = -1 ∧ ∃ e' ∈ enF its, e'.x = e.x + 1 ∧ e'.p = e.x := by
  rcases en_kind hd hne he with ⟨i, hi, eb, hf⟩ | ⟨g, hgm, eb, hf, hp⟩
  · rw [eb] at hg; cases hg
  · refine ⟨hp, wz_first _ _ _ _ _ (forest_deep hd hne) e he ?_⟩
    obtain ⟨h1, i, hi, h2⟩ := (ghL_mem its _ g).1 hgm
    have hid : e.b.id = g := by rw [eb]; rfl
    have : itP its i ∈ kids its e.b.id := kids_mem.2 (.inl ⟨i, hi, by rw [hid, ← h2]; exact (gh_ok hi (by rw [h2]; exact h1)).2.1, rfl⟩)
    intro h
    have this : itP its i ∈ ([] : List Pn) := h ▸ this
    cases this
theorem en_dx : ∀ (n : Nat) {e : En}, e ∈ enF its → e.x ≤ n → 0 ≤ e.d ∧ e.d ≤ e.x
  | n, e, he, hn => by
    rcases en_up he with ⟨-, h, -⟩ | ⟨e', he', -, h2, -, h3⟩
    · omega
    · cases n with
      | zero => omega
      | succ n =>
        have := en_dx n he' (by omega)
        omega
theorem en_btw {e e' : En} (he : e ∈ enF its) (he' : e' ∈ enF its) (h1 : e.p < e'.x) (h2 : e'.x < e.x) : e.d ≤ e'.d := wz_btw _ _ _ _ _ (by omega) e he e' he' h1 h2
theorem en_ord (hd : dist its) (hne : ne0 its) {e e' : En} (he : e ∈ enF its) (he' : e' ∈ enF its) (hp : e'.p = e.p) (hx : e'.x < e.x) {q q' : Nat} (hq : findI its e.b.id = some q) (hq' : findI its e'.b.id = some q') : bef (dateAt its q') (idAt its q') (dateAt its q) (idAt its q) = true := by
  obtain ⟨h1, h2⟩ := wz_ord (R' := fun a b => a.id ≠ b.id ∧ befP b a = false) (kids_ord hd) _ _ _ _ _ (kids_ord hd _) (by omega) e he e' he' hp hx
  have key : ∀ {e : En} {q : Nat}, e ∈ enF its → findI its e.b.id = some q → q < its.length ∧ e.b = itP its q := by
    intro e q he hq
    rcases en_kind hd hne he with ⟨i, hi, eb, hf⟩ | ⟨g, hgm, eb, hf, hp⟩
    · rw [hq] at hf
      obtain rfl := Option.some.inj hf
      exact ⟨hi, eb⟩
    · rw [hq] at hf; cases hf
  obtain ⟨h3, h4⟩ := key he hq
  obtain ⟨h5, h6⟩ := key he' hq'
  rw [h4, h6] at h1 h2
  cases hb : bef (dateAt its q') (idAt its q') (dateAt its q) (idAt its q) with
  | true => rfl
  | false =>
    have h2 : bef (dateAt its q) (idAt its q) (dateAt its q') (idAt its q') = false := h2
    exact absurd (bef_tri h2 hb).2.symm h1
end
section
variable {w w' : World} {its : List It} {rvs : List Value} {next : Value → World → Prop} {QP : List PanicEntry → World → Prop}
theorem befr_ (d1 d2 : Int) (a b : Bytes) (k : next (.bool (bef d1 a d2 b)) w) : callvK Try.prog (.func (.func 14) #[] #[]) [.int .i64 d1, str a, .int .i64 d2, str b] w next QP := by
  refine r14 rfl ?_
  unfold h14
  try simp only [go_sem]
  have e : (if decide (d1 < d2) = true then true else if decide (d1 = d2) = true then Op.bytesLess a b else false) = bef d1 a d2 b := by
    unfold bef bl
    by_cases h1 : d1 < d2 <;> by_cases h2 : d1 = d2 <;> simp [h1, h2]
  rw [e]
  exact k

def FI (va : Option Addr) (vc : Nat) (its : List It) (fa : Option Addr) (fc i : Nat) (τ : Env) : Prop := τ 0 = .slice va its.length vc ∧ τ 3 = .bool true ∧ τ 4 = .slice fa (forestB its).length fc ∧ τ 5 = .int .i64 (((forestB its).take (i + 1)).countP (isI its) : Nat) ∧ τ 6 = .int .i64 i
theorem forms1_ {va : Option Addr} {vc i fc : Nat} {ga oa : Nat} {e : En} (hK : Its w (.slice va its.length vc) its rvs) (hP : fewP its) (he : e ∈ enF its) (hil : i < (forestB its).length) (hex : e.x = i) (hnd : (forestB its)[i] = e.nd)
    (sl : Sl w (.slice (some ⟨ga, oa, none⟩) (forestB its).length fc) 4 (forestB its).length (rows Nd.cells (forestB its))) {Q : HX → Env → World → Prop} (hQ : ∀ σ u, FI va vc its (some ⟨ga, oa, none⟩) fc i σ → Mod none' w u → Q .normal σ u)
    {τ : Env} (hτ : FI va vc its (some ⟨ga, oa, none⟩) fc i τ) (t7 : τ 7 = .int .i64 (oi (findI its e.b.id))) : hw Try.prog noPanic h3_5 Q τ w := by
  obtain ⟨t0, t3, t4, t5, t6⟩ := hτ
  have hd := hP.d
  have hne := hP.e
  have hn40 := hP.n
  have hlen := forest_len hd hne
  obtain ⟨ga', oa', ca, ea, -, hca⟩ := sl.get Nd.len rfl (by omega)
  simp only [Value.slice.injEq, Option.some.injEq, Addr.mk.injEq] at ea
  obtain ⟨⟨rfl, rfl, -⟩, -, rfl⟩ := ea
  have x0 := hca i 0 hil (by omega)
  have x1 := hca i 1 hil (by omega)
  have x2 := hca i 2 hil (by omega)
  have x3 := hca i 3 hil (by omega)
  rw [hnd] at x0 x1 x2 x3
  simp only [Nd.cells, En.nd, List.getElem?_cons_zero, List.getElem?_cons_succ, Nat.add_zero] at x0 x1 x2 x3
  have hp1 : -1 ≤ e.p ∧ e.p < i := by
    rcases en_up he with ⟨h1, -, -⟩ | ⟨e', he', h1, -, -, h2⟩ <;> omega
  have four : ∀ τ : Env, FI va vc its (some ⟨ga, oa, none⟩) fc i τ → τ 7 = .int .i64 (oi (findI its e.b.id)) → hw Try.prog noPanic h3_12 Q τ w := by
    rintro τ ⟨t0, t3, t4, t5, t6⟩ t7
    unfold h3_12
    try simp only [go_sem, t0, t3, t4, t5, t6, t7]
    refine loopN i (fun n σ u => FI va vc its (some ⟨ga, oa, none⟩) fc i σ ∧ σ 7 = .int .i64 (oi (findI its e.b.id)) ∧ σ 10 = .int .i64 n ∧ Mod none' w u) ⟨0, by omega, ⟨t0, t3, t4, t5, t6⟩, t7, rfl, Mod.refl _ _⟩ ?_
    rintro n σ u hn ⟨⟨t0, t3, t4, t5, t6⟩, t7, t10, mu⟩
    unfold h3_13
    try simp only [go_sem, t0, t3, t4, t5, t6, t7, t10]
    refine ⟨fun hlt => ?_, fun hge => hQ _ _ ⟨t0, t3, t4, t5, t6⟩ mu⟩
    have hni : n < i := by
      have := of_decide_eq_true hlt
      omega
    obtain ⟨e2, he2, hx2, hn2⟩ := forest_at (its := its) (i := n) (by omega)
    have mu2 := mu.trans' (Mod.drew none' u)
    have y2 := mu.cell x2 fun h => h
    have z0 := hca n 0 (by omega) (by omega)
    have z2 := hca n 2 (by omega) (by omega)
    rw [hn2] at z0 z2
    simp only [Nd.cells, En.nd, List.getElem?_cons_zero, List.getElem?_cons_succ, Nat.add_zero] at z0 z2
    have z0 := mu.cell z0 fun h => h
    have z2 := mu.cell z2 fun h => h
    unfold h3_14
    try simp only [go_sem, t0, t3, t4, t5, t6, t7, t10, z0]
    repeat refine ⟨⟨by omega, by omega⟩, ?_⟩
    refine rfind_ (hK.up mu) (by omega) ?_
    have fin : ∀ σ : Env, FI va vc its (some ⟨ga, oa, none⟩) fc i σ → σ 7 = .int .i64 (oi (findI its e.b.id)) → σ 10 = .int .i64 n → hw Try.prog noPanic h3_15 (seqX (fun σ' w' => ∃ i', n < i' ∧ i' ≤ i ∧ FI va vc its (some ⟨ga, oa, none⟩) fc i σ' ∧ σ' 7 = .int .i64 (oi (findI its e.b.id)) ∧ σ' 10 = .int .i64 i' ∧ Mod none' w w') (blockX 4 Q)) σ u.drew := by
      rintro σ ⟨t0, t3, t4, t5, t6⟩ t7 t10
      unfold h3_15
      try simp only [go_sem, t0, t3, t4, t5, t6, t7, t10]
      rw [w64 (by omega) (by omega)]
      refine ⟨n + 1, by omega, by omega, ⟨t0, t3, t4, t5, t6⟩, ?_⟩
      (repeat' first | assumption | rfl | omega | apply And.intro)
    have hsome : ∀ q : Nat, decide (0 ≤ oi (some q)) = true := fun q => decide_eq_true (by unfold oi; simp only; omega)
    have hnone : decide (0 ≤ oi none) = false := rfl
    cases hq : findI its e.b.id with
    | none =>
      rw [hq] at t7 fin
      try simp only [go_sem, t0, t3, t4, t5, t6, t7, t10, z2, y2, hnone]
      exact fin _ ⟨t0, t3, t4, t5, t6⟩ t7 t10
    | some q =>
      rw [hq] at t7 fin
      cases hq2 : findI its e2.b.id with
      | none =>
        try simp only [go_sem, t0, t3, t4, t5, t6, t7, t10, z2, y2, hnone, hsome]
        exact fin _ ⟨t0, t3, t4, t5, t6⟩ t7 t10
      | some q2 =>
        by_cases hpp : e2.p = e.p
        · have c1 : decide (e2.p = e.p) = true := decide_eq_true hpp
          have hb := en_ord hd hne he he2 hpp (by omega) hq hq2
          obtain ⟨hql, -⟩ := findI_idAt hq
          obtain ⟨hq2l, -⟩ := findI_idAt hq2
          rw [dateAt_at hql, dateAt_at hq2l, idAt_at hql, idAt_at hq2l] at hb
          obtain ⟨g, o, rfl⟩ := hK.addr (by omega)
          obtain ⟨rv, -, ax⟩ := (hK.up mu2).at hql
          obtain ⟨rv2, -, ay⟩ := (hK.up mu2).at hq2l
          have a0 := ax.c0
          have a1 := ax.c1
          have b0 := ay.c0
          have b1 := ay.c1
          have f1 : oi (some q) = (q : Int) := rfl
          have f2 : oi (some q2) = (q2 : Int) := rfl
          have hs1 := hsome q
          have hs2 := hsome q2
          rw [f1] at hs1
          rw [f2] at hs2
          try simp only [go_sem, t0, t3, t4, t5, t6, t7, t10, z2, y2, hs1, hs2, f1, f2, c1, a0, a1, b0, b1]
          repeat refine ⟨⟨by omega, by omega⟩, ?_⟩
          refine befr_ _ _ _ _ ?_
          rw [hb]
          try simp only [go_sem, t0, t3, t4, t5, t6, t7, t10]
          exact fin _ ⟨t0, t3, t4, t5, t6⟩ t7 t10
        · have c1 : decide (e2.p = e.p) = false := decide_eq_false hpp
          try simp only [go_sem, t0, t3, t4, t5, t6, t7, t10, z2, y2, hsome, c1]
          repeat refine ⟨⟨by omega, by omega⟩, ?_⟩
          exact fin _ ⟨t0, t3, t4, t5, t6⟩ t7 t10
  have three : ∀ τ : Env, FI va vc its (some ⟨ga, oa, none⟩) fc i τ → τ 7 = .int .i64 (oi (findI its e.b.id)) → τ 8 = .int .i64 e.d → hw Try.prog noPanic h3_8 Q τ w := by
    rintro τ ⟨t0, t3, t4, t5, t6⟩ t7 t8
    have hw1 : IntKind.i64.wrap (e.p + 1) = (((e.p + 1).toNat : Nat) : Int) := by rw [w64 (by omega) (by omega)]; omega
    unfold h3_8
    try simp only [go_sem, t0, t3, t4, t5, t6, t7, t8, x2, hw1]
    repeat refine ⟨⟨by omega, by omega⟩, ?_⟩
    refine loopN (i + 1) (fun n σ u => FI va vc its (some ⟨ga, oa, none⟩) fc i σ ∧ σ 7 = .int .i64 (oi (findI its e.b.id)) ∧ σ 8 = .int .i64 e.d ∧ σ 9 = .int .i64 n ∧ e.p < n ∧ u = w) ⟨(e.p + 1).toNat, by omega, ⟨t0, t3, t4, t5, t6⟩, t7, t8, rfl, by omega, rfl⟩ ?_
    rintro n σ u hn ⟨⟨t0, t3, t4, t5, t6⟩, t7, t8, t9, hpn, rfl⟩
    unfold h3_9
    try simp only [go_sem, t0, t3, t4, t5, t6, t7, t8, t9, x2]
    refine ⟨fun _ => ⟨by omega, by omega⟩, fun hc => ?_, fun hc => ?_⟩
    · have hni : n < i := by
        by_cases h : (n : Int) < i
        · omega
        · rw [decide_eq_false h] at hc; simp at hc
      obtain ⟨e2, he2, hx2, hn2⟩ := forest_at (its := its) (i := n) (by omega)
      have z3 := hca n 3 (by omega) (by omega)
      rw [hn2] at z3
      simp only [Nd.cells, En.nd, List.getElem?_cons_zero, List.getElem?_cons_succ, Nat.add_zero] at z3
      have hbt := en_btw he he2 (by omega) (by omega)
      have c1 : decide (e2.d < e.d) = false := decide_eq_false (by omega)
      unfold h3_10
      try simp only [go_sem, t0, t3, t4, t5, t6, t7, t8, t9, z3, c1]
      repeat refine ⟨⟨by omega, by omega⟩, ?_⟩
      unfold h3_11
      try simp only [go_sem, t0, t3, t4, t5, t6, t7, t8, t9]
      rw [w64 (by omega) (by omega)]
      refine ⟨n + 1, by omega, by omega, ⟨t0, t3, t4, t5, t6⟩, ?_⟩
      (repeat' first | assumption | rfl | omega | apply And.intro)
    · exact four _ ⟨t0, t3, t4, t5, t6⟩ t7
  have two : ∀ τ : Env, FI va vc its (some ⟨ga, oa, none⟩) fc i τ → τ 7 = .int .i64 (oi (findI its e.b.id)) → τ 8 = .int .i64 e.d → hw Try.prog noPanic h3_6 Q τ w := by
    rintro τ ⟨t0, t3, t4, t5, t6⟩ t7 t8
    unfold h3_6
    cases hg : e.b.ghost with
    | false =>
      rw [hg] at x1
      try simp only [go_sem, t0, t3, t4, t5, t6, t7, t8, x1, x2, x3]
      repeat refine ⟨⟨by omega, by omega⟩, ?_⟩
      unfold h3_7
      try simp only [go_sem, t0, t3, t4, t5, t6, t7, t8, x1, x2, x3]
      repeat refine ⟨⟨by omega, by omega⟩, ?_⟩
      exact three _ ⟨t0, t3, t4, t5, t6⟩ t7 t8
    | true =>
      rw [hg] at x1
      obtain ⟨hpm, e2, he2, hx2, hp2⟩ := en_first hd hne he hg
      obtain ⟨hy, hny⟩ := forest_x he2
      have hi1 : i + 1 < (forestB its).length := by omega
      have hw1 : IntKind.i64.wrap ((i : Int) + 1) = ((i + 1 : Nat) : Int) := by rw [w64 (by omega) (by omega)]; omega
      have hw2 : IntKind.i64.wrap (((forestB its).length : Int) - 1) = (((forestB its).length - 1 : Nat) : Int) := by rw [w64 (by omega) (by omega)]; omega
      have c1 : decide (e.p = -1) = true := decide_eq_true hpm
      have c2 : decide (((i + 1 : Nat) : Int) = ((forestB its).length : Int)) = false := decide_eq_false (by omega)
      have z2 := hca (i + 1) 2 hi1 (by omega)
      have hix : e.x + 1 = i + 1 := by omega
      have hny' : (forestB its)[i + 1] = e2.nd := by rw [← hny]; congr 1; omega
      rw [hny'] at z2
      simp only [Nd.cells, En.nd, List.getElem?_cons_zero, List.getElem?_cons_succ, Nat.add_zero, hp2, hex] at z2
      try simp only [go_sem, t0, t3, t4, t5, t6, t7, t8, x1, x2, x3, hw1, c1, c2]
      repeat refine ⟨⟨by omega, by omega⟩, ?_⟩
      unfold h3_7
      have hmn : (if (((forestB its).length - 1 : Nat) : Int) < ((i + 1 : Nat) : Int) then (((forestB its).length - 1 : Nat) : Int) else ((i + 1 : Nat) : Int)) = ((i + 1 : Nat) : Int) := if_neg (by omega)
      try simp only [go_sem, t0, t3, t4, t5, t6, t7, t8, x1, hw1, hw2, hmn, z2]
      repeat refine ⟨⟨by omega, by omega⟩, ?_⟩
      exact three _ ⟨t0, t3, t4, t5, t6⟩ t7 t8
  unfold h3_5
  try simp only [go_sem, t0, t3, t4, t5, t6, t7, x2]
  rcases en_up he with ⟨h1, h2, -⟩ | ⟨e', he', h1, h2, -, h3⟩
  · have c1 : decide (0 ≤ e.p) = false := by rw [h1]; rfl
    try simp only [go_sem, c1]
    repeat refine ⟨⟨by omega, by omega⟩, ?_⟩
    exact two _ ⟨t0, t3, t4, t5, t6⟩ t7 (by rw [h2]; rfl)
  · obtain ⟨hx', hnd'⟩ := forest_x he'
    have z3 := hca e'.x 3 hx' (by omega)
    rw [hnd'] at z3
    simp only [Nd.cells, En.nd, List.getElem?_cons_zero, List.getElem?_cons_succ, Nat.add_zero] at z3
    have c1 : decide (0 ≤ e.p) = true := decide_eq_true (by omega)
    try simp only [go_sem, c1, t4, t6, x2]
    rw [h1]
    try simp only [go_sem, z3]
    repeat refine ⟨⟨by omega, by omega⟩, ?_⟩
    have hdx := en_dx _ he' (Nat.le_refl _)
    rw [w64 (by omega) (by omega), ← h2]
    exact two _ ⟨t0, t3, t4, t5, t6⟩ t7 rfl
theorem forms_ {v : Value} (hK : Its w v its rvs) (hml : its.length ≤ 9223372036854775807) (k : ∀ w', Mod none' w w' → next (.bool true) w') : callK Try.prog 3 [v] w next QP := by
  refine q3 rfl ?_
  obtain ⟨va, vc, rfl, -, -⟩ := hK.sl.form
  unfold h3
  try simp only [go_sem]
  refine small_ ?_
  intro w1 m1
  try simp only [go_sem]
  refine few_ (hK.up m1) hml ?_
  intro b w2 hb m2
  have m02 := m1.trans' m2
  cases b with
  | false =>
    try simp only [go_sem]
    exact k w2 m02
  | true =>
    have hP := hb rfl
    have hd := hP.d
    have hne := hP.e
    have hn40 := hP.n
    try simp only [go_sem]
    unfold h3_1
    try simp only [go_sem]
    refine Forest_ hd hne (hK.up m02) hP.sz (by omega) ?_
    intro v3 w3 own3 hf3 m3
    have m03 := m02.trans' m3
    have hlen := forest_len hd hne
    obtain ⟨fa, fc, rfl, -, -⟩ := own3.form
    try simp only [go_sem]
    refine loopN (forestB its).length (fun i τ w' => τ 0 = .slice va its.length vc ∧ τ 3 = .bool true ∧ τ 4 = .slice fa (forestB its).length fc ∧ τ 5 = .int .i64 (((forestB its).take i).countP (isI its) : Nat) ∧ τ 6 = .int .i64 i ∧ Mod none' w3 w') ⟨0, by omega, rfl, rfl, rfl, rfl, rfl, Mod.refl _ _⟩ ?_
    rintro i τ w4 hi ⟨t0, t3, t4, t5, t6, m4⟩
    have sl4 := (own3.sl.mod m4 fun _ _ h => h)
    have m04 := m03.trans' m4
    unfold h3_2
    try simp only [go_sem, t0, t3, t4, t5, t6]
    refine ⟨fun hlt => ?_, fun hge => ?_⟩
    · have hil : i < (forestB its).length := by
        have := of_decide_eq_true hlt
        omega
      obtain ⟨e, he, hex, hnd⟩ := forest_at hil
      obtain ⟨ga, oa, ca, ea, -, hca⟩ := sl4.get Nd.len rfl (by omega)
      simp only [Value.slice.injEq] at ea
      obtain ⟨rfl, -, rfl⟩ := ea
      have x0 := hca i 0 hil (by omega)
      have x1 := hca i 1 hil (by omega)
      have x2 := hca i 2 hil (by omega)
      have x3 := hca i 3 hil (by omega)
      rw [hnd] at x0 x1 x2 x3
      simp only [Nd.cells, En.nd, List.getElem?_cons_zero, List.getElem?_cons_succ, Nat.add_zero] at x0 x1 x2 x3
      have hgk : e.b.ghost = decide (oi (findI its e.b.id) < 0) := by
        rcases en_kind hd hne he with ⟨q, hq, eb, hf⟩ | ⟨g, hgm, eb, hf, hp⟩
        · rw [hf, eb]
          exact (decide_eq_false (by unfold oi; simp only; omega)).symm
        · rw [hf, eb]; rfl
      have hfe := findN_en hd hne he
      have hex' : oi (some e.x) = (i : Int) := by rw [hex]; rfl
      have hp1 : -1 ≤ e.p ∧ e.p < i := by
        rcases en_up he with ⟨h1, -, -⟩ | ⟨e', he', h1, -, -, h2⟩ <;> omega
      have hb1 : decide ((i : Int) ≤ e.p) = false := decide_eq_false (by omega)
      have hb2 : decide (e.p < -1) = false := decide_eq_false (by omega)
      unfold h3_3
      try simp only [go_sem, t0, t3, t4, t5, t6, x0]
      repeat refine ⟨⟨by omega, by omega⟩, ?_⟩
      refine rfind_ (hK.up m04) (by omega) ?_
      try simp only [go_sem, t0, t3, t4, t5, t6, x0]
      repeat refine ⟨⟨by omega, by omega⟩, ?_⟩
      refine find_ sl4 (by omega) ?_
      rw [hgk] at x1
      try simp only [go_sem, t0, t3, t4, t5, t6, x0, x1, x2, hfe, hex', hb1, hb2, beq_self_eq_true, Bool.not_true]
      repeat refine ⟨⟨by omega, by omega⟩, ?_⟩
      have hQ : ∀ (Q : HX → Env → World → Prop), (∀ σ u, FI va vc its (some ⟨ga, oa, none⟩) fc i σ → Mod none' w4 u → Q .normal σ u) → ∀ σ : Env, σ 0 = .slice va its.length vc → σ 3 = .bool true → σ 4 = .slice (some ⟨ga, oa, none⟩) (forestB its).length fc → σ 5 = .int .i64 (((forestB its).take i).countP (isI its) : Nat) → σ 6 = .int .i64 i → σ 7 = .int .i64 (oi (findI its e.b.id)) → hw Try.prog noPanic h3_4 Q σ w4 := by
        intro Q hQ σ t0 t3 t4 t5 t6 t7
        have hcl : ((forestB its).take i).countP (isI its) ≤ (forestB its).length := Nat.le_trans List.countP_le_length (by rw [List.length_take]; omega)
        have hc : ((forestB its).take (i + 1)).countP (isI its) = ((forestB its).take i).countP (isI its) + (if (findI its e.b.id).isSome = true then 1 else 0) := by
          rw [List.take_succ_eq_append_getElem hil, List.countP_append, hnd]
          unfold isI
          show _ + List.countP _ [e.nd] = _
          rw [List.countP_singleton]
          rfl
        unfold h3_4
        cases hq : findI its e.b.id with
        | none =>
          rw [hq] at t7 hc
          have c1 : decide (0 ≤ oi none) = false := rfl
          try simp only [go_sem, t0, t3, t4, t5, t6, t7, c1]
          refine forms1_ (hK.up m04) hP he hil hex hnd sl4 hQ ⟨t0, t3, t4, ?_, t6⟩ (by rw [hq]; exact t7)
          rw [hc]; exact t5
        | some q =>
          rw [hq] at t7 hc
          have c1 : decide (0 ≤ oi (some q)) = true := decide_eq_true (by unfold oi; simp only; omega)
          try simp only [go_sem, t0, t3, t4, t5, t6, t7, c1]
          refine forms1_ (hK.up m04) hP he hil hex hnd sl4 hQ ⟨t0, t3, t4, ?_, t6⟩ (by rw [hq]; exact t7)
          rw [hc]
          rw [w64 (by omega) (by omega)]
          rfl
      refine hQ _ ?_ _ t0 t3 t4 t5 t6 rfl
      rintro σ u ⟨t0, t3, t4, t5, t6⟩ mu
      show hw Try.prog noPanic h3_16 _ σ u
      unfold h3_16
      try simp only [go_sem, t0, t3, t4, t5, t6]
      rw [w64 (by omega) (by omega)]
      have m5 := m4.trans' mu
      refine ⟨i + 1, by omega, by omega, ?_⟩
      (repeat' first | assumption | rfl | omega | apply And.intro)
    · have hil : i = (forestB its).length := by
        have := of_decide_eq_false hge
        omega
      subst hil
      rw [List.take_length, count_all hd hne] at t5
      unfold h3_17
      try simp only [go_sem, t0, t3, t4, t5]
      exact k w4 m04
end
end Go.Proofs.Y
