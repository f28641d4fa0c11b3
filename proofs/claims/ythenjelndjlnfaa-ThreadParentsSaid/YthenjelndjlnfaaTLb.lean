/- TLb: thread: slices of records spelt out; few; finding. -/
import Derived.Test.YthenjelndjlnfaaTR
import Derived.Test.YthenjelndjlnfaaTB
set_option linter.unusedSimpArgs false
set_option linter.unusedVariables false
set_option maxRecDepth 100000
namespace Go.Proofs.Y
open Go Go.HL Go.Proofs

theorem fill_rec {place : Nat → Option (Nat × Nat)} {cells : Array Value} {i o n : Nat} {v : Value} {cs : List Value} {rest : List (Nat × Value)} (hp : place i = some (o, n)) (hv : v.cells = cs.toArray) (hl : cs.length = n) (ho : o + n ≤ cells.size) :
    Instr.fill place cells ((i, v) :: rest) = Instr.fill place (cells.toList.take o ++ cs ++ cells.toList.drop (o + n)).toArray rest := by
  rw [Instr.fill, hp]
  simp only [hv, List.size_toArray, hl]
  rw [if_neg (by simp; omega)]
  congr 1
  rw [← Array.foldl_toList]
  simp only [Array.toList_zipIdx, List.toList_toArray]
  have key : ∀ (l : List Value) (k : Nat) (Z : Array Value), o + k + l.length ≤ Z.size → (l.zipIdx k).foldl (fun cs (x : Value × Nat) => cs.setIfInBounds (o + x.2) x.1) Z = (Z.toList.take (o + k) ++ l ++ Z.toList.drop (o + k + l.length)).toArray := by
    intro l
    induction l with
    | nil => intro k Z hk; simp
    | cons x r ih =>
      intro k Z hk
      rw [List.zipIdx_cons, List.foldl_cons, ih _ _ (by simp at hk ⊢; omega)]
      apply Array.toList_inj.1
      apply List.ext_getElem?
      intro j
      simp only [List.length_cons] at hk
      simp only [Array.toList_setIfInBounds, List.append_assoc, List.getElem?_append, List.length_take, List.length_set, Array.length_toList, List.getElem?_take, List.getElem?_set, List.getElem?_drop, List.length_cons, List.getElem?_cons]
      repeat' split
      all_goals first
        | rfl
        | (exfalso; omega)
        | (congr 1; omega)
        | (exfalso; simp_all; omega)
  have := key cs 0 cells (by omega)
  simpa [hl] using this


theorem fill_all {sz : Nat} (h0 : 0 < sz) : ∀ (ls : List (Value × List Value)) (k : Nat) (cells : Array Value), (∀ p ∈ ls, p.1.cells = p.2.toArray ∧ p.2.length = sz) → cells.size = (k + ls.length) * sz →
    Instr.fill (fun i => some (i * sz, sz)) cells ((ls.zipIdx k).map fun p => (p.2, p.1.1)) = some (cells.toList.take (k * sz) ++ ls.flatMap (·.2)).toArray
  | [], k, cells, _, hs => by
    simp only [List.zipIdx_nil, List.map_nil, Instr.fill, List.flatMap_nil, List.append_nil]
    rw [List.take_of_length_le (by simp [hs])]
  | p :: ls, k, cells, h, hs => by
    obtain ⟨h1, h2⟩ := h p (by simp)
    simp only [List.length_cons] at hs
    have hle : k * sz + sz ≤ cells.size := by
      rw [hs, show k + (ls.length + 1) = (k + 1) + ls.length by omega, Nat.add_mul, Nat.add_mul]; omega
    rw [List.zipIdx_cons, List.map_cons, fill_rec (o := k * sz) (n := sz) (cs := p.2) rfl h1 h2 hle]
    have hsz : ((cells.toList.take (k * sz) ++ p.2 ++ cells.toList.drop (k * sz + sz)).toArray).size = cells.size := by
      simp only [List.size_toArray, List.length_append, List.length_take, List.length_drop, Array.length_toList, h2]; omega
    rw [fill_all h0 ls (k + 1) _ (fun q hq => h q (by simp [hq])) (by rw [hsz, hs]; congr 1; omega)]
    congr 1
    have e : (k + 1) * sz = (cells.toList.take (k * sz) ++ p.2).length := by
      simp only [List.length_append, List.length_take, Array.length_toList, h2]
      rw [Nat.add_mul, Nat.min_eq_left (by omega)]; omega
    rw [e, List.take_left, List.flatMap_cons, List.append_assoc]
section
variable {P : Program} {w : World} {next : Value → World → Prop} {QP : List PanicEntry → World → Prop}
theorem bslR {t e sz by_ n : Nat} {z : Value} (ht : SlTy P t e sz by_ z) {parts : List (Nat × Value)} (ls : List (Value × List Value)) (h : ∀ p ∈ ls, p.1.cells = p.2.toArray ∧ p.2.length = sz) (hn : ls.length = n) (hp : parts = ls.zipIdx.map fun p => (p.2, p.1.1)) (hb : n * sz ≤ 16777216)
    (k : ∀ b w', w.heap.size = b → HL.Own w' (.slice (some ⟨b, 0, none⟩) n n) e sz n (ls.flatMap (·.2)) → Mod none' w w' → w'.heap.size = b + 1 → next (.slice (some ⟨b, 0, none⟩) n n) w') : bslK P t n parts w next QP := by
  subst hp hn
  have hl : ∀ ls : List (Value × List Value), (∀ p ∈ ls, p.1.cells = p.2.toArray ∧ p.2.length = sz) → (ls.flatMap (·.2)).length = ls.length * sz := by
    intro ls
    induction ls with
    | nil => intro _; simp
    | cons p ls ih =>
      intro h
      rw [List.flatMap_cons, List.length_append, ih fun q hq => h q (by simp [hq]), (h p (by simp)).2, List.length_cons, Nat.add_mul]; omega
  refine bsl_ ht (cs := ls.flatMap (·.2)) (hl ls h) hb ?_ (fun b w' h1 h2 _ h3 h4 => k b w' h1 h2 h3 h4)
  rw [fill_all ht.pos ls 0 _ h (by simp)]
  simp
end
section
variable {w w' : World} {its : List It} {rvs : List Value} {next : Value → World → Prop} {QP : List PanicEntry → World → Prop}
/-- a slice of items, spelt out -/
theorem bslI {ps : List (It × Value)} {n : Nat} {parts : List (Nat × Value)} (hps : ps.length = n) (hn : n ≤ 1000) (hp : parts = (ps.map fun p => (p.1.v p.2, p.1.cells p.2)).zipIdx.map fun p => (p.2, p.1.1)) (hr : ∀ i (h : i < ps.length), Sl w ps[i].2 1 ps[i].1.refs.length (ps[i].1.refs.map str))
    (k : ∀ v w', Its w' v (ps.map (·.1)) (ps.map (·.2)) → Mod none' w w' → next v w') : bslK Try.prog 22 n parts w next QP := by
  subst hps
  refine bslR sl22 (ps.map fun p => (p.1.v p.2, p.1.cells p.2)) ?_ (by simp) hp (by omega) ?_
  · intro p hp
    obtain ⟨q, hq, rfl⟩ := List.mem_map.1 hp
    exact ⟨rfl, rfl⟩
  intro b w1 hb own m _
  refine k _ w1 ⟨by simp, ?_, fun i h1 h2 => ?_⟩ m
  · have e : (List.map (·.1) ps).zip (List.map (·.2) ps) = ps := by
      clear hr k own hp hn
      induction ps with
      | nil => rfl
      | cons p ps ih => simp only [List.map_cons, List.zip_cons_cons]; rw [ih]
    rw [e, List.length_map]
    have e2 : (ps.map fun p => (p.1.v p.2, p.1.cells p.2)).flatMap (·.2) = rows cellsP ps := by
      rw [List.flatMap_map]; rfl
    rw [← e2]; exact own.sl
  · have h3 : i < ps.length := by simpa using h1
    have := (hr i h3).mod m fun _ _ h => h
    simpa using this
/-- a slice of nodes, spelt out -/
theorem bslN {ns : List Nd} {n : Nat} {parts : List (Nat × Value)} (hns : ns.length = n) (hn : n ≤ 1000) (hp : parts = (ns.map fun q => (Value.agg q.cells.toArray, q.cells)).zipIdx.map fun p => (p.2, p.1.1))
    (k : ∀ v w', Sl w' v 4 ns.length (rows Nd.cells ns) → Mod none' w w' → next v w') : bslK Try.prog 25 n parts w next QP := by
  subst hns
  refine bslR sl25 (ns.map fun q => (Value.agg q.cells.toArray, q.cells)) ?_ (by simp) hp (by omega) ?_
  · intro p hp
    obtain ⟨q, hq, rfl⟩ := List.mem_map.1 hp
    exact ⟨rfl, rfl⟩
  intro b w1 hb own m _
  refine k _ w1 ?_ m
  have e2 : (ns.map fun q => (Value.agg q.cells.toArray, q.cells)).flatMap (·.2) = rows Nd.cells ns := by
    rw [List.flatMap_map]; rfl
  rw [← e2]; exact own.sl
/-- a slice of texts, spelt out -/
theorem bslT {l : List Bytes} {n : Nat} {parts : List (Nat × Value)} (hl : l.length = n) (hn : n ≤ 1000) (hp : parts = (l.map fun q => (str q, [str q])).zipIdx.map fun p => (p.2, p.1.1))
    (k : ∀ b w', Sl w' (.slice (some ⟨b, 0, none⟩) n n) 1 l.length (l.map str) → Mod none' w w' → next (.slice (some ⟨b, 0, none⟩) n n) w') : bslK Try.prog 32 n parts w next QP := by
  subst hl
  refine bslR sl32 (l.map fun q => (str q, [str q])) ?_ (by simp) hp (by omega) ?_
  · intro p hp
    obtain ⟨q, hq, rfl⟩ := List.mem_map.1 hp
    exact ⟨rfl, rfl⟩
  intro b w1 hb own m _
  refine k _ w1 ?_ m
  have e2 : (l.map fun q => (str q, [str q])).flatMap (·.2) = l.map str := by
    rw [List.flatMap_map]; exact rows_one l
  rw [← e2]; exact own.sl

/-! ### few -/
structure fewP (its : List It) : Prop where
  n : its.length ≤ 40
  d : dist its
  e : ne0 its
  z : ∀ x ∈ its, x.refs.length ≤ 20 ∧ x.base.length ≤ 200
theorem fewP.sz (h : fewP its) : szI its := fun x hx => by
  have := h.z x hx
  omega
theorem distinct_ {v : Value} (hK : Its w v its rvs) (hn : its.length ≤ 40) (k : ∀ b w', (b = true → dist its ∧ ne0 its) → Mod none' w w' → next (.bool b) w') : callvK Try.prog (.func (.func 26) #[] #[]) [v] w next QP := by
  refine r26 rfl ?_
  obtain ⟨va, vc, rfl, -, -⟩ := hK.sl.form
  unfold h26
  try simp only [go_sem]
  refine loopN its.length (fun i τ w' => τ 0 = .slice va its.length vc ∧ τ 3 = .int .i64 i ∧ (∀ x, x < i → ∃ h : x < its.length, its[x].id ≠ []) ∧ (∀ x y (hx : x < its.length) (hy : y < its.length), x < i → y < x → its[y].id ≠ its[x].id) ∧ Mod none' w w') ⟨0, by omega, rfl, rfl, fun x hx => by omega, fun x y _ _ hx => by omega, Mod.refl _ _⟩ ?_
  rintro i τ w1 hi ⟨t0, t3, h1, h2, m1⟩
  unfold h26_1
  try simp only [go_sem, t0, t3]
  refine ⟨fun hlt => ?_, fun hge => ?_⟩
  · have hil : i < its.length := by
      have := of_decide_eq_true hlt
      omega
    obtain ⟨g, o, rfl⟩ := hK.addr (by omega)
    have at' : ∀ w', Mod none' w w' → ∀ j (hj : j < its.length), w'.cell? ⟨g, o + j * 5, none⟩ = some (str its[j].id) := fun w' m j hj => by
      obtain ⟨rv, -, ax⟩ := hK.at hj
      exact m.cell ax.c0 fun h => h
    have xi := at' w1 m1 i hil
    unfold h26_2
    try simp only [go_sem, t0, t3, xi]
    repeat refine ⟨⟨by omega, by omega⟩, ?_⟩
    refine ⟨fun he => ?_, fun hne => ?_⟩
    · try simp only [go_sem]
      exact k false w1 (fun h => by cases h) m1
    · have hne : its[i].id ≠ [] := by simpa using hne
      unfold h26_3
      try simp only [go_sem, t0, t3]
      refine loopN i (fun q τ w' => τ 0 = .slice (some ⟨g, o, none⟩) its.length vc ∧ τ 3 = .int .i64 i ∧ τ 4 = .int .i64 q ∧ (∀ y (hy : y < its.length), y < q → its[y].id ≠ its[i].id) ∧ Mod none' w w') ⟨0, by omega, t0, t3, rfl, fun y _ hy => by omega, m1⟩ ?_
      rintro q τ w2 hq ⟨t0, t3, t4, h3, m2⟩
      unfold h26_4
      try simp only [go_sem, t0, t3, t4]
      refine ⟨fun hlt2 => ?_, fun hge2 => ?_⟩
      · have hqi : q < i := by
          have := of_decide_eq_true hlt2
          omega
        have xi := at' w2 m2 i hil
        have xq := at' w2 m2 q (by omega)
        unfold h26_5
        try simp only [go_sem, t0, t3, t4, xi, xq]
        repeat refine ⟨⟨by omega, by omega⟩, ?_⟩
        refine ⟨fun he => ?_, fun hne2 => ?_⟩
        · try simp only [go_sem]
          exact k false w2.drew (fun h => by cases h) (m2.trans' (Mod.drew _ _))
        · have hne2 : its[q].id ≠ its[i].id := by simpa using hne2
          unfold h26_6
          try simp only [go_sem, t0, t3, t4]
          rw [w64 (by omega) (by omega)]
          have m3 := m2.trans' (Mod.drew none' w2)
          have h4 : ∀ y (hy : y < its.length), y < q + 1 → its[y].id ≠ its[i].id := by
            intro y hy hyq
            by_cases e : y = q
            · subst e; exact hne2
            · exact h3 y hy (by omega)
          refine ⟨q + 1, by omega, by omega, ?_⟩
          (repeat' first | assumption | rfl | omega | apply And.intro)
      · have hqi : q = i := by
          have := of_decide_eq_false hge2
          omega
        subst hqi
        try simp only [go_sem]
        unfold h26_7
        try simp only [go_sem, t0, t3]
        rw [w64 (by omega) (by omega)]
        have h5 : ∀ x, x < q + 1 → ∃ h : x < its.length, its[x].id ≠ [] := by
          intro x hx
          by_cases e : x = q
          · subst e; exact ⟨hil, hne⟩
          · exact h1 x (by omega)
        have h6 : ∀ x y (hx : x < its.length) (hy : y < its.length), x < q + 1 → y < x → its[y].id ≠ its[x].id := by
          intro x y hx hy hxq hyx
          by_cases e : x = q
          · subst e; exact h3 y hy hyx
          · exact h2 x y hx hy (by omega) hyx
        refine ⟨q + 1, by omega, by omega, ?_⟩
        (repeat' first | assumption | rfl | omega | apply And.intro)
  · have hil : i = its.length := by
      have := of_decide_eq_false hge
      omega
    subst hil
    unfold h26_8
    try simp only [go_sem]
    refine k true w1 (fun _ => ⟨?_, fun x hx => ?_⟩) m1
    · unfold dist List.Nodup
      rw [List.pairwise_map, List.pairwise_iff_getElem]
      intro x y hx hy hxy
      exact h2 y x hy hx hy hxy
    · obtain ⟨i, hi, rfl⟩ := List.getElem_of_mem hx
      exact (h1 i hi).2
theorem few_ {v : Value} (hK : Its w v its rvs) (hml : its.length ≤ 9223372036854775807) (k : ∀ b w', (b = true → fewP its) → Mod none' w w' → next (.bool b) w') : callvK Try.prog (.func (.func 10) #[] #[]) [v] w next QP := by
  refine r10 rfl ?_
  obtain ⟨va, vc, rfl, -, -⟩ := hK.sl.form
  unfold h10
  by_cases hn : its.length ≤ 40
  · have e1 : decide ((40 : Int) < (its.length : Int)) = false := by simp; omega
    try simp only [go_sem, e1]
    refine distinct_ hK hn ?_
    intro b w1 hb m1
    try simp only [go_sem]
    cases b with
    | false =>
      try simp only [go_sem]
      exact k false w1 (fun h => by cases h) m1
    | true =>
      obtain ⟨hd, he⟩ := hb rfl
      try simp only [go_sem]
      unfold h10_1
      try simp only [go_sem]
      refine loopN its.length (fun i τ w' => τ 0 = .slice va its.length vc ∧ τ 3 = .int .i64 i ∧ (∀ x (hx : x < its.length), x < i → its[x].refs.length ≤ 20 ∧ its[x].base.length ≤ 200) ∧ Mod none' w w') ⟨0, by omega, rfl, rfl, fun x _ hx => by omega, m1⟩ ?_
      rintro i τ w2 hi ⟨t0, t3, h1, m2⟩
      unfold h10_2
      try simp only [go_sem, t0, t3]
      refine ⟨fun hlt => ?_, fun hge => ?_⟩
      · have hil : i < its.length := by
          have := of_decide_eq_true hlt
          omega
        obtain ⟨g, o, rfl⟩ := hK.addr (by omega)
        obtain ⟨rv, hrv, ax⟩ := (Its.mk hK.len (hK.sl.mod m2 fun _ _ h => h) (fun i h h2 => (hK.refs i h h2).mod m2 fun _ _ h => h) : Its w2 _ its rvs).at hil
        have x2 := ax.c2
        have x3 := ax.c3
        obtain ⟨ra, rc, rfl, -, -⟩ := hrv.form
        unfold h10_3
        try simp only [go_sem, t0, t3, x2, x3]
        repeat refine ⟨⟨by omega, by omega⟩, ?_⟩
        refine ⟨fun _ => ⟨by omega, by omega⟩, fun hb => ?_, fun hb => ?_⟩
        · exact k false w2 (fun h => by cases h) m2
        · have hb2 : its[i].refs.length ≤ 20 ∧ its[i].base.length ≤ 200 := by
            by_cases h20 : (20 : Int) < its[i].refs.length
            · simp [h20] at hb
            · simp only [h20, decide_false, Bool.false_eq_true, if_false] at hb
              have := of_decide_eq_false hb
              omega
          unfold h10_4
          try simp only [go_sem, t0, t3]
          rw [w64 (by omega) (by omega)]
          have h4 : ∀ x (hx : x < its.length), x < i + 1 → its[x].refs.length ≤ 20 ∧ its[x].base.length ≤ 200 := by
            intro x hx hxi
            by_cases e : x = i
            · subst e; exact hb2
            · exact h1 x hx (by omega)
          refine ⟨i + 1, by omega, by omega, ?_⟩
          (repeat' first | assumption | rfl | omega | apply And.intro)
      · have hil : i = its.length := by
          have := of_decide_eq_false hge
          omega
        subst hil
        unfold h10_5
        try simp only [go_sem]
        refine k true w2 (fun _ => ⟨hn, hd, he, fun x hx => ?_⟩) m2
        obtain ⟨i, hi, rfl⟩ := List.getElem_of_mem hx
        exact h1 i hi hi
  · have e1 : decide ((40 : Int) < (its.length : Int)) = true := by simp; omega
    try simp only [go_sem, e1]
    exact k false w (fun h => by cases h) (Mod.refl _ _)

/-! ### the examples -/
def sI1 : List It := [⟨[99], 3, [[97], [98]], [120], true⟩, ⟨[97], 1, [], [120], false⟩, ⟨[98], 2, [[97]], [120], true⟩]
def sI2 : List It := [⟨[98], 2, [[97]], [120], true⟩, ⟨[99], 3, [[97]], [120], true⟩, ⟨[100], 1, [], [121], false⟩]
def sI3 : List It := [⟨[97], 1, [[98]], [120], false⟩, ⟨[98], 2, [[97]], [120], false⟩]
def sI4 : List It := [⟨[97], 1, [], [88], false⟩, ⟨[98], 2, [], [120], true⟩, ⟨[99], 0, [], [120], true⟩]
def sN1 : List Nd := [⟨[97], false, -1, 0⟩, ⟨[98], false, 0, 1⟩, ⟨[99], false, 1, 2⟩]
def sN2 : List Nd := [⟨[100], false, -1, 0⟩, ⟨[97], true, -1, 0⟩, ⟨[98], false, 1, 1⟩, ⟨[99], false, 1, 1⟩]
def sN3 : List Nd := [⟨[97], false, -1, 0⟩, ⟨[98], false, 0, 1⟩]
def sN4 : List Nd := [⟨[99], false, -1, 0⟩, ⟨[97], false, -1, 0⟩, ⟨[98], false, 1, 1⟩]
theorem sF1 : forestB sI1 = sN1 := by decide +kernel
theorem sF2 : forestB sI2 = sN2 := by decide +kernel
theorem sF3 : forestB sI3 = sN3 := by decide +kernel
theorem sF4 : forestB sI4 = sN4 := by decide +kernel
instance (l : List It) : Decidable (dist l) := by unfold dist; infer_instance
instance (l : List It) : Decidable (ne0 l) := by unfold ne0; infer_instance
theorem sl_nil (w : World) : Sl w (.slice none 0 0) 1 0 ([].map str) := (Own.nil w 9 1).sl
attribute [local go_sem] List.set_cons_zero List.set_cons_succ Nat.reduceLeDiff Nat.le_refl
/-- a forest of few items, spelt out -/
theorem small1_ {v : Value} {ns : List Nd} {its : List It} {rvs : List Value} (hK : Its w v its rvs) (h : decide (dist its) && decide (ne0 its) = true) (hz : (its.all fun x => decide (x.refs.length ≤ 20) && decide (x.base.length ≤ 200)) = true) (hl : its.length ≤ 40) (hf : forestB its = ns)
    (k : ∀ v' w', Sl w' v' 4 ns.length (rows Nd.cells ns) → Mod none' w w' → next v' w') : callvK Try.prog (.func (.func 11) #[] #[]) [v] w next QP := by
  simp only [Bool.and_eq_true, decide_eq_true_eq] at h
  refine Forest_ h.1 h.2 hK (fun x hx => ?_) (by omega) fun v' w' own _ m => k v' w' (by rw [← hf]; exact own.sl) m
  have := List.all_eq_true.1 hz x hx
  simp only [Bool.and_eq_true, decide_eq_true_eq] at this
  omega
theorem small_ (k : ∀ w', Mod none' w w' → next (.bool true) w') : callvK Try.prog (.func (.func 9) #[] #[]) [] w next QP := by
  refine r9 rfl ?_
  unfold h9
  try simp only [go_sem]
  refine bslT (l := [[97], [98]]) rfl (by omega) rfl ?_
  intro b1 w1 t1 m1
  try simp only [go_sem]
  refine bslT (l := [[97]]) rfl (by omega) rfl ?_
  intro b2 w2 t2 m2
  try simp only [go_sem]
  refine bslI (ps := [(⟨[99], 3, [[97], [98]], [120], true⟩, .slice (some ⟨b1, 0, none⟩) 2 2), (⟨[97], 1, [], [120], false⟩, .slice none 0 0), (⟨[98], 2, [[97]], [120], true⟩, .slice (some ⟨b2, 0, none⟩) 1 1)]) rfl (by omega) rfl ?_ ?_
  · intro i h
    match i, h with
    | 0, _ => exact t1.mod m2 fun _ _ h => h
    | 1, _ => exact sl_nil _
    | 2, _ => exact t2
  intro v3 w3 i3 m3
  try simp only [go_sem]
  refine small1_ (its := sI1) (ns := sN1) i3 (by decide +kernel) (by decide +kernel) (by decide) sF1 ?_
  intro v4 w4 f4 m4
  have M4 := ((m1.trans' m2).trans' m3).trans' m4
  try simp only [go_sem]
  unfold h9_1
  try simp only [go_sem]
  refine bslT (l := [[97]]) rfl (by omega) rfl ?_
  intro b5 w5 t5 m5
  try simp only [go_sem]
  refine bslT (l := [[97]]) rfl (by omega) rfl ?_
  intro b6 w6 t6 m6
  try simp only [go_sem]
  refine bslI (ps := [(⟨[98], 2, [[97]], [120], true⟩, .slice (some ⟨b5, 0, none⟩) 1 1), (⟨[99], 3, [[97]], [120], true⟩, .slice (some ⟨b6, 0, none⟩) 1 1), (⟨[100], 1, [], [121], false⟩, .slice none 0 0)]) rfl (by omega) rfl ?_ ?_
  · intro i h
    match i, h with
    | 0, _ => exact t5.mod m6 fun _ _ h => h
    | 1, _ => exact t6
    | 2, _ => exact sl_nil _
  intro v7 w7 i7 m7
  try simp only [go_sem]
  refine small1_ (its := sI2) (ns := sN2) i7 (by decide +kernel) (by decide +kernel) (by decide) sF2 ?_
  intro v8 w8 f8 m8
  have M8 := ((m5.trans' m6).trans' m7).trans' m8
  try simp only [go_sem]
  unfold h9_2
  try simp only [go_sem]
  refine bslT (l := [[98]]) rfl (by omega) rfl ?_
  intro b9 w9 t9 m9
  try simp only [go_sem]
  refine bslT (l := [[97]]) rfl (by omega) rfl ?_
  intro b10 w10 t10 m10
  try simp only [go_sem]
  refine bslI (ps := [(⟨[97], 1, [[98]], [120], false⟩, .slice (some ⟨b9, 0, none⟩) 1 1), (⟨[98], 2, [[97]], [120], false⟩, .slice (some ⟨b10, 0, none⟩) 1 1)]) rfl (by omega) rfl ?_ ?_
  · intro i h
    match i, h with
    | 0, _ => exact t9.mod m10 fun _ _ h => h
    | 1, _ => exact t10
  intro v11 w11 i11 m11
  try simp only [go_sem]
  refine small1_ (its := sI3) (ns := sN3) i11 (by decide +kernel) (by decide +kernel) (by decide) sF3 ?_
  intro v12 w12 f12 m12
  have M12 := ((m9.trans' m10).trans' m11).trans' m12
  try simp only [go_sem]
  unfold h9_3
  try simp only [go_sem]
  refine bslI (ps := [(⟨[97], 1, [], [88], false⟩, .slice none 0 0), (⟨[98], 2, [], [120], true⟩, .slice none 0 0), (⟨[99], 0, [], [120], true⟩, .slice none 0 0)]) rfl (by omega) rfl ?_ ?_
  · intro i h
    match i, h with
    | 0, _ => exact sl_nil _
    | 1, _ => exact sl_nil _
    | 2, _ => exact sl_nil _
  intro v13 w13 i13 m13
  try simp only [go_sem]
  refine small1_ (its := sI4) (ns := sN4) i13 (by decide +kernel) (by decide +kernel) (by decide) sF4 ?_
  intro v14 w14 f14 m14
  have M14 := m13.trans' m14
  try simp only [go_sem]
  refine bslN (ns := sN1) rfl (by omega) rfl ?_
  intro v15 w15 f15 m15
  try simp only [go_sem]
  have g4 := f4.mod (((M8.trans' M12).trans' M14).trans' m15) fun _ _ h => h
  refine same_ g4 f15 (by decide) ?_
  intro w16 m16
  try simp only [go_sem]
  refine bslN (ns := sN2) rfl (by omega) rfl ?_
  intro v17 w17 f17 m17
  have M17 := (m15.trans' m16).trans' m17
  try simp only [go_sem]
  unfold l9_5
  try simp only [go_sem]
  have g8 := f8.mod ((M12.trans' M14).trans' M17) fun _ _ h => h
  refine same_ g8 f17 (by decide) ?_
  intro w18 m18
  try simp only [go_sem]
  unfold l9_4
  try simp only [go_sem]
  unfold h9_6
  try simp only [go_sem]
  refine bslN (ns := sN3) rfl (by omega) rfl ?_
  intro v19 w19 f19 m19
  try simp only [go_sem]
  unfold l9_10
  try simp only [go_sem]
  have M19 := (M17.trans' m18).trans' m19
  have g12 := f12.mod (M14.trans' M19) fun _ _ h => h
  refine same_ g12 f19 (by decide) ?_
  intro w20 m20
  try simp only [go_sem]
  unfold l9_9
  try simp only [go_sem]
  refine bslN (ns := sN4) rfl (by omega) rfl ?_
  intro v21 w21 f21 m21
  try simp only [go_sem]
  unfold l9_8
  try simp only [go_sem]
  have M21 := (M19.trans' m20).trans' m21
  have g14 := f14.mod M21 fun _ _ h => h
  refine same_ g14 f21 (by decide) ?_
  intro w22 m22
  try simp only [go_sem]
  unfold l9_7
  try simp only [go_sem]
  exact k w22 (((((M4.trans' M8).trans' M12).trans' M14).trans' M21).trans' m22)
end
end Go.Proofs.Y

/- TMa: thread: the reference's references, finding, nearest; circles. -/
namespace Go.Proofs.Y
open Go Go.HL Go.Proofs

section
variable {w w' : World} {its : List It} {rvs : List Value} {next : Value → World → Prop} {QP : List PanicEntry → World → Prop}
theorem Its.up {v : Value} (h : Its w v its rvs) (m : Mod none' w w') : Its w' v its rvs := ⟨h.len, h.sl.mod m fun _ _ h => h, fun i h1 h2 => (h.refs i h1 h2).mod m fun _ _ h => h⟩
theorem rrefs_ {x : It} {rx : Value} (hv : Sl w rx 1 x.refs.length (x.refs.map str)) (hn : x.refs.length ≤ 1000000)
    (k : ∀ v' w', Sl w' v' 1 x.rf.length (x.rf.map str) → Mod none' w w' → next v' w') : callvK Try.prog (.func (.func 16) #[] #[]) [x.v rx] w next QP := by
  refine r16 rfl ?_
  obtain ⟨ra, rc, rfl, -, hcell⟩ := hv.form
  unfold h16
  try simp only [go_sem]
  refine box_ (cs := x.cells (.slice ra x.refs.length rc)) rfl ?_
  intro b w1 hb bk m1 s1
  try simp only [go_sem]
  refine loopN x.refs.length (fun i τ w' => ∃ v', τ 1 = ptr b ∧ τ 3 = v' ∧ τ 4 = .int .i64 i ∧ HL.Own w' v' 9 1 ((x.refs.take i).filter fun r => !delB x r).length (((x.refs.take i).filter fun r => !delB x r).map str) ∧ (∀ k, v'.ownBlock = some k → w1.heap.size ≤ k) ∧ Blk w' b 34 (x.cells (.slice ra x.refs.length rc)) ∧ Mod none' w w') ⟨0, by omega, .slice none 0 0, rfl, rfl, rfl, Own.nil _ _ _, fun k hk => (by cases hk), bk, m1⟩ ?_
  rintro i τ w2 hi ⟨v', t1, t3, t4, own2, hf2, bk2, m2⟩
  have a2 := ItAt.blk bk2
  have z0 := a2.c0
  have z2 := a2.c2
  unfold h16_1
  try simp only [go_sem, t1, t3, t4, z2]
  refine ⟨fun hlt => ?_, fun hge => ?_⟩
  · have hil : i < x.refs.length := by
      have := of_decide_eq_true hlt
      omega
    obtain ⟨g, o, rfl, hce⟩ := hcell (by omega)
    have hc : w2.cell? ⟨g, o + i, none⟩ = some (str x.refs[i]) := by
      refine m2.cell ?_ (fun h => h)
      rw [hce i (by omega)]; simp [hil]
    have hfil : (x.refs.take (i + 1)).filter (fun r => !delB x r) = (x.refs.take i).filter (fun r => !delB x r) ++ (if delB x x.refs[i] = true then [] else [x.refs[i]]) := by
      rw [List.take_succ_eq_append_getElem hil, List.filter_append]
      cases h : delB x x.refs[i] <;> simp [h]
    have hlen : ((x.refs.take i).filter fun r => !delB x r).length ≤ 1000000 := Nat.le_trans (List.length_filter_le _ _) (by simp; omega)
    unfold h16_2
    try simp only [go_sem, t1, t3, t4, z0, z2, hc]
    refine ⟨⟨by omega, by omega⟩, fun _ => ⟨by omega, by omega⟩, ?_⟩
    have hif : (if (!decide (x.refs[i] = x.id)) = true then !decide (x.refs[i] = []) else false) = !delB x x.refs[i] := by
      unfold delB
      by_cases h1 : x.refs[i] = x.id <;> simp [h1]
    rw [hif]
    refine ⟨fun hd => ?_, fun hd => ?_⟩
    · have hd : delB x x.refs[i] = false := by simpa using hd
      rw [hd] at hfil
      refine ⟨⟨by omega, by omega⟩, ?_⟩
      refine bsl1 (cs := [str x.refs[i]]) sl32 rfl rfl (by omega) ?_
      intro b3 w3 hb3 own3 bk3 m3 s3
      have m23 := (Mod.drew none' w2).trans' m3
      try simp only [go_sem, t1, t3, t4]
      refine append_ sl32 (own2.mod m23 fun _ _ h => h) own3.sl (by intro u hu; rw [List.mem_singleton.1 hu]; rfl) (by omega) (by unfold maxLen; omega) ?_
      intro v4 w4 own4 m4 hf4 _
      have hb1 : b < w1.heap.size := bk.lt
      have bk4 : Blk w4 b 34 (x.cells (.slice (some ⟨g, o, none⟩) x.refs.length rc)) := (bk2.mod m23 fun h => h).mod m4 fun h => by
        have := hf2 b h
        omega
      have own4' : HL.Own w4 v4 9 1 ((x.refs.take (i + 1)).filter fun r => !delB x r).length (((x.refs.take (i + 1)).filter fun r => !delB x r).map str) := by
        rw [hfil]
        simp only [Bool.false_eq_true, if_false, List.length_append, List.length_singleton, List.map_append, List.map_cons, List.map_nil]
        exact own4
      have hw1 : w1.heap.size = b + 1 := s1
      have hf4' : ∀ k, v4.ownBlock = some k → w1.heap.size ≤ k := fun k hk => by
        rcases hf4 k hk with h | h
        · exact hf2 k h
        · have hbl := (bk2.mod m23 fun h => h).lt
          have := m3.size
          have h2 : w1.heap.size ≤ w2.heap.size := by
            have := bk2.lt
            omega
          have h3 : w2.drew.heap.size = w2.heap.size := rfl
          omega
      have m04 : Mod none' w w4 := (m2.trans' m23).trans m4 fun j hj h => by
        have := hf2 j h
        have := m1.size
        omega
      unfold h16_3
      try simp only [go_sem, t1, t3, t4]
      rw [w64 (by omega) (by omega)]
      refine ⟨i + 1, by omega, by omega, v4, ?_⟩
      (repeat' first | assumption | rfl | omega | apply And.intro)
    · have hd : delB x x.refs[i] = true := by simpa using hd
      rw [hd] at hfil
      simp only [if_true, List.append_nil] at hfil
      rw [← hfil] at own2
      have m5 := m2.trans' (Mod.drew none' w2)
      have own5 := own2.mod (Mod.drew none' w2) fun _ _ h => h
      have bk5 := bk2.mod (Mod.drew none' w2) fun h => h
      unfold h16_3
      try simp only [go_sem, t1, t3, t4]
      rw [w64 (by omega) (by omega)]
      refine ⟨i + 1, by omega, by omega, v', ?_⟩
      (repeat' first | assumption | rfl | omega | apply And.intro)
  · have hil : i = x.refs.length := by
      have := of_decide_eq_false hge
      omega
    subst hil
    rw [List.take_length] at own2
    unfold h16_4
    try simp only [go_sem, t1, t3, t4]
    exact k v' w2 own2.sl m2
theorem rfind_ {v : Value} {id : Bytes} (hK : Its w v its rvs) (hn : its.length ≤ 1000000) (k : next (.int .i64 (oi (findI its id))) w) : callvK Try.prog (.func (.func 12) #[] #[]) [v, str id] w next QP := by
  refine r12 rfl ?_
  obtain ⟨va, vc, rfl, -, -⟩ := hK.sl.form
  unfold h12
  try simp only [go_sem]
  refine loopN its.length (fun i τ w' => τ 0 = .slice va its.length vc ∧ τ 1 = str id ∧ τ 5 = .int .i64 i ∧ (∀ x (hx : x < its.length), x < i → its[x].id ≠ id) ∧ w' = w) ⟨0, by omega, rfl, rfl, rfl, fun x _ hx => by omega, rfl⟩ ?_
  rintro i τ w1 hi ⟨t0, t1, t5, hno, rfl⟩
  unfold h12_1
  try simp only [go_sem, t0, t1, t5]
  refine ⟨fun hlt => ?_, fun hge => ?_⟩
  · have hil : i < its.length := by
      have := of_decide_eq_true hlt
      omega
    obtain ⟨g, o, rfl⟩ := hK.addr (by omega)
    obtain ⟨rv, -, ax⟩ := hK.at hil
    have x0 := ax.c0
    unfold h12_2
    try simp only [go_sem, t0, t1, t5, x0]
    repeat refine ⟨⟨by omega, by omega⟩, ?_⟩
    refine ⟨fun he => ?_, fun hne => ?_⟩
    · have he : its[i].id = id := by simpa using he
      have : findI its id = some i := by
        unfold findI
        rw [List.findIdx?_eq_some_iff_getElem]
        exact ⟨hil, by simpa using he, fun j hj => by simpa using hno j (by omega) hj⟩
      rw [this] at k
      try simp only [go_sem, t0, t1, t5]
      exact k
    · have hne : its[i].id ≠ id := by simpa using hne
      unfold h12_3
      try simp only [go_sem, t0, t1, t5]
      rw [w64 (by omega) (by omega)]
      have h4 : ∀ x (hx : x < its.length), x < i + 1 → its[x].id ≠ id := by
        intro x hx hxi
        by_cases e : x = i
        · subst e; exact hne
        · exact hno x hx (by omega)
      refine ⟨i + 1, by omega, by omega, ?_⟩
      (repeat' first | assumption | rfl | omega | apply And.intro)
  · have hil : i = its.length := by
      have := of_decide_eq_false hge
      omega
    subst hil
    have : findI its id = none := by
      unfold findI
      rw [List.findIdx?_eq_none_iff]
      intro x hx
      obtain ⟨i, hi, rfl⟩ := List.getElem_of_mem hx
      simpa using hno i hi hi
    rw [this] at k
    unfold h12_4
    try simp only [go_sem]
    exact k
theorem near_ {v : Value} {i : Nat} (hK : Its w v its rvs) (hi : i < its.length) (hn : its.length ≤ 1000000) (hr : its[i].refs.length ≤ 1000000) (k : ∀ w', Mod none' w w' → next (.int .i64 (oi (nearI its i))) w') : callvK Try.prog (.func (.func 17) #[] #[]) [v, .int .i64 i] w next QP := by
  refine r17 rfl ?_
  obtain ⟨va, vc, rfl, -, -⟩ := hK.sl.form
  obtain ⟨g, o, rfl⟩ := hK.addr (by omega)
  obtain ⟨rv, hrv, ax⟩ := hK.at hi
  have x1 := ax.ln
  have x2 := ax.sm
  have hrl : its[i].rf.length ≤ 1000000 := by
    have := List.length_filter_le (fun r => !delB its[i] r) its[i].refs
    unfold It.rf
    omega
  rw [near_rf hi] at k
  unfold h17
  try simp only [go_sem, x1, x2]
  repeat refine ⟨⟨by omega, by omega⟩, ?_⟩
  refine rrefs_ hrv hr ?_
  intro v1 w1 sl1 m1
  obtain ⟨ra, rc, rfl, -, hcell⟩ := sl1.form
  try simp only [go_sem]
  rw [w64 (by omega) (by omega)]
  refine ⟨fun q τ w' => q ≤ its[i].rf.length ∧ τ 0 = .slice (some ⟨g, o, none⟩) its.length vc ∧ τ 5 = .slice ra its[i].rf.length rc ∧ τ 6 = .int .i64 ((q : Int) - 1) ∧ nearL its (its[i].rf.drop q) = none ∧ Mod none' w w' ∧ w' = w1, its[i].rf.length, ⟨Nat.le_refl _, rfl, rfl, by simp [upd], by rw [List.drop_length]; rfl, m1, rfl⟩, ?_⟩
  rintro q τ w2 ⟨hq, t0, t5, t6, hno, m2, rfl⟩
  unfold h17_1
  cases q with
  | zero =>
    have eg : decide ((0 : Int) ≤ 0 - 1) = false := rfl
    try simp only [go_sem, t0, t5, t6, eg]
    rw [List.drop_zero] at hno
    rw [hno] at k
    unfold h17_4
    try simp only [go_sem]
    exact k w2 m2
  | succ q =>
    have e1 : ((q + 1 : Nat) : Int) - 1 = (q : Int) := by omega
    rw [e1] at t6
    have eg : decide ((0 : Int) ≤ (q : Int)) = true := by simp
    obtain ⟨gr, ro, rfl, hce⟩ := hcell (by omega)
    have hc : w2.cell? ⟨gr, ro + q, none⟩ = some (str its[i].rf[q]) := by
      rw [hce q (by omega), List.getElem?_map, List.getElem?_eq_getElem (by omega)]; rfl
    have hdrop : nearL its (its[i].rf.drop q) = (findI its its[i].rf[q]).or none ∨ nearL its (its[i].rf.drop q) = findI its its[i].rf[q] := by
      right
      rw [List.drop_eq_getElem_cons (by omega)]
      unfold nearL at hno ⊢
      rw [List.reverse_cons, List.findSome?_append, hno]
      simp
    have hdrop : nearL its (its[i].rf.drop q) = findI its its[i].rf[q] := by
      rcases hdrop with h | h
      · rw [h]; cases findI its its[i].rf[q] <;> rfl
      · exact h
    try simp only [go_sem, t0, t5, t6, eg]
    unfold h17_2
    try simp only [go_sem, t0, t5, t6, hc]
    repeat refine ⟨⟨by omega, by omega⟩, ?_⟩
    refine rfind_ (hK.up m1) hn ?_
    try simp only [go_sem, t0, t5, t6]
    cases hf : findI its its[i].rf[q] with
    | some z =>
      have eg2 : decide ((0 : Int) ≤ oi (some z)) = true := by simp [oi]
      have hall : nearL its its[i].rf = some z := by
        have e := List.take_append_drop q its[i].rf
        rw [← e]
        unfold nearL at hdrop ⊢
        rw [List.reverse_append, List.findSome?_append, hdrop, hf]; rfl
      rw [hall] at k
      try simp only [go_sem, eg2]
      exact k w2 m2
    | none =>
      have eg2 : decide ((0 : Int) ≤ oi none) = false := rfl
      try simp only [go_sem, eg2]
      unfold h17_3
      try simp only [go_sem, t0, t5, t6]
      rw [w64 (by omega) (by omega)]
      rw [hf] at hdrop
      refine ⟨q, by omega, ?_⟩
      (repeat' first | assumption | rfl | omega | apply And.intro)
theorem circ_ {v : Value} (hK : Its w v its rvs) (hz : szI its) (hn : its.length ≤ 1000000) (k : ∀ b w', (b = false → ∀ i, i < its.length → ¬ OnC (nearI its) i) → Mod none' w w' → next (.bool b) w') : callvK Try.prog (.func (.func 20) #[] #[]) [v] w next QP := by
  refine r20 rfl ?_
  obtain ⟨va, vc, rfl, -, -⟩ := hK.sl.form
  unfold h20
  try simp only [go_sem]
  refine loopN its.length (fun i τ w' => τ 0 = .slice va its.length vc ∧ τ 3 = .int .i64 i ∧ (∀ x, x < i → ¬ OnC (nearI its) x) ∧ Mod none' w w') ⟨0, by omega, rfl, rfl, fun x hx => by omega, Mod.refl _ _⟩ ?_
  rintro i τ w1 hi ⟨t0, t3, hno, m1⟩
  unfold h20_1
  try simp only [go_sem, t0, t3]
  refine ⟨fun hlt => ?_, fun hge => ?_⟩
  · have hil : i < its.length := by
      have := of_decide_eq_true hlt
      omega
    have hsz : ∀ j (h : j < its.length), its[j].refs.length ≤ 1000000 := fun j h => (hz _ (List.getElem_mem h)).1
    unfold h20_2
    try simp only [go_sem, t0, t3]
    refine near_ (hK.up m1) hil hn (hsz i hil) ?_
    intro w2 m2
    try simp only [go_sem, t0, t3]
    refine loopN its.length (fun q τ w' => τ 0 = .slice va its.length vc ∧ τ 3 = .int .i64 i ∧ τ 4 = .int .i64 (oi (itr (nearI its) (q + 1) i)) ∧ τ 5 = .int .i64 q ∧ (∀ m, m < q → itr (nearI its) (m + 1) i ≠ some i) ∧ Mod none' w w') ⟨0, by omega, t0, t3, rfl, rfl, fun m hm => by omega, m1.trans' m2⟩ ?_
    rintro q τ w3 hq ⟨t0, t3, t4, t5, hm, m3⟩
    -- the round's end
    have fin : (∀ m, m + 1 ≤ its.length → itr (nearI its) (m + 1) i ≠ some i) → ∀ x, x < i + 1 → ¬ OnC (nearI its) x := by
      intro h x hx hc
      by_cases e : x = i
      · subst e
        obtain ⟨m, h1, h2⟩ := back_short (n := its.length) (fun i j h => nearI_lt h) hil hc
        exact h m h1 h2
      · exact hno x (by omega) hc
    unfold h20_3
    by_cases hql : q < its.length
    · have eq : decide ((q : Int) < (its.length : Int)) = true := by simpa using hql
      cases hk : itr (nearI its) (q + 1) i with
      | none =>
        rw [hk] at t4
        have eg : decide ((0 : Int) ≤ oi none) = false := rfl
        try simp only [go_sem, t0, t3, t4, t5, eq, eg]
        unfold h20_7
        try simp only [go_sem, t0, t3]
        rw [w64 (by omega) (by omega)]
        have h9 := fin fun m hml => by
          by_cases hmq : m < q
          · exact hm m hmq
          · rw [itr_none hk (m + 1) (by omega)]; simp
        refine ⟨i + 1, by omega, by omega, ?_⟩
        (repeat' first | assumption | rfl | omega | apply And.intro)
      | some j =>
        rw [hk] at t4
        have hj : j < its.length := by
          obtain ⟨z, -, hz⟩ := Option.bind_eq_some_iff.1 hk
          exact nearI_lt hz
        have t4 : τ 4 = .int .i64 (j : Int) := t4
        have eg : decide ((0 : Int) ≤ (j : Int)) = true := by simp
        try simp only [go_sem, t0, t3, t4, t5, eq, eg]
        unfold h20_4
        try simp only [go_sem, t0, t3, t4, t5]
        refine ⟨fun he => ?_, fun hne => ?_⟩
        · try simp only [go_sem]
          exact k true w3 (fun h => by cases h) m3
        · have hne : j ≠ i := by
            have := of_decide_eq_false hne
            omega
          unfold h20_5
          try simp only [go_sem, t0, t3, t4, t5]
          refine near_ (hK.up m3) hj hn (hsz j hj) ?_
          intro w4 m4
          unfold h20_6
          try simp only [go_sem, t0, t3, t4, t5]
          rw [w64 (by omega) (by omega)]
          have e4 : nearI its j = itr (nearI its) (q + 1 + 1) i := by
            show _ = (itr (nearI its) (q + 1) i).bind _
            rw [hk]; rfl
          rw [e4]
          have h9 : ∀ m, m < q + 1 → itr (nearI its) (m + 1) i ≠ some i := by
            intro m hmq
            by_cases e : m = q
            · subst e
              rw [hk]
              exact fun e => hne (Option.some.inj e)
            · exact hm m (by omega)
          have m5 := m3.trans' m4
          refine ⟨q + 1, by omega, by omega, ?_⟩
          (repeat' first | assumption | rfl | omega | apply And.intro)
    · have eq : decide ((q : Int) < (its.length : Int)) = false := by simp; omega
      try simp only [go_sem, t0, t3, t4, t5, eq]
      unfold h20_7
      try simp only [go_sem, t0, t3]
      rw [w64 (by omega) (by omega)]
      have h9 := fin fun m hml => hm m (by omega)
      refine ⟨i + 1, by omega, by omega, ?_⟩
      (repeat' first | assumption | rfl | omega | apply And.intro)
  · have hil : i = its.length := by
      have := of_decide_eq_false hge
      omega
    subst hil
    unfold h20_8
    try simp only [go_sem]
    exact k false w1 (fun _ => hno) m1
end
end Go.Proofs.Y

/- TMc: thread: Root, find; ThreadRoots. -/
namespace Go.Proofs.Y
open Go Go.HL Go.Proofs

section
variable {w w' : World} {its : List It} {rvs : List Value} {next : Value → World → Prop} {QP : List PanicEntry → World → Prop}

theorem find_ {v : Value} {l : List Nd} {c : Bytes} (hK : Sl w v 4 l.length (rows Nd.cells l)) (hn : l.length ≤ 1000000) (k : next (.int .i64 (oi (findN l c))) w) : callvK Try.prog (.func (.func 13) #[] #[]) [v, str c] w next QP := by
  refine r13 rfl ?_
  obtain ⟨va, vc, rfl, -, -⟩ := hK.form
  unfold h13
  try simp only [go_sem]
  refine loopN l.length (fun i τ w' => τ 0 = .slice va l.length vc ∧ τ 1 = str c ∧ τ 5 = .int .i64 i ∧ (∀ x (hx : x < l.length), x < i → l[x].id ≠ c) ∧ w' = w) ⟨0, by omega, rfl, rfl, rfl, fun x _ hx => by omega, rfl⟩ ?_
  rintro i τ w1 hi ⟨t0, t1, t5, hno, rfl⟩
  unfold h13_1
  try simp only [go_sem, t0, t1, t5]
  refine ⟨fun hlt => ?_, fun hge => ?_⟩
  · have hil : i < l.length := by
      have := of_decide_eq_true hlt
      omega
    obtain ⟨ga, oa, ca, ea, -, hca⟩ := hK.get Nd.len rfl (by omega)
    simp only [Value.slice.injEq] at ea
    obtain ⟨rfl, -, rfl⟩ := ea
    have x0 := hca i 0 hil (by omega)
    simp only [Nd.cells, List.getElem?_cons_zero, Nat.add_zero] at x0
    unfold h13_2
    try simp only [go_sem, t0, t1, t5, x0]
    repeat refine ⟨⟨by omega, by omega⟩, ?_⟩
    refine ⟨fun he => ?_, fun hne => ?_⟩
    · have he : l[i].id = c := by simpa using he
      have : findN l c = some i := by
        unfold findN
        rw [List.findIdx?_eq_some_iff_getElem]
        exact ⟨hil, by simpa using he, fun j hj => by simpa using hno j (by omega) hj⟩
      rw [this] at k
      try simp only [go_sem, t0, t1, t5]
      exact k
    · have hne : l[i].id ≠ c := by simpa using hne
      unfold h13_3
      try simp only [go_sem, t0, t1, t5]
      rw [w64 (by omega) (by omega)]
      have h4 : ∀ x (hx : x < l.length), x < i + 1 → l[x].id ≠ c := by
        intro x hx hxi
        by_cases e : x = i
        · subst e; exact hne
        · exact hno x hx (by omega)
      refine ⟨i + 1, by omega, by omega, ?_⟩
      (repeat' first | assumption | rfl | omega | apply And.intro)
  · have hil : i = l.length := by
      have := of_decide_eq_false hge
      omega
    subst hil
    unfold h13_4
    try simp only [go_sem]
    have : findN l c = none := by
      unfold findN
      rw [List.findIdx?_eq_none_iff]
      intro x hx
      obtain ⟨j, hj, rfl⟩ := List.getElem_of_mem hx
      simpa using hno j hj hj
    rw [this] at k
    exact k

theorem Root_ {v : Value} {c : Bytes} (hd : dist its) (hne : ne0 its) (hK : Its w v its rvs) (hz : szI its) (hn : its.length ≤ 1000000) (k : ∀ w', Mod none' w w' → next (str (rootB its c)) w') : callvK Try.prog (.func (.func 22) #[] #[]) [v, str c] w next QP := by
  refine r22 rfl ?_
  obtain ⟨va, vc, rfl, -, -⟩ := hK.sl.form
  unfold h22
  try simp only [go_sem]
  refine study_ hd hK hz hn ?_
  intro fb w1 hS m1
  obtain ⟨B, ib, nb, bb, hb, ks, ne, br, hs, hF, hix, hne', hbr, hsr⟩ := hS.ex
  have f1 := hF.f.cell 1
  simp only [List.getElem?_cons_zero, List.getElem?_cons_succ] at f1
  try simp only [go_sem, f1]
  refine lookup_ u49 u9 zi hF.ix ?_
  rw [hix c]
  cases hf : findI its c with
  | none =>
    have hroot : rootB its c = if c ∈ ghL its its.length then c else [] := by unfold rootB; rw [hf]
    try simp only [go_sem, Option.map_none, Option.isSome_none]
    refine loopN its.length (fun i τ w' => τ 0 = .slice va its.length vc ∧ τ 1 = str c ∧ τ 5 = ptr fb ∧ τ 27 = .int .i64 its.length ∧ τ 28 = .int .i64 i ∧ (∀ x, x < i → ¬ (gh its x ≠ [] ∧ gh its x = c)) ∧ Mod none' w1 w') ⟨0, by omega, rfl, rfl, rfl, rfl, rfl, fun x hx => by omega, Mod.refl _ _⟩ ?_
    rintro i τ w2 hi ⟨t0, t1, t5, t27, t28, hno, m2⟩
    unfold h22_1
    try simp only [go_sem, t0, t1, t5, t27, t28]
    refine ⟨fun hlt => ?_, fun hge => ?_⟩
    · have hil : i < its.length := by
        have := of_decide_eq_true hlt
        omega
      unfold h22_2
      try simp only [go_sem, t0, t1, t5, t27, t28]
      refine par_ hd (hS.up m2) hil hz hn ?_
      intro w3 m3
      unfold parV
      have e1 : (parI its i).2 = gh its i := rfl
      try simp only [go_sem, t0, t1, t5, t27, t28, e1]
      refine ⟨fun hc => ?_, fun hc => ?_⟩
      · have hg : gh its i ≠ [] ∧ gh its i = c := by
          by_cases h1 : gh its i = [] <;> simp [h1] at hc ⊢
          exact hc
        have := k w3 ((m1.trans' m2).trans' m3)
        rw [hroot, if_pos ((ghL_mem its _ _).2 ⟨by rw [← hg.2]; exact hg.1, i, hil, hg.2⟩)] at this
        exact this
      · have hg : ¬ (gh its i ≠ [] ∧ gh its i = c) := by
          rintro ⟨h1, h2⟩
          simp [h1, h2] at hc
          exact h1 (h2.trans hc)
        unfold h22_3
        try simp only [go_sem, t0, t1, t5, t27, t28]
        rw [w64 (by omega) (by omega)]
        have h4 : ∀ x, x < i + 1 → ¬ (gh its x ≠ [] ∧ gh its x = c) := by
          intro x hx
          by_cases e : x = i
          · subst e; exact hg
          · exact hno x (by omega)
        have m23 := m2.trans' m3
        refine ⟨i + 1, by omega, by omega, ?_⟩
        (repeat' first | assumption | rfl | omega | apply And.intro)
    · have hil : i = its.length := by
        have := of_decide_eq_false hge
        omega
      subst hil
      unfold h22_4
      try simp only [go_sem]
      have := k w2 (m1.trans' m2)
      rw [hroot, if_neg (fun h => by
        obtain ⟨h1, x, h2, h3⟩ := (ghL_mem its _ _).1 h
        exact hno x h2 ⟨by rw [h3]; exact h1, h3⟩)] at this
      exact this
  | some i0 =>
    obtain ⟨hil0, hid⟩ := findI_idAt hf
    have hroot : rootB its c = rootI its its.length i0 := by unfold rootB; rw [hf]
    try simp only [go_sem, Option.map_some, Option.isSome_some]
    unfold h22_5
    try simp only [go_sem]
    refine loopN its.length (fun m τ w' => τ 0 = .slice va its.length vc ∧ τ 5 = ptr fb ∧ (∃ j : Nat, j < its.length ∧ τ 6 = .int .i64 j ∧ rootB its c = rootI its (its.length - m) j ∧ itr (upI its) (its.length - m) j = none) ∧ Mod none' w1 w') ⟨0, by omega, rfl, rfl, ⟨i0, hil0, rfl, hroot, up_ends hd hil0⟩, Mod.refl _ _⟩ ?_
    rintro m τ w2 hm ⟨t0, t5, ⟨j, hj, t6, hr, hit⟩, m2⟩
    obtain ⟨f, hfm⟩ : ∃ f, its.length - m = f + 1 := by
      cases hlm : its.length - m with
      | zero => rw [hlm] at hit; simp [itr] at hit
      | succ f => exact ⟨f, rfl⟩
    rw [hfm] at hr hit
    rw [itr_succ] at hit
    unfold rootI at hr
    have hu : upI its j = (parI its j).1 := by unfold upI; rw [if_pos hj]
    rw [hu] at hit
    unfold h22_6
    try simp only [go_sem, t0, t5, t6]
    refine par_ hd (hS.up m2) hj hz hn ?_
    intro w3 m3
    unfold parV
    have e1 : (parI its j).2 = gh its j := rfl
    have m23 := m2.trans' m3
    have m13 := m1.trans' m23
    try simp only [go_sem, t0, t5, t6, e1]
    refine ⟨fun hc => ?_, fun hc => ?_⟩
    · have hg : gh its j ≠ [] := by simpa using hc
      rw [if_pos hg] at hr
      have := k w3 m13
      rw [hr] at this
      exact this
    · have hg : ¬ gh its j ≠ [] := by simpa using hc
      rw [if_neg hg] at hr
      try simp only [go_sem, t0, t5, t6, e1]
      refine ⟨fun hc => ?_, fun hc => ?_⟩
      · cases hp : (parI its j).1 with
        | some q =>
          rw [hp] at hc
          have hc : (q : Int) < 0 := of_decide_eq_true hc
          omega
        | none =>
          rw [hp] at hr
          obtain ⟨g, o, rfl⟩ := hK.addr (by omega)
          obtain ⟨rv, -, ax⟩ := ((hK.up m1).up m23).at hj
          have x0 := ax.c0
          try simp only [go_sem, t0, t5, t6, x0]
          repeat refine ⟨⟨by omega, by omega⟩, ?_⟩
          have := k w3 m13
          rw [hr, idAt_at hj] at this
          exact this
      · cases hp : (parI its j).1 with
        | none => rw [hp] at hc; simp [oi] at hc
        | some q =>
          rw [hp] at hr hit hu
          have hq := (upI_lt hu).2
          unfold h22_7
          try simp only [go_sem, t0, t5, t6]
          have hfm2 : its.length - (m + 1) = f := by omega
          refine ⟨m + 1, by omega, by omega, ⟨q, hq, rfl, by rw [hfm2]; exact hr, by rw [hfm2]; exact hit⟩, m23⟩

theorem roots_ {v : Value} {c : Bytes} (hK : Its w v its rvs) (hml : its.length ≤ 9223372036854775807) (k : ∀ w', Mod none' w w' → next (.bool true) w') : callK Try.prog 7 [v, str c] w next QP := by
  refine q7 rfl ?_
  obtain ⟨va, vc, rfl, -, -⟩ := hK.sl.form
  unfold h7
  try simp only [go_sem]
  refine small_ ?_
  intro w1 m1
  try simp only [go_sem]
  refine few_ (hK.up m1) hml ?_
  intro b w2 hb m2
  have m02 := m1.trans' m2
  cases b with
  | false =>
    try simp only [go_sem]
    exact k w2 m02
  | true =>
    have hP := hb rfl
    have hd := hP.d
    have hne := hP.e
    have hn40 := hP.n
    try simp only [go_sem]
    unfold h7_1
    try simp only [go_sem]
    refine Forest_ hd hne (hK.up m02) hP.sz (by omega) ?_
    intro v3 w3 own3 hf3 m3
    have m03 := m02.trans' m3
    have hlen := forest_len hd hne
    obtain ⟨fa, fc, rfl, -, -⟩ := own3.form
    try simp only [go_sem]
    refine loopN (forestB its).length (fun i τ w' => τ 0 = .slice va its.length vc ∧ τ 1 = str c ∧ τ 5 = .bool true ∧ τ 6 = .slice fa (forestB its).length fc ∧ τ 7 = .int .i64 i ∧ Mod none' w3 w') ⟨0, by omega, rfl, rfl, rfl, rfl, rfl, Mod.refl _ _⟩ ?_
    rintro i τ w4 hi ⟨t0, t1, t5, t6, t7, m4⟩
    have sl4 := (own3.sl.mod m4 fun _ _ h => h)
    have m04 := m03.trans' m4
    unfold h7_2
    try simp only [go_sem, t0, t1, t5, t6, t7]
    refine ⟨fun hlt => ?_, fun hge => ?_⟩
    · have hil : i < (forestB its).length := by
        have := of_decide_eq_true hlt
        omega
      obtain ⟨e, he, hex, hnd⟩ := forest_at hil
      unfold h7_3
      try simp only [go_sem, t0, t1, t5, t6, t7]
      refine loopN i (fun m σ w' => σ 0 = .slice va its.length vc ∧ σ 1 = str c ∧ σ 5 = .bool true ∧ σ 6 = .slice fa (forestB its).length fc ∧ σ 7 = .int .i64 i ∧ (∃ e' ∈ enF its, σ 8 = .int .i64 e'.x ∧ e'.x + m ≤ i ∧ rootB its e.b.id = rootB its e'.b.id) ∧ Mod none' w4 w') ⟨0, by omega, t0, t1, t5, t6, t7, ⟨e, he, by rw [hex]; rfl, by omega, rfl⟩, Mod.refl _ _⟩ ?_
      rintro m σ w5 hm ⟨t0, t1, t5, t6, t7, ⟨e', he', t8, hem, hroot⟩, m5⟩
      obtain ⟨hx', hnd'⟩ := forest_x he'
      obtain ⟨ga, oa, ca, ea, -, hca⟩ := (sl4.mod m5 fun _ _ h => h).get Nd.len rfl (by omega)
      simp only [Value.slice.injEq] at ea
      obtain ⟨rfl, -, rfl⟩ := ea
      have x0 := hca i 0 hil (by omega)
      have x2 := hca e'.x 2 hx' (by omega)
      have z0 := hca e'.x 0 hx' (by omega)
      rw [hnd] at x0
      rw [hnd'] at x2 z0
      simp only [Nd.cells, En.nd, List.getElem?_cons_zero, List.getElem?_cons_succ, Nat.add_zero] at x0 x2 z0
      unfold h7_4
      try simp only [go_sem, t0, t1, t5, t6, t7, t8, x2]
      repeat refine ⟨⟨by omega, by omega⟩, ?_⟩
      refine ⟨fun _ => ⟨by omega, by omega⟩, ?_⟩
      rcases en_pid hd hne he' with ⟨hp, hu⟩ | ⟨q, hq, hp, hqx, hu⟩
      · have c1 : decide (0 ≤ e'.p) = false := by rw [hp]; rfl
        try simp only [go_sem, c1]
        unfold h7_6
        try simp only [go_sem, t0, t1, t5, t6, t7, t8, x0, z0]
        repeat refine ⟨⟨by omega, by omega⟩, ?_⟩
        refine Root_ hd hne ((hK.up m04).up m5 |>.up (Mod.drew none' w5)) hP.sz (by omega) ?_
        intro w6 m6
        have m56 := (Mod.drew none' w5).trans' m6
        have z0' := m56.cell z0 (fun h => h)
        have hr : rootB its e.b.id = e'.b.id := by
          rw [hroot, root_en hd hne he', hu]
        try simp only [go_sem, t0, t1, t5, t6, t7, t8, z0', z0, hr]
        unfold h7_7
        try simp only [go_sem, t0, t1, t5, t6, t7]
        rw [w64 (by omega) (by omega)]
        have m46 := (m4.trans' m5).trans' m56
        refine ⟨i + 1, by omega, by omega, ?_⟩
        (repeat' first | assumption | rfl | omega | apply And.intro)
      · have c1 : decide (0 ≤ e'.p) = true := by rw [hp]; exact decide_eq_true (by omega)
        have c2 : decide (e'.p < (e'.x : Int)) = true := by rw [hp]; exact decide_eq_true (by omega)
        try simp only [go_sem, c1, c2]
        unfold h7_5
        try simp only [go_sem, t0, t1, t5, t6, t7, t8, x2]
        repeat refine ⟨⟨by omega, by omega⟩, ?_⟩
        have hr : rootB its e.b.id = rootB its q.b.id := by
          rw [hroot, root_en hd hne he', hu]
        refine ⟨m + 1, by omega, by omega, ?_⟩
        rw [hp]
        exact ⟨⟨q, hq, rfl, by omega, hr⟩, m5⟩
    · have hil : i = (forestB its).length := by
        have := of_decide_eq_false hge
        omega
      subst hil
      unfold h7_8
      try simp only [go_sem, t0, t1, t5, t6]
      refine find_ sl4 (by omega) ?_
      unfold l7_10 l7_9
      try simp only [go_sem, t0, t1, t5, t6]
      cases hfn : findN (forestB its) c with
      | some q =>
        have c1 : decide (0 ≤ oi (some q)) = true := decide_eq_true (by unfold oi; simp only; omega)
        try simp only [go_sem, c1]
        exact k w4 m04
      | none =>
        have c1 : decide (0 ≤ oi none) = false := rfl
        try simp only [go_sem, c1]
        refine Root_ hd hne (hK.up m04) hP.sz (by omega) ?_
        intro w5 m5
        rw [root_none hd hne hfn]
        try simp only [go_sem]
        exact k w5 (m04.trans' m5)
end
end Go.Proofs.Y

/- TMd: thread: circle; ThreadParents. -/
namespace Go.Proofs.Y
open Go Go.HL Go.Proofs

/-! ### plain -/
section
variable {its : List It}
theorem parents_plain (hd : dist its) (hne : ne0 its) {i : Nat} (hi : i < its.length) {e : En} (he : e ∈ enF its) (eb : e.b = itP its i) :
    (e.p = -1 ∧ parI its i = (none, []) ∧ (nearI its i = none → its[i].rf = []) ∧ (∀ k, nearI its i = some k → brkI its i = true)) ∨
    (∃ e' ∈ enF its, e.p = e'.x ∧ e'.b.ghost = true ∧ parI its i = (none, e'.b.id) ∧ nearI its i = none ∧ its[i].rf.getLast? = some e'.b.id) ∨
    (∃ e' ∈ enF its, ∃ k, ∃ hk : k < its.length, e.p = e'.x ∧ e'.b = itP its k ∧ parI its i = (some k, []) ∧
      (nearI its i = some k ∨ (nearI its i = none ∧ its[i].rf = [] ∧ its[i].reply = true ∧ its[i].base ≠ [] ∧ its[k].rf = [] ∧ its[k].reply = false ∧ lowerB its[i].base = lowerB its[k].base ∧ its[k].date ≤ its[i].date))) := by
  have hid : e.b.id = idAt its i := by rw [eb]; rfl
  have hu : upI its i = (parI its i).1 := by unfold upI; rw [if_pos hi]
  have hc := parI_c hi
  rcases en_pid hd hne he with ⟨hp, hn⟩ | ⟨e', he', hp, -, hn⟩
  · left
    rw [hid, upid_item hd hi] at hn
    have hpid : pid its i = [] := by
      by_cases h : pid its i = []
      · exact h
      · rw [if_neg h] at hn; cases hn
    have hpar : parI its i = (none, []) := by
      rcases pid_cases hi with ⟨k, h1, h2⟩ | ⟨h1, h2⟩
      · rw [h2] at hpid; exact absurd hpid (idAt_ne hne (upI_lt h1).2)
      · rw [hu] at h1; rw [h2] at hpid; exact Prod.ext h1 hpid
    refine ⟨hp, hpar, ?_⟩
    rw [hpar] at hc
    cases hc with
    | brk h k hk => exact ⟨fun h' => absurd (h'.symm.trans hk) (by simp), fun _ _ => h⟩
    | ghost h hk r hr => exact absurd rfl (last_rf hr).2.1
    | root h hk hr hb => exact ⟨fun _ => hr, fun k h' => by rw [hk] at h'; cases h'⟩
    | ans h hk hr hb ho => exact ⟨fun _ => hr, fun k h' => by rw [hk] at h'; cases h'⟩
  · right
    rw [hid, upid_item hd hi] at hn
    have hpne : pid its i ≠ [] := by
      intro h
      rw [if_pos h] at hn; cases hn
    rw [if_neg hpne] at hn
    have hn : pid its i = e'.b.id := Option.some.inj hn
    rcases en_kind hd hne he' with ⟨k, hk, eb', hf⟩ | ⟨g, hg, eb', hf, hp'⟩
    · right
      have h1 := pid_item hd hne hi hk (by rw [hn, eb']; rfl)
      rw [hu] at h1
      cases hpar : parI its i with
      | mk o g =>
        rw [hpar] at hc h1
        have h1 : o = some k := h1
        subst h1
        cases hc with
        | near h _ hk2 => exact ⟨e', he', k, hk, hp, eb', rfl, .inl hk2⟩
        | ans h hk2 hr hb _ ho =>
          obtain ⟨m1, m2⟩ := find_some ho.symm
          obtain ⟨_, hh⟩ := headsS_mem.1 m1
          unfold hdB at hh
          simp only [Bool.and_eq_true, decide_eq_true_eq, Bool.not_eq_true'] at hh
          unfold ansB dateAt at m2
          rw [List.getElem?_eq_getElem hk] at m2
          exact ⟨e', he', k, hk, hp, eb', rfl, .inr ⟨hk2, hr, hb.1, hb.2, List.eq_nil_of_length_eq_zero hh.1.1, hh.1.2, hh.2.symm, by simpa using m2⟩⟩
    · left
      have hgid : e'.b.id = g := by rw [eb']; rfl
      have hup : upI its i = none := by
        rcases pid_cases hi with ⟨k, h1, h2⟩ | ⟨h1, -⟩
        · rw [← hn, h2, find_idAt hd (upI_lt h1).2] at hf; cases hf
        · exact h1
      have hgh : gh its i = e'.b.id := by
        rcases pid_cases hi with ⟨k, h1, h2⟩ | ⟨h1, h2⟩
        · rw [hup] at h1; cases h1
        · rw [← h2, hn]
      have hgne : gh its i ≠ [] := by rw [hgh]; exact en_ne hne he'
      have hpar : parI its i = (none, e'.b.id) := Prod.ext (by rw [← hu]; exact hup) hgh
      have hnear : nearI its i = none := by
        rw [hpar] at hc
        have hne2 := en_ne hne he'
        generalize e'.b.id = z at hc hne2
        cases hc with
        | brk => exact absurd rfl hne2
        | ghost h hk r hr => exact hk
        | root => exact absurd rfl hne2
        | ans => exact absurd rfl hne2
      exact ⟨e', he', hp, by rw [eb']; rfl, hpar, hnear, by rw [← hgh]; exact (gh_ok hi hgne).2.2.2⟩
end
section
variable {w w' : World} {its : List It} {rvs : List Value} {next : Value → World → Prop} {QP : List PanicEntry → World → Prop}
theorem z29 : (Try.prog.info? 29).bind (·.zero) = some (.agg #[str [], .bool false, .int .i64 0, .int .i64 0]) := by kernel_rfl
theorem sz29 : szOf Try.prog 29 = some 4 := by kernel_rfl
theorem circle_ {v : Value} {i : Nat} (hK : Its w v its rvs) (hi : i < its.length) (hz : szI its) (hn : its.length ≤ 1000000) (k : ∀ w', Mod none' w w' → next (.bool (brkI its i)) w') : callvK Try.prog (.func (.func 18) #[] #[]) [v, .int .i64 i] w next QP := by
  refine r18 rfl ?_
  obtain ⟨va, vc, rfl, -, -⟩ := hK.sl.form
  have hsz : ∀ j (h : j < its.length), its[j].refs.length ≤ 1000000 := fun j h => (hz _ (List.getElem_mem h)).1
  unfold h18
  try simp only [go_sem]
  refine near_ hK hi hn (hsz i hi) ?_
  intro w1 m1
  try simp only [go_sem]
  refine loopN its.length (fun n τ w' => τ 0 = .slice va its.length vc ∧ τ 1 = .int .i64 i ∧ τ 6 = .int .i64 n ∧ (∃ o : Option Nat, τ 5 = .int .i64 (oi o) ∧ (∀ j, o = some j → j < its.length) ∧ brkI its i = brkL (idAt its) (nearI its) i (its.length - n) o) ∧ Mod none' w w') ⟨0, by omega, rfl, rfl, rfl, ⟨_, rfl, fun j h => nearI_lt h, rfl⟩, m1⟩ ?_
  rintro n τ w2 hnn ⟨t0, t1, t6, ⟨o, t5, ho, hb⟩, m2⟩
  unfold h18_1
  try simp only [go_sem, t0, t1, t5, t6]
  have fin : ∀ b : Bool, b = brkI its i → decide (oi o = (i : Int)) = b → hw Try.prog noPanic h18_5 (endV [.tmp 4] next) (upd τ 22 (.bool false)) w2 := by
    intro b e1 e2
    unfold h18_5
    try simp only [go_sem, t1, t5, e2]
    have := k w2 m2
    rw [← e1] at this
    exact this
  by_cases hnl : n < its.length
  · have e1 : decide ((n : Int) < (its.length : Int)) = true := by simpa using hnl
    obtain ⟨t, ht⟩ : ∃ t, its.length - n = t + 1 := ⟨its.length - n - 1, by omega⟩
    rw [ht] at hb
    cases o with
    | none =>
      have e2 : decide (0 ≤ oi none) = false := rfl
      try simp only [go_sem, e1, e2]
      refine fin false ?_ (decide_eq_false (by unfold oi; simp only; omega))
      rw [hb]; rfl
    | some q =>
      have e2 : decide (0 ≤ oi (some q)) = true := decide_eq_true (by unfold oi; simp only; omega)
      unfold brkL at hb
      by_cases hqi : q = i
      · have e3 : decide (oi (some q) = (i : Int)) = true := decide_eq_true (by rw [hqi]; rfl)
        rw [if_pos hqi] at hb
        try simp only [go_sem, e1, e2, e3]
        exact fin true hb.symm e3
      · have e3 : decide (oi (some q) = (i : Int)) = false := decide_eq_false (by unfold oi; simp only; omega)
        rw [if_neg hqi] at hb
        have hq := ho q rfl
        try simp only [go_sem, e1, e2, e3]
        obtain ⟨g, oo, rfl⟩ := hK.addr (by omega)
        obtain ⟨rv, -, ax⟩ := (hK.up m2).at hq
        obtain ⟨rv2, -, ay⟩ := (hK.up m2).at hi
        have x0 := ax.c0
        have y0 := ay.c0
        have t5 : τ 5 = .int .i64 q := t5
        unfold h18_2
        try simp only [go_sem, t0, t1, t5, t6, x0, y0]
        repeat refine ⟨⟨by omega, by omega⟩, ?_⟩
        rw [idAt_at hq, idAt_at hi] at hb
        refine ⟨fun hl => ?_, fun hl => ?_⟩
        · rw [if_pos (show bl its[q].id its[i].id = true from hl)] at hb
          have := k w2.drew (m2.trans' (Mod.drew _ _))
          rw [hb] at this
          exact this
        · have hl' : ¬ bl its[q].id its[i].id = true := by
            intro h
            exact absurd (h.symm.trans hl) (by simp)
          rw [if_neg hl'] at hb
          have m3 := m2.trans' (Mod.drew none' w2)
          unfold h18_3
          try simp only [go_sem, t0, t1, t5, t6]
          refine near_ (hK.up m3) hq hn (hsz q hq) ?_
          intro w4 m4
          have m5 := m3.trans' m4
          unfold h18_4
          try simp only [go_sem, t0, t1, t5, t6]
          rw [w64 (by omega) (by omega)]
          have ht2 : its.length - (n + 1) = t := by omega
          refine ⟨n + 1, by omega, by omega, rfl, ⟨nearI its q, rfl, fun j h => nearI_lt h, by rw [ht2]; exact hb⟩, m5⟩
  · have e1 : decide ((n : Int) < (its.length : Int)) = false := by simpa using hnl
    have : its.length - n = 0 := by omega
    rw [this] at hb
    try simp only [go_sem, e1]
    refine fin (decide (oi o = (i : Int))) ?_ rfl
    rw [hb]
    unfold brkL
    cases o with
    | none => rw [decide_eq_false (by unfold oi; simp only; omega)]; simp
    | some q => unfold oi; simp only [Option.some.injEq]; exact decide_eq_decide.2 (by omega)

set_option maxHeartbeats 1000000 in
theorem parents_ {v : Value} (hK : Its w v its rvs) (hml : its.length ≤ 9223372036854775807) (k : ∀ w', Mod none' w w' → next (.bool true) w') : callK Try.prog 4 [v] w next QP := by
  refine q4 rfl ?_
  obtain ⟨va, vc, rfl, -, -⟩ := hK.sl.form
  unfold h4
  try simp only [go_sem]
  refine small_ ?_
  intro w1 m1
  try simp only [go_sem]
  refine few_ (hK.up m1) hml ?_
  intro b w2 hb m2
  have m02 := m1.trans' m2
  cases b with
  | false =>
    try simp only [go_sem]
    exact k w2 m02
  | true =>
    have hP := hb rfl
    have hd := hP.d
    have hne := hP.e
    have hn40 := hP.n
    try simp only [go_sem]
    unfold h4_1
    try simp only [go_sem]
    refine Forest_ hd hne (hK.up m02) hP.sz (by omega) ?_
    intro v3 w3 own3 hf3 m3
    have m03 := m02.trans' m3
    have hlen := forest_len hd hne
    obtain ⟨fa, fc, rfl, -, -⟩ := own3.form
    try simp only [go_sem]
    refine loopN its.length (fun i τ w' => τ 0 = .slice va its.length vc ∧ τ 3 = .bool true ∧ τ 4 = .slice fa (forestB its).length fc ∧ τ 5 = .int .i64 i ∧ Mod none' w3 w') ⟨0, by omega, rfl, rfl, rfl, rfl, Mod.refl _ _⟩ ?_
    rintro i τ w4 hi ⟨t0, t3, t4, t5, m4⟩
    have sl4 := (own3.sl.mod m4 fun _ _ h => h)
    have m04 := m03.trans' m4
    unfold h4_2
    try simp only [go_sem, t0, t3, t4, t5]
    refine ⟨fun hlt => ?_, fun hge => ?_⟩
    · have hil : i < its.length := by
        have := of_decide_eq_true hlt
        omega
      obtain ⟨e, he, eb⟩ := en_item hd hne hil
      obtain ⟨z1, z2⟩ := hP.z _ (List.getElem_mem hil)
      obtain ⟨g, o, rfl⟩ := hK.addr (by omega)
      obtain ⟨rvi, hrvi, ax⟩ := (hK.up m04).at hil
      have y1 := ax.ln
      have y2 := ax.sm
      unfold h4_3
      try simp only [go_sem, t0, t3, t4, t5, y1, y2]
      repeat refine ⟨⟨by omega, by omega⟩, ?_⟩
      refine alloc_ (cs := [str [], .int .i64 0, .slice none 0 0, str [], .bool false]) z34 rfl ?_
      intro b6 w5 hb6 bk5 m5 s5'
      try simp only [go_sem, t0, t3, t4, t5]
      refine storeN (vs := its[i].cells rvi) sz34 rfl bk5 (by simp) (by intro u hu; simp [It.cells] at hu; rcases hu with rfl | rfl | rfl | rfl | rfl <;> first | rfl | (obtain ⟨a, c, e, -⟩ := hrvi.form; rw [e]; rfl)) ?_
      intro w6 bk6 m6 s6'
      have m46 : Mod none' w4 w6 := m5.trans m6 fun x hx e => by
        have e : x = b6 := e
        omega
      have bk6 : Blk w6 b6 34 (its[i].cells rvi) := by simpa [It.cells] using bk6
      have a6 := ItAt.blk bk6
      have a0 := a6.c0
      have sl6 := sl4.mod m46 fun _ _ h => h
      try simp only [go_sem, t0, t3, t4, t5, a0]
      refine find_ sl6 (by omega) ?_
      have hfe : findN (forestB its) its[i].id = some e.x := by
        have := findN_en hd hne he
        rw [eb] at this
        rw [← this]
        show findN _ _ = findN _ (idAt its i)
        rw [idAt_at hil]
      rw [hfe]
      try simp only [go_sem, t0, t3, t4, t5]
      refine Parent_ (i := (i : Int)) hd ((hK.up m04).up m46) hP.sz (by omega) ?_
      intro w7 m7
      have hp1 : parT its (i : Int) = parI its i := by
        unfold parT; rw [if_neg (by omega), Int.toNat_natCast]
      rw [hp1]
      unfold parV
      try simp only [go_sem, t0, t3, t4, t5]
      have m47 := m46.trans' m7
      have a7 := a6.up m7
      have q1 := a7.ln
      have q2 := a7.sm0
      unfold h4_4
      have hx1 : oi (some e.x) = (e.x : Int) := rfl
      have hx3 : decide ((e.x : Int) < 0) = false := decide_eq_false (by omega)
      try simp only [go_sem, t0, t3, t4, t5, hx1, hx3]
      unfold h4_5
      try simp only [go_sem, t0, t3, t4, t5, hx1, q1, q2]
      refine rrefs_ (hrvi.mod m47 fun _ _ h => h) (by omega) ?_
      intro v8 w8 sl8 m8
      obtain ⟨r8, c8, rfl, -, hc8⟩ := sl8.form
      have m48 := m47.trans' m8
      try simp only [go_sem, t0, t3, t4, t5, hx1]
      refine near_ ((hK.up m04).up m48) hil (by omega) (by omega) ?_
      intro w9 m9
      have m49 := m48.trans' m9
      have hrfl : its[i].rf.length ≤ 20 := by
        have := List.length_filter_le (fun r => !delB its[i] r) its[i].refs
        unfold It.rf
        omega
      obtain ⟨hx', hnd'⟩ := forest_x he
      obtain ⟨ga, oa, ca, ea, -, hca⟩ := (sl4.mod m49 fun _ _ h => h).get Nd.len rfl (by omega)
      simp only [Value.slice.injEq] at ea
      obtain ⟨rfl, -, rfl⟩ := ea
      have x2 := hca e.x 2 hx' (by omega)
      rw [hnd'] at x2
      simp only [Nd.cells, En.nd, List.getElem?_cons_zero, List.getElem?_cons_succ, Nat.add_zero] at x2
      have hm1 : decide (oi none = -1) = true := rfl
      have hm2 : decide (oi none < 0) = true := rfl
      have hm3 : decide (0 ≤ oi none) = false := rfl
      have m39 := m4.trans' m49
      rcases parents_plain hd hne hil he eb with ⟨hp, hpar, hr1, hr2⟩ | ⟨e', he', hp, hg', hpar, hnear, hlast⟩ | ⟨e', he', q, hq, hp, eb', hpar, hor⟩
      · have hp' : decide (e.p < 0) = true := by rw [hp]; rfl
        cases hnr : nearI its i with
        | none =>
          have hl0 : decide ((0 : Int) < its[i].rf.length) = false := by rw [hr1 hnr]; rfl
          try simp only [go_sem, t0, t3, t4, t5, hx1, x2, hpar, hp', hm1, hm2, hm3, hl0]
          repeat refine ⟨⟨by omega, by omega⟩, ?_⟩
          unfold h4_13
          try simp only [go_sem, t0, t3, t4, t5]
          rw [w64 (by omega) (by omega)]
          exact ⟨i + 1, by omega, by omega, rfl, m39⟩
        | some q =>
          have hq2 : decide (oi (some q) < 0) = false := decide_eq_false (by unfold oi; simp only; omega)
          have hq3 : decide (0 ≤ oi (some q)) = true := decide_eq_true (by unfold oi; simp only; omega)
          try simp only [go_sem, t0, t3, t4, t5, hx1, x2, hpar, hp', hm1, hq2, hq3]
          repeat refine ⟨⟨by omega, by omega⟩, ?_⟩
          refine circle_ ((hK.up m04).up m49) hil hP.sz (by omega) ?_
          intro w10 m10
          rw [hr2 q hnr]
          try simp only [go_sem, t0, t3, t4, t5]
          unfold h4_13
          try simp only [go_sem, t0, t3, t4, t5]
          rw [w64 (by omega) (by omega)]
          exact ⟨i + 1, by omega, by omega, rfl, m39.trans' m10⟩
      · have hp' : decide (e.p < 0) = false := by rw [hp]; exact decide_eq_false (by omega)
        obtain ⟨hxe, hnde⟩ := forest_x he'
        have hce := hca e'.x
        have v1 : loadN w9 ⟨ga, oa + e'.x * 4, none⟩ 4 = (forestB its)[e'.x].cells.toArray := loadN_of rfl fun j hj => by rw [e_add]; exact hca e'.x j hxe hj
        have v2 : (∀ j, j < 4 → (w9.cell? ⟨ga, oa + e'.x * 4 + j, none⟩).isSome = true) = True := eq_true fun j hj => by rw [hca e'.x j hxe hj]; simp [Nd.cells, hj]
        rw [hnde] at v1
        have hrne : its[i].rf ≠ [] := by intro h; rw [h] at hlast; cases hlast
        have hrpos : 0 < its[i].rf.length := List.length_pos_iff.2 hrne
        have hl0 : decide ((its[i].rf.length : Int) = 0) = false := decide_eq_false (by omega)
        have hx4 : decide ((e'.x : Int) < 0) = false := decide_eq_false (by omega)
        try simp only [go_sem, t0, t3, t4, t5, hx1, x2, hpar, hnear, hp, hx4]
        repeat refine ⟨⟨by omega, by omega⟩, ?_⟩
        unfold h4_6
        try simp only [go_sem, t0, t3, t4, t5, hx1, x2, hp, v1, v2]
        repeat refine ⟨⟨by omega, by omega⟩, ?_⟩
        refine alloc_ (cs := [str [], .bool false, .int .i64 0, .int .i64 0]) z29 rfl ?_
        intro b12 w10 hb12 bk10 m10 s10
        try simp only [go_sem, t0, t3, t4, t5]
        refine storeN (vs := e'.nd.cells) sz29 rfl bk10 (by simp [Nd.cells]) (by intro u hu; simp [Nd.cells] at hu; rcases hu with rfl | rfl | rfl | rfl <;> rfl) ?_
        intro w11 bk11 m11 s11
        have m911 : Mod none' w9 w11 := m10.trans m11 fun x hx e => by
          have e : x = b12 := e
          omega
        have bk11 : Blk w11 b12 29 e'.nd.cells := by simpa [Nd.cells] using bk11
        have u0 := bk11.cell 0
        have u1 := bk11.cell 1
        simp only [Nd.cells, En.nd, List.getElem?_cons_zero, List.getElem?_cons_succ, hg'] at u0 u1
        try simp only [go_sem, t0, t3, t4, t5, u0, u1, hm1, hm2, hm3, hl0]
        unfold h4_7
        obtain ⟨gr, or_, rfl, hce8⟩ := hc8 hrpos
        have hcr : w11.cell? ⟨gr, or_ + (its[i].rf.length - 1), none⟩ = some (str e'.b.id) := by
          refine (m9.trans' m911).cell ?_ (fun h => h)
          rw [hce8 _ (by omega), List.getElem?_map, ← List.getLast?_eq_getElem?, hlast]; rfl
        have hws : IntKind.i64.wrap ((its[i].rf.length : Int) - 1) = ((its[i].rf.length - 1 : Nat) : Int) := by rw [w64 (by omega) (by omega)]; omega
        try simp only [go_sem, t0, t3, t4, t5, u0, u1, hws, hcr]
        repeat refine ⟨⟨by omega, by omega⟩, ?_⟩
        have m9d := (m9.trans' m911).trans' (Mod.drew none' w11)
        unfold h4_13
        try simp only [go_sem, t0, t3, t4, t5]
        rw [w64 (by omega) (by omega)]
        exact ⟨i + 1, by omega, by omega, rfl, (m4.trans' m48).trans' m9d⟩
      · have hx4 : decide ((e'.x : Int) < 0) = false := decide_eq_false (by omega)
        obtain ⟨hxe, hnde⟩ := forest_x he'
        have v1 : loadN w9 ⟨ga, oa + e'.x * 4, none⟩ 4 = (forestB its)[e'.x].cells.toArray := loadN_of rfl fun j hj => by rw [e_add]; exact hca e'.x j hxe hj
        have v2 : (∀ j, j < 4 → (w9.cell? ⟨ga, oa + e'.x * 4 + j, none⟩).isSome = true) = True := eq_true fun j hj => by rw [hca e'.x j hxe hj]; simp [Nd.cells, hj]
        rw [hnde] at v1
        try simp only [go_sem, t0, t3, t4, t5, hx1, x2, hpar, hp, hx4]
        repeat refine ⟨⟨by omega, by omega⟩, ?_⟩
        unfold h4_6
        try simp only [go_sem, t0, t3, t4, t5, hx1, x2, hp, v1, v2]
        repeat refine ⟨⟨by omega, by omega⟩, ?_⟩
        refine alloc_ (cs := [str [], .bool false, .int .i64 0, .int .i64 0]) z29 rfl ?_
        intro b12 w10 hb12 bk10 m10 s10
        try simp only [go_sem, t0, t3, t4, t5]
        refine storeN (vs := e'.nd.cells) sz29 rfl bk10 (by simp [Nd.cells]) (by intro u hu; simp [Nd.cells] at hu; rcases hu with rfl | rfl | rfl | rfl <;> rfl) ?_
        intro w11 bk11 m11 s11
        have m911 : Mod none' w9 w11 := m10.trans m11 fun x hx e => by
          have e : x = b12 := e
          omega
        have bk11 : Blk w11 b12 29 e'.nd.cells := by simpa [Nd.cells] using bk11
        have hgf : e'.b.ghost = false := by rw [eb']; rfl
        have hidq : e'.b.id = its[q].id := by rw [eb']; exact idAt_at hq
        have u0 := bk11.cell 0
        have u1 := bk11.cell 1
        simp only [Nd.cells, En.nd, List.getElem?_cons_zero, List.getElem?_cons_succ, hgf, hidq] at u0 u1
        have hq2 : decide (oi (some q) < 0) = false := decide_eq_false (by unfold oi; simp only; omega)
        have hq3 : decide ((its.length : Int) ≤ oi (some q)) = false := decide_eq_false (by unfold oi; simp only; omega)
        have hq4 : oi (some q) = (q : Int) := rfl
        have hq5 : decide ((q : Int) < 0) = false := decide_eq_false (by omega)
        have hq6 : decide ((its.length : Int) ≤ q) = false := decide_eq_false (by omega)
        try simp only [go_sem, t0, t3, t4, t5, u0, u1]
        unfold h4_8
        try simp only [go_sem, t0, t3, t4, t5, hq4, hq5, hq6]
        unfold h4_9
        have m411 := m49.trans' m911
        obtain ⟨z3, z4⟩ := hP.z _ (List.getElem_mem hq)
        obtain ⟨rvq, hrvq, aq⟩ := ((hK.up m04).up m411).at hq
        have q1 := aq.ln
        have q2 := aq.sm
        try simp only [go_sem, t0, t3, t4, t5, hq4, q1, q2]
        repeat refine ⟨⟨by omega, by omega⟩, ?_⟩
        refine alloc_ (cs := [str [], .int .i64 0, .slice none 0 0, str [], .bool false]) z34 rfl ?_
        intro b13 w12 hb13 bk12 m12 s12
        try simp only [go_sem, t0, t3, t4, t5]
        refine storeN (vs := its[q].cells rvq) sz34 rfl bk12 (by simp) (by intro u hu; simp [It.cells] at hu; rcases hu with rfl | rfl | rfl | rfl | rfl <;> first | rfl | (obtain ⟨a, c, e, -⟩ := hrvq.form; rw [e]; rfl)) ?_
        intro w13 bk13 m13 s13
        have m1113 : Mod none' w11 w13 := m12.trans m13 fun x hx e => by
          have e : x = b13 := e
          omega
        have bk13 : Blk w13 b13 34 (its[q].cells rvq) := by simpa [It.cells] using bk13
        have ay := ItAt.blk bk13
        have ax13 := (((a7.up m8).up m9).up m911).up m1113
        have c3 := ax13.c3
        have c4 := ax13.c4
        have y4 := ay.c4
        have bk11' := bk11.mod m1113 fun h => h
        have u0 := bk11'.cell 0
        simp only [Nd.cells, En.nd, List.getElem?_cons_zero, List.getElem?_cons_succ, hidq] at u0
        have m413 := m411.trans' m1113
        rcases hor with hnear | ⟨hnear, hrf, hrep, hbase, hrfq, hrepq, hlow, hdate⟩
        · have hrpos : 0 < its[i].rf.length := by
            rcases Nat.eq_zero_or_pos its[i].rf.length with h | h
            · have h := List.eq_nil_of_length_eq_zero h
              rw [near_rf hil, h] at hnear; cases hnear
            · exact h
          have hl0 : decide ((its[i].rf.length : Int) = 0) = false := decide_eq_false (by omega)
          try simp only [go_sem, t0, t3, t4, t5, hl0, c3, c4, y4]
          unfold l4_11 l4_10
          try simp only [go_sem, t0, t3, t4, t5, hl0, c3, c4, y4]
          have y0 := ay.c0
          have hq7 : decide (0 ≤ (q : Int)) = true := decide_eq_true (by omega)
          unfold h4_12
          try simp only [go_sem, t0, t3, t4, t5, hnear, hq4, hq5, hq7, u0, y0]
          unfold h4_13
          try simp only [go_sem, t0, t3, t4, t5]
          rw [w64 (by omega) (by omega)]
          exact ⟨i + 1, by omega, by omega, rfl, m4.trans' m413⟩
        · have hl0 : decide ((its[i].rf.length : Int) = 0) = true := by rw [hrf]; rfl
          have hb0 : decide (its[i].base = []) = false := decide_eq_false hbase
          have y1 := ay.ln
          have y2 := ay.sm0
          rw [hrep] at c4
          rw [hrepq] at y4
          try simp only [go_sem, t0, t3, t4, t5, hl0, c3, c4, y4, hb0, y1, y2]
          refine rrefs_ (hrvq.mod m1113 fun _ _ h => h) (by omega) ?_
          intro v14 w14 sl14 m14
          obtain ⟨r14, c14, rfl, -, hc14⟩ := sl14.form
          have hl14 : decide ((its[q].rf.length : Int) = 0) = true := by rw [hrfq]; rfl
          have ax14 := ax13.up m14
          have ay14 := ay.up m14
          have c3 := ax14.c3
          have d3 := ay14.c3
          unfold l4_11
          try simp only [go_sem, t0, t3, t4, t5, hl14, c3, d3]
          refine tsame_ _ _ (by omega) (by omega) ?_
          intro w15 m15
          have ax15 := ax14.up m15
          have ay15 := ay14.up m15
          have c1 := ax15.c1
          have d1 := ay15.c1
          have y0 := ay15.c0
          have hsame : sameB its[i].base its[q].base = true := by unfold sameB; exact decide_eq_true hlow
          have hdt : decide (its[q].date ≤ its[i].date) = true := decide_eq_true hdate
          unfold l4_10
          try simp only [go_sem, t0, t3, t4, t5, hl14, hsame, c1, d1, hdt]
          have u0 := m15.cell (m14.cell u0 fun h => h) fun h => h
          unfold h4_12
          try simp only [go_sem, t0, t3, t4, t5, hnear, hm2, hm3, u0, y0]
          unfold h4_13
          try simp only [go_sem, t0, t3, t4, t5]
          rw [w64 (by omega) (by omega)]
          exact ⟨i + 1, by omega, by omega, rfl, ((m4.trans' m413).trans' m14).trans' m15⟩
    · unfold h4_14
      try simp only [go_sem, t3]
      exact k w4 m04
end
end Go.Proofs.Y
