/- TLb: thread: slices of records spelt out; few; finding. -/
import Derived.Test.YthenjelndjlnfaaTR
import Derived.Test.YthenjelndjlnfaaTB
set_option linter.unusedSimpArgs false
set_option linter.unusedVariables false
set_option maxRecDepth 100000
namespace Go.Proofs.Y
open Go Go.HL Go.Proofs

theorem fill_rec {place : Nat → Option (Nat × Nat)} {cells : Array Value} {i o n : Nat} {v : Value} {cs : List Value} {rest : List (Nat × Value)} (hp : place i = some (o, n)) (hv : v.cells = cs.toArray) (hl : cs.length = n) (ho : o + n ≤ cells.size) :
    Instr.fill place cells ((i, v) :: rest) = Instr.fill place (cells.toList.take o ++ cs ++ cells.toList.drop (o + n)).toArray rest := by
  rw [Instr.fill, hp]
  simp only [hv, List.size_toArray, hl]
  rw [if_neg (by simp; omega)]
  congr 1
  rw [← Array.foldl_toList]
  simp only [Array.toList_zipIdx, List.toList_toArray]
  have key : ∀ (l : List Value) (k : Nat) (Z : Array Value), o + k + l.length ≤ Z.size → (l.zipIdx k).foldl (fun cs (x : Value × Nat) => cs.setIfInBounds (o + x.2) x.1) Z = (Z.toList.take (o + k) ++ l ++ Z.toList.drop (o + k + l.length)).toArray := by
    intro l
    induction l with
    | nil => intro k Z hk; simp
    | cons x r ih =>
      intro k Z hk
      rw [List.zipIdx_cons, List.foldl_cons, ih _ _ (by simp at hk ⊢; omega)]
      apply Array.toList_inj.1
      apply List.ext_getElem?
      intro j
      simp only [List.length_cons] at hk
      simp only [Array.toList_setIfInBounds, List.append_assoc, List.getElem?_append, List.length_take, List.length_set, Array.length_toList, List.getElem?_take, List.getElem?_set, List.getElem?_drop, List.length_cons, List.getElem?_cons]
      repeat' split
      all_goals first
        | rfl
        | (exfalso; omega)
        | (congr 1; omega)
        | (exfalso; simp_all; omega)
  have := key cs 0 cells (by omega)
  simpa [hl] using this


theorem fill_all {sz : Nat} (h0 : 0 < sz) : ∀ (ls : List (Value × List Value)) (k : Nat) (cells : Array Value), (∀ p ∈ ls, p.1.cells = p.2.toArray ∧ p.2.length = sz) → cells.size = (k + ls.length) * sz →
    Instr.fill (fun i => some (i * sz, sz)) cells ((ls.zipIdx k).map fun p => (p.2, p.1.1)) = some (cells.toList.take (k * sz) ++ ls.flatMap (·.2)).toArray
  | [], k, cells, _, hs => by
    simp only [List.zipIdx_nil, List.map_nil, Instr.fill, List.flatMap_nil, List.append_nil]
    rw [List.take_of_length_le (by simp [hs])]
  | p :: ls, k, cells, h, hs => by
    obtain ⟨h1, h2⟩ := h p (by simp)
    simp only [List.length_cons] at hs
    have hle : k * sz + sz ≤ cells.size := by
      rw [hs, show k + (ls.length + 1) = (k + 1) + ls.length by omega, Nat.add_mul, Nat.add_mul]; omega
    rw [List.zipIdx_cons, List.map_cons, fill_rec (o := k * sz) (n := sz) (cs := p.2) rfl h1 h2 hle]
    have hsz : ((cells.toList.take (k * sz) ++ p.2 ++ cells.toList.drop (k * sz + sz)).toArray).size = cells.size := by
      simp only [List.size_toArray, List.length_append, List.length_take, List.length_drop, Array.length_toList, h2]; omega
    rw [fill_all h0 ls (k + 1) _ (fun q hq => h q (by simp [hq])) (by rw [hsz, hs]; congr 1; omega)]
    congr 1
    have e : (k + 1) * sz = (cells.toList.take (k * sz) ++ p.2).length := by
      simp only [List.length_append, List.length_take, Array.length_toList, h2]
      rw [Nat.add_mul, Nat.min_eq_left (by omega)]; omega
    rw [e, List.take_left, List.flatMap_cons, List.append_assoc]
section
variable {P : Program} {w : World} {next : Value → World → Prop} {QP : List PanicEntry → World → Prop}
theorem bslR {t e sz by_ n : Nat} {z : Value} (ht : SlTy P t e sz by_ z) {parts : List (Nat × Value)} (ls : List (Value × List Value)) (h : ∀ p ∈ ls, p.1.cells = p.2.toArray ∧ p.2.length = sz) (hn : ls.length = n) (hp : parts = ls.zipIdx.map fun p => (p.2, p.1.1)) (hb : n * sz ≤ 16777216)
    (k : ∀ b w', w.heap.size = b → HL.Own w' (.slice (some ⟨b, 0, none⟩) n n) e sz n (ls.flatMap (·.2)) → Mod none' w w' → w'.heap.size = b + 1 → next (.slice (some ⟨b, 0, none⟩) n n) w') : bslK P t n parts w next QP := by
  subst hp hn
  have hl : ∀ ls : List (Value × List Value), (∀ p ∈ ls, p.1.cells = p.2.toArray ∧ p.2.length = sz) → (ls.flatMap (·.2)).length = ls.length * sz := by
    intro ls
    induction ls with
    | nil => intro _; simp
    | cons p ls ih =>
      intro h
      rw [List.flatMap_cons, List.length_append, ih fun q hq => h q (by simp [hq]), (h p (by simp)).2, List.length_cons, Nat.add_mul]; omega
  refine bsl_ ht (cs := ls.flatMap (·.2)) (hl ls h) hb ?_ (fun b w' h1 h2 _ h3 h4 => k b w' h1 h2 h3 h4)
  rw [fill_all ht.pos ls 0 _ h (by simp)]
  simp
end
section
variable {w w' : World} {its : List It} {rvs : List Value} {next : Value → World → Prop} {QP : List PanicEntry → World → Prop}
/-- a slice of items, spelt out -/
theorem bslI {ps : List (It × Value)} {n : Nat} {parts : List (Nat × Value)} (hps : ps.length = n) (hn : n ≤ 1000) (hp : parts = (ps.map fun p => (p.1.v p.2, p.1.cells p.2)).zipIdx.map fun p => (p.2, p.1.1)) (hr : ∀ i (h : i < ps.length), Sl w ps[i].2 1 ps[i].1.refs.length (ps[i].1.refs.map str))
    (k : ∀ v w', Its w' v (ps.map (·.1)) (ps.map (·.2)) → Mod none' w w' → next v w') : bslK Try.prog 22 n parts w next QP := by
  subst hps
  refine bslR sl22 (ps.map fun p => (p.1.v p.2, p.1.cells p.2)) ?_ (by simp) hp (by omega) ?_
  · intro p hp
    obtain ⟨q, hq, rfl⟩ := List.mem_map.1 hp
    exact ⟨rfl, rfl⟩
  intro b w1 hb own m _
  refine k _ w1 ⟨by simp, ?_, fun i h1 h2 => ?_⟩ m
  · have e : (List.map (·.1) ps).zip (List.map (·.2) ps) = ps := by
      clear hr k own hp hn
      induction ps with
      | nil => rfl
      | cons p ps ih => simp only [List.map_cons, List.zip_cons_cons]; rw [ih]
    rw [e, List.length_map]
    have e2 : (ps.map fun p => (p.1.v p.2, p.1.cells p.2)).flatMap (·.2) = rows cellsP ps := by
      rw [List.flatMap_map]; rfl
    rw [← e2]; exact own.sl
  · have h3 : i < ps.length := by simpa using h1
    have := (hr i h3).mod m fun _ _ h => h
    simpa using this
/-- a slice of nodes, spelt out -/
theorem bslN {ns : List Nd} {n : Nat} {parts : List (Nat × Value)} (hns : ns.length = n) (hn : n ≤ 1000) (hp : parts = (ns.map fun q => (Value.agg q.cells.toArray, q.cells)).zipIdx.map fun p => (p.2, p.1.1))
    (k : ∀ v w', Sl w' v 4 ns.length (rows Nd.cells ns) → Mod none' w w' → next v w') : bslK Try.prog 25 n parts w next QP := by
  subst hns
  refine bslR sl25 (ns.map fun q => (Value.agg q.cells.toArray, q.cells)) ?_ (by simp) hp (by omega) ?_
  · intro p hp
    obtain ⟨q, hq, rfl⟩ := List.mem_map.1 hp
    exact ⟨rfl, rfl⟩
  intro b w1 hb own m _
  refine k _ w1 ?_ m
  have e2 : (ns.map fun q => (Value.agg q.cells.toArray, q.cells)).flatMap (·.2) = rows Nd.cells ns := by
    rw [List.flatMap_map]; rfl
  rw [← e2]; exact own.sl
/-- a slice of texts, spelt out -/
theorem bslT {l : List Bytes} {n : Nat} {parts : List (Nat × Value)} (hl : l.length = n) (hn : n ≤ 1000) (hp : parts = (l.map fun q => (str q, [str q])).zipIdx.map fun p => (p.2, p.1.1))
    (k : ∀ b w', Sl w' (.slice (some ⟨b, 0, none⟩) n n) 1 l.length (l.map str) → Mod none' w w' → next (.slice (some ⟨b, 0, none⟩) n n) w') : bslK Try.prog 32 n parts w next QP := by
  subst hl
  refine bslR sl32 (l.map fun q => (str q, [str q])) ?_ (by simp) hp (by omega) ?_
  · intro p hp
    obtain ⟨q, hq, rfl⟩ := List.mem_map.1 hp
    exact ⟨rfl, rfl⟩
  intro b w1 hb own m _
  refine k _ w1 ?_ m
  have e2 : (l.map fun q => (str q, [str q])).flatMap (·.2) = l.map str := by
    rw [List.flatMap_map]; exact rows_one l
  rw [← e2]; exact own.sl

/-! ### few -/
structure fewP (its : List It) : Prop where
  n : its.length ≤ 40
  d : dist its
  e : ne0 its
  z : ∀ x ∈ its, x.refs.length ≤ 20 ∧ x.base.length ≤ 200
theorem fewP.sz (h : fewP its) : szI its := fun x hx => by
  have := h.z x hx
  omega
theorem distinct_ {v : Value} (hK : Its w v its rvs) (hn : its.length ≤ 40) (k : ∀ b w', (b = true → dist its ∧ ne0 its) → Mod none' w w' → next (.bool b) w') : callvK Try.prog (.func (.func 26) #[] #[]) [v] w next QP := by
  refine r26 rfl ?_
  obtain ⟨va, vc, rfl, -, -⟩ := hK.sl.form
  unfold h26
  try simp only [go_sem]
  refine loopN its.length (fun i τ w' => τ 0 = .slice va its.length vc ∧ τ 3 = .int .i64 i ∧ (∀ x, x < i → ∃ h : x < its.length, its[x].id ≠ []) ∧ (∀ x y (hx : x < its.length) (hy : y < its.length), x < i → y < x → its[y].id ≠ its[x].id) ∧ Mod none' w w') ⟨0, by omega, rfl, rfl, fun x hx => by omega, fun x y _ _ hx => by omega, Mod.refl _ _⟩ ?_
  rintro i τ w1 hi ⟨t0, t3, h1, h2, m1⟩
  unfold h26_1
  try simp only [go_sem, t0, t3]
  refine ⟨fun hlt => ?_, fun hge => ?_⟩
  · have hil : i < its.length := by
      have := of_decide_eq_true hlt
      omega
    obtain ⟨g, o, rfl⟩ := hK.addr (by omega)
    have at' : ∀ w', Mod none' w w' → ∀ j (hj : j < its.length), w'.cell? ⟨g, o + j * 5, none⟩ = some (str its[j].id) := fun w' m j hj => by
      obtain ⟨rv, -, ax⟩ := hK.at hj
      exact m.cell ax.c0 fun h => h
    have xi := at' w1 m1 i hil
    unfold h26_2
    try simp only [go_sem, t0, t3, xi]
    repeat refine ⟨⟨by omega, by omega⟩, ?_⟩
    refine ⟨fun he => ?_, fun hne => ?_⟩
    · try simp only [go_sem]
      exact k false w1 (fun h => by cases h) m1
    · have hne : its[i].id ≠ [] := by simpa using hne
      unfold h26_3
      try simp only [go_sem, t0, t3]
      refine loopN i (fun q τ w' => τ 0 = .slice (some ⟨g, o, none⟩) its.length vc ∧ τ 3 = .int .i64 i ∧ τ 4 = .int .i64 q ∧ (∀ y (hy : y < its.length), y < q → its[y].id ≠ its[i].id) ∧ Mod none' w w') ⟨0, by omega, t0, t3, rfl, fun y _ hy => by omega, m1⟩ ?_
      rintro q τ w2 hq ⟨t0, t3, t4, h3, m2⟩
      unfold h26_4
      try simp only [go_sem, t0, t3, t4]
      refine ⟨fun hlt2 => ?_, fun hge2 => ?_⟩
      · have hqi : q < i := by
          have := of_decide_eq_true hlt2
          omega
        have xi := at' w2 m2 i hil
        have xq := at' w2 m2 q (by omega)
        unfold h26_5
        try simp only [go_sem, t0, t3, t4, xi, xq]
        repeat refine ⟨⟨by omega, by omega⟩, ?_⟩
        refine ⟨fun he => ?_, fun hne2 => ?_⟩
        · try simp only [go_sem]
          exact k false w2.drew (fun h => by cases h) (m2.trans' (Mod.drew _ _))
        · have hne2 : its[q].id ≠ its[i].id := by simpa using hne2
          unfold h26_6
          try simp only [go_sem, t0, t3, t4]
          rw [w64 (by omega) (by omega)]
          have m3 := m2.trans' (Mod.drew none' w2)
          have h4 : ∀ y (hy : y < its.length), y < q + 1 → its[y].id ≠ its[i].id := by
            intro y hy hyq
            by_cases e : y = q
            · subst e; exact hne2
            · exact h3 y hy (by omega)
          refine ⟨q + 1, by omega, by omega, ?_⟩
          (repeat' first | assumption | rfl | omega | apply And.intro)
      · have hqi : q = i := by
          have := of_decide_eq_false hge2
          omega
        subst hqi
        try simp only [go_sem]
        unfold h26_7
        try simp only [go_sem, t0, t3]
        rw [w64 (by omega) (by omega)]
        have h5 : ∀ x, x < q + 1 → ∃ h : x < its.length, its[x].id ≠ [] := by
          intro x hx
          by_cases e : x = q
          · subst e; exact ⟨hil, hne⟩
          · exact h1 x (by omega)
        have h6 : ∀ x y (hx : x < its.length) (hy : y < its.length), x < q + 1 → y < x → its[y].id ≠ its[x].id := by
          intro x y hx hy hxq hyx
          by_cases e : x = q
          · subst e; exact h3 y hy hyx
          · exact h2 x y hx hy (by omega) hyx
        refine ⟨q + 1, by omega, by omega, ?_⟩
        (repeat' first | assumption | rfl | omega | apply And.intro)
  · have hil : i = its.length := by
      have := of_decide_eq_false hge
      omega
    subst hil
    unfold h26_8
    try simp only [go_sem]
    refine k true w1 (fun _ => ⟨?_, fun x hx => ?_⟩) m1
    · unfold dist List.Nodup
      rw [List.pairwise_map, List.pairwise_iff_getElem]
      intro x y hx hy hxy
      exact h2 y x hy hx hy hxy
    · obtain ⟨i, hi, rfl⟩ := List.getElem_of_mem hx
      exact (h1 i hi).2
theorem few_ {v : Value} (hK : Its w v its rvs) (hml : its.length ≤ 9223372036854775807) (k : ∀ b w', (b = true → fewP its) → Mod none' w w' → next (.bool b) w') : callvK Try.prog (.func (.func 10) #[] #[]) [v] w next QP := by
  refine r10 rfl ?_
  obtain ⟨va, vc, rfl, -, -⟩ := hK.sl.form
  unfold h10
  by_cases hn : its.length ≤ 40
  · have e1 : decide ((40 : Int) < (its.length : Int)) = false := by simp; omega
    try simp only [go_sem, e1]
    refine distinct_ hK hn ?_
    intro b w1 hb m1
    try simp only [go_sem]
    cases b with
    | false =>
      try simp only [go_sem]
      exact k false w1 (fun h => by cases h) m1
    | true =>
      obtain ⟨hd, he⟩ := hb rfl
      try simp only [go_sem]
      unfold h10_1
      try simp only [go_sem]
      refine loopN its.length (fun i τ w' => τ 0 = .slice va its.length vc ∧ τ 3 = .int .i64 i ∧ (∀ x (hx : x < its.length), x < i → its[x].refs.length ≤ 20 ∧ its[x].base.length ≤ 200) ∧ Mod none' w w') ⟨0, by omega, rfl, rfl, fun x _ hx => by omega, m1⟩ ?_
      rintro i τ w2 hi ⟨t0, t3, h1, m2⟩
      unfold h10_2
      try simp only [go_sem, t0, t3]
      refine ⟨fun hlt => ?_, fun hge => ?_⟩
      · have hil : i < its.length := by
          have := of_decide_eq_true hlt
          omega
        obtain ⟨g, o, rfl⟩ := hK.addr (by omega)
        obtain ⟨rv, hrv, ax⟩ := (Its.mk hK.len (hK.sl.mod m2 fun _ _ h => h) (fun i h h2 => (hK.refs i h h2).mod m2 fun _ _ h => h) : Its w2 _ its rvs).at hil
        have x2 := ax.c2
        have x3 := ax.c3
        obtain ⟨ra, rc, rfl, -, -⟩ := hrv.form
        unfold h10_3
        try simp only [go_sem, t0, t3, x2, x3]
        repeat refine ⟨⟨by omega, by omega⟩, ?_⟩
        refine ⟨fun _ => ⟨by omega, by omega⟩, fun hb => ?_, fun hb => ?_⟩
        · exact k false w2 (fun h => by cases h) m2
        · have hb2 : its[i].refs.length ≤ 20 ∧ its[i].base.length ≤ 200 := by
            by_cases h20 : (20 : Int) < its[i].refs.length
            · simp [h20] at hb
            · simp only [h20, decide_false, Bool.false_eq_true, if_false] at hb
              have := of_decide_eq_false hb
              omega
          unfold h10_4
          try simp only [go_sem, t0, t3]
          rw [w64 (by omega) (by omega)]
          have h4 : ∀ x (hx : x < its.length), x < i + 1 → its[x].refs.length ≤ 20 ∧ its[x].base.length ≤ 200 := by
            intro x hx hxi
            by_cases e : x = i
            · subst e; exact hb2
            · exact h1 x hx (by omega)
          refine ⟨i + 1, by omega, by omega, ?_⟩
          (repeat' first | assumption | rfl | omega | apply And.intro)
      · have hil : i = its.length := by
          have := of_decide_eq_false hge
          omega
        subst hil
        unfold h10_5
        try simp only [go_sem]
        refine k true w2 (fun _ => ⟨hn, hd, he, fun x hx => ?_⟩) m2
        obtain ⟨i, hi, rfl⟩ := List.getElem_of_mem hx
        exact h1 i hi hi
  · have e1 : decide ((40 : Int) < (its.length : Int)) = true := by simp; omega
    try simp only [go_sem, e1]
    exact k false w (fun h => by cases h) (Mod.refl _ _)

/-! ### the examples -/
def sI1 : List It := [⟨[99], 3, [[97], [98]], [120], true⟩, ⟨[97], 1, [], [120], false⟩, ⟨[98], 2, [[97]], [120], true⟩]
def sI2 : List It := [⟨[98], 2, [[97]], [120], true⟩, ⟨[99], 3, [[97]], [120], true⟩, ⟨[100], 1, [], [121], false⟩]
def sI3 : List It := [⟨[97], 1, [[98]], [120], false⟩, ⟨[98], 2, [[97]], [120], false⟩]
def sI4 : List It := [⟨[97], 1, [], [88], false⟩, ⟨[98], 2, [], [120], true⟩, ⟨[99], 0, [], [120], true⟩]
def sN1 : List Nd := [⟨[97], false, -1, 0⟩, ⟨[98], false, 0, 1⟩, ⟨[99], false, 1, 2⟩]
def sN2 : List Nd := [⟨[100], false, -1, 0⟩, ⟨[97], true, -1, 0⟩, ⟨[98], false, 1, 1⟩, ⟨[99], false, 1, 1⟩]
def sN3 : List Nd := [⟨[97], false, -1, 0⟩, ⟨[98], false, 0, 1⟩]
def sN4 : List Nd := [⟨[99], false, -1, 0⟩, ⟨[97], false, -1, 0⟩, ⟨[98], false, 1, 1⟩]
theorem sF1 : forestB sI1 = sN1 := by decide +kernel
theorem sF2 : forestB sI2 = sN2 := by decide +kernel
theorem sF3 : forestB sI3 = sN3 := by decide +kernel
theorem sF4 : forestB sI4 = sN4 := by decide +kernel
instance (l : List It) : Decidable (dist l) := by unfold dist; infer_instance
instance (l : List It) : Decidable (ne0 l) := by unfold ne0; infer_instance
theorem sl_nil (w : World) : Sl w (.slice none 0 0) 1 0 ([].map str) := (Own.nil w 9 1).sl
attribute [local go_sem] List.set_cons_zero List.set_cons_succ Nat.reduceLeDiff Nat.le_refl
/-- a forest of few items, spelt out -/
theorem small1_ {v : Value} {ns : List Nd} {its : List It} {rvs : List Value} (hK : Its w v its rvs) (h : decide (dist its) && decide (ne0 its) = true) (hz : (its.all fun x => decide (x.refs.length ≤ 20) && decide (x.base.length ≤ 200)) = true) (hl : its.length ≤ 40) (hf : forestB its = ns)
    (k : ∀ v' w', Sl w' v' 4 ns.length (rows Nd.cells ns) → Mod none' w w' → next v' w') : callvK Try.prog (.func (.func 11) #[] #[]) [v] w next QP := by
  simp only [Bool.and_eq_true, decide_eq_true_eq] at h
  refine Forest_ h.1 h.2 hK (fun x hx => ?_) (by omega) fun v' w' own _ m => k v' w' (by rw [← hf]; exact own.sl) m
  have := List.all_eq_true.1 hz x hx
  simp only [Bool.and_eq_true, decide_eq_true_eq] at this
  omega
theorem small_ (k : ∀ w', Mod none' w w' → next (.bool true) w') : callvK Try.prog (.func (.func 9) #[] #[]) [] w next QP := by
  refine r9 rfl ?_
  unfold h9
  try simp only [go_sem]
  refine bslT (l := [[97], [98]]) rfl (by omega) rfl ?_
  intro b1 w1 t1 m1
  try simp only [go_sem]
  refine bslT (l := [[97]]) rfl (by omega) rfl ?_
  intro b2 w2 t2 m2
  try simp only [go_sem]
  refine bslI (ps := [(⟨[99], 3, [[97], [98]], [120], true⟩, .slice (some ⟨b1, 0, none⟩) 2 2), (⟨[97], 1, [], [120], false⟩, .slice none 0 0), (⟨[98], 2, [[97]], [120], true⟩, .slice (some ⟨b2, 0, none⟩) 1 1)]) rfl (by omega) rfl ?_ ?_
  · intro i h
    match i, h with
    | 0, _ => exact t1.mod m2 fun _ _ h => h
    | 1, _ => exact sl_nil _
    | 2, _ => exact t2
  intro v3 w3 i3 m3
  try simp only [go_sem]
  refine small1_ (its := sI1) (ns := sN1) i3 (by decide +kernel) (by decide +kernel) (by decide) sF1 ?_
  intro v4 w4 f4 m4
  have M4 := ((m1.trans' m2).trans' m3).trans' m4
  try simp only [go_sem]
  unfold h9_1
  try simp only [go_sem]
  refine bslT (l := [[97]]) rfl (by omega) rfl ?_
  intro b5 w5 t5 m5
  try simp only [go_sem]
  refine bslT (l := [[97]]) rfl (by omega) rfl ?_
  intro b6 w6 t6 m6
  try simp only [go_sem]
  refine bslI (ps := [(⟨[98], 2, [[97]], [120], true⟩, .slice (some ⟨b5, 0, none⟩) 1 1), (⟨[99], 3, [[97]], [120], true⟩, .slice (some ⟨b6, 0, none⟩) 1 1), (⟨[100], 1, [], [121], false⟩, .slice none 0 0)]) rfl (by omega) rfl ?_ ?_
  · intro i h
    match i, h with
    | 0, _ => exact t5.mod m6 fun _ _ h => h
    | 1, _ => exact t6
    | 2, _ => exact sl_nil _
  intro v7 w7 i7 m7
  try simp only [go_sem]
  refine small1_ (its := sI2) (ns := sN2) i7 (by decide +kernel) (by decide +kernel) (by decide) sF2 ?_
  intro v8 w8 f8 m8
  have M8 := ((m5.trans' m6).trans' m7).trans' m8
  try simp only [go_sem]
  unfold h9_2
  try simp only [go_sem]
  refine bslT (l := [[98]]) rfl (by omega) rfl ?_
  intro b9 w9 t9 m9
  try simp only [go_sem]
  refine bslT (l := [[97]]) rfl (by omega) rfl ?_
  intro b10 w10 t10 m10
  try simp only [go_sem]
  refine bslI (ps := [(⟨[97], 1, [[98]], [120], false⟩, .slice (some ⟨b9, 0, none⟩) 1 1), (⟨[98], 2, [[97]], [120], false⟩, .slice (some ⟨b10, 0, none⟩) 1 1)]) rfl (by omega) rfl ?_ ?_
  · intro i h
    match i, h with
    | 0, _ => exact t9.mod m10 fun _ _ h => h
    | 1, _ => exact t10
  intro v11 w11 i11 m11
  try simp only [go_sem]
  refine small1_ (its := sI3) (ns := sN3) i11 (by decide +kernel) (by decide +kernel) (by decide) sF3 ?_
  intro v12 w12 f12 m12
  have M12 := ((m9.trans' m10).trans' m11).trans' m12
  try simp only [go_sem]
  unfold h9_3
  try simp only [go_sem]
  refine bslI (ps := [(⟨[97], 1, [], [88], false⟩, .slice none 0 0), (⟨[98], 2, [], [120], true⟩, .slice none 0 0), (⟨[99], 0, [], [120], true⟩, .slice none 0 0)]) rfl (by omega) rfl ?_ ?_
  · intro i h
    match i, h with
    | 0, _ => exact sl_nil _
    | 1, _ => exact sl_nil _
    | 2, _ => exact sl_nil _
  intro v13 w13 i13 m13
  try simp only [go_sem]
  refine small1_ (its := sI4) (ns := sN4) i13 (by decide +kernel) (by decide +kernel) (by decide) sF4 ?_
  intro v14 w14 f14 m14
  have M14 := m13.trans' m14
  try simp only [go_sem]
  refine bslN (ns := sN1) rfl (by omega) rfl ?_
  intro v15 w15 f15 m15
  try simp only [go_sem]
  have g4 := f4.mod (((M8.trans' M12).trans' M14).trans' m15) fun _ _ h => h
  refine same_ g4 f15 (by decide) ?_
  intro w16 m16
  try simp only [go_sem]
  refine bslN (ns := sN2) rfl (by omega) rfl ?_
  intro v17 w17 f17 m17
  have M17 := (m15.trans' m16).trans' m17
  try simp only [go_sem]
  unfold l9_5
  try simp only [go_sem]
  have g8 := f8.mod ((M12.trans' M14).trans' M17) fun _ _ h => h
  refine same_ g8 f17 (by decide) ?_
  intro w18 m18
  try simp only [go_sem]
  unfold l9_4
  try simp only [go_sem]
  unfold h9_6
  try simp only [go_sem]
  refine bslN (ns := sN3) rfl (by omega) rfl ?_
  intro v19 w19 f19 m19
  try simp only [go_sem]
  unfold l9_10
  try simp only [go_sem]
  have M19 := (M17.trans' m18).trans' m19
  have g12 := f12.mod (M14.trans' M19) fun _ _ h => h
  refine same_ g12 f19 (by decide) ?_
  intro w20 m20
  try simp only [go_sem]
  unfold l9_9
  try simp only [go_sem]
  refine bslN (ns := sN4) rfl (by omega) rfl ?_
  intro v21 w21 f21 m21
  try simp only [go_sem]
  unfold l9_8
  try simp only [go_sem]
  have M21 := (M19.trans' m20).trans' m21
  have g14 := f14.mod M21 fun _ _ h => h
  refine same_ g14 f21 (by decide) ?_
  intro w22 m22
  try simp only [go_sem]
  unfold l9_7
  try simp only [go_sem]
  exact k w22 (((((M4.trans' M8).trans' M12).trans' M14).trans' M21).trans' m22)
end
end Go.Proofs.Y

/- TMa: thread: the reference's references, finding, nearest; circles. -/
namespace Go.Proofs.Y
open Go Go.HL Go.Proofs

section
variable {w w' : World} {its : List It} {rvs : List Value} {next : Value → World → Prop} {QP : List PanicEntry → World → Prop}
theorem Its.up {v : Value} (h : Its w v its rvs) (m : Mod none' w w') : Its w' v its rvs := ⟨h.len, h.sl.mod m fun _ _ h => h, fun i h1 h2 => (h.refs i h1 h2).mod m fun _ _ h => h⟩
theorem rrefs_ {x : It} {rx : Value} (hv : Sl w rx 1 x.refs.length (x.refs.map str)) (hn : x.refs.length ≤ 1000000)
    (k : ∀ v' w', Sl w' v' 1 x.rf.length (x.rf.map str) → Mod none' w w' → next v' w') : callvK Try.prog (.func (.func 16) #[] #[]) [x.v rx] w next QP := by
  refine r16 rfl ?_
  obtain ⟨ra, rc, rfl, -, hcell⟩ := hv.form
  unfold h16
  try simp only [go_sem]
  refine box_ (cs := x.cells (.slice ra x.refs.length rc)) rfl ?_
  intro b w1 hb bk m1 s1
  try simp only [go_sem]
  refine loopN x.refs.length (fun i τ w' => ∃ v', τ 1 = ptr b ∧ τ 3 = v' ∧ τ 4 = .int .i64 i ∧ HL.Own w' v' 9 1 ((x.refs.take i).filter fun r => !delB x r).length (((x.refs.take i).filter fun r => !delB x r).map str) ∧ (∀ k, v'.ownBlock = some k → w1.heap.size ≤ k) ∧ Blk w' b 34 (x.cells (.slice ra x.refs.length rc)) ∧ Mod none' w w') ⟨0, by omega, .slice none 0 0, rfl, rfl, rfl, Own.nil _ _ _, fun k hk => (by cases hk), bk, m1⟩ ?_
  rintro i τ w2 hi ⟨v', t1, t3, t4, own2, hf2, bk2, m2⟩
  have a2 := ItAt.blk bk2
  have z0 := a2.c0
  have z2 := a2.c2
  unfold h16_1
  try simp only [go_sem, t1, t3, t4, z2]
  refine ⟨fun hlt => ?_, fun hge => ?_⟩
  · have hil : i < x.refs.length := by
      have := of_decide_eq_true hlt
      omega
    obtain ⟨g, o, rfl, hce⟩ := hcell (by omega)
    have hc : w2.cell? ⟨g, o + i, none⟩ = some (str x.refs[i]) := by
      refine m2.cell ?_ (fun h => h)
      rw [hce i (by omega)]; simp [hil]
    have hfil : (x.refs.take (i + 1)).filter (fun r => !delB x r) = (x.refs.take i).filter (fun r => !delB x r) ++ (if delB x x.refs[i] = true then [] else [x.refs[i]]) := by
      rw [List.take_succ_eq_append_getElem hil, List.filter_append]
      cases h : delB x x.refs[i] <;> simp [h]
    have hlen : ((x.refs.take i).filter fun r => !delB x r).length ≤ 1000000 := Nat.le_trans (List.length_filter_le _ _) (by simp; omega)
    unfold h16_2
    try simp only [go_sem, t1, t3, t4, z0, z2, hc]
    refine ⟨⟨by omega, by omega⟩, fun _ => ⟨by omega, by omega⟩, ?_⟩
    have hif : (if (!decide (x.refs[i] = x.id)) = true then !decide (x.refs[i] = []) else false) = !delB x x.refs[i] := by
      unfold delB
      by_cases h1 : x.refs[i] = x.id <;> simp [h1]
    rw [hif]
    refine ⟨fun hd => ?_, fun hd => ?_⟩
    · have hd : delB x x.refs[i] = false := by simpa using hd
      rw [hd] at hfil
      refine ⟨⟨by omega, by omega⟩, ?_⟩
      refine bsl1 (cs := [str x.refs[i]]) sl32 rfl rfl (by omega) ?_
      intro b3 w3 hb3 own3 bk3 m3 s3
      have m23 := (Mod.drew none' w2).trans' m3
      try simp only [go_sem, t1, t3, t4]
      refine append_ sl32 (own2.mod m23 fun _ _ h => h) own3.sl (by intro u hu; rw [List.mem_singleton.1 hu]; rfl) (by omega) (by unfold maxLen; omega) ?_
      intro v4 w4 own4 m4 hf4 _
      have hb1 : b < w1.heap.size := bk.lt
      have bk4 : Blk w4 b 34 (x.cells (.slice (some ⟨g, o, none⟩) x.refs.length rc)) := (bk2.mod m23 fun h => h).mod m4 fun h => by
        have := hf2 b h
        omega
      have own4' : HL.Own w4 v4 9 1 ((x.refs.take (i + 1)).filter fun r => !delB x r).length (((x.refs.take (i + 1)).filter fun r => !delB x r).map str) := by
        rw [hfil]
        simp only [Bool.false_eq_true, if_false, List.length_append, List.length_singleton, List.map_append, List.map_cons, List.map_nil]
        exact own4
      have hw1 : w1.heap.size = b + 1 := s1
      have hf4' : ∀ k, v4.ownBlock = some k → w1.heap.size ≤ k := fun k hk => by
        rcases hf4 k hk with h | h
        · exact hf2 k h
        · have hbl := (bk2.mod m23 fun h => h).lt
          have := m3.size
          have h2 : w1.heap.size ≤ w2.heap.size := by
            have := bk2.lt
            omega
          have h3 : w2.drew.heap.size = w2.heap.size := rfl
          omega
      have m04 : Mod none' w w4 := (m2.trans' m23).trans m4 fun j hj h => by
        have := hf2 j h
        have := m1.size
        omega
      unfold h16_3
      try simp only [go_sem, t1, t3, t4]
      rw [w64 (by omega) (by omega)]
      refine ⟨i + 1, by omega, by omega, v4, ?_⟩
      (repeat' first | assumption | rfl | omega | apply And.intro)
    · have hd : delB x x.refs[i] = true := by simpa using hd
      rw [hd] at hfil
      simp only [if_true, List.append_nil] at hfil
      rw [← hfil] at own2
      have m5 := m2.trans' (Mod.drew none' w2)
      have own5 := own2.mod (Mod.drew none' w2) fun _ _ h => h
      have bk5 := bk2.mod (Mod.drew none' w2) fun h => h
      unfold h16_3
      try simp only [go_sem, t1, t3, t4]
      rw [w64 (by omega) (by omega)]
      refine ⟨i + 1, by omega, by omega, v', ?_⟩
      (repeat' first | assumption | rfl | omega | apply And.intro)
  · have hil : i = x.refs.length := by
      have := of_decide_eq_false hge
      omega
    subst hil
    rw [List.take_length] at own2
    unfold h16_4
    try simp only [go_sem, t1, t3, t4]
    exact k v' w2 own2.sl m2
theorem rfind_ {v : Value} {id : Bytes} (hK : Its w v its rvs) (hn : its.length ≤ 1000000) (k : next (.int .i64 (oi (findI its id))) w) : callvK Try.prog (.func (.func 12) #[] #[]) [v, str id] w next QP := by
  refine r12 rfl ?_
  obtain ⟨va, vc, rfl, -, -⟩ := hK.sl.form
  unfold h12
  try simp only [go_sem]
  refine loopN its.length (fun i τ w' => τ 0 = .slice va its.length vc ∧ τ 1 = str id ∧ τ 5 = .int .i64 i ∧ (∀ x (hx : x < its.length), x < i → its[x].id ≠ id) ∧ w' = w) ⟨0, by omega, rfl, rfl, rfl, fun x _ hx => by omega, rfl⟩ ?_
  rintro i τ w1 hi ⟨t0, t1, t5, hno, rfl⟩
  unfold h12_1
  try simp only [go_sem, t0, t1, t5]
  refine ⟨fun hlt => ?_, fun hge => ?_⟩
  · have hil : i < its.length := by
      have := of_decide_eq_true hlt
      omega
    obtain ⟨g, o, rfl⟩ := hK.addr (by omega)
    obtain ⟨rv, -, ax⟩ := hK.at hil
    have x0 := ax.c0
    unfold h12_2
    try simp only [go_sem, t0, t1, t5, x0]
    repeat refine ⟨⟨by omega, by omega⟩, ?_⟩
    refine ⟨fun he => ?_, fun hne => ?_⟩
    · have he : its[i].id = id := by simpa using he
      have : findI its id = some i := by
        unfold findI
        rw [List.findIdx?_eq_some_iff_getElem]
        exact ⟨hil, by simpa using he, fun j hj => by simpa using hno j (by omega) hj⟩
      rw [this] at k
      try simp only [go_sem, t0, t1, t5]
      exact k
    · have hne : its[i].id ≠ id := by simpa using hne
      unfold h12_3
      try simp only [go_sem, t0, t1, t5]
      rw [w64 (by omega) (by omega)]
      have h4 : ∀ x (hx : x < its.length), x < i + 1 → its[x].id ≠ id := by
        intro x hx hxi
        by_cases e : x = i
        · subst e; exact hne
        · exact hno x hx (by omega)
      refine ⟨i + 1, by omega, by omega, ?_⟩
      (repeat' first | assumption | rfl | omega | apply And.intro)
  · have hil : i = its.length := by
      have := of_decide_eq_false hge
      omega
    subst hil
    have : findI its id = none := by
      unfold findI
      rw [List.findIdx?_eq_none_iff]
      intro x hx
      obtain ⟨i, hi, rfl⟩ := List.getElem_of_mem hx
      simpa using hno i hi hi
    rw [this] at k
    unfold h12_4
    try simp only [go_sem]
    exact k
theorem near_ {v : Value} {i : Nat} (hK : Its w v its rvs) (hi : i < its.length) (hn : its.length ≤ 1000000) (hr : its[i].refs.length ≤ 1000000) (k : ∀ w', Mod none' w w' → next (.int .i64 (oi (nearI its i))) w') : callvK Try.prog (.func (.func 17) #[] #[]) [v, .int .i64 i] w next QP := by
  refine r17 rfl ?_
  obtain ⟨va, vc, rfl, -, -⟩ := hK.sl.form
  obtain ⟨g, o, rfl⟩ := hK.addr (by omega)
  obtain ⟨rv, hrv, ax⟩ := hK.at hi
  have x1 := ax.ln
  have x2 := ax.sm
  have hrl : its[i].rf.length ≤ 1000000 := by
    have := List.length_filter_le (fun r => !delB its[i] r) its[i].refs
    unfold It.rf
    omega
  rw [near_rf hi] at k
  unfold h17
  try simp only [go_sem, x1, x2]
  repeat refine ⟨⟨by omega, by omega⟩, ?_⟩
  refine rrefs_ hrv hr ?_
  intro v1 w1 sl1 m1
  obtain ⟨ra, rc, rfl, -, hcell⟩ := sl1.form
  try simp only [go_sem]
  rw [w64 (by omega) (by omega)]
  refine ⟨fun q τ w' => q ≤ its[i].rf.length ∧ τ 0 = .slice (some ⟨g, o, none⟩) its.length vc ∧ τ 5 = .slice ra its[i].rf.length rc ∧ τ 6 = .int .i64 ((q : Int) - 1) ∧ nearL its (its[i].rf.drop q) = none ∧ Mod none' w w' ∧ w' = w1, its[i].rf.length, ⟨Nat.le_refl _, rfl, rfl, by simp [upd], by rw [List.drop_length]; rfl, m1, rfl⟩, ?_⟩
  rintro q τ w2 ⟨hq, t0, t5, t6, hno, m2, rfl⟩
  unfold h17_1
  cases q with
  | zero =>
    have eg : decide ((0 : Int) ≤ 0 - 1) = false := rfl
    try simp only [go_sem, t0, t5, t6, eg]
    rw [List.drop_zero] at hno
    rw [hno] at k
    unfold h17_4
    try simp only [go_sem]
    exact k w2 m2
  | succ q =>
    have e1 : ((q + 1 : Nat) : Int) - 1 = (q : Int) := by omega
    rw [e1] at t6
    have eg : decide ((0 : Int) ≤ (q : Int)) = true := by simp
    obtain ⟨gr, ro, rfl, hce⟩ := hcell (by omega)
    have hc : w2.cell? ⟨gr, ro + q, none⟩ = some (str its[i].rf[q]) := by
      rw [hce q (by omega), List.getElem?_map, List.getElem?_eq_getElem (by omega)]; rfl
    have hdrop : nearL its (its[i].rf.drop q) = (findI its its[i].rf[q]).or none ∨ nearL its (its[i].rf.drop q) = findI its its[i].rf[q] := by
      right
      rw [List.drop_eq_getElem_cons (by omega)]
      unfold nearL at hno ⊢
      rw [List.reverse_cons, List.findSome?_append, hno]
      simp
    have hdrop : nearL its (its[i].rf.drop q) = findI its its[i].rf[q] := by
      rcases hdrop with h | h
      · rw [h]; cases findI its its[i].rf[q] <;> rfl
      · exact h
    try simp only [go_sem, t0, t5, t6, eg]
    unfold h17_2
    try simp only [go_sem, t0, t5, t6, hc]
    repeat refine ⟨⟨by omega, by omega⟩, ?_⟩
    refine rfind_ (hK.up m1) hn ?_
    try simp only [go_sem, t0, t5, t6]
    cases hf : findI its its[i].rf[q] with
    | some z =>
      have eg2 : decide ((0 : Int) ≤ oi (some z)) = true := by simp [oi]
      have hall : nearL its its[i].rf = some z := by
        have e := List.take_append_drop q its[i].rf
        rw [← e]
        unfold nearL at hdrop ⊢
        rw [List.reverse_append, List.findSome?_append, hdrop, hf]; rfl
      rw [hall] at k
      try simp only [go_sem, eg2]
      exact k w2 m2
    | none =>
      have eg2 : decide ((0 : Int) ≤ oi none) = false := rfl
      try simp only [go_sem, eg2]
      unfold h17_3
      try simp only [go_sem, t0, t5, t6]
      rw [w64 (by omega) (by omega)]
      rw [hf] at hdrop
      refine ⟨q, by omega, ?_⟩
      (repeat' first | assumption | rfl | omega | apply And.intro)
theorem circ_ {v : Value} (hK : Its w v its rvs) (hz : szI its) (hn : its.length ≤ 1000000) (k : ∀ b w', (b = false → ∀ i, i < its.length → ¬ OnC (nearI its) i) → Mod none' w w' → next (.bool b) w') : callvK Try.prog (.func (.func 20) #[] #[]) [v] w next QP := by
  refine r20 rfl ?_
  obtain ⟨va, vc, rfl, -, -⟩ := hK.sl.form
  unfold h20
  try simp only [go_sem]
  refine loopN its.length (fun i τ w' => τ 0 = .slice va its.length vc ∧ τ 3 = .int .i64 i ∧ (∀ x, x < i → ¬ OnC (nearI its) x) ∧ Mod none' w w') ⟨0, by omega, rfl, rfl, fun x hx => by omega, Mod.refl _ _⟩ ?_
  rintro i τ w1 hi ⟨t0, t3, hno, m1⟩
  unfold h20_1
  try simp only [go_sem, t0, t3]
  refine ⟨fun hlt => ?_, fun hge => ?_⟩
  · have hil : i < its.length := by
      have := of_decide_eq_true hlt
      omega
    have hsz : ∀ j (h : j < its.length), its[j].refs.length ≤ 1000000 := fun j h => (hz _ (List.getElem_mem h)).1
    unfold h20_2
    try simp only [go_sem, t0, t3]
    refine near_ (hK.up m1) hil hn (hsz i hil) ?_
    intro w2 m2
    try simp only [go_sem, t0, t3]
    refine loopN its.length (fun q τ w' => τ 0 = .slice va its.length vc ∧ τ 3 = .int .i64 i ∧ τ 4 = .int .i64 (oi (itr (nearI its) (q + 1) i)) ∧ τ 5 = .int .i64 q ∧ (∀ m, m < q → itr (nearI its) (m + 1) i ≠ some i) ∧ Mod none' w w') ⟨0, by omega, t0, t3, rfl, rfl, fun m hm => by omega, m1.trans' m2⟩ ?_
    rintro q τ w3 hq ⟨t0, t3, t4, t5, hm, m3⟩
    -- the round's end
    have fin : (∀ m, m + 1 ≤ its.length → itr (nearI its) (m + 1) i ≠ some i) → ∀ x, x < i + 1 → ¬ OnC (nearI its) x := by
      intro h x hx hc
      by_cases e : x = i
      · subst e
        obtain ⟨m, h1, h2⟩ := back_short (n := its.length) (fun i j h => nearI_lt h) hil hc
        exact h m h1 h2
      · exact hno x (by omega) hc
    unfold h20_3
    by_cases hql : q < its.length
    · have eq : decide ((q : Int) < (its.length : Int)) = true := by simpa using hql
      cases hk : itr (nearI its) (q + 1) i with
      | none =>
        rw [hk] at t4
        have eg : decide ((0 : Int) ≤ oi none) = false := rfl
        try simp only [go_sem, t0, t3, t4, t5, eq, eg]
        unfold h20_7
        try simp only [go_sem, t0, t3]
        rw [w64 (by omega) (by omega)]
        have h9 := fin fun m hml => by
          by_cases hmq : m < q
          · exact hm m hmq
          · rw [itr_none hk (m + 1) (by omega)]; simp
        refine ⟨i + 1, by omega, by omega, ?_⟩
        (repeat' first | assumption | rfl | omega | apply And.intro)
      | some j =>
        rw [hk] at t4
        have hj : j < its.length := by
          obtain ⟨z, -, hz⟩ := Option.bind_eq_some_iff.1 hk
          exact nearI_lt hz
        have t4 : τ 4 = .int .i64 (j : Int) := t4
        have eg : decide ((0 : Int) ≤ (j : Int)) = true := by simp
        try simp only [go_sem, t0, t3, t4, t5, eq, eg]
        unfold h20_4
        try simp only [go_sem, t0, t3, t4, t5]
        refine ⟨fun he => ?_, fun hne => ?_⟩
        · try simp only [go_sem]
          exact k true w3 (fun h => by cases h) m3
        · have hne : j ≠ i := by
            have := of_decide_eq_false hne
            omega
          unfold h20_5
          try simp only [go_sem, t0, t3, t4, t5]
          refine near_ (hK.up m3) hj hn (hsz j hj) ?_
          intro w4 m4
          unfold h20_6
          try simp only [go_sem, t0, t3, t4, t5]
          rw [w64 (by omega) (by omega)]
          have e4 : nearI its j = itr (nearI its) (q + 1 + 1) i := by
            show _ = (itr (nearI its) (q + 1) i).bind _
            rw [hk]; rfl
          rw [e4]
          have h9 : ∀ m, m < q + 1 → itr (nearI its) (m + 1) i ≠ some i := by
            intro m hmq
            by_cases e : m = q
            · subst e
              rw [hk]
              exact fun e => hne (Option.some.inj e)
            · exact hm m (by omega)
          have m5 := m3.trans' m4
          refine ⟨q + 1, by omega, by omega, ?_⟩
          (repeat' first | assumption | rfl | omega | apply And.intro)
    · have eq : decide ((q : Int) < (its.length : Int)) = false := by simp; omega
      try simp only [go_sem, t0, t3, t4, t5, eq]
      unfold h20_7
      try simp only [go_sem, t0, t3]
      rw [w64 (by omega) (by omega)]
      have h9 := fin fun m hml => hm m (by omega)
      refine ⟨i + 1, by omega, by omega, ?_⟩
      (repeat' first | assumption | rfl | omega | apply And.intro)
  · have hil : i = its.length := by
      have := of_decide_eq_false hge
      omega
    subst hil
    unfold h20_8
    try simp only [go_sem]
    exact k false w1 (fun _ => hno) m1
end
end Go.Proofs.Y

/- TMc: thread: Root, find; ThreadRoots. -/
namespace Go.Proofs.Y
open Go Go.HL Go.Proofs

section
variable {w w' : World} {its : List It} {rvs : List Value} {next : Value → World → Prop} {QP : List PanicEntry → World → Prop}

theorem find_ {v : Value} {l : List Nd} {c : Bytes} (hK : Sl w v 4 l.length (rows Nd.cells l)) (hn : l.length ≤ 1000000) (k : next (.int .i64 (oi (findN l c))) w) : callvK Try.prog (.func (.func 13) #[] #[]) [v, str c] w next QP := by
  refine r13 rfl ?_
  obtain ⟨va, vc, rfl, -, -⟩ := hK.form
  unfold h13
  try simp only [go_sem]
  refine loopN l.length (fun i τ w' => τ 0 = .slice va l.length vc ∧ τ 1 = str c ∧ τ 5 = .int .i64 i ∧ (∀ x (hx : x < l.length), x < i → l[x].id ≠ c) ∧ w' = w) ⟨0, by omega, rfl, rfl, rfl, fun x _ hx => by omega, rfl⟩ ?_
  rintro i τ w1 hi ⟨t0, t1, t5, hno, rfl⟩
  unfold h13_1
  try simp only [go_sem, t0, t1, t5]
  refine ⟨fun hlt => ?_, fun hge => ?_⟩
  · have hil : i < l.length := by
      have := of_decide_eq_true hlt
      omega
    obtain ⟨ga, oa, ca, ea, -, hca⟩ := hK.get Nd.len rfl (by omega)
    simp only [Value.slice.injEq] at ea
    obtain ⟨rfl, -, rfl⟩ := ea
    have x0 := hca i 0 hil (by omega)
    simp only [Nd.cells, List.getElem?_cons_zero, Nat.add_zero] at x0
    unfold h13_2
    try simp only [go_sem, t0, t1, t5, x0]
    repeat refine ⟨⟨by omega, by omega⟩, ?_⟩
    refine ⟨fun he => ?_, fun hne => ?_⟩
    · have he : l[i].id = c := by simpa using he
      have : findN l c = some i := by
        unfold findN
        rw [List.findIdx?_eq_some_iff_getElem]
        exact ⟨hil, by simpa using he, fun j hj => by simpa using hno j (by omega) hj⟩
      rw [this] at k
      try simp only [go_sem, t0, t1, t5]
      exact k
    · have hne : l[i].id ≠ c := by simpa using hne
      unfold h13_3
      try simp only [go_sem, t0, t1, t5]
      rw [w64 (by omega) (by omega)]
      have h4 : ∀ x (hx : x < l.length), x < i + 1 → l[x].id ≠ c := by
        intro x hx hxi
        by_cases e : x = i
        · subst e; exact hne
        · exact hno x hx (by omega)
      refine ⟨i + 1, by omega, by omega, ?_⟩
      (repeat' first | assumption | rfl | omega | apply And.intro)
  · have hil : i = l.length := by
      have := of_decide_eq_false hge
      omega
    subst hil
    unfold h13_4
    try simp only [go_sem]
    have : findN l c = none := by
      unfold findN
      rw [List.findIdx?_eq_none_iff]
      intro x hx
      obtain ⟨j, hj, rfl⟩ := List.getElem_of_mem hx
      simpa using hno j hj hj
    rw [this] at k
    exact k

theorem Root_ {v : Value} {c : Bytes} (hd : dist its) (hne : ne0 its) (hK : Its w v its rvs) (hz : szI its) (hn : its.length ≤ 1000000) (k : ∀ w', Mod none' w w' → next (str (rootB its c)) w') : callvK Try.prog (.func (.func 22) #[] #[]) [v, str c] w next QP := by
  refine r22 rfl ?_
  obtain ⟨va, vc, rfl, -, -⟩ := hK.sl.form
  unfold h22
  try simp only [go_sem]
  refine study_ hd hK hz hn ?_
  intro fb w1 hS m1
  obtain ⟨B, ib, nb, bb, hb, ks, ne, br, hs, hF, hix, hne', hbr, hsr⟩ := hS.ex
  have f1 := hF.f.cell 1
  simp only [List.getElem?_cons_zero, List.getElem?_cons_succ] at f1
  try simp only [go_sem, f1]
  refine lookup_ u49 u9 zi hF.ix ?_
  rw [hix c]
  cases hf : findI its c with
  | none =>
    have hroot : rootB its c = if c ∈ ghL its its.length then c else [] := by unfold rootB; rw [hf]
    try simp only [go_sem, Option.map_none, Option.isSome_none]
    refine loopN its.length (fun i τ w' => τ 0 = .slice va its.length vc ∧ τ 1 = str c ∧ τ 5 = ptr fb ∧ τ 27 = .int .i64 its.length ∧ τ 28 = .int .i64 i ∧ (∀ x, x < i → ¬ (gh its x ≠ [] ∧ gh its x = c)) ∧ Mod none' w1 w') ⟨0, by omega, rfl, rfl, rfl, rfl, rfl, fun x hx => by omega, Mod.refl _ _⟩ ?_
    rintro i τ w2 hi ⟨t0, t1, t5, t27, t28, hno, m2⟩
    unfold h22_1
    try simp only [go_sem, t0, t1, t5, t27, t28]
    refine ⟨fun hlt => ?_, fun hge => ?_⟩
    · have hil : i < its.length := by
        have := of_decide_eq_true hlt
        omega
      unfold h22_2
      try simp only [go_sem, t0, t1, t5, t27, t28]
      refine par_ hd (hS.up m2) hil hz hn ?_
      intro w3 m3
      unfold parV
      have e1 : (parI its i).2 = gh its i := rfl
      try simp only [go_sem, t0, t1, t5, t27, t28, e1]
      refine ⟨fun hc => ?_, fun hc => ?_⟩
      · have hg : gh its i ≠ [] ∧ gh its i = c := by
          by_cases h1 : gh its i = [] <;> simp [h1] at hc ⊢
          exact hc
        have := k w3 ((m1.trans' m2).trans' m3)
        rw [hroot, if_pos ((ghL_mem its _ _).2 ⟨by rw [← hg.2]; exact hg.1, i, hil, hg.2⟩)] at this
        exact this
      · have hg : ¬ (gh its i ≠ [] ∧ gh its i = c) := by
          rintro ⟨h1, h2⟩
          simp [h1, h2] at hc
          exact h1 (h2.trans hc)
        unfold h22_3
        try simp only [go_sem, t0, t1, t5, t27, t28]
        rw [w64 (by omega) (by omega)]
        have h4 : ∀ x, x < i + 1 → ¬ (gh its x ≠ [] ∧ gh its x = c) := by
          intro x hx
          by_cases e : x = i
          · subst e; exact hg
          · exact hno x (by omega)
        have m23 := m2.trans' m3
        refine ⟨i + 1, by omega, by omega, ?_⟩
        (repeat' first | assumption | rfl | omega | apply And.intro)
    · have hil : i = its.length := by
        have := of_decide_eq_false hge
        omega
      subst hil
      unfold h22_4
      try simp only [go_sem]
      have := k w2 (m1.trans' m2)
      rw [hroot, if_neg (fun h => by
        obtain ⟨h1, x, h2, h3⟩ := (ghL_mem its _ _).1 h
        exact hno x h2 ⟨by rw [h3]; exact h1, h3⟩)] at this
      exact this
  | some i0 =>
    obtain ⟨hil0, hid⟩ := findI_idAt hf
    have hroot : rootB its c = rootI its its.length i0 := by unfold rootB; rw [hf]
    try simp only [go_sem, Option.map_some, Option.isSome_some]
    unfold h22_5
    try simp only [go_sem]
    refine loopN its.length (fun m τ w' => τ 0 = .slice va its.length vc ∧ τ 5 = ptr fb ∧ (∃ j : Nat, j < its.length ∧ τ 6 = .int .i64 j ∧ rootB its c = rootI its (its.length - m) j ∧ itr (upI its) (its.length - m) j = none) ∧ Mod none' w1 w') ⟨0, by omega, rfl, rfl, ⟨i0, hil0, rfl, hroot, up_ends hd hil0⟩, Mod.refl _ _⟩ ?_
    rintro m τ w2 hm ⟨t0, t5, ⟨j, hj, t6, hr, hit⟩, m2⟩
    obtain ⟨f, hfm⟩ : ∃ f, its.length - m = f + 1 := by
      cases hlm : its.length - m with
      | zero => rw [hlm] at hit; simp [itr] at hit
      | succ f => exact ⟨f, rfl⟩
    rw [hfm] at hr hit
    rw [itr_succ] at hit
    unfold rootI at hr
    have hu : upI its j = (parI its j).1 := by unfold upI; rw [if_pos hj]
    rw [hu] at hit
    unfold h22_6
    try simp only [go_sem, t0, t5, t6]
    refine par_ hd (hS.up m2) hj hz hn ?_
    intro w3 m3
    unfold parV
    have e1 : (parI its j).2 = gh its j := rfl
    have m23 := m2.trans' m3
    have m13 := m1.trans' m23
    try simp only [go_sem, t0, t5, t6, e1]
    refine ⟨fun hc => ?_, fun hc => ?_⟩
    · have hg : gh its j ≠ [] := by simpa using hc
      rw [if_pos hg] at hr
      have := k w3 m13
      rw [hr] at this
      exact this
    · have hg : ¬ gh its j ≠ [] := by simpa using hc
      rw [if_neg hg] at hr
      try simp only [go_sem, t0, t5, t6, e1]
      refine ⟨fun hc => ?_, fun hc => ?_⟩
      · cases hp : (parI its j).1 with
        | some q =>
          rw [hp] at hc
          have hc : (q : Int) < 0 := of_decide_eq_true hc
          omega
        | none =>
          rw [hp] at hr
          obtain ⟨g, o, rfl⟩ := hK.addr (by omega)
          obtain ⟨rv, -, ax⟩ := ((hK.up m1).up m23).at hj
          have x0 := ax.c0
          try simp only [go_sem, t0, t5, t6, x0]
          repeat refine ⟨⟨by omega, by omega⟩, ?_⟩
          have := k w3 m13
          rw [hr, idAt_at hj] at this
          exact this
      · cases hp : (parI its j).1 with
        | none => rw [hp] at hc; simp [oi] at hc
        | some q =>
          rw [hp] at hr hit hu
          have hq := (upI_lt hu).2
          unfold h22_7
          try simp only [go_sem, t0, t5, t6]
          have hfm2 : its.length - (m + 1) = f := by omega
          refine ⟨m + 1, by omega, by omega, ⟨q, hq, rfl, by rw [hfm2]; exact hr, by rw [hfm2]; exact hit⟩, m23⟩

theorem roots_ {v : Value} {c : Bytes} (hK : Its w v its rvs) (hml : its.length ≤ 9223372036854775807) (k : ∀ w', Mod none' w w' → next (.bool true) w') : callK Try.prog 7 [v, str c] w next QP := by
  refine q7 rfl ?_
  obtain ⟨va, vc, rfl, -, -⟩ := hK.sl.form
  unfold h7
  try simp only [go_sem]
  refine small_ ?_
  intro w1 m1
  try simp only [go_sem]
  refine few_ (hK.up m1) hml ?_
  intro b w2 hb m2
  have m02 := m1.trans' m2
  cases b with
  | false =>
    try simp only [go_sem]
    exact k w2 m02
  | true =>
    have hP := hb rfl
    have hd := hP.d
    have hne := hP.e
    have hn40 := hP.n
    try simp only [go_sem]
    unfold h7_1
    try simp only [go_sem]
    refine Forest_ hd hne (hK.up m02) hP.sz (by omega) ?_
    intro v3 w3 own3 hf3 m3
    have m03 := m02.trans' m3
    have hlen := forest_len hd hne
    obtain ⟨fa, fc, rfl, -, -⟩ := own3.form
    try simp only [go_sem]
    refine loopN (forestB its).length (fun i τ w' => τ 0 = .slice va its.length vc ∧ τ 1 = str c ∧ τ 5 = .bool true ∧ τ 6 = .slice fa (forestB its).length fc ∧ τ 7 = .int .i64 i ∧ Mod none' w3 w') ⟨0, by omega, rfl, rfl, rfl, rfl, rfl, Mod.refl _ _⟩ ?_
    rintro i τ w4 hi ⟨t0, t1, t5, t6, t7, m4⟩
    have sl4 := (own3.sl.mod m4 fun _ _ h => h)
    have m04 := m03.trans' m4
    unfold h7_2
    try simp only [go_sem, t0, t1, t5, t6, t7]
    refine ⟨fun hlt => ?_, fun hge => ?_⟩
    · have hil : i < (forestB its).length := by
        have := of_decide_eq_true hlt
        omega
      obtain ⟨e, he, hex, hnd⟩ := forest_at hil
      unfold h7_3
      try simp only [go_sem, t0, t1, t5, t6, t7]
      refine loopN i (fun m σ w' => σ 0 = .slice va its.length vc ∧ σ 1 = str c ∧ σ 5 = .bool true ∧ σ 6 = .slice fa (forestB its).length fc ∧ σ 7 = .int .i64 i ∧ (∃ e' ∈ enF its, σ 8 = .int .i64 e'.x ∧ e'.x + m ≤ i ∧ rootB its e.b.id = rootB its e'.b.id) ∧ Mod none' w4 w') ⟨0, by omega, t0, t1, t5, t6, t7, ⟨e, he, by rw [hex]; rfl, by omega, rfl⟩, Mod.refl _ _⟩ ?_
      rintro m σ w5 hm ⟨t0, t1, t5, t6, t7, ⟨e', he', t8, hem, hroot⟩, m5⟩
      obtain ⟨hx', hnd'⟩ := forest_x he'
      obtain ⟨ga, oa, ca, ea, -, hca⟩ := (sl4.mod m5 fun _ _ h => h).get Nd.len rfl (by omega)
      simp only [Value.slice.injEq] at ea
      obtain ⟨rfl, -, rfl⟩ := ea
      have x0 := hca i 0 hil (by omega)
      have x2 := hca e'.x 2 hx' (by omega)
      have z0 := hca e'.x 0 hx' (by omega)
      rw [hnd] at x0
      rw [hnd'] at x2 z0
      simp only [Nd.cells, En.nd, List.getElem?_cons_zero, List.getElem?_cons_succ, Nat.add_zero] at x0 x2 z0
      unfold h7_4
      try simp only [go_sem, t0, t1, t5, t6, t7, t8, x2]
      repeat refine ⟨⟨by omega, by omega⟩, ?_⟩
      refine ⟨fun _ => ⟨by omega, by omega⟩, ?_⟩
      rcases en_pid hd hne he' with ⟨hp, hu⟩ | ⟨q, hq, hp, hqx, hu⟩
      · have c1 : decide (0 ≤ e'.p) = false := by rw [hp]; rfl
        try simp only [go_sem, c1]
        unfold h7_6
        try simp only [go_sem, t0, t1, t5, t6, t7, t8, x0, z0]
        repeat refine ⟨⟨by omega, by omega⟩, ?_⟩
        refine Root_ hd hne ((hK.up m04).up m5 |>.up (Mod.drew none' w5)) hP.sz (by omega) ?_
        intro w6 m6
        have m56 := (Mod.drew none' w5).trans' m6
        have z0' := m56.cell z0 (fun h => h)
        have hr : rootB its e.b.id = e'.b.id := by
          rw [hroot, root_en hd hne he', hu]
        try simp only [go_sem, t0, t1, t5, t6, t7, t8, z0', z0, hr]
        unfold h7_7
        try simp only [go_sem, t0, t1, t5, t6, t7]
        rw [w64 (by omega) (by omega)]
        have m46 := (m4.trans' m5).trans' m56
        refine ⟨i + 1, by omega, by omega, ?_⟩
        (repeat' first | assumption | rfl | omega | apply And.intro)
      · have c1 : decide (0 ≤ e'.p) = true := by rw [hp]; exact decide_eq_true (by omega)
        have c2 : decide (e'.p < (e'.x : Int)) = true := by rw [hp]; exact decide_eq_true (by omega)
        try simp only [go_sem, c1, c2]
        unfold h7_5
        try simp only [go_sem, t0, t1, t5, t6, t7, t8, x2]
        repeat refine ⟨⟨by omega, by omega⟩, ?_⟩
        have hr : rootB its e.b.id = rootB its q.b.id := by
          rw [hroot, root_en hd hne he', hu]
        refine ⟨m + 1, by omega, by omega, ?_⟩
        rw [hp]
        exact ⟨⟨q, hq, rfl, by omega, hr⟩, m5⟩
    · have hil : i = (forestB its).length := by
        have := of_decide_eq_false hge
        omega
      subst hil
      unfold h7_8
      try simp only [go_sem, t0, t1, t5, t6]
      refine find_ sl4 (by omega) ?_
      unfold l7_10 l7_9
      try simp only [go_sem, t0, t1, t5, t6]
      cases hfn : findN (forestB its) c with
      | some q =>
        have c1 : decide (0 ≤ oi (some q)) = true := decide_eq_true (by unfold oi; simp only; omega)
        try simp only [go_sem, c1]
        exact k w4 m04
      | none =>
        have c1 : decide (0 ≤ oi none) = false := rfl
        try simp only [go_sem, c1]
        refine Root_ hd hne (hK.up m04) hP.sz (by omega) ?_
        intro w5 m5
        rw [root_none hd hne hfn]
        try simp only [go_sem]
        exact k w5 (m04.trans' m5)
end
end Go.Proofs.Y

/- TOc: thread: an order of the items that is another changes nothing; plain. -/
namespace Go.Proofs.Y
open Go Go.HL

/-- the same items at other places -/
structure Pm (its its' : List It) (s : Nat → Nat) : Prop where
  d : dist its
  d' : dist its'
  len : its'.length = its.length
  lt : ∀ i, i < its'.length → s i < its.length
  eq : ∀ i (h : i < its'.length) (h2 : s i < its.length), its[s i] = its'[i]
  on : ∀ j, j < its.length → ∃ i, i < its'.length ∧ s i = j
section
variable {its its' : List It} {s : Nat → Nat}
theorem Pm.of (hd : dist its) (hp : its'.Perm its) : ∃ s, Pm its its' s := by
  have hd' : dist its' := (hp.map _).nodup_iff.2 hd
  refine ⟨fun i => (findI its (idAt its' i)).getD 0, ?_⟩
  have key : ∀ i (h : i < its'.length), ∃ j, ∃ h2 : j < its.length, findI its (idAt its' i) = some j ∧ its[j] = its'[i] := by
    intro i h
    obtain ⟨j, hj, e⟩ := List.getElem_of_mem (hp.mem_iff.1 (List.getElem_mem h))
    exact ⟨j, hj, by rw [idAt_at h, ← e]; exact findI_at hd hj, e⟩
  refine ⟨hd, hd', hp.length_eq, fun i h => ?_, fun i h h2 => ?_, fun j hj => ?_⟩
  · obtain ⟨j, hj, e, -⟩ := key i h
    simp only [e]; exact hj
  · obtain ⟨j, hj, e, e2⟩ := key i h
    simp only [e]; exact e2
  · obtain ⟨i, hi, e⟩ := List.getElem_of_mem (hp.mem_iff.2 (List.getElem_mem hj))
    refine ⟨i, hi, ?_⟩
    rw [idAt_at hi, e, findI_at hd hj]; rfl
theorem Pm.at (h : Pm its its' s) {i : Nat} (hi : i < its'.length) : its[s i]? = its'[i]? := by
  rw [List.getElem?_eq_getElem (h.lt i hi), List.getElem?_eq_getElem hi, h.eq i hi]
theorem Pm.id (h : Pm its its' s) {i : Nat} (hi : i < its'.length) : idAt its (s i) = idAt its' i := by unfold idAt; rw [h.at hi]
theorem Pm.date (h : Pm its its' s) {i : Nat} (hi : i < its'.length) : dateAt its (s i) = dateAt its' i := by unfold dateAt; rw [h.at hi]
theorem Pm.inj (h : Pm its its' s) {i j : Nat} (hi : i < its'.length) (hj : j < its'.length) (e : s i = s j) : i = j := by
  refine idAt_inj h.d' hi hj ?_
  rw [← h.id hi, ← h.id hj, e]
theorem Pm.find (h : Pm its its' s) (r : Bytes) : findI its r = (findI its' r).map s := by
  cases hf : findI its' r with
  | some i =>
    obtain ⟨hi, e⟩ := findI_idAt hf
    rw [← e, ← h.id hi, find_idAt h.d (h.lt i hi)]; rfl
  | none =>
    cases hg : findI its r with
    | none => rfl
    | some j =>
      obtain ⟨hj, e⟩ := findI_idAt hg
      obtain ⟨i, hi, rfl⟩ := h.on j hj
      rw [h.id hi] at e
      rw [← e, find_idAt h.d' hi] at hf; cases hf
theorem Pm.nearL (h : Pm its its' s) (l : List Bytes) : nearL its l = (nearL its' l).map s := by
  unfold Y.nearL
  generalize l.reverse = l
  induction l with
  | nil => rfl
  | cons r l ih =>
    rw [List.findSome?_cons, List.findSome?_cons, h.find r]
    cases findI its' r with
    | some i => rfl
    | none => exact ih
theorem Pm.nearI (h : Pm its its' s) {i : Nat} (hi : i < its'.length) : nearI its (s i) = (nearI its' i).map s := by
  unfold Y.nearI
  rw [h.at hi, List.getElem?_eq_getElem hi]
  exact h.nearL _
theorem Pm.itr (h : Pm its its' s) {i : Nat} (hi : i < its'.length) : ∀ m, itr (Y.nearI its) m (s i) = (itr (Y.nearI its') m i).map s
  | 0 => rfl
  | m + 1 => by
    show (Y.itr _ m _).bind _ = ((Y.itr _ m _).bind _).map s
    rw [h.itr hi m]
    cases hj : Y.itr (Y.nearI its') m i with
    | none => rfl
    | some j =>
      have hjl : j < its'.length := by
        cases m with
        | zero => obtain rfl : i = j := by simpa [Y.itr] using hj
                  exact hi
        | succ m =>
          obtain ⟨z, -, hz⟩ := Option.bind_eq_some_iff.1 hj
          exact nearI_lt hz
      exact h.nearI hjl
theorem itr_nlt {its : List It} {i : Nat} (hi : i < its.length) : ∀ {m j : Nat}, itr (nearI its) m i = some j → j < its.length
  | 0, j, h => by
    obtain rfl : i = j := by simpa [itr] using h
    exact hi
  | m + 1, j, h => by
    obtain ⟨z, -, hz⟩ := Option.bind_eq_some_iff.1 h
    exact nearI_lt hz
theorem Pm.brk (h : Pm its its' s) {i : Nat} (hi : i < its'.length) : brkI its (s i) = brkI its' i := by
  rw [Bool.eq_iff_iff, brkI_iff (h.lt i hi), brkI_iff hi]
  have hit : ∀ m j, j < its'.length → (Y.itr (Y.nearI its) m (s i) = some (s j) ↔ Y.itr (Y.nearI its') m i = some j) := by
    intro m j hj
    rw [h.itr hi m]
    cases hx : Y.itr (Y.nearI its') m i with
    | none => simp
    | some x =>
      have hxl := itr_nlt hi hx
      simp only [Option.map_some, Option.some.injEq]
      exact ⟨h.inj hxl hj, fun e => by rw [e]⟩
  unfold Brk
  constructor
  · rintro ⟨⟨m, hm⟩, h2⟩
    refine ⟨⟨m, (hit _ _ hi).1 hm⟩, fun m j hj => ?_⟩
    have hjl := itr_nlt hi hj
    have := h2 m (s j) ((hit _ _ hjl).2 hj)
    rw [h.id hjl, h.id hi] at this
    exact this
  · rintro ⟨⟨m, hm⟩, h2⟩
    refine ⟨⟨m, (hit _ _ hi).2 hm⟩, fun m j hj => ?_⟩
    have hjl := itr_nlt (h.lt i hi) hj
    obtain ⟨x, hx, rfl⟩ := h.on j hjl
    have := h2 m x ((hit _ _ hx).1 hj)
    rw [h.id hx, h.id hi]
    exact this
theorem headsS_nodup (its : List It) (b : Bytes) : (headsS its b).Nodup := by
  unfold headsS
  rw [(isortB_ok (lt := befI its) (befI_irr its) befI_tr _).1.nodup_iff]
  unfold headsN
  exact List.Pairwise.filter _ List.nodup_range
theorem Pm.heads (h : Pm its its' s) (b : Bytes) : headsS its b = (headsS its' b).map s := by
  have hlt' : ∀ x ∈ headsS its' b, x < its'.length := fun x hx => (headsS_mem.1 hx).1
  have hlt : ∀ x ∈ headsS its b, x < its.length := fun x hx => (headsS_mem.1 hx).1
  have hn' : ((headsS its' b).map s).Nodup := by
    unfold List.Nodup
    rw [List.pairwise_map]
    exact (headsS_nodup its' b).imp_of_mem fun hx hy hne e => hne (h.inj (hlt' _ hx) (hlt' _ hy) e)
  refine sorted_unique (lt := befI its) ?_ ((List.perm_ext_iff_of_nodup (headsS_nodup its b) hn').2 fun j => ?_) (isortB_ok (lt := befI its) (befI_irr its) befI_tr _).2 ?_
  · intro x hx y hy h1 h2
    exact idAt_inj h.d (hlt x hx) (hlt y hy) (bef_tri h1 h2).2
  · rw [headsS_mem, List.mem_map]
    constructor
    · rintro ⟨hj, hh⟩
      obtain ⟨i, hi, rfl⟩ := h.on j hj
      refine ⟨i, headsS_mem.2 ⟨hi, ?_⟩, rfl⟩
      rw [← h.eq i hi hj]; exact hh
    · rintro ⟨i, hi, rfl⟩
      obtain ⟨hil, hh⟩ := headsS_mem.1 hi
      refine ⟨h.lt i hil, ?_⟩
      rw [h.eq i hil]; exact hh
  · unfold SortedB
    rw [List.pairwise_map]
    have hs := (isortB_ok (lt := befI its') (befI_irr its') befI_tr (headsN its' its'.length b)).2
    unfold SortedB at hs
    refine hs.imp_of_mem fun hx hy hb => ?_
    unfold befI at hb ⊢
    rw [h.date (hlt' _ hx), h.date (hlt' _ hy), h.id (hlt' _ hx), h.id (hlt' _ hy)]
    exact hb
theorem Pm.par (h : Pm its its' s) {i : Nat} (hi : i < its'.length) : parI its (s i) = ((parI its' i).1.map s, (parI its' i).2) := by
  unfold parI
  rw [h.at hi, List.getElem?_eq_getElem hi]
  simp only
  unfold parB
  rw [h.at hi, List.getElem?_eq_getElem hi]
  simp only
  rw [h.brk hi, h.nearI hi, h.heads]
  by_cases hb : brkI its' i = true
  · rw [if_pos hb, if_pos hb]; rfl
  · rw [if_neg hb, if_neg hb]
    cases hn : Y.nearI its' i with
    | some k => rfl
    | none =>
      simp only [Option.map_none]
      by_cases hl : 0 < its'[i].rf.length
      · rw [if_pos hl, if_pos hl]; rfl
      · rw [if_neg hl, if_neg hl]
        by_cases hr : its'[i].reply = false ∨ its'[i].base = []
        · rw [if_pos hr, if_pos hr]; rfl
        · rw [if_neg hr, if_neg hr]
          have : ∀ l : List Nat, (∀ y ∈ l, y < its'.length) → (l.map s).find? (ansB its its'[i]) = (l.find? (ansB its' its'[i])).map s := by
            intro l
            induction l with
            | nil => intro _; rfl
            | cons y l ih =>
              intro hl
              have e : ansB its its'[i] (s y) = ansB its' its'[i] y := by unfold ansB; rw [h.date (hl y (by simp))]
              rw [List.map_cons, List.find?_cons, List.find?_cons, e, ih fun z hz => hl z (by simp [hz])]
              cases ansB its' its'[i] y <;> rfl
          rw [this _ fun x hx => (headsS_mem.1 hx).1]
theorem Pm.gh (h : Pm its its' s) {i : Nat} (hi : i < its'.length) : gh its (s i) = gh its' i := by
  unfold Y.gh; rw [h.par hi]
theorem Pm.pid (h : Pm its its' s) {i : Nat} (hi : i < its'.length) : pid its (s i) = pid its' i := by
  have hu : upI its' i = (parI its' i).1 := by unfold upI; rw [if_pos hi]
  unfold Y.pid
  rw [h.par hi]
  cases hp : parI its' i with
  | mk o g =>
    rw [hp] at hu
    cases o with
    | none => rfl
    | some k => exact h.id (upI_lt hu).2
theorem Pm.itP (h : Pm its its' s) {i : Nat} (hi : i < its'.length) : itP its (s i) = itP its' i := by
  unfold Y.itP; rw [h.id hi, h.date hi]
theorem Pm.ghL (h : Pm its its' s) (g : Bytes) : g ∈ ghL its its.length ↔ g ∈ ghL its' its'.length := by
  rw [ghL_mem, ghL_mem]
  constructor
  · rintro ⟨h1, j, hj, h2⟩
    obtain ⟨i, hi, rfl⟩ := h.on j hj
    exact ⟨h1, i, hi, by rw [← h.gh hi]; exact h2⟩
  · rintro ⟨h1, i, hi, h2⟩
    exact ⟨h1, s i, h.lt i hi, by rw [h.gh hi]; exact h2⟩
theorem ghD_spec (its : List It) (g : Bytes) : ∀ n, (∀ v, ghD its n g = some v → (∃ i, i < n ∧ gh its i = g ∧ dateAt its i = v) ∧ ∀ i, i < n → gh its i = g → v ≤ dateAt its i) ∧ (ghD its n g = none → ∀ i, i < n → gh its i ≠ g)
  | 0 => ⟨fun v h => by simp [ghD] at h, fun _ i hi => by omega⟩
  | n + 1 => by
    obtain ⟨h1, h2⟩ := ghD_spec its g n
    unfold ghD
    by_cases e : gh its n = g
    · rw [if_pos e]
      refine ⟨fun v hv => ?_, fun h => by cases h⟩
      obtain rfl := Option.some.inj hv
      cases hd : ghD its n g with
      | none =>
        refine ⟨⟨n, by omega, e, rfl⟩, fun i hi he => ?_⟩
        by_cases hin : i = n
        · subst hin; exact Int.le_refl _
        · exact absurd he (h2 hd i (by omega))
      | some u =>
        obtain ⟨⟨i, hi, h3, h4⟩, h5⟩ := h1 u hd
        unfold minD
        by_cases hlt : dateAt its n < u
        · simp only [hlt, if_true]
          refine ⟨⟨n, by omega, e, rfl⟩, fun x hx he => ?_⟩
          by_cases hxn : x = n
          · subst hxn; omega
          · have := h5 x (by omega) he; omega
        · simp only [hlt, if_false]
          refine ⟨⟨i, by omega, h3, h4⟩, fun x hx he => ?_⟩
          by_cases hxn : x = n
          · subst hxn; omega
          · exact h5 x (by omega) he
    · rw [if_neg e]
      refine ⟨fun v hv => ?_, fun h i hi => ?_⟩
      · obtain ⟨⟨i, hi, h3⟩, h5⟩ := h1 v hv
        refine ⟨⟨i, by omega, h3⟩, fun x hx he => ?_⟩
        by_cases hxn : x = n
        · subst hxn; exact absurd he e
        · exact h5 x (by omega) he
      · by_cases hin : i = n
        · subst hin; exact e
        · exact h2 h i (by omega)
theorem Pm.ghP (h : Pm its its' s) {g : Bytes} (hg : g ∈ Y.ghL its' its'.length) : ghP its g = ghP its' g := by
  unfold Y.ghP
  obtain ⟨h1, i0, hi0, hg0⟩ := (ghL_mem its' _ g).1 hg
  have key : ghD its its.length g = ghD its' its'.length g := by
    cases h2 : ghD its' its'.length g with
    | none => exact absurd hg0 ((ghD_spec its' g _).2 h2 i0 hi0)
    | some v =>
      cases h3 : ghD its its.length g with
      | none => exact absurd (by rw [h.gh hi0]; exact hg0) ((ghD_spec its g _).2 h3 (s i0) (h.lt i0 hi0))
      | some u =>
        obtain ⟨⟨i, hi, a1, a2⟩, a3⟩ := (ghD_spec its' g _).1 v h2
        obtain ⟨⟨j, hj, b1, b2⟩, b3⟩ := (ghD_spec its g _).1 u h3
        obtain ⟨x, hx, rfl⟩ := h.on j hj
        rw [h.gh hx] at b1
        rw [h.date hx] at b2
        have c1 := a3 x hx b1
        have c2 := b3 (s i) (h.lt i hi) (by rw [h.gh hi]; exact a1)
        rw [h.date hi] at c2
        congr 1; omega
  rw [key]
theorem Pm.kids (h : Pm its its' s) (p : Bytes) : kids its p = kids its' p := by
  have hn : ∀ {l : List It}, dist l → (Y.kids l p).Nodup := by
    intro l hl
    have := kids_nodup hl p
    unfold List.Nodup at this
    rw [List.pairwise_map] at this
    exact this.imp fun h e => h (by rw [e])
  have hm : ∀ b, b ∈ Y.kids its p ↔ b ∈ Y.kids its' p := by
    intro b
    rw [kids_mem, kids_mem]
    constructor
    · rintro (⟨j, hj, h1, rfl⟩ | ⟨h1, g, hg, rfl⟩)
      · obtain ⟨i, hi, rfl⟩ := h.on j hj
        exact .inl ⟨i, hi, by rw [← h.pid hi]; exact h1, h.itP hi⟩
      · have hg' := (h.ghL g).1 hg
        exact .inr ⟨h1, g, hg', h.ghP hg'⟩
    · rintro (⟨i, hi, h1, rfl⟩ | ⟨h1, g, hg', rfl⟩)
      · exact .inl ⟨s i, h.lt i hi, by rw [h.pid hi]; exact h1, (h.itP hi).symm⟩
      · exact .inr ⟨h1, g, (h.ghL g).2 hg', (h.ghP hg').symm⟩
  refine sorted_unique (lt := befP) ?_ ((List.perm_ext_iff_of_nodup (hn h.d) (hn h.d')).2 hm) (isortB_ok befP_irr befP_tr _).2 (isortB_ok befP_irr befP_tr _).2
  intro x hx y hy h1 h2
  exact kids_alone h.d hx hy (bef_tri h1 h2).2
theorem Pm.forest (h : Pm its its' s) : forestB its = forestB its' := by
  unfold forestB
  rw [show Y.kids its = Y.kids its' from funext h.kids, h.len]
theorem Pm.rootI (h : Pm its its' s) : ∀ (f i : Nat), i < its'.length → rootI its f (s i) = rootI its' f i
  | 0, i, hi => h.id hi
  | f + 1, i, hi => by
    have hu : upI its' i = (parI its' i).1 := by unfold upI; rw [if_pos hi]
    unfold Y.rootI
    rw [h.gh hi, h.par hi]
    by_cases hg : Y.gh its' i ≠ []
    · rw [if_pos hg, if_pos hg]
    · rw [if_neg hg, if_neg hg]
      cases hp : (parI its' i).1 with
      | none => exact h.id hi
      | some k =>
        rw [hp] at hu
        exact h.rootI f k (upI_lt hu).2
theorem Pm.root (h : Pm its its' s) (c : Bytes) : rootB its c = rootB its' c := by
  unfold rootB
  rw [h.find c]
  cases hf : findI its' c with
  | some i =>
    obtain ⟨hi, -⟩ := findI_idAt hf
    show Y.rootI its its.length (s i) = Y.rootI its' its'.length i
    rw [h.rootI _ i hi, h.len]
  | none =>
    show (if c ∈ Y.ghL its its.length then c else []) = (if c ∈ Y.ghL its' its'.length then c else [])
    by_cases hg : c ∈ Y.ghL its' its'.length
    · rw [if_pos hg, if_pos ((h.ghL c).2 hg)]
    · rw [if_neg hg, if_neg fun h' => hg ((h.ghL c).1 h')]
end
end Go.Proofs.Y

/- TMf: thread: ThreadShuffles. -/
namespace Go.Proofs.Y
open Go Go.HL Go.Proofs

section
variable {w w' : World} {its : List It} {rvs : List Value} {next : Value → World → Prop} {QP : List PanicEntry → World → Prop}
theorem Sl.takeN {sz : Nat} {oa : Option Addr} {n c m : Nat} {xs : List Value} (h : Sl w (.slice oa n c) sz n xs) (hm : m ≤ n) : Sl w (.slice oa m c) sz m (xs.take (m * sz)) := by
  obtain ⟨hl, a, c', e, hc, hcell⟩ := h
  simp only [Value.slice.injEq] at e
  obtain ⟨rfl, -, rfl⟩ := e
  have hms : m * sz ≤ n * sz := Nat.mul_le_mul_right sz hm
  refine ⟨by rw [List.length_take]; omega, oa, c, rfl, by omega, fun h => ?_⟩
  obtain ⟨b, o, e, h2⟩ := hcell (by omega)
  refine ⟨b, o, e, fun j hj => ?_⟩
  rw [h2 j (by omega), List.getElem?_take_of_lt (by omega)]
theorem Sl.dropN {sz : Nat} {oa : Option Addr} {n c m : Nat} {xs : List Value} (h : Sl w (.slice oa n c) sz n xs) (hm : m ≤ n) : Sl w (.slice (if c = m then oa else oa.map (·.add (m * sz))) (n - m) (c - m)) sz (n - m) (xs.drop (m * sz)) := by
  obtain ⟨hl, a, c', e, hc, hcell⟩ := h
  simp only [Value.slice.injEq] at e
  obtain ⟨rfl, -, rfl⟩ := e
  have hms : m * sz ≤ n * sz := Nat.mul_le_mul_right sz hm
  have hsub : (n - m) * sz = n * sz - m * sz := Nat.sub_mul n m sz
  refine ⟨by rw [List.length_drop]; omega, _, c - m, rfl, by omega, fun h => ?_⟩
  obtain ⟨b, o, rfl, h2⟩ := hcell (by omega)
  rw [if_neg (by omega)]
  refine ⟨b, o + m * sz, by simp [Addr.add], fun j hj => ?_⟩
  rw [Nat.add_assoc, h2 (m * sz + j) (by omega), List.getElem?_drop]
theorem rows_split {α : Type} {f : α → List Value} {sz : Nat} (hf : ∀ x, (f x).length = sz) : ∀ (m : Nat) (l : List α), (rows f l).take (m * sz) = rows f (l.take m) ∧ (rows f l).drop (m * sz) = rows f (l.drop m)
  | 0, l => by simp [rows]
  | m + 1, [] => by simp [rows]
  | m + 1, x :: l => by
    obtain ⟨h1, h2⟩ := rows_split hf m l
    have e : (m + 1) * sz = (f x).length + m * sz := by rw [hf, Nat.add_mul]; omega
    rw [rows_cons, e, List.take_length_add_append, List.drop_length_add_append, h1, h2, List.take_succ_cons, List.drop_succ_cons, rows_cons]
    exact ⟨rfl, rfl⟩
/-- items with their slices -/
structure Ps (w : World) (v : Value) (ps : List (It × Value)) : Prop where
  sl : Sl w v 5 ps.length (rows cellsP ps)
  rf : ∀ p ∈ ps, Sl w p.2 1 p.1.refs.length (p.1.refs.map str)
theorem zip_maps {α β : Type} : ∀ ps : List (α × β), (ps.map (·.1)).zip (ps.map (·.2)) = ps
  | [] => rfl
  | p :: l => by simp [zip_maps l]
theorem Ps.to {v : Value} {ps : List (It × Value)} (h : Ps w v ps) : Its w v (ps.map (·.1)) (ps.map (·.2)) := by
  refine ⟨by simp, ?_, fun i h1 h2 => ?_⟩
  · rw [zip_maps, List.length_map]; exact h.sl
  · simp only [List.length_map] at h1
    have := h.rf _ (List.getElem_mem h1)
    simpa using this
theorem Ps.of {v : Value} (hK : Its w v its rvs) : Ps w v (its.zip rvs) := by
  have hz : (its.zip rvs).length = its.length := by rw [List.length_zip, hK.len]; omega
  refine ⟨by rw [hz]; exact hK.sl, fun p hp => ?_⟩
  obtain ⟨j, hj, e⟩ := List.getElem_of_mem hp
  rw [List.getElem_zip] at e
  rw [← e]
  exact hK.refs j (by omega) (by rw [hK.len]; omega)
theorem cells_one {ps : List (It × Value)} (h : ∀ p ∈ ps, Sl w p.2 1 p.1.refs.length (p.1.refs.map str)) : ∀ u ∈ rows cellsP ps, u.oneCell' = true := by
  intro u hu
  unfold rows at hu
  obtain ⟨p, hp, hu⟩ := List.mem_flatMap.1 hu
  obtain ⟨a, c, ea, -⟩ := (h p hp).form
  simp [cellsP, It.cells, ea] at hu
  rcases hu with rfl | rfl | rfl | rfl | rfl <;> rfl
theorem and20 (n : Int) : ∃ y : Nat, y ≤ 1048575 ∧ intV .and .i64 n 1048575 = .int .i64 (y : Int) := by
  refine ⟨(BitVec.ofInt 64 n).toNat &&& 1048575, Nat.and_le_right, ?_⟩
  have h2 : (BitVec.ofInt 64 n).toNat &&& 1048575 ≤ 1048575 := Nat.and_le_right
  have h3 := bv_nat (n := 64) (a := 1048575) (by decide)
  have : intV .and .i64 n 1048575 = .int .i64 (IntKind.i64.wrap (((BitVec.ofInt 64 n).toNat &&& 1048575 : Nat) : Int)) := by
    simp only [intV, BitVec.toNat_and]
    rw [show (BitVec.ofInt IntKind.i64.bits 1048575).toNat = 1048575 from h3]
    rfl
  rw [this, w64 (by omega) (by omega)]
theorem shuffles_ {v : Value} {n : Int} {c : Bytes} (hK : Its w v its rvs) (hml : its.length ≤ 9223372036854775807) (hn64 : -9223372036854775808 ≤ n ∧ n ≤ 9223372036854775807) (k : ∀ w', Mod none' w w' → next (.bool true) w') : callK Try.prog 6 [v, .int .i64 n, str c] w next QP := by
  refine q6 rfl ?_
  obtain ⟨va, vc, rfl, -, -⟩ := hK.sl.form
  unfold h6
  try simp only [go_sem]
  refine small_ ?_
  intro w1 m1
  try simp only [go_sem]
  refine few_ (hK.up m1) hml ?_
  intro b w2 hb m2
  have m02 := m1.trans' m2
  cases b with
  | false =>
    try simp only [go_sem]
    exact k w2 m02
  | true =>
    have hP := hb rfl
    have hd := hP.d
    have hne := hP.e
    have hn40 := hP.n
    by_cases hl0 : its.length = 0
    · have c1 : decide ((its.length : Int) = 0) = true := by rw [hl0]; rfl
      try simp only [go_sem, c1]
      exact k w2 m02
    · have c1 : decide ((its.length : Int) = 0) = false := decide_eq_false (by omega)
      try simp only [go_sem, c1]
      unfold h6_1
      obtain ⟨y, hy, ey⟩ := and20 n
      obtain ⟨m, hm⟩ : ∃ m, m = y % its.length := ⟨_, rfl⟩
      have hml' : m < its.length := by rw [hm]; exact Nat.mod_lt _ (by omega)
      have er : ((y : Int).tmod (its.length : Int)) = (m : Int) := by rw [hm]; exact (Int.ofNat_tmod y its.length).symm
      have hsl := (hK.up m02).sl
      obtain ⟨_, _, e, hvc, -⟩ := hsl.form
      simp only [Value.slice.injEq] at e
      obtain ⟨-, -, rfl⟩ := e
      try simp only [go_sem, ey, er, Int.toNat_natCast]
      refine ⟨by omega, ?_⟩
      repeat refine ⟨⟨by omega, by omega⟩, ?_⟩
      obtain ⟨ps, hps⟩ : ∃ ps, ps = its.zip rvs := ⟨_, rfl⟩
      have hpl : ps.length = its.length := by rw [hps, List.length_zip, hK.len]; omega
      have hP2 := Ps.of (hK.up m02)
      rw [← hps] at hP2
      have hmap : ps.map (·.1) = its := by rw [hps]; exact List.map_fst_zip (by rw [hK.len]; omega)
      have hslp := hP2.sl
      rw [hpl] at hslp
      have sld := Sl.dropN hslp (Nat.le_of_lt hml')
      have slt := Sl.takeN hslp (Nat.le_of_lt hml')
      rw [(rows_split cellsP_len m ps).2] at sld
      rw [(rows_split cellsP_len m ps).1] at slt
      have hrd : ∀ p ∈ ps.drop m, Sl w2 p.2 1 p.1.refs.length (p.1.refs.map str) := fun p hp => hP2.rf p (List.mem_of_mem_drop hp)
      have hrt : ∀ p ∈ ps.take m, Sl w2 p.2 1 p.1.refs.length (p.1.refs.map str) := fun p hp => hP2.rf p (List.mem_of_mem_take hp)
      refine bsl0 sl22 ?_
      intro b18 w3 hb18 own18 m3 s3
      have hd2 : w2.drew.heap.size = w2.heap.size := rfl
      have m23 := (Mod.drew none' w2).trans' m3
      refine append_ sl22 own18 (sld.mod m23 fun _ _ h => h) (cells_one hrd) (by omega) (by unfold maxLen; omega) ?_
      intro v4 w4 own4 m4 hf4 _
      have hv4 : ∀ q, v4.ownBlock = some q → w2.heap.size ≤ q := by
        intro q hq
        rcases hf4 q hq with h | h
        · have h : some b18 = some q := h
          injection h with h
          omega
        · omega
      have m24 : Mod none' w2 w4 := m23.trans m4 fun x hx e => by
        have e : some b18 = some x := e
        injection e with e
        omega
      refine append_ sl22 own4 (slt.mod m24 fun _ _ h => h) (cells_one hrt) (by omega) (by unfold maxLen; omega) ?_
      intro v5 w5 own5 m5 hf5 _
      have hv5 : ∀ q, v5.ownBlock = some q → w2.heap.size ≤ q := by
        intro q hq
        rcases hf5 q hq with h | h
        · exact hv4 q h
        · have := m24.size; omega
      have m25 : Mod none' w2 w5 := m24.trans m5 fun x hx e => by
        have := hv4 x e
        omega
      obtain ⟨tp, htp⟩ : ∃ tp, tp = ps.drop m ++ ps.take m := ⟨_, rfl⟩
      have htl : tp.length = its.length := by rw [htp, List.length_append, List.length_drop, List.length_take]; omega
      have hperm : tp.Perm ps := by
        rw [htp]
        exact List.perm_append_comm.trans (by rw [List.take_append_drop])
      have own5' : HL.Own w5 v5 34 5 its.length (rows cellsP tp) := by
        have e : 0 + (its.length - m) + m = its.length := by omega
        rw [e, List.nil_append, ← rows_app, ← htp] at own5
        exact own5
      have hT : Ps w5 v5 tp := ⟨by rw [htl]; exact own5'.sl, fun p hp => (hP2.rf p (hperm.mem_iff.1 hp)).mod m25 fun _ _ h => h⟩
      have m05 := m02.trans' m25
      obtain ⟨g5, c5, rfl, -, -⟩ := own5'.form
      try simp only [go_sem]
      rw [w64 (by omega) (by omega)]
      refine loopN its.length (fun j σ w' => σ 0 = .slice va its.length vc ∧ σ 2 = str c ∧ σ 7 = .bool true ∧ σ 9 = .slice g5 its.length c5 ∧ σ 11 = .int .i64 ((its.length : Int) - 1 - j) ∧ (∃ vb, σ 10 = vb ∧ HL.Own w' vb 34 5 j (rows cellsP (tp.reverse.take j)) ∧ ∀ q, vb.ownBlock = some q → w5.heap.size ≤ q) ∧ Mod none' w5 w') ⟨0, by omega, rfl, rfl, rfl, rfl, by show Value.int _ _ = _; simp, ⟨.slice none 0 0, rfl, HL.Own.nil w5 34 5, fun q hq => by cases hq⟩, Mod.refl _ _⟩ ?_
      rintro j σ w6 hj ⟨t0, t2, t7, t9, t11, ⟨vb, t10, ownb, hvb⟩, m6⟩
      have hT6 : Ps w6 (.slice g5 its.length c5) tp := ⟨hT.sl.mod m6 fun _ _ h => h, fun p hp => (hT.rf p hp).mod m6 fun _ _ h => h⟩
      unfold h6_2
      try simp only [go_sem, t0, t2, t7, t9, t10, t11]
      refine ⟨fun hc => ?_, fun hc => ?_⟩
      · have hjl : j < its.length := by
          have := of_decide_eq_true hc
          omega
        obtain ⟨i, hi⟩ : ∃ i, i = its.length - 1 - j := ⟨_, rfl⟩
        have hii : (its.length : Int) - 1 - j = (i : Int) := by omega
        have hit : i < tp.length := by omega
        rw [hii] at t11
        obtain ⟨ga, oa, ca, ea, -, hca⟩ := hT6.sl.get cellsP_len rfl (by omega)
        simp only [Value.slice.injEq] at ea
        obtain ⟨rfl, -, rfl⟩ := ea
        have hrfi := hT6.rf _ (List.getElem_mem hit)
        obtain ⟨ra, rc, hra, -⟩ := hrfi.form
        have y1 : loadN w6 ⟨ga, oa + i * 5, none⟩ 5 = (cellsP tp[i]).toArray := loadN_of rfl fun q hq => by rw [e_add]; exact hca i q hit hq
        have y2 : (∀ q, q < 5 → (w6.cell? ⟨ga, oa + i * 5 + q, none⟩).isSome = true) = True := eq_true fun q hq => by rw [hca i q hit hq]; simp [cellsP, It.cells, hq]
        unfold h6_3
        try simp only [go_sem, t0, t2, t7, t9, t10, t11, y1, y2]
        repeat refine ⟨⟨by omega, by omega⟩, ?_⟩
        refine bsl1 (cs := cellsP tp[i]) sl22 (by rfl) rfl (by omega) ?_
        intro b7 w7 hb7 own7 bk7 m7 s7
        try simp only [go_sem, t0, t2, t7, t9, t10, t11]
        have hone : ∀ u ∈ cellsP tp[i], u.oneCell' = true := by
          intro u hu
          simp [cellsP, It.cells, hra] at hu
          rcases hu with rfl | rfl | rfl | rfl | rfl <;> rfl
        refine append_ sl22 (ownb.mod m7 fun _ _ h => h) own7.sl hone (by omega) (by unfold maxLen; omega) ?_
        intro v8 w8 own8 m8 hf8 _
        have hv8 : ∀ q, v8.ownBlock = some q → w5.heap.size ≤ q := by
          intro q hq
          rcases hf8 q hq with h | h
          · exact hvb q h
          · have := m6.size; have := m7.size; omega
        have m58 : Mod none' w5 w8 := (m6.trans' m7).trans m8 fun x hx e => by
          have := hvb x e
          omega
        have hrw : rows cellsP (tp.reverse.take j) ++ cellsP tp[i] = rows cellsP (tp.reverse.take (j + 1)) := by
          have hjr : j < tp.reverse.length := by rw [List.length_reverse]; omega
          rw [List.take_succ_eq_append_getElem hjr, rows_app, rows_cons, rows_nil, List.append_nil, List.getElem_reverse]
          congr 3; omega
        rw [hrw] at own8
        unfold h6_4
        try simp only [go_sem, t0, t2, t7, t9, t11]
        rw [w64 (by omega) (by omega)]
        have h11 : (i : Int) - 1 = (its.length : Int) - 1 - ((j + 1 : Nat) : Int) := by omega
        rw [h11]
        refine ⟨j + 1, by omega, by omega, rfl, ⟨v8, rfl, own8, hv8⟩, m58⟩
      · have hjl : j = its.length := by
          have := of_decide_eq_false hc
          omega
        obtain ⟨bp, hbp⟩ : ∃ bp, bp = tp.reverse := ⟨_, rfl⟩
        have hbl : bp.length = its.length := by rw [hbp, List.length_reverse, htl]
        have hpb : bp.Perm tp := by rw [hbp]; exact List.reverse_perm tp
        rw [hjl, ← hbp, List.take_of_length_le (by omega)] at ownb
        have hB : Ps w6 vb bp := ⟨by rw [hbl]; exact ownb.sl, fun p hp => hT6.rf p (hpb.mem_iff.1 hp)⟩
        have m06 := m05.trans' m6
        obtain ⟨its2, hits2⟩ : ∃ l, l = tp.map (·.1) := ⟨_, rfl⟩
        obtain ⟨its3, hits3⟩ : ∃ l, l = bp.map (·.1) := ⟨_, rfl⟩
        have hp2 : its2.Perm its := by rw [hits2, ← hmap]; exact hperm.map _
        have hp3 : its3.Perm its := by rw [hits3]; exact (hpb.map _).trans (by rw [← hits2]; exact hp2)
        have fromP : ∀ l : List It, l.Perm its → dist l ∧ ne0 l ∧ szI l ∧ l.length ≤ 40 := fun l hl =>
          ⟨(hl.map _).nodup_iff.2 hd, fun x hx => hne x (hl.mem_iff.1 hx), fun x hx => hP.sz x (hl.mem_iff.1 hx), by rw [hl.length_eq]; omega⟩
        obtain ⟨d2, n2, z2, l2⟩ := fromP _ hp2
        obtain ⟨d3, n3, z3, l3⟩ := fromP _ hp3
        obtain ⟨s2, pm2⟩ := Pm.of hd hp2
        obtain ⟨s3', pm3⟩ := Pm.of hd hp3
        have hI2 := hT6.to
        have hI3 := hB.to
        rw [← hits2] at hI2
        rw [← hits3] at hI3
        have hlen := forest_len hd hne
        unfold h6_5
        try simp only [go_sem, t0, t2, t7, t9, t10]
        refine Forest_ hd hne (hK.up m06) hP.sz (by omega) ?_
        intro f7 w7 own7 hf7 m7
        try simp only [go_sem, t0, t2, t7, t9, t10]
        refine Forest_ d2 n2 (hI2.up m7) z2 (by omega) ?_
        intro f8 w8 own8 hf8 m8
        unfold l6_11
        try simp only [go_sem, t0, t2, t7, t9, t10]
        refine same_ own8.sl ((own7.sl.mod m8 fun _ _ h => h)) (by rw [← pm2.forest]; omega) ?_
        intro w9 m9
        rw [decide_eq_true pm2.forest.symm]
        unfold l6_10
        try simp only [go_sem, t0, t2, t7, t9, t10]
        have m79 := (m7.trans' m8).trans' m9
        refine Forest_ d3 n3 (hI3.up m79) z3 (by omega) ?_
        intro f10 w10 own10 hf10 m10
        unfold l6_9
        try simp only [go_sem, t0, t2, t7, t9, t10]
        refine same_ own10.sl ((own7.sl.mod ((m8.trans' m9).trans' m10) fun _ _ h => h)) (by rw [← pm3.forest]; omega) ?_
        intro w11 m11
        rw [decide_eq_true pm3.forest.symm]
        unfold l6_8
        try simp only [go_sem, t0, t2, t7, t9, t10]
        have m711 := (m79.trans' m10).trans' m11
        refine Root_ d3 n3 (hI3.up m711) z3 (by omega) ?_
        intro w12 m12
        unfold l6_7
        try simp only [go_sem, t0, t2, t7, t9, t10]
        have m612 := m711.trans' m12
        refine Root_ hd hne ((hK.up m06).up m612) hP.sz (by omega) ?_
        intro w13 m13
        rw [pm3.root c]
        unfold l6_6
        try simp only [go_sem, t7]
        exact k w13 ((m06.trans' m612).trans' m13)
end
end Go.Proofs.Y
