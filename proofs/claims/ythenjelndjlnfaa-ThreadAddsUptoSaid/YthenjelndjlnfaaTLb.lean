/- TLb: thread: slices of records spelt out; few; finding. -/
import Derived.Test.YthenjelndjlnfaaTLaw
set_option linter.unusedSimpArgs false
set_option linter.unusedVariables false
set_option maxRecDepth 100000
namespace Go.Proofs.Y
open Go Go.HL Go.Proofs

theorem fill_rec {place : Nat → Option (Nat × Nat)} {cells : Array Value} {i o n : Nat} {v : Value} {cs : List Value} {rest : List (Nat × Value)} (hp : place i = some (o, n)) (hv : v.cells = cs.toArray) (hl : cs.length = n) (ho : o + n ≤ cells.size) :
    Instr.fill place cells ((i, v) :: rest) = Instr.fill place (cells.toList.take o ++ cs ++ cells.toList.drop (o + n)).toArray rest := by
  rw [Instr.fill, hp]
  simp only [hv, List.size_toArray, hl]
  rw [if_neg (by simp; omega)]
  congr 1
  rw [← Array.foldl_toList]
  simp only [Array.toList_zipIdx, List.toList_toArray]
  have key : ∀ (l : List Value) (k : Nat) (Z : Array Value), o + k + l.length ≤ Z.size → (l.zipIdx k).foldl (fun cs (x : Value × Nat) => cs.setIfInBounds (o + x.2) x.1) Z = (Z.toList.take (o + k) ++ l ++ Z.toList.drop (o + k + l.length)).toArray := by
    intro l
    induction l with
    | nil => intro k Z hk; simp
    | cons x r ih =>
      intro k Z hk
      rw [List.zipIdx_cons, List.foldl_cons, ih _ _ (by simp at hk ⊢; omega)]
      apply Array.toList_inj.1
      apply List.ext_getElem?
      intro j
      simp only [List.length_cons] at hk
      simp only [Array.toList_setIfInBounds, List.append_assoc, List.getElem?_append, List.length_take, List.length_set, Array.length_toList, List.getElem?_take, List.getElem?_set, List.getElem?_drop, List.length_cons, List.getElem?_cons]
      repeat' split
      all_goals first
        | rfl
        | (exfalso; omega)
        | (congr 1; omega)
        | (exfalso; simp_all; omega)
  have := key cs 0 cells (by omega)
  simpa [hl] using this


theorem fill_all {sz : Nat} (h0 : 0 < sz) : ∀ (ls : List (Value × List Value)) (k : Nat) (cells : Array Value), (∀ p ∈ ls, p.1.cells = p.2.toArray ∧ p.2.length = sz) → cells.size = (k + ls.length) * sz →
    Instr.fill (fun i => some (i * sz, sz)) cells ((ls.zipIdx k).map fun p => (p.2, p.1.1)) = some (cells.toList.take (k * sz) ++ ls.flatMap (·.2)).toArray
  | [], k, cells, _, hs => by
    simp only [List.zipIdx_nil, List.map_nil, Instr.fill, List.flatMap_nil, List.append_nil]
    rw [List.take_of_length_le (by simp [hs])]
  | p :: ls, k, cells, h, hs => by
    obtain ⟨h1, h2⟩ := h p (by simp)
    simp only [List.length_cons] at hs
    have hle : k * sz + sz ≤ cells.size := by
      rw [hs, show k + (ls.length + 1) = (k + 1) + ls.length by omega, Nat.add_mul, Nat.add_mul]; omega
    rw [List.zipIdx_cons, List.map_cons, fill_rec (o := k * sz) (n := sz) (cs := p.2) rfl h1 h2 hle]
    have hsz : ((cells.toList.take (k * sz) ++ p.2 ++ cells.toList.drop (k * sz + sz)).toArray).size = cells.size := by
      simp only [List.size_toArray, List.length_append, List.length_take, List.length_drop, Array.length_toList, h2]; omega
    rw [fill_all h0 ls (k + 1) _ (fun q hq => h q (by simp [hq])) (by rw [hsz, hs]; congr 1; omega)]
    congr 1
    have e : (k + 1) * sz = (cells.toList.take (k * sz) ++ p.2).length := by
      simp only [List.length_append, List.length_take, Array.length_toList, h2]
      rw [Nat.add_mul, Nat.min_eq_left (by omega)]; omega
    rw [e, List.take_left, List.flatMap_cons, List.append_assoc]
section
variable {P : Program} {w : World} {next : Value → World → Prop} {QP : List PanicEntry → World → Prop}
theorem bslR {t e sz by_ n : Nat} {z : Value} (ht : SlTy P t e sz by_ z) {parts : List (Nat × Value)} (ls : List (Value × List Value)) (h : ∀ p ∈ ls, p.1.cells = p.2.toArray ∧ p.2.length = sz) (hn : ls.length = n) (hp : parts = ls.zipIdx.map fun p => (p.2, p.1.1)) (hb : n * sz ≤ 16777216)
    (k : ∀ b w', w.heap.size = b → HL.Own w' (.slice (some ⟨b, 0, none⟩) n n) e sz n (ls.flatMap (·.2)) → Mod none' w w' → w'.heap.size = b + 1 → next (.slice (some ⟨b, 0, none⟩) n n) w') : bslK P t n parts w next QP := by
  subst hp hn
  have hl : ∀ ls : List (Value × List Value), (∀ p ∈ ls, p.1.cells = p.2.toArray ∧ p.2.length = sz) → (ls.flatMap (·.2)).length = ls.length * sz := by
    intro ls
    induction ls with
    | nil => intro _; simp
    | cons p ls ih =>
      intro h
      rw [List.flatMap_cons, List.length_append, ih fun q hq => h q (by simp [hq]), (h p (by simp)).2, List.length_cons, Nat.add_mul]; omega
  refine bsl_ ht (cs := ls.flatMap (·.2)) (hl ls h) hb ?_ (fun b w' h1 h2 _ h3 h4 => k b w' h1 h2 h3 h4)
  rw [fill_all ht.pos ls 0 _ h (by simp)]
  simp
end
section
variable {w w' : World} {its : List It} {rvs : List Value} {next : Value → World → Prop} {QP : List PanicEntry → World → Prop}
/-- a slice of items, spelt out -/
theorem bslI {ps : List (It × Value)} {n : Nat} {parts : List (Nat × Value)} (hps : ps.length = n) (hn : n ≤ 1000) (hp : parts = (ps.map fun p => (p.1.v p.2, p.1.cells p.2)).zipIdx.map fun p => (p.2, p.1.1)) (hr : ∀ i (h : i < ps.length), Sl w ps[i].2 1 ps[i].1.refs.length (ps[i].1.refs.map str))
    (k : ∀ v w', Its w' v (ps.map (·.1)) (ps.map (·.2)) → Mod none' w w' → next v w') : bslK Try.prog 22 n parts w next QP := by
  subst hps
  refine bslR sl22 (ps.map fun p => (p.1.v p.2, p.1.cells p.2)) ?_ (by simp) hp (by omega) ?_
  · intro p hp
    obtain ⟨q, hq, rfl⟩ := List.mem_map.1 hp
    exact ⟨rfl, rfl⟩
  intro b w1 hb own m _
  refine k _ w1 ⟨by simp, ?_, fun i h1 h2 => ?_⟩ m
  · have e : (List.map (·.1) ps).zip (List.map (·.2) ps) = ps := by
      clear hr k own hp hn
      induction ps with
      | nil => rfl
      | cons p ps ih => simp only [List.map_cons, List.zip_cons_cons]; rw [ih]
    rw [e, List.length_map]
    have e2 : (ps.map fun p => (p.1.v p.2, p.1.cells p.2)).flatMap (·.2) = rows cellsP ps := by
      rw [List.flatMap_map]; rfl
    rw [← e2]; exact own.sl
  · have h3 : i < ps.length := by simpa using h1
    have := (hr i h3).mod m fun _ _ h => h
    simpa using this
/-- a slice of nodes, spelt out -/
theorem bslN {ns : List Nd} {n : Nat} {parts : List (Nat × Value)} (hns : ns.length = n) (hn : n ≤ 1000) (hp : parts = (ns.map fun q => (Value.agg q.cells.toArray, q.cells)).zipIdx.map fun p => (p.2, p.1.1))
    (k : ∀ v w', Sl w' v 4 ns.length (rows Nd.cells ns) → Mod none' w w' → next v w') : bslK Try.prog 25 n parts w next QP := by
  subst hns
  refine bslR sl25 (ns.map fun q => (Value.agg q.cells.toArray, q.cells)) ?_ (by simp) hp (by omega) ?_
  · intro p hp
    obtain ⟨q, hq, rfl⟩ := List.mem_map.1 hp
    exact ⟨rfl, rfl⟩
  intro b w1 hb own m _
  refine k _ w1 ?_ m
  have e2 : (ns.map fun q => (Value.agg q.cells.toArray, q.cells)).flatMap (·.2) = rows Nd.cells ns := by
    rw [List.flatMap_map]; rfl
  rw [← e2]; exact own.sl
/-- a slice of texts, spelt out -/
theorem bslT {l : List Bytes} {n : Nat} {parts : List (Nat × Value)} (hl : l.length = n) (hn : n ≤ 1000) (hp : parts = (l.map fun q => (str q, [str q])).zipIdx.map fun p => (p.2, p.1.1))
    (k : ∀ b w', Sl w' (.slice (some ⟨b, 0, none⟩) n n) 1 l.length (l.map str) → Mod none' w w' → next (.slice (some ⟨b, 0, none⟩) n n) w') : bslK Try.prog 32 n parts w next QP := by
  subst hl
  refine bslR sl32 (l.map fun q => (str q, [str q])) ?_ (by simp) hp (by omega) ?_
  · intro p hp
    obtain ⟨q, hq, rfl⟩ := List.mem_map.1 hp
    exact ⟨rfl, rfl⟩
  intro b w1 hb own m _
  refine k _ w1 ?_ m
  have e2 : (l.map fun q => (str q, [str q])).flatMap (·.2) = l.map str := by
    rw [List.flatMap_map]; exact rows_one l
  rw [← e2]; exact own.sl

/-! ### few -/
structure fewP (its : List It) : Prop where
  n : its.length ≤ 40
  d : dist its
  e : ne0 its
  z : ∀ x ∈ its, x.refs.length ≤ 20 ∧ x.base.length ≤ 200
theorem fewP.sz (h : fewP its) : szI its := fun x hx => by
  have := h.z x hx
  omega
theorem distinct_ {v : Value} (hK : Its w v its rvs) (hn : its.length ≤ 40) (k : ∀ b w', (b = true → dist its ∧ ne0 its) → Mod none' w w' → next (.bool b) w') : callvK Try.prog (.func (.func 26) #[] #[]) [v] w next QP := by
  refine r26 rfl ?_
  obtain ⟨va, vc, rfl, -, -⟩ := hK.sl.form
  unfold h26
  try simp only [go_sem]
  refine loopN its.length (fun i τ w' => τ 0 = .slice va its.length vc ∧ τ 3 = .int .i64 i ∧ (∀ x, x < i → ∃ h : x < its.length, its[x].id ≠ []) ∧ (∀ x y (hx : x < its.length) (hy : y < its.length), x < i → y < x → its[y].id ≠ its[x].id) ∧ Mod none' w w') ⟨0, by omega, rfl, rfl, fun x hx => by omega, fun x y _ _ hx => by omega, Mod.refl _ _⟩ ?_
  rintro i τ w1 hi ⟨t0, t3, h1, h2, m1⟩
  unfold h26_1
  try simp only [go_sem, t0, t3]
  refine ⟨fun hlt => ?_, fun hge => ?_⟩
  · have hil : i < its.length := by
      have := of_decide_eq_true hlt
      omega
    obtain ⟨g, o, rfl⟩ := hK.addr (by omega)
    have at' : ∀ w', Mod none' w w' → ∀ j (hj : j < its.length), w'.cell? ⟨g, o + j * 5, none⟩ = some (str its[j].id) := fun w' m j hj => by
      obtain ⟨rv, -, ax⟩ := hK.at hj
      exact m.cell ax.c0 fun h => h
    have xi := at' w1 m1 i hil
    unfold h26_2
    try simp only [go_sem, t0, t3, xi]
    repeat refine ⟨⟨by omega, by omega⟩, ?_⟩
    refine ⟨fun he => ?_, fun hne => ?_⟩
    · try simp only [go_sem]
      exact k false w1 (fun h => by cases h) m1
    · have hne : its[i].id ≠ [] := by simpa using hne
      unfold h26_3
      try simp only [go_sem, t0, t3]
      refine loopN i (fun q τ w' => τ 0 = .slice (some ⟨g, o, none⟩) its.length vc ∧ τ 3 = .int .i64 i ∧ τ 4 = .int .i64 q ∧ (∀ y (hy : y < its.length), y < q → its[y].id ≠ its[i].id) ∧ Mod none' w w') ⟨0, by omega, t0, t3, rfl, fun y _ hy => by omega, m1⟩ ?_
      rintro q τ w2 hq ⟨t0, t3, t4, h3, m2⟩
      unfold h26_4
      try simp only [go_sem, t0, t3, t4]
      refine ⟨fun hlt2 => ?_, fun hge2 => ?_⟩
      · have hqi : q < i := by
          have := of_decide_eq_true hlt2
          omega
        have xi := at' w2 m2 i hil
        have xq := at' w2 m2 q (by omega)
        unfold h26_5
        try simp only [go_sem, t0, t3, t4, xi, xq]
        repeat refine ⟨⟨by omega, by omega⟩, ?_⟩
        refine ⟨fun he => ?_, fun hne2 => ?_⟩
        · try simp only [go_sem]
          exact k false w2.drew (fun h => by cases h) (m2.trans' (Mod.drew _ _))
        · have hne2 : its[q].id ≠ its[i].id := by simpa using hne2
          unfold h26_6
          try simp only [go_sem, t0, t3, t4]
          rw [w64 (by omega) (by omega)]
          have m3 := m2.trans' (Mod.drew none' w2)
          have h4 : ∀ y (hy : y < its.length), y < q + 1 → its[y].id ≠ its[i].id := by
            intro y hy hyq
            by_cases e : y = q
            · subst e; exact hne2
            · exact h3 y hy (by omega)
          refine ⟨q + 1, by omega, by omega, ?_⟩
          (repeat' first | assumption | rfl | omega | apply And.intro)
      · have hqi : q = i := by
          have := of_decide_eq_false hge2
          omega
        subst hqi
        try simp only [go_sem]
        unfold h26_7
        try simp only [go_sem, t0, t3]
        rw [w64 (by omega) (by omega)]
        have h5 : ∀ x, x < q + 1 → ∃ h : x < its.length, its[x].id ≠ [] := by
          intro x hx
          by_cases e : x = q
          · subst e; exact ⟨hil, hne⟩
          · exact h1 x (by omega)
        have h6 : ∀ x y (hx : x < its.length) (hy : y < its.length), x < q + 1 → y < x → its[y].id ≠ its[x].id := by
          intro x y hx hy hxq hyx
          by_cases e : x = q
          · subst e; exact h3 y hy hyx
          · exact h2 x y hx hy (by omega) hyx
        refine ⟨q + 1, by omega, by omega, ?_⟩
        (repeat' first | assumption | rfl | omega | apply And.intro)
  · have hil : i = its.length := by
      have := of_decide_eq_false hge
      omega
    subst hil
    unfold h26_8
    try simp only [go_sem]
    refine k true w1 (fun _ => ⟨?_, fun x hx => ?_⟩) m1
    · unfold dist List.Nodup
      rw [List.pairwise_map, List.pairwise_iff_getElem]
      intro x y hx hy hxy
      exact h2 y x hy hx hy hxy
    · obtain ⟨i, hi, rfl⟩ := List.getElem_of_mem hx
      exact (h1 i hi).2
theorem few_ {v : Value} (hK : Its w v its rvs) (hml : its.length ≤ 9223372036854775807) (k : ∀ b w', (b = true → fewP its) → Mod none' w w' → next (.bool b) w') : callvK Try.prog (.func (.func 10) #[] #[]) [v] w next QP := by
  refine r10 rfl ?_
  obtain ⟨va, vc, rfl, -, -⟩ := hK.sl.form
  unfold h10
  by_cases hn : its.length ≤ 40
  · have e1 : decide ((40 : Int) < (its.length : Int)) = false := by simp; omega
    try simp only [go_sem, e1]
    refine distinct_ hK hn ?_
    intro b w1 hb m1
    try simp only [go_sem]
    cases b with
    | false =>
      try simp only [go_sem]
      exact k false w1 (fun h => by cases h) m1
    | true =>
      obtain ⟨hd, he⟩ := hb rfl
      try simp only [go_sem]
      unfold h10_1
      try simp only [go_sem]
      refine loopN its.length (fun i τ w' => τ 0 = .slice va its.length vc ∧ τ 3 = .int .i64 i ∧ (∀ x (hx : x < its.length), x < i → its[x].refs.length ≤ 20 ∧ its[x].base.length ≤ 200) ∧ Mod none' w w') ⟨0, by omega, rfl, rfl, fun x _ hx => by omega, m1⟩ ?_
      rintro i τ w2 hi ⟨t0, t3, h1, m2⟩
      unfold h10_2
      try simp only [go_sem, t0, t3]
      refine ⟨fun hlt => ?_, fun hge => ?_⟩
      · have hil : i < its.length := by
          have := of_decide_eq_true hlt
          omega
        obtain ⟨g, o, rfl⟩ := hK.addr (by omega)
        obtain ⟨rv, hrv, ax⟩ := (Its.mk hK.len (hK.sl.mod m2 fun _ _ h => h) (fun i h h2 => (hK.refs i h h2).mod m2 fun _ _ h => h) : Its w2 _ its rvs).at hil
        have x2 := ax.c2
        have x3 := ax.c3
        obtain ⟨ra, rc, rfl, -, -⟩ := hrv.form
        unfold h10_3
        try simp only [go_sem, t0, t3, x2, x3]
        repeat refine ⟨⟨by omega, by omega⟩, ?_⟩
        refine ⟨fun _ => ⟨by omega, by omega⟩, fun hb => ?_, fun hb => ?_⟩
        · exact k false w2 (fun h => by cases h) m2
        · have hb2 : its[i].refs.length ≤ 20 ∧ its[i].base.length ≤ 200 := by
            by_cases h20 : (20 : Int) < its[i].refs.length
            · simp [h20] at hb
            · simp only [h20, decide_false, Bool.false_eq_true, if_false] at hb
              have := of_decide_eq_false hb
              omega
          unfold h10_4
          try simp only [go_sem, t0, t3]
          rw [w64 (by omega) (by omega)]
          have h4 : ∀ x (hx : x < its.length), x < i + 1 → its[x].refs.length ≤ 20 ∧ its[x].base.length ≤ 200 := by
            intro x hx hxi
            by_cases e : x = i
            · subst e; exact hb2
            · exact h1 x hx (by omega)
          refine ⟨i + 1, by omega, by omega, ?_⟩
          (repeat' first | assumption | rfl | omega | apply And.intro)
      · have hil : i = its.length := by
          have := of_decide_eq_false hge
          omega
        subst hil
        unfold h10_5
        try simp only [go_sem]
        refine k true w2 (fun _ => ⟨hn, hd, he, fun x hx => ?_⟩) m2
        obtain ⟨i, hi, rfl⟩ := List.getElem_of_mem hx
        exact h1 i hi hi
  · have e1 : decide ((40 : Int) < (its.length : Int)) = true := by simp; omega
    try simp only [go_sem, e1]
    exact k false w (fun h => by cases h) (Mod.refl _ _)

/-! ### the examples -/
def sI1 : List It := [⟨[99], 3, [[97], [98]], [120], true⟩, ⟨[97], 1, [], [120], false⟩, ⟨[98], 2, [[97]], [120], true⟩]
def sI2 : List It := [⟨[98], 2, [[97]], [120], true⟩, ⟨[99], 3, [[97]], [120], true⟩, ⟨[100], 1, [], [121], false⟩]
def sI3 : List It := [⟨[97], 1, [[98]], [120], false⟩, ⟨[98], 2, [[97]], [120], false⟩]
def sI4 : List It := [⟨[97], 1, [], [88], false⟩, ⟨[98], 2, [], [120], true⟩, ⟨[99], 0, [], [120], true⟩]
def sN1 : List Nd := [⟨[97], false, -1, 0⟩, ⟨[98], false, 0, 1⟩, ⟨[99], false, 1, 2⟩]
def sN2 : List Nd := [⟨[100], false, -1, 0⟩, ⟨[97], true, -1, 0⟩, ⟨[98], false, 1, 1⟩, ⟨[99], false, 1, 1⟩]
def sN3 : List Nd := [⟨[97], false, -1, 0⟩, ⟨[98], false, 0, 1⟩]
def sN4 : List Nd := [⟨[99], false, -1, 0⟩, ⟨[97], false, -1, 0⟩, ⟨[98], false, 1, 1⟩]
theorem sF1 : forestB sI1 = sN1 := by decide +kernel
theorem sF2 : forestB sI2 = sN2 := by decide +kernel
theorem sF3 : forestB sI3 = sN3 := by decide +kernel
theorem sF4 : forestB sI4 = sN4 := by decide +kernel
instance (l : List It) : Decidable (dist l) := by unfold dist; infer_instance
instance (l : List It) : Decidable (ne0 l) := by unfold ne0; infer_instance
theorem sl_nil (w : World) : Sl w (.slice none 0 0) 1 0 ([].map str) := (Own.nil w 9 1).sl
attribute [local go_sem] List.set_cons_zero List.set_cons_succ Nat.reduceLeDiff Nat.le_refl
/-- a forest of few items, spelt out -/
theorem small1_ {v : Value} {ns : List Nd} {its : List It} {rvs : List Value} (hK : Its w v its rvs) (h : decide (dist its) && decide (ne0 its) = true) (hz : (its.all fun x => decide (x.refs.length ≤ 20) && decide (x.base.length ≤ 200)) = true) (hl : its.length ≤ 40) (hf : forestB its = ns)
    (k : ∀ v' w', Sl w' v' 4 ns.length (rows Nd.cells ns) → Mod none' w w' → next v' w') : callvK Try.prog (.func (.func 11) #[] #[]) [v] w next QP := by
  simp only [Bool.and_eq_true, decide_eq_true_eq] at h
  refine Forest_ h.1 h.2 hK (fun x hx => ?_) (by omega) fun v' w' own _ m => k v' w' (by rw [← hf]; exact own.sl) m
  have := List.all_eq_true.1 hz x hx
  simp only [Bool.and_eq_true, decide_eq_true_eq] at this
  omega
theorem small_ (k : ∀ w', Mod none' w w' → next (.bool true) w') : callvK Try.prog (.func (.func 9) #[] #[]) [] w next QP := by
  refine r9 rfl ?_
  unfold h9
  try simp only [go_sem]
  refine bslT (l := [[97], [98]]) rfl (by omega) rfl ?_
  intro b1 w1 t1 m1
  try simp only [go_sem]
  refine bslT (l := [[97]]) rfl (by omega) rfl ?_
  intro b2 w2 t2 m2
  try simp only [go_sem]
  refine bslI (ps := [(⟨[99], 3, [[97], [98]], [120], true⟩, .slice (some ⟨b1, 0, none⟩) 2 2), (⟨[97], 1, [], [120], false⟩, .slice none 0 0), (⟨[98], 2, [[97]], [120], true⟩, .slice (some ⟨b2, 0, none⟩) 1 1)]) rfl (by omega) rfl ?_ ?_
  · intro i h
    match i, h with
    | 0, _ => exact t1.mod m2 fun _ _ h => h
    | 1, _ => exact sl_nil _
    | 2, _ => exact t2
  intro v3 w3 i3 m3
  try simp only [go_sem]
  refine small1_ (its := sI1) (ns := sN1) i3 (by decide +kernel) (by decide +kernel) (by decide) sF1 ?_
  intro v4 w4 f4 m4
  have M4 := ((m1.trans' m2).trans' m3).trans' m4
  try simp only [go_sem]
  unfold h9_1
  try simp only [go_sem]
  refine bslT (l := [[97]]) rfl (by omega) rfl ?_
  intro b5 w5 t5 m5
  try simp only [go_sem]
  refine bslT (l := [[97]]) rfl (by omega) rfl ?_
  intro b6 w6 t6 m6
  try simp only [go_sem]
  refine bslI (ps := [(⟨[98], 2, [[97]], [120], true⟩, .slice (some ⟨b5, 0, none⟩) 1 1), (⟨[99], 3, [[97]], [120], true⟩, .slice (some ⟨b6, 0, none⟩) 1 1), (⟨[100], 1, [], [121], false⟩, .slice none 0 0)]) rfl (by omega) rfl ?_ ?_
  · intro i h
    match i, h with
    | 0, _ => exact t5.mod m6 fun _ _ h => h
    | 1, _ => exact t6
    | 2, _ => exact sl_nil _
  intro v7 w7 i7 m7
  try simp only [go_sem]
  refine small1_ (its := sI2) (ns := sN2) i7 (by decide +kernel) (by decide +kernel) (by decide) sF2 ?_
  intro v8 w8 f8 m8
  have M8 := ((m5.trans' m6).trans' m7).trans' m8
  try simp only [go_sem]
  unfold h9_2
  try simp only [go_sem]
  refine bslT (l := [[98]]) rfl (by omega) rfl ?_
  intro b9 w9 t9 m9
  try simp only [go_sem]
  refine bslT (l := [[97]]) rfl (by omega) rfl ?_
  intro b10 w10 t10 m10
  try simp only [go_sem]
  refine bslI (ps := [(⟨[97], 1, [[98]], [120], false⟩, .slice (some ⟨b9, 0, none⟩) 1 1), (⟨[98], 2, [[97]], [120], false⟩, .slice (some ⟨b10, 0, none⟩) 1 1)]) rfl (by omega) rfl ?_ ?_
  · intro i h
    match i, h with
    | 0, _ => exact t9.mod m10 fun _ _ h => h
    | 1, _ => exact t10
  intro v11 w11 i11 m11
  try simp only [go_sem]
  refine small1_ (its := sI3) (ns := sN3) i11 (by decide +kernel) (by decide +kernel) (by decide) sF3 ?_
  intro v12 w12 f12 m12
  have M12 := ((m9.trans' m10).trans' m11).trans' m12
  try simp only [go_sem]
  unfold h9_3
  try simp only [go_sem]
  refine bslI (ps := [(⟨[97], 1, [], [88], false⟩, .slice none 0 0), (⟨[98], 2, [], [120], true⟩, .slice none 0 0), (⟨[99], 0, [], [120], true⟩, .slice none 0 0)]) rfl (by omega) rfl ?_ ?_
  · intro i h
    match i, h with
    | 0, _ => exact sl_nil _
    | 1, _ => exact sl_nil _
    | 2, _ => exact sl_nil _
  intro v13 w13 i13 m13
  try simp only [go_sem]
  refine small1_ (its := sI4) (ns := sN4) i13 (by decide +kernel) (by decide +kernel) (by decide) sF4 ?_
  intro v14 w14 f14 m14
  have M14 := m13.trans' m14
  try simp only [go_sem]
  refine bslN (ns := sN1) rfl (by omega) rfl ?_
  intro v15 w15 f15 m15
  try simp only [go_sem]
  have g4 := f4.mod (((M8.trans' M12).trans' M14).trans' m15) fun _ _ h => h
  refine same_ g4 f15 (by decide) ?_
  intro w16 m16
  try simp only [go_sem]
  refine bslN (ns := sN2) rfl (by omega) rfl ?_
  intro v17 w17 f17 m17
  have M17 := (m15.trans' m16).trans' m17
  try simp only [go_sem]
  unfold l9_5
  try simp only [go_sem]
  have g8 := f8.mod ((M12.trans' M14).trans' M17) fun _ _ h => h
  refine same_ g8 f17 (by decide) ?_
  intro w18 m18
  try simp only [go_sem]
  unfold l9_4
  try simp only [go_sem]
  unfold h9_6
  try simp only [go_sem]
  refine bslN (ns := sN3) rfl (by omega) rfl ?_
  intro v19 w19 f19 m19
  try simp only [go_sem]
  unfold l9_10
  try simp only [go_sem]
  have M19 := (M17.trans' m18).trans' m19
  have g12 := f12.mod (M14.trans' M19) fun _ _ h => h
  refine same_ g12 f19 (by decide) ?_
  intro w20 m20
  try simp only [go_sem]
  unfold l9_9
  try simp only [go_sem]
  refine bslN (ns := sN4) rfl (by omega) rfl ?_
  intro v21 w21 f21 m21
  try simp only [go_sem]
  unfold l9_8
  try simp only [go_sem]
  have M21 := (M19.trans' m20).trans' m21
  have g14 := f14.mod M21 fun _ _ h => h
  refine same_ g14 f21 (by decide) ?_
  intro w22 m22
  try simp only [go_sem]
  unfold l9_7
  try simp only [go_sem]
  exact k w22 (((((M4.trans' M8).trans' M12).trans' M14).trans' M21).trans' m22)
end
end Go.Proofs.Y

/- TMa: thread: the reference's references, finding, nearest; circles. -/
namespace Go.Proofs.Y
open Go Go.HL Go.Proofs

section
variable {w w' : World} {its : List It} {rvs : List Value} {next : Value → World → Prop} {QP : List PanicEntry → World → Prop}
theorem Its.up {v : Value} (h : Its w v its rvs) (m : Mod none' w w') : Its w' v its rvs := ⟨h.len, h.sl.mod m fun _ _ h => h, fun i h1 h2 => (h.refs i h1 h2).mod m fun _ _ h => h⟩
theorem rrefs_ {x : It} {rx : Value} (hv : Sl w rx 1 x.refs.length (x.refs.map str)) (hn : x.refs.length ≤ 1000000)
    (k : ∀ v' w', Sl w' v' 1 x.rf.length (x.rf.map str) → Mod none' w w' → next v' w') : callvK Try.prog (.func (.func 16) #[] #[]) [x.v rx] w next QP := by
  refine r16 rfl ?_
  obtain ⟨ra, rc, rfl, -, hcell⟩ := hv.form
  unfold h16
  try simp only [go_sem]
  refine box_ (cs := x.cells (.slice ra x.refs.length rc)) rfl ?_
  intro b w1 hb bk m1 s1
  try simp only [go_sem]
  refine loopN x.refs.length (fun i τ w' => ∃ v', τ 1 = ptr b ∧ τ 3 = v' ∧ τ 4 = .int .i64 i ∧ HL.Own w' v' 9 1 ((x.refs.take i).filter fun r => !delB x r).length (((x.refs.take i).filter fun r => !delB x r).map str) ∧ (∀ k, v'.ownBlock = some k → w1.heap.size ≤ k) ∧ Blk w' b 34 (x.cells (.slice ra x.refs.length rc)) ∧ Mod none' w w') ⟨0, by omega, .slice none 0 0, rfl, rfl, rfl, Own.nil _ _ _, fun k hk => (by cases hk), bk, m1⟩ ?_
  rintro i τ w2 hi ⟨v', t1, t3, t4, own2, hf2, bk2, m2⟩
  have a2 := ItAt.blk bk2
  have z0 := a2.c0
  have z2 := a2.c2
  unfold h16_1
  try simp only [go_sem, t1, t3, t4, z2]
  refine ⟨fun hlt => ?_, fun hge => ?_⟩
  · have hil : i < x.refs.length := by
      have := of_decide_eq_true hlt
      omega
    obtain ⟨g, o, rfl, hce⟩ := hcell (by omega)
    have hc : w2.cell? ⟨g, o + i, none⟩ = some (str x.refs[i]) := by
      refine m2.cell ?_ (fun h => h)
      rw [hce i (by omega)]; simp [hil]
    have hfil : (x.refs.take (i + 1)).filter (fun r => !delB x r) = (x.refs.take i).filter (fun r => !delB x r) ++ (if delB x x.refs[i] = true then [] else [x.refs[i]]) := by
      rw [List.take_succ_eq_append_getElem hil, List.filter_append]
      cases h : delB x x.refs[i] <;> simp [h]
    have hlen : ((x.refs.take i).filter fun r => !delB x r).length ≤ 1000000 := Nat.le_trans (List.length_filter_le _ _) (by simp; omega)
    unfold h16_2
    try simp only [go_sem, t1, t3, t4, z0, z2, hc]
    refine ⟨⟨by omega, by omega⟩, fun _ => ⟨by omega, by omega⟩, ?_⟩
    have hif : (if (!decide (x.refs[i] = x.id)) = true then !decide (x.refs[i] = []) else false) = !delB x x.refs[i] := by
      unfold delB
      by_cases h1 : x.refs[i] = x.id <;> simp [h1]
    rw [hif]
    refine ⟨fun hd => ?_, fun hd => ?_⟩
    · have hd : delB x x.refs[i] = false := by simpa using hd
      rw [hd] at hfil
      refine ⟨⟨by omega, by omega⟩, ?_⟩
      refine bsl1 (cs := [str x.refs[i]]) sl32 rfl rfl (by omega) ?_
      intro b3 w3 hb3 own3 bk3 m3 s3
      have m23 := (Mod.drew none' w2).trans' m3
      try simp only [go_sem, t1, t3, t4]
      refine append_ sl32 (own2.mod m23 fun _ _ h => h) own3.sl (by intro u hu; rw [List.mem_singleton.1 hu]; rfl) (by omega) (by unfold maxLen; omega) ?_
      intro v4 w4 own4 m4 hf4 _
      have hb1 : b < w1.heap.size := bk.lt
      have bk4 : Blk w4 b 34 (x.cells (.slice (some ⟨g, o, none⟩) x.refs.length rc)) := (bk2.mod m23 fun h => h).mod m4 fun h => by
        have := hf2 b h
        omega
      have own4' : HL.Own w4 v4 9 1 ((x.refs.take (i + 1)).filter fun r => !delB x r).length (((x.refs.take (i + 1)).filter fun r => !delB x r).map str) := by
        rw [hfil]
        simp only [Bool.false_eq_true, if_false, List.length_append, List.length_singleton, List.map_append, List.map_cons, List.map_nil]
        exact own4
      have hw1 : w1.heap.size = b + 1 := s1
      have hf4' : ∀ k, v4.ownBlock = some k → w1.heap.size ≤ k := fun k hk => by
        rcases hf4 k hk with h | h
        · exact hf2 k h
        · have hbl := (bk2.mod m23 fun h => h).lt
          have := m3.size
          have h2 : w1.heap.size ≤ w2.heap.size := by
            have := bk2.lt
            omega
          have h3 : w2.drew.heap.size = w2.heap.size := rfl
          omega
      have m04 : Mod none' w w4 := (m2.trans' m23).trans m4 fun j hj h => by
        have := hf2 j h
        have := m1.size
        omega
      unfold h16_3
      try simp only [go_sem, t1, t3, t4]
      rw [w64 (by omega) (by omega)]
      refine ⟨i + 1, by omega, by omega, v4, ?_⟩
      (repeat' first | assumption | rfl | omega | apply And.intro)
    · have hd : delB x x.refs[i] = true := by simpa using hd
      rw [hd] at hfil
      simp only [if_true, List.append_nil] at hfil
      rw [← hfil] at own2
      have m5 := m2.trans' (Mod.drew none' w2)
      have own5 := own2.mod (Mod.drew none' w2) fun _ _ h => h
      have bk5 := bk2.mod (Mod.drew none' w2) fun h => h
      unfold h16_3
      try simp only [go_sem, t1, t3, t4]
      rw [w64 (by omega) (by omega)]
      refine ⟨i + 1, by omega, by omega, v', ?_⟩
      (repeat' first | assumption | rfl | omega | apply And.intro)
  · have hil : i = x.refs.length := by
      have := of_decide_eq_false hge
      omega
    subst hil
    rw [List.take_length] at own2
    unfold h16_4
    try simp only [go_sem, t1, t3, t4]
    exact k v' w2 own2.sl m2
theorem rfind_ {v : Value} {id : Bytes} (hK : Its w v its rvs) (hn : its.length ≤ 1000000) (k : next (.int .i64 (oi (findI its id))) w) : callvK Try.prog (.func (.func 12) #[] #[]) [v, str id] w next QP := by
  refine r12 rfl ?_
  obtain ⟨va, vc, rfl, -, -⟩ := hK.sl.form
  unfold h12
  try simp only [go_sem]
  refine loopN its.length (fun i τ w' => τ 0 = .slice va its.length vc ∧ τ 1 = str id ∧ τ 5 = .int .i64 i ∧ (∀ x (hx : x < its.length), x < i → its[x].id ≠ id) ∧ w' = w) ⟨0, by omega, rfl, rfl, rfl, fun x _ hx => by omega, rfl⟩ ?_
  rintro i τ w1 hi ⟨t0, t1, t5, hno, rfl⟩
  unfold h12_1
  try simp only [go_sem, t0, t1, t5]
  refine ⟨fun hlt => ?_, fun hge => ?_⟩
  · have hil : i < its.length := by
      have := of_decide_eq_true hlt
      omega
    obtain ⟨g, o, rfl⟩ := hK.addr (by omega)
    obtain ⟨rv, -, ax⟩ := hK.at hil
    have x0 := ax.c0
    unfold h12_2
    try simp only [go_sem, t0, t1, t5, x0]
    repeat refine ⟨⟨by omega, by omega⟩, ?_⟩
    refine ⟨fun he => ?_, fun hne => ?_⟩
    · have he : its[i].id = id := by simpa using he
      have : findI its id = some i := by
        unfold findI
        rw [List.findIdx?_eq_some_iff_getElem]
        exact ⟨hil, by simpa using he, fun j hj => by simpa using hno j (by omega) hj⟩
      rw [this] at k
      try simp only [go_sem, t0, t1, t5]
      exact k
    · have hne : its[i].id ≠ id := by simpa using hne
      unfold h12_3
      try simp only [go_sem, t0, t1, t5]
      rw [w64 (by omega) (by omega)]
      have h4 : ∀ x (hx : x < its.length), x < i + 1 → its[x].id ≠ id := by
        intro x hx hxi
        by_cases e : x = i
        · subst e; exact hne
        · exact hno x hx (by omega)
      refine ⟨i + 1, by omega, by omega, ?_⟩
      (repeat' first | assumption | rfl | omega | apply And.intro)
  · have hil : i = its.length := by
      have := of_decide_eq_false hge
      omega
    subst hil
    have : findI its id = none := by
      unfold findI
      rw [List.findIdx?_eq_none_iff]
      intro x hx
      obtain ⟨i, hi, rfl⟩ := List.getElem_of_mem hx
      simpa using hno i hi hi
    rw [this] at k
    unfold h12_4
    try simp only [go_sem]
    exact k
theorem near_ {v : Value} {i : Nat} (hK : Its w v its rvs) (hi : i < its.length) (hn : its.length ≤ 1000000) (hr : its[i].refs.length ≤ 1000000) (k : ∀ w', Mod none' w w' → next (.int .i64 (oi (nearI its i))) w') : callvK Try.prog (.func (.func 17) #[] #[]) [v, .int .i64 i] w next QP := by
  refine r17 rfl ?_
  obtain ⟨va, vc, rfl, -, -⟩ := hK.sl.form
  obtain ⟨g, o, rfl⟩ := hK.addr (by omega)
  obtain ⟨rv, hrv, ax⟩ := hK.at hi
  have x1 := ax.ln
  have x2 := ax.sm
  have hrl : its[i].rf.length ≤ 1000000 := by
    have := List.length_filter_le (fun r => !delB its[i] r) its[i].refs
    unfold It.rf
    omega
  rw [near_rf hi] at k
  unfold h17
  try simp only [go_sem, x1, x2]
  repeat refine ⟨⟨by omega, by omega⟩, ?_⟩
  refine rrefs_ hrv hr ?_
  intro v1 w1 sl1 m1
  obtain ⟨ra, rc, rfl, -, hcell⟩ := sl1.form
  try simp only [go_sem]
  rw [w64 (by omega) (by omega)]
  refine ⟨fun q τ w' => q ≤ its[i].rf.length ∧ τ 0 = .slice (some ⟨g, o, none⟩) its.length vc ∧ τ 5 = .slice ra its[i].rf.length rc ∧ τ 6 = .int .i64 ((q : Int) - 1) ∧ nearL its (its[i].rf.drop q) = none ∧ Mod none' w w' ∧ w' = w1, its[i].rf.length, ⟨Nat.le_refl _, rfl, rfl, by simp [upd], by rw [List.drop_length]; rfl, m1, rfl⟩, ?_⟩
  rintro q τ w2 ⟨hq, t0, t5, t6, hno, m2, rfl⟩
  unfold h17_1
  cases q with
  | zero =>
    have eg : decide ((0 : Int) ≤ 0 - 1) = false := rfl
    try simp only [go_sem, t0, t5, t6, eg]
    rw [List.drop_zero] at hno
    rw [hno] at k
    unfold h17_4
    try simp only [go_sem]
    exact k w2 m2
  | succ q =>
    have e1 : ((q + 1 : Nat) : Int) - 1 = (q : Int) := by omega
    rw [e1] at t6
    have eg : decide ((0 : Int) ≤ (q : Int)) = true := by simp
    obtain ⟨gr, ro, rfl, hce⟩ := hcell (by omega)
    have hc : w2.cell? ⟨gr, ro + q, none⟩ = some (str its[i].rf[q]) := by
      rw [hce q (by omega), List.getElem?_map, List.getElem?_eq_getElem (by omega)]; rfl
    have hdrop : nearL its (its[i].rf.drop q) = (findI its its[i].rf[q]).or none ∨ nearL its (its[i].rf.drop q) = findI its its[i].rf[q] := by
      right
      rw [List.drop_eq_getElem_cons (by omega)]
      unfold nearL at hno ⊢
      rw [List.reverse_cons, List.findSome?_append, hno]
      simp
    have hdrop : nearL its (its[i].rf.drop q) = findI its its[i].rf[q] := by
      rcases hdrop with h | h
      · rw [h]; cases findI its its[i].rf[q] <;> rfl
      · exact h
    try simp only [go_sem, t0, t5, t6, eg]
    unfold h17_2
    try simp only [go_sem, t0, t5, t6, hc]
    repeat refine ⟨⟨by omega, by omega⟩, ?_⟩
    refine rfind_ (hK.up m1) hn ?_
    try simp only [go_sem, t0, t5, t6]
    cases hf : findI its its[i].rf[q] with
    | some z =>
      have eg2 : decide ((0 : Int) ≤ oi (some z)) = true := by simp [oi]
      have hall : nearL its its[i].rf = some z := by
        have e := List.take_append_drop q its[i].rf
        rw [← e]
        unfold nearL at hdrop ⊢
        rw [List.reverse_append, List.findSome?_append, hdrop, hf]; rfl
      rw [hall] at k
      try simp only [go_sem, eg2]
      exact k w2 m2
    | none =>
      have eg2 : decide ((0 : Int) ≤ oi none) = false := rfl
      try simp only [go_sem, eg2]
      unfold h17_3
      try simp only [go_sem, t0, t5, t6]
      rw [w64 (by omega) (by omega)]
      rw [hf] at hdrop
      refine ⟨q, by omega, ?_⟩
      (repeat' first | assumption | rfl | omega | apply And.intro)
theorem circ_ {v : Value} (hK : Its w v its rvs) (hz : szI its) (hn : its.length ≤ 1000000) (k : ∀ b w', (b = false → ∀ i, i < its.length → ¬ OnC (nearI its) i) → Mod none' w w' → next (.bool b) w') : callvK Try.prog (.func (.func 20) #[] #[]) [v] w next QP := by
  refine r20 rfl ?_
  obtain ⟨va, vc, rfl, -, -⟩ := hK.sl.form
  unfold h20
  try simp only [go_sem]
  refine loopN its.length (fun i τ w' => τ 0 = .slice va its.length vc ∧ τ 3 = .int .i64 i ∧ (∀ x, x < i → ¬ OnC (nearI its) x) ∧ Mod none' w w') ⟨0, by omega, rfl, rfl, fun x hx => by omega, Mod.refl _ _⟩ ?_
  rintro i τ w1 hi ⟨t0, t3, hno, m1⟩
  unfold h20_1
  try simp only [go_sem, t0, t3]
  refine ⟨fun hlt => ?_, fun hge => ?_⟩
  · have hil : i < its.length := by
      have := of_decide_eq_true hlt
      omega
    have hsz : ∀ j (h : j < its.length), its[j].refs.length ≤ 1000000 := fun j h => (hz _ (List.getElem_mem h)).1
    unfold h20_2
    try simp only [go_sem, t0, t3]
    refine near_ (hK.up m1) hil hn (hsz i hil) ?_
    intro w2 m2
    try simp only [go_sem, t0, t3]
    refine loopN its.length (fun q τ w' => τ 0 = .slice va its.length vc ∧ τ 3 = .int .i64 i ∧ τ 4 = .int .i64 (oi (itr (nearI its) (q + 1) i)) ∧ τ 5 = .int .i64 q ∧ (∀ m, m < q → itr (nearI its) (m + 1) i ≠ some i) ∧ Mod none' w w') ⟨0, by omega, t0, t3, rfl, rfl, fun m hm => by omega, m1.trans' m2⟩ ?_
    rintro q τ w3 hq ⟨t0, t3, t4, t5, hm, m3⟩
    -- the round's end
    have fin : (∀ m, m + 1 ≤ its.length → itr (nearI its) (m + 1) i ≠ some i) → ∀ x, x < i + 1 → ¬ OnC (nearI its) x := by
      intro h x hx hc
      by_cases e : x = i
      · subst e
        obtain ⟨m, h1, h2⟩ := back_short (n := its.length) (fun i j h => nearI_lt h) hil hc
        exact h m h1 h2
      · exact hno x (by omega) hc
    unfold h20_3
    by_cases hql : q < its.length
    · have eq : decide ((q : Int) < (its.length : Int)) = true := by simpa using hql
      cases hk : itr (nearI its) (q + 1) i with
      | none =>
        rw [hk] at t4
        have eg : decide ((0 : Int) ≤ oi none) = false := rfl
        try simp only [go_sem, t0, t3, t4, t5, eq, eg]
        unfold h20_7
        try simp only [go_sem, t0, t3]
        rw [w64 (by omega) (by omega)]
        have h9 := fin fun m hml => by
          by_cases hmq : m < q
          · exact hm m hmq
          · rw [itr_none hk (m + 1) (by omega)]; simp
        refine ⟨i + 1, by omega, by omega, ?_⟩
        (repeat' first | assumption | rfl | omega | apply And.intro)
      | some j =>
        rw [hk] at t4
        have hj : j < its.length := by
          obtain ⟨z, -, hz⟩ := Option.bind_eq_some_iff.1 hk
          exact nearI_lt hz
        have t4 : τ 4 = .int .i64 (j : Int) := t4
        have eg : decide ((0 : Int) ≤ (j : Int)) = true := by simp
        try simp only [go_sem, t0, t3, t4, t5, eq, eg]
        unfold h20_4
        try simp only [go_sem, t0, t3, t4, t5]
        refine ⟨fun he => ?_, fun hne => ?_⟩
        · try simp only [go_sem]
          exact k true w3 (fun h => by cases h) m3
        · have hne : j ≠ i := by
            have := of_decide_eq_false hne
            omega
          unfold h20_5
          try simp only [go_sem, t0, t3, t4, t5]
          refine near_ (hK.up m3) hj hn (hsz j hj) ?_
          intro w4 m4
          unfold h20_6
          try simp only [go_sem, t0, t3, t4, t5]
          rw [w64 (by omega) (by omega)]
          have e4 : nearI its j = itr (nearI its) (q + 1 + 1) i := by
            show _ = (itr (nearI its) (q + 1) i).bind _
            rw [hk]; rfl
          rw [e4]
          have h9 : ∀ m, m < q + 1 → itr (nearI its) (m + 1) i ≠ some i := by
            intro m hmq
            by_cases e : m = q
            · subst e
              rw [hk]
              exact fun e => hne (Option.some.inj e)
            · exact hm m (by omega)
          have m5 := m3.trans' m4
          refine ⟨q + 1, by omega, by omega, ?_⟩
          (repeat' first | assumption | rfl | omega | apply And.intro)
    · have eq : decide ((q : Int) < (its.length : Int)) = false := by simp; omega
      try simp only [go_sem, t0, t3, t4, t5, eq]
      unfold h20_7
      try simp only [go_sem, t0, t3]
      rw [w64 (by omega) (by omega)]
      have h9 := fin fun m hml => hm m (by omega)
      refine ⟨i + 1, by omega, by omega, ?_⟩
      (repeat' first | assumption | rfl | omega | apply And.intro)
  · have hil : i = its.length := by
      have := of_decide_eq_false hge
      omega
    subst hil
    unfold h20_8
    try simp only [go_sem]
    exact k false w1 (fun _ => hno) m1
end
end Go.Proofs.Y

/- TMb: thread: ThreadAdds. -/
namespace Go.Proofs.Y
open Go Go.HL Go.Proofs

/-! ### plain -/
theorem isortB_congr {α : Type} {lt lt' : α → α → Bool} : ∀ (l : List α), (∀ x ∈ l, ∀ y ∈ l, lt x y = lt' x y) → isortB lt l = isortB lt' l := by
  have ins : ∀ (x : α) (l : List α), (∀ y ∈ l, lt x y = lt' x y) → insB lt x l = insB lt' x l := by
    intro x l
    induction l with
    | nil => intro _; rfl
    | cons y l ih =>
      intro h
      unfold insB
      rw [h y (by simp), ih fun z hz => h z (by simp [hz])]
  have key : ∀ (l acc all : List α), (∀ x ∈ all, ∀ y ∈ all, lt x y = lt' x y) → (∀ x ∈ l, x ∈ all) → (∀ x ∈ acc, x ∈ all) → l.foldl (fun acc x => insB lt x acc) acc = l.foldl (fun acc x => insB lt' x acc) acc := by
    intro l
    induction l with
    | nil => intro acc all _ _ _; rfl
    | cons x l ih =>
      intro acc all h hl ha
      rw [List.foldl_cons, List.foldl_cons, ins x acc fun y hy => h x (hl x (by simp)) y (ha y hy)]
      refine ih _ all h (fun y hy => hl y (by simp [hy])) fun y hy => ?_
      rcases List.mem_cons.1 ((insB_perm lt' x acc).mem_iff.1 hy) with rfl | hy
      · exact hl y (by simp)
      · exact ha y hy
  intro l h
  exact key l [] l h (fun _ h => h) (fun x hx => by cases hx)
section
variable {its : List It} {it : It}
theorem app_at {i : Nat} (hi : i < its.length) : (its ++ [it])[i]? = its[i]? := List.getElem?_append_left hi
theorem idAt_app {i : Nat} (hi : i < its.length) : idAt (its ++ [it]) i = idAt its i := by unfold idAt; rw [app_at hi]
theorem dateAt_app {i : Nat} (hi : i < its.length) : dateAt (its ++ [it]) i = dateAt its i := by unfold dateAt; rw [app_at hi]
theorem findI_app {r : Bytes} (h : r ≠ it.id) : findI (its ++ [it]) r = findI its r := by
  unfold findI
  rw [List.findIdx?_append]
  cases hf : its.findIdx? (fun x => decide (x.id = r)) with
  | some k => rfl
  | none => simp [Ne.symm h]
theorem nearL_app {l : List Bytes} (h : it.id ∉ l) : nearL (its ++ [it]) l = nearL its l := by
  unfold nearL
  have : ∀ l : List Bytes, it.id ∉ l → l.findSome? (findI (its ++ [it])) = l.findSome? (findI its) := by
    intro l
    induction l with
    | nil => intro _; rfl
    | cons r l ih =>
      intro h
      simp only [List.mem_cons, not_or] at h
      rw [List.findSome?_cons, List.findSome?_cons, findI_app (Ne.symm h.1), ih h.2]
  exact this _ (by simpa using h)
theorem nearI_app {i : Nat} (hi : i < its.length) (h : it.id ∉ its[i].rf) : nearI (its ++ [it]) i = nearI its i := by
  unfold nearI
  rw [app_at hi, List.getElem?_eq_getElem hi]
  exact nearL_app h
theorem headsN_app {b : Bytes} (h : hdB it b = false) : headsN (its ++ [it]) (its ++ [it]).length b = headsN its its.length b := by
  rw [List.length_append, List.length_singleton]
  unfold headsN
  rw [List.range_succ, List.filter_append]
  have h1 : hdAt (its ++ [it]) b its.length = false := by
    unfold hdAt
    rw [List.getElem?_append_right (Nat.le_refl _)]
    simp [h]
  have h2 : (List.range its.length).filter (hdAt (its ++ [it]) b) = (List.range its.length).filter (hdAt its b) := by
    refine List.filter_congr fun x hx => ?_
    unfold hdAt
    rw [app_at (by simpa using hx)]
  rw [h2]
  simp [h1]
theorem headsS_app {b : Bytes} (h : hdB it b = false) : headsS (its ++ [it]) b = headsS its b := by
  unfold headsS
  rw [headsN_app h]
  refine isortB_congr _ fun x hx y hy => ?_
  have hx' := headsN_lt x hx
  have hy' := headsN_lt y hy
  unfold befI
  rw [idAt_app hx', idAt_app hy', dateAt_app hx', dateAt_app hy']
theorem brk_free {l : List It} {i : Nat} (hi : i < l.length) (h : ¬ OnC (nearI l) i) : brkI l i = false := by
  cases hb : brkI l i
  · rfl
  · exact absurd ((brkI_iff hi).1 hb).1 h
theorem adds_plain {i : Nat} (hi : i < its.length) (h1 : ∀ i, i < its.length → ¬ OnC (nearI its) i) (h2 : ∀ i, i < (its ++ [it]).length → ¬ OnC (nearI (its ++ [it])) i)
    (hr : it.id ∉ its[i].rf) (hs : ¬ (its[i].rf.length = 0 ∧ its[i].reply = true ∧ lowerB its[i].base = lowerB it.base ∧ it.reply = false)) : parI (its ++ [it]) i = parI its i := by
  unfold parI
  rw [app_at hi, List.getElem?_eq_getElem hi]
  simp only
  unfold parB
  rw [app_at hi, List.getElem?_eq_getElem hi]
  simp only
  rw [brk_free hi (h1 i hi), brk_free (by simp; omega) (h2 i (by simp; omega)), nearI_app hi hr]
  simp only [Bool.false_eq_true, if_false]
  cases hn : nearI its i with
  | some k => rfl
  | none =>
    simp only
    by_cases hl : 0 < its[i].rf.length
    · rw [if_pos hl, if_pos hl]
    · rw [if_neg hl, if_neg hl]
      by_cases hb : its[i].reply = false ∨ its[i].base = []
      · rw [if_pos hb, if_pos hb]
      · rw [if_neg hb, if_neg hb]
        have hhd : hdB it (lowerB its[i].base) = false := by
          unfold hdB
          simp only [not_or, Bool.not_eq_false] at hb
          cases hre : it.reply
          · have : ¬ lowerB it.base = lowerB its[i].base := fun e => hs ⟨by omega, hb.1, e.symm, hre⟩
            simp [this]
          · simp
        rw [headsS_app hhd]
        congr 1
        have : ∀ l : List Nat, (∀ y ∈ l, y < its.length) → l.find? (ansB (its ++ [it]) its[i]) = l.find? (ansB its its[i]) := by
          intro l
          induction l with
          | nil => intro _; rfl
          | cons y l ih =>
            intro h
            have : ansB (its ++ [it]) its[i] y = ansB its its[i] y := by
              unfold ansB
              rw [dateAt_app (h y (by simp))]
            rw [List.find?_cons, List.find?_cons, this, ih fun z hz => h z (by simp [hz])]
        exact this _ fun y hy => (headsS_mem.1 hy).1
end

section
variable {w w' : World} {its : List It} {rvs : List Value} {next : Value → World → Prop} {QP : List PanicEntry → World → Prop}
theorem parV_ne (a b : Option Nat × Bytes) (h : a = b) : (!decide (oi a.1 = oi b.1)) = false ∧ (!decide (a.2 = b.2)) = false := by
  subst h; simp
/-- a list of items and one more -/
theorem itsapp {v : Value} {it : It} {ra : Option Addr} {rc : Nat} {va : Value} (hK : Its w v its rvs) (own : HL.Own w va 34 5 (its.length + 1) (rows cellsP (its.zip rvs) ++ it.cells (.slice ra it.refs.length rc))) (hr : Sl w (.slice ra it.refs.length rc) 1 it.refs.length (it.refs.map str)) :
    Its w va (its ++ [it]) (rvs ++ [.slice ra it.refs.length rc]) := by
  refine ⟨by simp [hK.len], ?_, fun i h1 h2 => ?_⟩
  · rw [List.zip_append hK.len.symm, rows_app, List.length_append]
    exact own.sl
  · by_cases hi : i < its.length
    · rw [List.getElem_append_left hi, List.getElem_append_left (by rw [hK.len]; exact hi)]
      exact hK.refs i hi (by rw [hK.len]; exact hi)
    · have e : i = its.length := by simp at h1; omega
      subst e
      rw [List.getElem_append_right (Nat.le_refl _), List.getElem_append_right (by rw [hK.len]; exact Nat.le_refl _)]
      simp only [Nat.sub_self, hK.len, List.getElem_cons_zero]
      exact hr

theorem own1_of_blk {u : World} {b : Nat} {cs : List Value} (h : Blk u b 34 cs) (hl : cs.length = 5 := by rfl) : HL.Own u (.slice (some ⟨b, 0, none⟩) 1 1) 34 5 1 cs :=
  Own.of_blk (rest := []) (by omega) (by simpa using h) (by simp) (by omega) (by unfold maxLen; omega)
theorem adds_ {v : Value} {it : It} {rv : Value} (hK : Its w v its rvs) (hr : Sl w rv 1 it.refs.length (it.refs.map str)) (hml : its.length ≤ 2000000) (k : ∀ w', Mod none' w w' → next (.bool true) w') : callK Try.prog 5 [v, it.v rv] w next QP := by
  refine q5 rfl ?_
  obtain ⟨va, vc, rfl, -, -⟩ := hK.sl.form
  obtain ⟨ra, rc, rfl, -, -⟩ := hr.form
  unfold h5
  try simp only [go_sem]
  refine box_ (cs := it.cells (.slice ra it.refs.length rc)) rfl ?_
  intro b3 w1 hb3 bk1 m1 s1
  try simp only [go_sem]
  refine small_ ?_
  intro w2 m2
  have a2 := (ItAt.blk bk1).up m2
  have m02 := m1.trans' m2
  have x1 := a2.ln
  have x2 := a2.sm0
  try simp only [go_sem, x1, x2]
  have hzl : (its.zip rvs).length = its.length := by rw [List.length_zip, hK.len]; omega
  have hrl : (rows cellsP (its.zip rvs)).length = its.length * 5 := by rw [rows_len cellsP_len, hzl]
  have hone : ∀ u ∈ rows cellsP (its.zip rvs), u.oneCell' = true := by
    intro u hu
    unfold rows at hu
    obtain ⟨p, hp, hu⟩ := List.mem_flatMap.1 hu
    obtain ⟨j, hj, e⟩ := List.getElem_of_mem hp
    rw [List.getElem_zip] at e
    have hj1 : j < its.length := by omega
    have hj2 : j < rvs.length := by rw [hK.len]; exact hj1
    obtain ⟨a, c, ea, -⟩ := (hK.refs j hj1 hj2).form
    rw [← e] at hu
    simp [cellsP, It.cells, ea] at hu
    rcases hu with rfl | rfl | rfl | rfl | rfl <;> rfl
  have hone2 : ∀ u ∈ it.cells (.slice ra it.refs.length rc), u.oneCell' = true := by
    intro u hu
    simp [It.cells] at hu
    rcases hu with rfl | rfl | rfl | rfl | rfl <;> rfl
  have rest : ∀ (σ : Env) (u : World) (v' : Value), Its u v' (its ++ [it]) (rvs ++ [.slice ra it.refs.length rc]) → Mod none' w u → ItAt u b3 0 it (.slice ra it.refs.length rc) → σ 0 = .slice va its.length vc → σ 3 = ptr b3 → σ 5 = .bool true → σ 6 = v' → hw Try.prog noPanic h5_5 (endV [.tmp 4] next) σ u := by
    intro σ u v' hA mu ab s0 s3 s5 s6
    have hlA : (its ++ [it]).length = its.length + 1 := by simp
    unfold h5_5
    try simp only [go_sem, s0, s3, s5, s6]
    refine few_ hA (by rw [hlA]; omega) ?_
    intro b u1 hb mu1
    cases b with
    | false =>
      try simp only [go_sem, s0, s3, s5, s6]
      unfold l5_7
      try simp only [go_sem, s0, s3, s5, s6]
      unfold l5_6
      try simp only [go_sem, s0, s3, s5, s6]
      exact k u1 (mu.trans' mu1)
    | true =>
      have hP := hb rfl
      have hP0 : fewP its := by
        refine ⟨by have := hP.n; rw [hlA] at this; omega, ?_, fun x hx => hP.e x (by simp [hx]), fun x hx => hP.z x (by simp [hx])⟩
        have := hP.d
        unfold dist at this ⊢
        rw [List.map_append] at this
        exact (List.nodup_append.1 this).1
      try simp only [go_sem, s0, s3, s5, s6]
      refine circ_ ((hK.up mu).up mu1) hP0.sz (by have := hP0.n; omega) ?_
      intro b2 u2 hb2 mu2
      unfold l5_7
      try simp only [go_sem, s0, s3, s5, s6]
      have mu02 := (mu.trans' mu1).trans' mu2
      cases b2 with
      | true =>
        try simp only [go_sem]
        unfold l5_6
        try simp only [go_sem, s0, s3, s5, s6]
        exact k u2 mu02
      | false =>
        have hc1 := hb2 rfl
        try simp only [go_sem]
        refine circ_ ((hA.up mu1).up mu2) hP.sz (by have := hP.n; omega) ?_
        intro b3' u3 hb3 mu3
        have mu03 := mu02.trans' mu3
        try simp only [go_sem]
        unfold l5_6
        try simp only [go_sem, s0, s3, s5, s6]
        cases b3' with
        | true =>
          try simp only [go_sem]
          exact k u3 mu03
        | false =>
          have hc2 := hb3 rfl
          try simp only [go_sem]
          unfold h5_8
          try simp only [go_sem, s0, s3, s5, s6]
          have ab3 := ((ab.up mu1).up mu2).up mu3
          have hK3 := hK.up mu03
          have hA3 := ((hA.up mu1).up mu2).up mu3
          have hnl := hP0.n
          refine loopN its.length (fun i τ w' => τ 0 = .slice va its.length vc ∧ τ 3 = ptr b3 ∧ τ 5 = .bool true ∧ τ 6 = v' ∧ τ 7 = .int .i64 i ∧ Mod none' u3 w') ⟨0, by omega, s0, s3, s5, s6, rfl, Mod.refl _ _⟩ ?_
          rintro i τ w4 hi ⟨t0, t3, t5, t6, t7, m4⟩
          unfold h5_9
          try simp only [go_sem, t0, t3, t5, t6, t7]
          refine ⟨fun hlt => ?_, fun hge => ?_⟩
          · have hil : i < its.length := by
              have := of_decide_eq_true hlt
              omega
            have hiA : i < (its ++ [it]).length := by simp; omega
            obtain ⟨g, o, rfl⟩ := hK.addr (by omega)
            obtain ⟨rvi, hrvi, ax⟩ := (hK3.up m4).at hil
            have y1 := ax.ln
            have y2 := ax.sm
            obtain ⟨z1, z2⟩ := hP0.z _ (List.getElem_mem hil)
            obtain ⟨z3, z4⟩ := hP.z it (by simp)
            unfold h5_10
            try simp only [go_sem, t0, t3, t5, t6, t7, y1, y2]
            repeat refine ⟨⟨by omega, by omega⟩, ?_⟩
            refine alloc_ (cs := [str [], .int .i64 0, .slice none 0 0, str [], .bool false]) z34 rfl ?_
            intro b8 w5 hb8 bk5 m5 s5'
            try simp only [go_sem, t0, t3, t5, t6, t7]
            refine storeN (vs := its[i].cells rvi) sz34 rfl bk5 (by simp) (by intro u hu; simp [It.cells] at hu; rcases hu with rfl | rfl | rfl | rfl | rfl <;> first | rfl | (obtain ⟨a, c, e, -⟩ := hrvi.form; rw [e]; rfl)) ?_
            intro w6 bk6 m6 s6'
            have m46 : Mod none' w4 w6 := m5.trans m6 fun x hx e => by
              have e : x = b8 := e
              omega
            have bk6 : Blk w6 b8 34 (its[i].cells rvi) := by simpa [It.cells] using bk6
            have a6 := ItAt.blk bk6
            try simp only [go_sem, t0, t3, t5, t6, t7]
            refine Parent_ (i := (i : Int)) hP0.d ((hK3.up m4).up m46) hP0.sz (by omega) ?_
            intro w7 m7
            unfold parV
            try simp only [go_sem, t0, t3, t5, t6, t7]
            refine Parent_ (i := (i : Int)) hP.d (((hA3.up m4).up m46).up m7) hP.sz (by omega) ?_
            intro w8 m8
            have hp1 : parT its (i : Int) = parI its i := by
              unfold parT; rw [if_neg (by omega), Int.toNat_natCast]
            have hp2 : parT (its ++ [it]) (i : Int) = parI (its ++ [it]) i := by
              unfold parT; rw [if_neg (by simp; omega), Int.toNat_natCast]
            rw [hp1, hp2]
            unfold parV
            have a8 := (a6.up m7).up m8
            have q1 := a8.ln
            have q2 := a8.sm0
            try simp only [go_sem, t0, t3, t5, t6, t7]
            unfold h5_11
            try simp only [go_sem, t0, t3, t5, t6, t7, q1, q2]
            have m48 := (m46.trans' m7).trans' m8
            refine rrefs_ ((hrvi.mod m48 fun _ _ h => h)) (by omega) ?_
            intro v9 w9 sl9 m9
            obtain ⟨r9, c9, rfl, -, hc9⟩ := sl9.form
            have m49 := m48.trans' m9
            have hrfl : its[i].rf.length ≤ 1000000 := by
              have := List.length_filter_le (fun r => !delB its[i] r) its[i].refs
              unfold It.rf
              omega
            have ab9 := (ab3.up m4).up m49
            have c0 := ab9.c0
            have c3 := ab9.c3
            have c4 := ab9.c4
            have a9 := a8.up m9
            have e3 := a9.c3
            have e4 := a9.c4
            try simp only [go_sem, t0, t3, t5, t6, t7]
            refine loopN its[i].rf.length (fun q σ w' => σ 0 = .slice (some ⟨g, o, none⟩) its.length vc ∧ σ 3 = ptr b3 ∧ σ 5 = .bool true ∧ σ 6 = v' ∧ σ 7 = .int .i64 i ∧ σ 8 = ptr b8 ∧ σ 9 = .int .i64 (oi (parI its i).1) ∧ σ 10 = str (parI its i).2 ∧ σ 11 = .int .i64 (oi (parI (its ++ [it]) i).1) ∧ σ 12 = str (parI (its ++ [it]) i).2 ∧ σ 14 = .slice r9 its[i].rf.length c9 ∧ σ 15 = .int .i64 q ∧ (∃ rb : Bool, σ 13 = .bool rb ∧ (rb = false → it.id ∉ its[i].rf.take q)) ∧ Mod none' w9 w') ⟨0, by omega, t0, t3, t5, t6, t7, rfl, rfl, rfl, rfl, rfl, rfl, rfl, ⟨false, rfl, fun _ => by simp⟩, Mod.refl _ _⟩ ?_
            rintro q σ w10 hq ⟨t0, t3, t5, t6, t7, t8, t9, t10, t11, t12, t14, t15, ⟨rb, t13, hrb⟩, m10⟩
            unfold h5_12
            try simp only [go_sem, t0, t3, t5, t6, t7, t8, t9, t10, t11, t12, t14, t15, t13]
            refine ⟨fun hlt2 => ?_, fun hge2 => ?_⟩
            · have hql : q < its[i].rf.length := by
                have := of_decide_eq_true hlt2
                omega
              obtain ⟨g9, o9, rfl, hce⟩ := hc9 (by omega)
              have hc : w10.cell? ⟨g9, o9 + q, none⟩ = some (str its[i].rf[q]) := by
                refine m10.cell ?_ (fun h => h)
                rw [hce q (by omega), List.getElem?_map, List.getElem?_eq_getElem hql]; rfl
              have d0 := (ab9.up m10).c0
              unfold h5_13
              try simp only [go_sem, t0, t3, t5, t6, t7, t8, t9, t10, t11, t12, t14, t15, t13, hc, d0]
              unfold h5_14
              try simp only [go_sem, t0, t3, t5, t6, t7, t8, t9, t10, t11, t12, t14, t15, t13, hc, d0]
              rw [w64 (by omega) (by omega)]
              refine ⟨fun _ => ⟨by omega, by omega⟩, q + 1, by omega, by omega, rfl, ⟨_, rfl, fun h => ?_⟩, m10.trans' (Mod.drew _ _)⟩
              cases rb with
              | true => simp at h
              | false =>
                rw [List.take_succ_eq_append_getElem hql]
                simp at h
                simp only [List.mem_append, List.mem_singleton, not_or]
                exact ⟨hrb rfl, fun e => h e.symm⟩
            · have hql : q = its[i].rf.length := by
                have := of_decide_eq_false hge2
                omega
              subst hql
              rw [List.take_length] at hrb
              unfold h5_15
              have d3 := (ab9.up m10).c3
              have d4 := (ab9.up m10).c4
              have f3 := (a9.up m10).c3
              have f4 := (a9.up m10).c4
              try simp only [go_sem, t0, t3, t5, t6, t7, t8, t9, t10, t11, t12, t14, t15, t13, d3, d4, f3, f4]
              have hno : ∀ sw : Bool, (sw = false → ¬ (its[i].rf.length = 0 ∧ its[i].reply = true ∧ lowerB its[i].base = lowerB it.base ∧ it.reply = false)) → (if (if (if (!decide (oi (parI its i).1 = oi (parI (its ++ [it]) i).1)) = true then true else !decide ((parI its i).2 = (parI (its ++ [it]) i).2)) = true then !rb else false) = true then !sw else false) = false := by
                intro sw hsw
                cases rb with
                | true => simp
                | false =>
                  cases sw with
                  | true => simp
                  | false =>
                    have e := adds_plain hil hc1 hc2 (hrb rfl) (hsw rfl)
                    obtain ⟨e1, e2⟩ := parV_ne _ _ e.symm
                    rw [e1, e2]; rfl
              refine ⟨fun hc => ?_, fun hc => ?_⟩
              · refine tsame_ _ _ (by omega) (by omega) ?_
                intro w11 m11
                have g4 := ((ab9.up m10).up m11).c4
                try simp only [go_sem, t0, t3, t5, t6, t7, t8, t9, t10, t11, t12, t14, t15, t13, hc, g4]
                have hn := hno (if sameB its[i].base it.base = true then !it.reply else false) (by
                  intro h
                  rintro ⟨-, -, h3, h4⟩
                  rw [h4] at h
                  simp [sameB, h3] at h)
                try simp only [go_sem, t0, t3, t5, t6, t7, hn]
                unfold h5_16
                try simp only [go_sem, t0, t3, t5, t6, t7]
                rw [w64 (by omega) (by omega)]
                exact ⟨i + 1, by omega, by omega, rfl, (((m4.trans' m49).trans' m10).trans' m11)⟩
              · try simp only [go_sem, t0, t3, t5, t6, t7, t8, t9, t10, t11, t12, t14, t15, t13, hc, d4]
                have hn := hno false (by
                  intro h
                  rintro ⟨h1, h2, -, -⟩
                  rw [h1, h2] at hc
                  simp at hc)
                simp only [Bool.not_false] at hn
                try simp only [go_sem, t0, t3, t5, t6, t7, hn]
                unfold h5_16
                try simp only [go_sem, t0, t3, t5, t6, t7]
                rw [w64 (by omega) (by omega)]
                exact ⟨i + 1, by omega, by omega, rfl, ((m4.trans' m49).trans' m10)⟩
          · unfold h5_17
            try simp only [go_sem, t5]
            exact k w4 (mu03.trans' m4)
  have hb3' : b3 < w1.heap.size := by omega
  have hrl' : (rows cellsP (its.zip rvs)).length ≤ its.length * 5 := by omega
  -- the first append, from any world
  have app1 : ∀ (u : World) (b18 : Nat) (nx : Value → World → Prop), Mod none' w2 u → HL.Own u (.slice (some ⟨b18, 0, none⟩) 0 0) 34 5 0 [] → w2.heap.size ≤ b18 →
      (∀ v' u', HL.Own u' v' 34 5 (0 + its.length) ([] ++ rows cellsP (its.zip rvs)) → Mod none' w2 u' → (∀ b, b ≠ b18 → ∀ t cs, Blk u b t cs → Blk u' b t cs) → (∀ k, v'.ownBlock = some k → k = b18 ∨ u.heap.size ≤ k) → nx v' u') → appK Try.prog #[22, 22] 22 (.slice (some ⟨b18, 0, none⟩) 0 0) (.slice va its.length vc) u nx noPanic := by
    intro u b18 nx mu own hb H
    have hKu := (hK.up m02).up mu
    have hlt := own.lt b18 rfl
    refine append_ sl22 own hKu.sl hone (by omega) (by unfold maxLen; omega) ?_
    intro v' u' own' mu' hf _
    refine H v' u' own' (mu.trans mu' fun x hx e => by
      have e : some b18 = some x := e
      injection e with e
      omega) (fun b hb t cs bk => bk.mod mu' fun e => by
      have e : some b18 = some b := e
      injection e with e
      exact hb e.symm) fun k hk => ?_
    rcases hf k hk with h | h
    · left
      have h : some b18 = some k := h
      injection h with h
      exact h.symm
    · exact .inr h
  -- the second append
  have app2 : ∀ (u : World) (v20 : Value) (b22 : Nat) (nx : Value → World → Prop), Mod none' w2 u → HL.Own u v20 34 5 its.length (rows cellsP (its.zip rvs)) → Blk u b22 34 (it.cells (.slice ra it.refs.length rc)) → HL.Own u (.slice (some ⟨b22, 0, none⟩) 1 1) 34 5 1 (it.cells (.slice ra it.refs.length rc)) → (∀ k, v20.ownBlock = some k → w2.heap.size ≤ k) →
      (∀ v' u', Its u' v' (its ++ [it]) (rvs ++ [.slice ra it.refs.length rc]) → Mod none' w2 u' → nx v' u') → appK Try.prog #[22, 22] 22 v20 (.slice (some ⟨b22, 0, none⟩) 1 1) u nx noPanic := by
    intro u v20 b22 nx mu own bk own1 hb H
    refine append_ sl22 own own1.sl hone2 (by omega) (by unfold maxLen; omega) ?_
    intro v' u' own' mu' hf _
    have mu2 : Mod none' w2 u' := mu.trans mu' fun x hx e => by
      have := hb x e
      omega
    refine H v' u' (itsapp ((hK.up m02).up mu2) own' ?_) mu2
    exact hr.mod (m02.trans' mu2) fun _ _ h => h
  refine ⟨?_, ?_⟩
  · unfold t5_1
    try simp only [go_sem, x1, x2]
    refine bsl0 sl22 ?_
    intro b18 w3 hb18 own18 m3 s3
    have m23 := (Mod.drew none' w2).trans' m3
    have y1 := (a2.up m23).ln
    have y2 := (a2.up m23).sm0
    have hd : w2.drew.heap.size = w2.heap.size := rfl
    try simp only [go_sem, y1, y2]
    refine ⟨?_, ?_⟩
    · unfold t5_2
      try simp only [go_sem]
      refine app1 w3 b18 _ m23 own18 (by omega) ?_
      intro v4 w4 own4 m4 hbk hf
      have z1 := (a2.up m4).ln
      have z2 := (a2.up m4).sm0
      try simp only [go_sem, z1, z2, y1]
      refine bsl1 (cs := it.cells (.slice ra it.refs.length rc)) sl22 rfl rfl (by omega) ?_
      intro b22 w5 hb22 own22 bk22 m5 s5
      try simp only [go_sem]
      rw [Nat.zero_add, List.nil_append] at own4
      refine app2 w5 v4 b22 _ (m4.trans' m5) (own4.mod m5 fun _ _ h => h) bk22 own22 (fun k hk => by rcases hf k hk with rfl | h <;> omega) ?_
      intro v6 w6 hA m6
      try simp only [go_sem]
      exact rest _ w6 v6 hA (m02.trans' m6) (a2.up m6) rfl rfl rfl rfl
    · unfold t5_3
      try simp only [go_sem, y1, y2]
      refine bsl1 (cs := it.cells (.slice ra it.refs.length rc)) sl22 rfl rfl (by omega) ?_
      intro b22 w4 hb22 own22 bk22 m4 s4
      have m24 := m23.trans' m4
      have z1 := (a2.up m24).ln
      have z2 := (a2.up m24).sm0
      try simp only [go_sem, z1, z2, y1]
      refine app1 w4 b18 _ m24 (own18.mod m4 fun _ _ h => h) (by omega) ?_
      intro v5 w5 own5 m5 hbk hf
      have z3 := (a2.up m5).ln
      have z4 := (a2.up m5).sm0
      try simp only [go_sem, z3, z4, z1]
      rw [Nat.zero_add, List.nil_append] at own5
      have bk5 := hbk b22 (by omega) _ _ bk22
      refine app2 w5 v5 b22 _ m5 own5 bk5 (own1_of_blk bk5) (fun k hk => by rcases hf k hk with rfl | h <;> omega) ?_
      intro v6 w6 hA m6
      try simp only [go_sem]
      exact rest _ w6 v6 hA (m02.trans' m6) (a2.up m6) rfl rfl rfl rfl
  · unfold t5_4
    try simp only [go_sem, x1, x2]
    refine bsl1 (cs := it.cells (.slice ra it.refs.length rc)) sl22 rfl rfl (by omega) ?_
    intro b22 w3 hb22 own22 bk22 m3 s3
    have m23 := (Mod.drew none' w2).trans' m3
    have hd : w2.drew.heap.size = w2.heap.size := rfl
    have y1 := (a2.up m23).ln
    have y2 := (a2.up m23).sm0
    try simp only [go_sem, y1, y2]
    refine bsl0 sl22 ?_
    intro b18 w4 hb18 own18 m4 s4
    have m24 := m23.trans' m4
    have z1 := (a2.up m24).ln
    have z2 := (a2.up m24).sm0
    try simp only [go_sem, z1, z2, y1]
    refine app1 w4 b18 _ m24 own18 (by omega) ?_
    intro v5 w5 own5 m5 hbk hf
    have z3 := (a2.up m5).ln
    have z4 := (a2.up m5).sm0
    try simp only [go_sem, z3, z4, z1]
    rw [Nat.zero_add, List.nil_append] at own5
    have bk5 := hbk b22 (by omega) _ _ (bk22.mod m4 fun h => h)
    refine app2 w5 v5 b22 _ m5 own5 bk5 (own1_of_blk bk5) (fun k hk => by rcases hf k hk with rfl | h <;> omega) ?_
    intro v6 w6 hA m6
    try simp only [go_sem]
    exact rest _ w6 v6 hA (m02.trans' m6) (a2.up m6) rfl rfl rfl rfl
end
end Go.Proofs.Y
