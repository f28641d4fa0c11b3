/- TWB: thread: Go's sort of slices, walked: the parts. -/
import Derived.Test.YthenjelndjlnfaaTJ
import Derived.Test.YthenjelndjlnfaaTU
set_option linter.unusedSimpArgs false
set_option linter.unusedVariables false
set_option maxRecDepth 100000
namespace Go.Proofs.Y
open Go Go.HL Go.Proofs
open Go.Sort (swp insInner insOuter insertionSort siftDown heapBuild heapPop heapSort scanUp scanDown partLoop partition partEqLoop partitionEqual scanSorted shiftDown shiftUp partialIns partialInsertionSort reverseLoop reverseRange PermIn SortedIn Below SWO size_swp)

theorem szb : szOf Try.prog 53 = some 6 := by kernel_rfl
section
variable {α : Type} [Inhabited α] {w : World} {cs : α → List Value} {c : α → α → Int} {f : Value} {I : World → Prop} {g n cap B0 : Nat} {d : Array α} {next : Value → World → Prop} {QP : List PanicEntry → World → Prop}
/-- 'data[i], data[j] = data[j], data[i]' -/
theorem bswap_ {i j : Nat} {B : Prop} (hd : Dt cs 53 6 w g n cap d) (hcs : ∀ x, (cs x).length = 6) (h1 : ∀ x, ∀ v ∈ cs x, v.oneCell' = true) (hi : i < n) (hj : j < n) (hB : B) {nx : Value → World → Prop}
    (k : ∀ w', Dt cs 53 6 w' g n cap (swp d i j) → Mod (fun k => k = g) w w' → nx undef w') :
    storeK Try.prog 53 (.pointer (some ⟨g, i * 6, none⟩)) (.agg (cs d[j]!).toArray) w.drew (fun _ w' => B ∧ storeK Try.prog 53 (.pointer (some ⟨g, j * 6, none⟩)) (.agg (cs d[i]!).toArray) w' nx QP) QP := by
  have hd0 := hd.mod (Mod.drew none' _) (fun h => h)
  refine Dt.stN hd0 hcs h1 szb hi ?_
  intro w1 hd1 m1 _
  refine ⟨hB, ?_⟩
  refine Dt.stN hd1 hcs h1 szb hj ?_
  intro w2 hd2 m2 _
  exact k w2 hd2 (((Mod.drew _ _).trans' m1).trans' m2)
/-- a call of the comparison -/
theorem bcmp_ {x y : α} (hd : Dt cs 53 6 w g n cap d) (C : Cmp Try.prog f (fun x => .agg (cs x).toArray) c g B0 I) (hI : I w) {nx : Value → World → Prop}
    (k : ∀ w', Dt cs 53 6 w' g n cap d → Mod (fun k => k = g) w w' → nx (.int .i64 (c x y)) w') : callvK Try.prog f [.agg (cs x).toArray, .agg (cs y).toArray] w.drew nx QP := by
  have _h := (default : α)
  refine C.call _ _ _ _ _ (C.inv0 hI (Mod.drew _ _)) ?_
  intro w1 m1
  have m := (Mod.drew none' w).trans' m1
  exact k w1 (hd.mod m fun h => h) m.up

theorem bins_ {a b : Nat} (hd : Dt cs 53 6 w g n cap d) (hcs : ∀ x, (cs x).length = 6) (h1 : ∀ x, ∀ v ∈ cs x, v.oneCell' = true) (C : Cmp Try.prog f (fun x => .agg (cs x).toArray) c g B0 I) (hI : I w) (hb : b ≤ n) (hab : a ≤ b) (hn : n < 4611686018427387904)
    (k : ∀ w', Dt cs 53 6 w' g n cap (insertionSort (ltc c) d a b) → Mod (fun k => k = g) w w' → next (.tuple #[]) w') : callvK Try.prog (.func (.func 57) #[] #[]) [.slice (some ⟨g, 0, none⟩) n cap, .int .i64 a, .int .i64 b, f] w next QP := by
  refine r57 rfl ?_
  unfold h57
  try simp only [go_sem]
  rw [w64 (by omega) (by omega)]
  refine loopN (n + 1) (fun i τ w' => ∃ d', τ 0 = .slice (some ⟨g, 0, none⟩) n cap ∧ τ 1 = .int .i64 a ∧ τ 2 = .int .i64 b ∧ τ 3 = f ∧ τ 8 = .int .i64 i ∧ a < i ∧ Dt cs 53 6 w' g n cap d' ∧ Mod (fun k => k = g) w w' ∧ insOuter (ltc c) a b i d' = insertionSort (ltc c) d a b) ⟨a + 1, by omega, d, rfl, rfl, rfl, rfl, rfl, by omega, hd, Mod.refl _ _, rfl⟩ ?_
  rintro i τ w1 hi ⟨d1, t0, t1, t2, t3, t8, hai, hd1, m1, e1⟩
  unfold h57_1
  try simp only [go_sem, t0, t1, t2, t3, t8]
  refine ⟨fun hlt => ?_, fun hge => ?_⟩
  · have hib : i < b := by
      have : (i : Int) < b := by simpa using hlt
      omega
    rw [insOuter, if_pos hib] at e1
    unfold h57_2
    try simp only [go_sem, t0, t1, t2, t3, t8]
    refine ⟨fun j τ w' => ∃ d', j < n ∧ τ 0 = .slice (some ⟨g, 0, none⟩) n cap ∧ τ 1 = .int .i64 a ∧ τ 2 = .int .i64 b ∧ τ 3 = f ∧ τ 8 = .int .i64 i ∧ τ 9 = .int .i64 j ∧ a ≤ j ∧ Dt cs 53 6 w' g n cap d' ∧ Mod (fun k => k = g) w w' ∧ insInner (ltc c) a j d' = insInner (ltc c) a i d1, i, ⟨d1, by omega, t0, t1, t2, t3, t8, rfl, by omega, hd1, m1, rfl⟩, ?_⟩
    rintro j τ w2 ⟨d2, hjn, t0, t1, t2, t3, t8, t9, haj, hd2, m2, e2⟩
    unfold h57_3
    have hwI : I w2 := C.inv _ _ hI m2
    by_cases hja : a < j
    · obtain ⟨j, rfl⟩ : ∃ q, j = q + 1 := ⟨j - 1, by omega⟩
      have ew : IntKind.i64.wrap (((j + 1 : Nat) : Int) - 1) = (j : Nat) := by rw [w64 (by omega) (by omega)]; omega
      have eg : decide ((a : Int) < ((j + 1 : Nat) : Int)) = true := by simpa using (by omega : (a : Int) < ((j + 1 : Nat) : Int))
      have x1 := (Dt.ldN hd2 hcs hjn).1; have x2 := eq_true (Dt.ldN hd2 hcs hjn).2
      have y1 := (Dt.ldN hd2 hcs (show j < n by omega)).1; have y2 := eq_true (Dt.ldN hd2 hcs (show j < n by omega)).2
      try simp only [go_sem, t0, t1, t2, t3, t8, t9, ew, eg, x1, x2, y1, y2]
      repeat refine ⟨⟨by omega, by omega⟩, ?_⟩
      refine bcmp_ hd2 C hwI ?_
      intro w3 hd3 m3
      have m23 := m2.trans' m3
      try simp only [go_sem]
      refine ⟨fun hc => ?_, fun hc => ?_⟩
      · rw [insInner, if_pos (by rw [Bool.and_eq_true]; exact ⟨by simp; omega, hc⟩)] at e2
        have x1 := (Dt.ldN hd3 hcs hjn).1; have x2 := eq_true (Dt.ldN hd3 hcs hjn).2
        have y1 := (Dt.ldN hd3 hcs (show j < n by omega)).1; have y2 := eq_true (Dt.ldN hd3 hcs (show j < n by omega)).2
        unfold h57_4
        try simp only [go_sem, t0, t1, t2, t3, t8, t9, ew, x1, x2, y1, y2]
        repeat refine ⟨⟨by omega, by omega⟩, ?_⟩
        refine bswap_ hd3 hcs h1 hjn (by omega) (by omega) ?_
        intro w4 hd4 m4
        have m24 := m23.trans' m4
        unfold h57_5
        try simp only [go_sem, t0, t1, t2, t3, t8, t9, ew]
        refine ⟨j, by omega, swp d2 (j + 1) j, ?_⟩
        (and_intros <;> first | rfl | assumption | omega)
      · rw [insInner, if_neg (by rw [Bool.and_eq_true]; rintro ⟨-, h⟩; rw [show ltc c d2[j + 1]! d2[j]! = false from hc] at h; cases h)] at e2
        unfold h57_6
        try simp only [go_sem, t0, t1, t2, t3, t8, t9]
        rw [w64 (by omega) (by omega)]
        rw [← e2] at e1
        refine ⟨i + 1, by omega, by omega, d2, ?_⟩
        (and_intros <;> first | rfl | assumption | omega)
    · have eg : decide ((a : Int) < (j : Int)) = false := by simpa using (by omega : (j : Int) ≤ a)
      have hj : j = a := by omega
      have e3 : insInner (ltc c) a j d2 = d2 := by
        cases j with
        | zero => rfl
        | succ q => rw [insInner, if_neg (by rw [Bool.and_eq_true]; rintro ⟨h, -⟩; simp at h; omega)]
      rw [e3] at e2
      try simp only [go_sem, t0, t1, t2, t3, t8, t9, eg]
      unfold h57_6
      try simp only [go_sem, t0, t1, t2, t3, t8, t9]
      rw [w64 (by omega) (by omega)]
      rw [← e2] at e1
      have m2' := m2.trans' (Mod.drew (fun k => k = g) w2)
      have hd2' := hd2.mod (Mod.drew none' _) (fun h => h)
      refine ⟨i + 1, by omega, by omega, d2, ?_⟩
      (and_intros <;> first | rfl | assumption | omega)
  · have hib : ¬ i < b := by
      have : ¬ (i : Int) < b := by simpa using hge
      omega
    rw [insOuter, if_neg hib] at e1
    subst e1
    exact k _ hd1 m1

theorem bsift3_ {τ : Env} {r ch F hi : Nat} {Q : HX → Env → World → Prop} (hd : Dt cs 53 6 w g n cap d) (hcs : ∀ x, (cs x).length = 6) (h1 : ∀ x, ∀ v ∈ cs x, v.oneCell' = true) (C : Cmp Try.prog f (fun x => .agg (cs x).toArray) c g B0 I) (hI : I w) (hr : F + r < n) (hch : F + ch < n) (hn : n < 4611686018427387904)
    (t0 : τ 0 = .slice (some ⟨g, 0, none⟩) n cap) (t2 : τ 2 = .int .i64 hi) (t3 : τ 3 = .int .i64 F) (t4 : τ 4 = f) (t10 : τ 10 = .int .i64 r) (t11 : τ 11 = .int .i64 ch)
    (k1 : ltc c d[F + r]! d[F + ch]! = false → ∀ σ w', Dt cs 53 6 w' g n cap d → Mod (fun k => k = g) w w' → Q .ret σ w')
    (k2 : ltc c d[F + r]! d[F + ch]! = true → ∀ σ w', σ 0 = .slice (some ⟨g, 0, none⟩) n cap → σ 2 = .int .i64 hi → σ 3 = .int .i64 F → σ 4 = f → σ 10 = .int .i64 ch → Dt cs 53 6 w' g n cap (swp d (F + r) (F + ch)) → Mod (fun k => k = g) w w' → Q .normal σ w') :
    hw Try.prog noPanic h79_3 Q τ w := by
  unfold h79_3
  have e1 : IntKind.i64.wrap ((F : Int) + (r : Int)) = ((F + r : Nat) : Int) := by rw [w64 (by omega) (by omega)]; omega
  have e2 : IntKind.i64.wrap ((F : Int) + (ch : Int)) = ((F + ch : Nat) : Int) := by rw [w64 (by omega) (by omega)]; omega
  have x1 := (Dt.ldN hd hcs hr).1; have x2 := eq_true (Dt.ldN hd hcs hr).2
  have y1 := (Dt.ldN hd hcs hch).1; have y2 := eq_true (Dt.ldN hd hcs hch).2
  try simp only [go_sem, t0, t2, t3, t4, t10, t11, e1, e2, x1, x2, y1, y2]
  repeat refine ⟨⟨by omega, by omega⟩, ?_⟩
  refine bcmp_ hd C hI ?_
  intro w3 hd3 m3
  try simp only [go_sem]
  refine ⟨fun hc => ?_, fun hc => ?_⟩
  · exact k1 (by simpa [ltc] using hc) _ _ hd3 m3
  · have x1 := (Dt.ldN hd3 hcs hr).1; have x2 := eq_true (Dt.ldN hd3 hcs hr).2
    have y1 := (Dt.ldN hd3 hcs hch).1; have y2 := eq_true (Dt.ldN hd3 hcs hch).2
    unfold h79_4
    try simp only [go_sem, t0, t2, t3, t4, t10, t11, e1, e2, x1, x2, y1, y2]
    repeat refine ⟨⟨by omega, by omega⟩, ?_⟩
    refine bswap_ hd3 hcs h1 hr hch (by omega) ?_
    intro w4 hd4 m4
    try simp only [go_sem, t0, t2, t3, t4, t10, t11]
    exact k2 (by simpa [ltc] using hc) _ _ t0 t2 t3 t4 rfl hd4 (m3.trans' m4)

theorem bsift_ {lo hi F : Nat} (hd : Dt cs 53 6 w g n cap d) (hcs : ∀ x, (cs x).length = 6) (h1 : ∀ x, ∀ v ∈ cs x, v.oneCell' = true) (C : Cmp Try.prog f (fun x => .agg (cs x).toArray) c g B0 I) (hI : I w) (hF : F + hi ≤ n) (hlo : lo ≤ n) (hn : n < 4611686018427387904)
    (k : ∀ w', Dt cs 53 6 w' g n cap (siftDown (ltc c) hi F lo d) → Mod (fun k => k = g) w w' → next (.tuple #[]) w') : callvK Try.prog (.func (.func 79) #[] #[]) [.slice (some ⟨g, 0, none⟩) n cap, .int .i64 lo, .int .i64 hi, .int .i64 F, f] w next QP := by
  refine r79 rfl ?_
  unfold h79
  try simp only [go_sem]
  refine loopN (lo + hi) (fun r τ w' => ∃ d', r ≤ n ∧ τ 0 = .slice (some ⟨g, 0, none⟩) n cap ∧ τ 2 = .int .i64 hi ∧ τ 3 = .int .i64 F ∧ τ 4 = f ∧ τ 10 = .int .i64 r ∧ Dt cs 53 6 w' g n cap d' ∧ Mod (fun k => k = g) w w' ∧ siftDown (ltc c) hi F r d' = siftDown (ltc c) hi F lo d) ⟨lo, by omega, d, by omega, rfl, rfl, rfl, rfl, rfl, hd, Mod.refl _ _, rfl⟩ ?_
  rintro r τ w1 hr ⟨d1, hrn, t0, t2, t3, t4, t10, hd1, m1, e1⟩
  have hwI : I w1 := C.inv _ _ hI m1
  have ea : IntKind.i64.wrap (IntKind.i64.wrap (2 * (r : Int)) + 1) = ((2 * r + 1 : Nat) : Int) := by rw [w64 (x := 2 * (r : Int)) (by omega) (by omega), w64 (by omega) (by omega)]; omega
  unfold h79_1
  try simp only [go_sem, t0, t2, t3, t4, t10, ea]
  refine ⟨fun hge => ?_, fun hlt => ?_⟩
  · have hge' : 2 * r + 1 ≥ hi := by
      have := of_decide_eq_true hge
      omega
    rw [siftDown, dif_pos hge'] at e1
    subst e1
    exact k _ hd1 m1
  · have hlt' : ¬ 2 * r + 1 ≥ hi := by
      have := of_decide_eq_false hlt
      omega
    rw [siftDown, dif_neg hlt'] at e1
    unfold h79_2
    have eb : IntKind.i64.wrap (((2 * r + 1 : Nat) : Int) + 1) = ((2 * r + 1 + 1 : Nat) : Int) := by rw [w64 (by omega) (by omega)]; omega
    have ec : IntKind.i64.wrap ((F : Int) + ((2 * r + 1 : Nat) : Int)) = ((F + (2 * r + 1) : Nat) : Int) := by rw [w64 (by omega) (by omega)]; omega
    have ed : IntKind.i64.wrap (((F + (2 * r + 1) : Nat) : Int) + 1) = ((F + (2 * r + 1) + 1 : Nat) : Int) := by rw [w64 (by omega) (by omega)]; omega
    by_cases hch : 2 * r + 1 + 1 < hi
    · have eg : decide (((2 * r + 1 + 1 : Nat) : Int) < (hi : Int)) = true := by simpa using (by omega : ((2 * r + 1 + 1 : Nat) : Int) < (hi : Int))
      have x1 := (Dt.ldN hd1 hcs (show F + (2 * r + 1) < n by omega)).1; have x2 := eq_true (Dt.ldN hd1 hcs (show F + (2 * r + 1) < n by omega)).2
      have y1 := (Dt.ldN hd1 hcs (show F + (2 * r + 1) + 1 < n by omega)).1; have y2 := eq_true (Dt.ldN hd1 hcs (show F + (2 * r + 1) + 1 < n by omega)).2
      try simp only [go_sem, t0, t2, t3, t4, t10, eb, ec, ed, eg, x1, x2, y1, y2]
      repeat refine ⟨⟨by omega, by omega⟩, ?_⟩
      refine bcmp_ hd1 C hwI ?_
      intro w2 hd2 m2
      have m12 := m1.trans' m2
      have hwI2 : I w2 := C.inv _ _ hI m12
      try simp only [go_sem]
      refine ⟨fun hc => ?_, fun hc => ?_⟩
      · have hc' : ltc c d1[F + (2 * r + 1)]! d1[F + (2 * r + 1) + 1]! = true := hc
        rw [if_pos (by rw [Bool.and_eq_true]; exact ⟨by simpa using hch, hc'⟩)] at e1
        try simp only [go_sem, t0, t2, t3, t4, t10, eb]
        refine bsift3_ (r := r) (ch := 2 * r + 2) (F := F) (hi := hi) hd2 hcs h1 C hwI2 (by omega) (by omega) hn t0 t2 t3 t4 t10 rfl ?_ ?_
        · intro hl σ w' hd' m'
          rw [hl] at e1
          simp only [Bool.not_false, if_true] at e1
          subst e1
          try simp only [go_sem]
          exact k _ hd' (m12.trans' m')
        · intro hl σ w' s0 s2 s3 s4 s10 hd' m'
          rw [hl] at e1
          simp only [Bool.not_true, Bool.false_eq_true, if_false] at e1
          rw [dif_pos (by omega)] at e1
          have mm := m12.trans' m'
          refine ⟨2 * r + 2, by omega, by omega, swp d1 (F + r) (F + (2 * r + 2)), ?_⟩
          (and_intros <;> first | rfl | assumption | omega)
      · have hc' : ltc c d1[F + (2 * r + 1)]! d1[F + (2 * r + 1) + 1]! = false := hc
        rw [if_neg (by rw [Bool.and_eq_true]; rintro ⟨-, h⟩; rw [hc'] at h; cases h)] at e1
        try simp only [go_sem, t0, t2, t3, t4, t10]
        refine bsift3_ (r := r) (ch := 2 * r + 1) (F := F) (hi := hi) hd2 hcs h1 C hwI2 (by omega) (by omega) hn t0 t2 t3 t4 t10 rfl ?_ ?_
        · intro hl σ w' hd' m'
          rw [hl] at e1
          simp only [Bool.not_false, if_true] at e1
          subst e1
          try simp only [go_sem]
          exact k _ hd' (m12.trans' m')
        · intro hl σ w' s0 s2 s3 s4 s10 hd' m'
          rw [hl] at e1
          simp only [Bool.not_true, Bool.false_eq_true, if_false] at e1
          have mm := m12.trans' m'
          refine ⟨2 * r + 1, by omega, by omega, swp d1 (F + r) (F + (2 * r + 1)), ?_⟩
          (and_intros <;> first | rfl | assumption | omega)
    · have eg : decide (((2 * r + 1 + 1 : Nat) : Int) < (hi : Int)) = false := by simpa using (by omega : (hi : Int) ≤ ((2 * r + 1 + 1 : Nat) : Int))
      rw [if_neg (by rw [Bool.and_eq_true]; rintro ⟨h, -⟩; simp at h; omega)] at e1
      try simp only [go_sem, t0, t2, t3, t4, t10, eb, eg]
      have m2 := m1.trans' (Mod.drew (fun k => k = g) w1)
      refine bsift3_ (r := r) (ch := 2 * r + 1) (F := F) (hi := hi) (hd1.mod (Mod.drew none' _) (fun h => h)) hcs h1 C (C.inv _ _ hI m2) (by omega) (by omega) hn t0 t2 t3 t4 t10 rfl ?_ ?_
      · intro hl σ w' hd' m'
        rw [hl] at e1
        simp only [Bool.not_false, if_true] at e1
        subst e1
        try simp only [go_sem]
        exact k _ hd' (m2.trans' m')
      · intro hl σ w' s0 s2 s3 s4 s10 hd' m'
        rw [hl] at e1
        simp only [Bool.not_true, Bool.false_eq_true, if_false] at e1
        have mm := m2.trans' m'
        refine ⟨2 * r + 1, by omega, by omega, swp d1 (F + r) (F + (2 * r + 1)), ?_⟩
        (and_intros <;> first | rfl | assumption | omega)

theorem bsift_size (lt : α → α → Bool) (hi F r : Nat) (d : Array α) : (siftDown lt hi F r d).size = d.size := by
  fun_induction siftDown lt hi F r d <;> simp_all [size_swp]
theorem bbuild_size (lt : α → α → Bool) (hi F : Nat) : ∀ (k : Nat) (d : Array α), (heapBuild lt hi F k d).size = d.size
  | 0, d => rfl
  | k + 1, d => by rw [heapBuild, bbuild_size lt hi F k, bsift_size]

theorem bheap_ {a b : Nat} (hd : Dt cs 53 6 w g n cap d) (hcs : ∀ x, (cs x).length = 6) (h1 : ∀ x, ∀ v ∈ cs x, v.oneCell' = true) (C : Cmp Try.prog f (fun x => .agg (cs x).toArray) c g B0 I) (hI : I w) (hb : b ≤ n) (hab : a < b) (hn : n < 4611686018427387904)
    (k : ∀ w', Dt cs 53 6 w' g n cap (heapSort (ltc c) d a b) → Mod (fun k => k = g) w w' → next (.tuple #[]) w') : callvK Try.prog (.func (.func 58) #[] #[]) [.slice (some ⟨g, 0, none⟩) n cap, .int .i64 a, .int .i64 b, f] w next QP := by
  refine r58 rfl ?_
  have ea : IntKind.i64.wrap ((b : Int) - (a : Int)) = ((b - a : Nat) : Int) := by rw [w64 (by omega) (by omega)]; omega
  have eb : IntKind.i64.wrap ((((b - a : Nat) : Int)) - 1) = ((b - a - 1 : Nat) : Int) := by rw [w64 (by omega) (by omega)]; omega
  have ec : IntKind.i64.wrap (Int.tdiv (((b - a - 1 : Nat) : Int)) 2) = (((b - a - 1) / 2 : Nat) : Int) := by
    rw [Int.tdiv_eq_ediv_of_nonneg (by omega), w64 (by omega) (by omega)]; omega
  unfold h58
  try simp only [go_sem, ea, eb, ec]
  refine ⟨by omega, ?_⟩
  refine ⟨fun i τ w' => ∃ d', i ≤ (b - a - 1) / 2 + 1 ∧ τ 0 = .slice (some ⟨g, 0, none⟩) n cap ∧ τ 3 = f ∧ τ 8 = .int .i64 a ∧ τ 9 = .int .i64 0 ∧ τ 10 = .int .i64 (b - a : Nat) ∧ τ 11 = .int .i64 ((i : Int) - 1) ∧ Dt cs 53 6 w' g n cap d' ∧ Mod (fun k => k = g) w w' ∧ heapBuild (ltc c) (b - a) a i d' = heapBuild (ltc c) (b - a) a ((b - a - 1) / 2 + 1) d, (b - a - 1) / 2 + 1, ⟨d, by omega, rfl, rfl, rfl, rfl, rfl, by simp [upd], hd, Mod.refl _ _, rfl⟩, ?_⟩
  rintro i τ w1 ⟨d1, hi, t0, t3, t8, t9, t10, t11, hd1, m1, e1⟩
  unfold h58_1
  have hwI : I w1 := C.inv _ _ hI m1
  cases i with
  | succ i =>
    have eg : ((i + 1 : Nat) : Int) - 1 = (i : Nat) := by omega
    rw [eg] at t11
    have e0 : decide ((0 : Int) ≤ (i : Int)) = true := by simp
    try simp only [go_sem, t0, t3, t8, t9, t10, t11, e0]
    unfold h58_2
    try simp only [go_sem, t0, t3, t8, t9, t10, t11]
    refine bsift_ (lo := i) (hi := b - a) (F := a) hd1 hcs h1 C hwI (by omega) (by omega) hn ?_
    intro w2 hd2 m2
    have mm := m1.trans' m2
    unfold h58_3
    try simp only [go_sem, t0, t3, t8, t9, t10, t11]
    rw [w64 (by omega) (by omega)]
    rw [heapBuild] at e1
    refine ⟨i, by omega, siftDown (ltc c) (b - a) a i d1, ?_⟩
    (and_intros <;> first | rfl | assumption | omega)
  | zero =>
    have e0 : decide ((0 : Int) ≤ 0 - 1) = false := rfl
    try simp only [go_sem, t0, t3, t8, t9, t10, t11, e0]
    rw [heapBuild] at e1
    unfold h58_4
    try simp only [go_sem, t0, t3, t8, t9, t10, t11, eb]
    have hsz : d1.size = n := hd1.size
    refine ⟨fun i τ w' => ∃ d', i ≤ b - a ∧ τ 0 = .slice (some ⟨g, 0, none⟩) n cap ∧ τ 3 = f ∧ τ 8 = .int .i64 a ∧ τ 9 = .int .i64 0 ∧ τ 10 = .int .i64 (b - a : Nat) ∧ τ 12 = .int .i64 ((i : Int) - 1) ∧ Dt cs 53 6 w' g n cap d' ∧ Mod (fun k => k = g) w w' ∧ heapPop (ltc c) a i d' = heapPop (ltc c) a (b - a) d1, b - a, ⟨d1, by omega, t0, t3, t8, t9, t10, by simp only [upd]; simp; omega, hd1, m1, rfl⟩, ?_⟩
    rintro i τ w3 ⟨d3, hi, t0, t3, t8, t9, t10, t12, hd3, m3, e3⟩
    unfold h58_5
    have hwI : I w3 := C.inv _ _ hI m3
    cases i with
    | succ i =>
      have eg : ((i + 1 : Nat) : Int) - 1 = (i : Nat) := by omega
      rw [eg] at t12
      have e0 : decide ((0 : Int) ≤ (i : Int)) = true := by simp
      try simp only [go_sem, t0, t3, t8, t9, t10, t12, e0]
      unfold h58_6
      have ef : IntKind.i64.wrap ((a : Int) + (i : Int)) = ((a + i : Nat) : Int) := by rw [w64 (by omega) (by omega)]; omega
      have x1 := (Dt.ldN hd3 hcs (show a < n by omega)).1; have x2 := eq_true (Dt.ldN hd3 hcs (show a < n by omega)).2
      have y1 := (Dt.ldN hd3 hcs (show a + i < n by omega)).1; have y2 := eq_true (Dt.ldN hd3 hcs (show a + i < n by omega)).2
      try simp only [go_sem, t0, t3, t8, t9, t10, t12, ef, x1, x2, y1, y2]
      repeat refine ⟨⟨by omega, by omega⟩, ?_⟩
      refine bswap_ hd3 hcs h1 (show a < n by omega) (show a + i < n by omega) (by omega) ?_
      intro w4 hd4 m4
      have m34 := m3.trans' m4
      try simp only [go_sem]
      refine bsift_ (lo := 0) (hi := i) (F := a) hd4 hcs h1 C (C.inv _ _ hI m34) (by omega) (by omega) hn ?_
      intro w5 hd5 m5
      have mm := m34.trans' m5
      unfold h58_7
      try simp only [go_sem, t0, t3, t8, t9, t10, t12]
      rw [w64 (by omega) (by omega)]
      rw [heapPop] at e3
      refine ⟨i, by omega, siftDown (ltc c) i a 0 (swp d3 a (a + i)), ?_⟩
      (and_intros <;> first | rfl | assumption | omega)
    | zero =>
      have e0 : decide ((0 : Int) ≤ 0 - 1) = false := rfl
      try simp only [go_sem, t0, t3, t8, t9, t10, t12, e0]
      rw [heapPop] at e3
      refine k _ ?_ m3
      rw [heapSort, ← e1, ← e3]
      exact hd3

theorem brev_ {a b : Nat} (hd : Dt cs 53 6 w g n cap d) (hcs : ∀ x, (cs x).length = 6) (h1 : ∀ x, ∀ v ∈ cs x, v.oneCell' = true) (hb : b ≤ n) (hab : a < b) (hn : n < 4611686018427387904)
    (k : ∀ w', Dt cs 53 6 w' g n cap (reverseRange d a b) → Mod (fun k => k = g) w w' → next (.tuple #[]) w') : callvK Try.prog (.func (.func 61) #[] #[]) [.slice (some ⟨g, 0, none⟩) n cap, .int .i64 a, .int .i64 b, f] w next QP := by
  refine r61 rfl ?_
  have ea : IntKind.i64.wrap ((b : Int) - 1) = ((b - 1 : Nat) : Int) := by rw [w64 (by omega) (by omega)]; omega
  unfold h61
  try simp only [go_sem, ea]
  refine loopN n (fun i τ w' => ∃ d' j, j < n ∧ τ 0 = .slice (some ⟨g, 0, none⟩) n cap ∧ τ 8 = .int .i64 i ∧ τ 9 = .int .i64 j ∧ Dt cs 53 6 w' g n cap d' ∧ Mod (fun k => k = g) w w' ∧ reverseLoop i j d' = reverseRange d a b) ⟨a, by omega, d, b - 1, by omega, rfl, rfl, rfl, hd, Mod.refl _ _, rfl⟩ ?_
  rintro i τ w1 hi ⟨d1, j, hj, t0, t8, t9, hd1, m1, e1⟩
  unfold h61_1
  try simp only [go_sem, t0, t8, t9]
  refine ⟨fun hlt => ?_, fun hge => ?_⟩
  · have hij : i < j := by
      have := of_decide_eq_true hlt
      omega
    rw [reverseLoop, if_pos hij] at e1
    have x1 := (Dt.ldN hd1 hcs (show i < n by omega)).1; have x2 := eq_true (Dt.ldN hd1 hcs (show i < n by omega)).2
    have y1 := (Dt.ldN hd1 hcs hj).1; have y2 := eq_true (Dt.ldN hd1 hcs hj).2
    unfold h61_2
    try simp only [go_sem, t0, t8, t9, x1, x2, y1, y2]
    repeat refine ⟨⟨by omega, by omega⟩, ?_⟩
    refine bswap_ hd1 hcs h1 (show i < n by omega) hj (by omega) ?_
    intro w2 hd2 m2
    have mm := m1.trans' m2
    try simp only [go_sem, t0, t8, t9]
    rw [w64 (by omega) (by omega), w64 (by omega) (by omega)]
    refine ⟨i + 1, by omega, by omega, swp d1 i j, j - 1, ?_⟩
    have ej : (j : Int) - 1 = ((j - 1 : Nat) : Int) := by omega
    rw [ej]
    (and_intros <;> first | rfl | assumption | omega)
  · have hij : ¬ i < j := by
      have := of_decide_eq_false hge
      omega
    rw [reverseLoop, if_neg hij] at e1
    subst e1
    exact k _ hd1 m1
end
end Go.Proofs.Y

/- TXB: thread: Go's sort of slices, walked: the parts. -/
namespace Go.Proofs.Y
open Go Go.HL Go.Proofs
open Go.Sort (swp insInner insOuter insertionSort siftDown heapBuild heapPop heapSort scanUp scanDown partLoop partition partEqLoop partitionEqual scanSorted shiftDown shiftUp partialIns partialInsertionSort reverseLoop reverseRange PermIn SortedIn Below SWO size_swp)

section
variable {α : Type} [Inhabited α] {w : World} {cs : α → List Value} {c : α → α → Int} {f : Value} {I : World → Prop} {g n cap B0 : Nat} {d : Array α} {next : Value → World → Prop} {QP : List PanicEntry → World → Prop}

theorem bua_ {a i j : Nat} {τ : Env} {Q : HX → Env → World → Prop} (hd : Dt cs 53 6 w g n cap d) (hcs : ∀ x, (cs x).length = 6) (h1 : ∀ x, ∀ v ∈ cs x, v.oneCell' = true) (C : Cmp Try.prog f (fun x => .agg (cs x).toArray) c g B0 I) (hI : I w) (ha : a < n) (hj : j < n) (hi : a < i) (hij : i ≤ j + 1) (hn : n < 4611686018427387904)
    (t0 : τ 0 = .slice (some ⟨g, 0, none⟩) n cap) (t1 : τ 1 = .int .i64 a) (t4 : τ 4 = f) (ti : τ 12 = .int .i64 i) (tj : τ 13 = .int .i64 j)
    (k : ∀ σ w', σ 0 = .slice (some ⟨g, 0, none⟩) n cap → σ 1 = .int .i64 a → σ 4 = f → σ 12 = .int .i64 ((scanUp (fun x => ltc c x d[a]!) d j i : Nat)) → σ 13 = .int .i64 (j) → Dt cs 53 6 w' g n cap d → Mod (fun k => k = g) w w' → Q (.exit 0) σ w') :
    hloop (hw Try.prog noPanic h64_1) Q τ w := by
  refine loopN (j + 1) (fun i' τ w' => i ≤ i' ∧ τ 0 = .slice (some ⟨g, 0, none⟩) n cap ∧ τ 1 = .int .i64 a ∧ τ 4 = f ∧ τ 12 = .int .i64 i' ∧ τ 13 = .int .i64 j ∧ Dt cs 53 6 w' g n cap d ∧ Mod (fun k => k = g) w w' ∧ scanUp (fun x => ltc c x d[a]!) d j i' = scanUp (fun x => ltc c x d[a]!) d j i) ⟨i, by omega, by omega, t0, t1, t4, ti, tj, hd, Mod.refl _ _, rfl⟩ ?_
  rintro i' τ w1 hi' ⟨hii, t0, t1, t4, ti, tj, hd1, m1, e1⟩
  have hwI : I w1 := C.inv _ _ hI m1
  unfold h64_1
  by_cases hc : i' ≤ j
  · have eg : decide ((i' : Int) ≤ (j : Int)) = true := by simpa using (by omega : (i' : Int) ≤ (j : Int))
    have x1 := (Dt.ldN hd1 hcs (show i' < n by omega)).1; have x2 := eq_true (Dt.ldN hd1 hcs (show i' < n by omega)).2
    have y1 := (Dt.ldN hd1 hcs ha).1; have y2 := eq_true (Dt.ldN hd1 hcs ha).2
    try simp only [go_sem, t0, t1, t4, ti, tj, eg, x1, x2, y1, y2]
    repeat refine ⟨⟨by omega, by omega⟩, ?_⟩
    refine bcmp_ hd1 C hwI ?_
    intro w2 hd2 m2
    have mm := m1.trans' m2
    try simp only [go_sem]
    refine ⟨fun hb => ?_, fun hb => ?_⟩
    · have hp : (ltc c d[i']! d[a]!) = true := by simpa [ltc] using hb
      rw [scanUp, if_pos (by rw [Bool.and_eq_true]; exact ⟨by simpa using hc, hp⟩)] at e1
      unfold h64_2
      try simp only [go_sem, t0, t1, t4, ti, tj]
      rw [w64 (by omega) (by omega)]
      refine ⟨i' + 1, by omega, by omega, ?_⟩
      (and_intros <;> first | rfl | assumption | omega)
    · have hp : (ltc c d[i']! d[a]!) = false := by simpa [ltc] using hb
      rw [scanUp, if_neg (by rw [Bool.and_eq_true]; rintro ⟨-, h⟩; simp only [hp] at h; cases h)] at e1
      try simp only [go_sem, t0, t1, t4, ti, tj]
      exact k _ _ t0 t1 t4 (by rw [← e1]; exact ti) tj hd2 mm
  · have eg : decide ((i' : Int) ≤ (j : Int)) = false := by simpa using (by omega : (j : Int) < (i' : Int))
    rw [scanUp, if_neg (by rw [Bool.and_eq_true]; rintro ⟨h, -⟩; simp at h; omega)] at e1
    try simp only [go_sem, t0, t1, t4, ti, tj, eg]
    exact k _ _ t0 t1 t4 (by rw [← e1]; exact ti) tj (hd1.mod (Mod.drew none' _) (fun h => h)) (m1.trans' (Mod.drew _ _))

theorem bda_ {a i j : Nat} {τ : Env} {Q : HX → Env → World → Prop} (hd : Dt cs 53 6 w g n cap d) (hcs : ∀ x, (cs x).length = 6) (h1 : ∀ x, ∀ v ∈ cs x, v.oneCell' = true) (C : Cmp Try.prog f (fun x => .agg (cs x).toArray) c g B0 I) (hI : I w) (ha : a < n) (hj : j < n) (hi : a < i) (hij : i ≤ j + 1) (hn : n < 4611686018427387904)
    (t0 : τ 0 = .slice (some ⟨g, 0, none⟩) n cap) (t1 : τ 1 = .int .i64 a) (t4 : τ 4 = f) (ti : τ 12 = .int .i64 i) (tj : τ 13 = .int .i64 j)
    (k : ∀ σ w', σ 0 = .slice (some ⟨g, 0, none⟩) n cap → σ 1 = .int .i64 a → σ 4 = f → σ 12 = .int .i64 (i) → σ 13 = .int .i64 ((scanDown (fun x => !ltc c x d[a]!) d i j : Nat)) → Dt cs 53 6 w' g n cap d → Mod (fun k => k = g) w w' → Q (.exit 2) σ w') :
    hloop (hw Try.prog noPanic h64_4) Q τ w := by
  refine ⟨fun j' τ w' => i ≤ j' + 1 ∧ j' ≤ j ∧ τ 0 = .slice (some ⟨g, 0, none⟩) n cap ∧ τ 1 = .int .i64 a ∧ τ 4 = f ∧ τ 12 = .int .i64 i ∧ τ 13 = .int .i64 j' ∧ Dt cs 53 6 w' g n cap d ∧ Mod (fun k => k = g) w w' ∧ scanDown (fun x => !ltc c x d[a]!) d i j' = scanDown (fun x => !ltc c x d[a]!) d i j, j, ⟨hij, by omega, t0, t1, t4, ti, tj, hd, Mod.refl _ _, rfl⟩, ?_⟩
  rintro j' τ w1 ⟨hij', hjj, t0, t1, t4, ti, tj, hd1, m1, e1⟩
  have hwI : I w1 := C.inv _ _ hI m1
  unfold h64_4
  by_cases hc : i ≤ j'
  · obtain ⟨j', rfl⟩ : ∃ q, j' = q + 1 := ⟨j' - 1, by omega⟩
    have eg : decide ((i : Int) ≤ ((j' + 1 : Nat) : Int)) = true := by simpa using (by omega : (i : Int) ≤ ((j' + 1 : Nat) : Int))
    have x1 := (Dt.ldN hd1 hcs (show j' + 1 < n by omega)).1; have x2 := eq_true (Dt.ldN hd1 hcs (show j' + 1 < n by omega)).2
    have y1 := (Dt.ldN hd1 hcs ha).1; have y2 := eq_true (Dt.ldN hd1 hcs ha).2
    try simp only [go_sem, t0, t1, t4, ti, tj, eg, x1, x2, y1, y2]
    repeat refine ⟨⟨by omega, by omega⟩, ?_⟩
    refine bcmp_ hd1 C hwI ?_
    intro w2 hd2 m2
    have mm := m1.trans' m2
    try simp only [go_sem]
    refine ⟨fun hb => ?_, fun hb => ?_⟩
    · have hp : (!ltc c d[j' + 1]! d[a]!) = true := by simpa [ltc] using hb
      rw [scanDown, if_pos (by rw [Bool.and_eq_true]; exact ⟨by simpa using hc, hp⟩)] at e1
      unfold h64_5
      try simp only [go_sem, t0, t1, t4, ti, tj]
      rw [w64 (by omega) (by omega)]
      have ej : ((j' + 1 : Nat) : Int) - 1 = (j' : Int) := by omega
      rw [ej]
      refine ⟨j', by omega, ?_⟩
      (and_intros <;> first | rfl | assumption | omega)
    · have hp : (!ltc c d[j' + 1]! d[a]!) = false := by simpa [ltc] using hb
      rw [scanDown, if_neg (by rw [Bool.and_eq_true]; rintro ⟨-, h⟩; simp only [hp] at h; cases h)] at e1
      try simp only [go_sem, t0, t1, t4, ti, tj]
      exact k _ _ t0 t1 t4 ti (by rw [← e1]; exact tj) hd2 mm
  · have eg : decide ((i : Int) ≤ (j' : Int)) = false := by simpa using (by omega : (j' : Int) < (i : Int))
    have e2 : scanDown (fun x => !ltc c x d[a]!) d i j' = j' := by
      cases j' with
      | zero => rfl
      | succ q => rw [scanDown, if_neg (by rw [Bool.and_eq_true]; rintro ⟨h, -⟩; simp at h; omega)]
    rw [e2] at e1
    try simp only [go_sem, t0, t1, t4, ti, tj, eg]
    exact k _ _ t0 t1 t4 ti (by rw [← e1]; exact tj) (hd1.mod (Mod.drew none' _) (fun h => h)) (m1.trans' (Mod.drew _ _))

theorem bub_ {a i j : Nat} {τ : Env} {Q : HX → Env → World → Prop} (hd : Dt cs 53 6 w g n cap d) (hcs : ∀ x, (cs x).length = 6) (h1 : ∀ x, ∀ v ∈ cs x, v.oneCell' = true) (C : Cmp Try.prog f (fun x => .agg (cs x).toArray) c g B0 I) (hI : I w) (ha : a < n) (hj : j < n) (hi : a < i) (hij : i ≤ j + 1) (hn : n < 4611686018427387904)
    (t0 : τ 0 = .slice (some ⟨g, 0, none⟩) n cap) (t1 : τ 1 = .int .i64 a) (t4 : τ 4 = f) (ti : τ 12 = .int .i64 i) (tj : τ 13 = .int .i64 j)
    (k : ∀ σ w', σ 0 = .slice (some ⟨g, 0, none⟩) n cap → σ 1 = .int .i64 a → σ 4 = f → σ 12 = .int .i64 ((scanUp (fun x => ltc c x d[a]!) d j i : Nat)) → σ 13 = .int .i64 (j) → Dt cs 53 6 w' g n cap d → Mod (fun k => k = g) w w' → Q (.exit 6) σ w') :
    hloop (hw Try.prog noPanic h64_9) Q τ w := by
  refine loopN (j + 1) (fun i' τ w' => i ≤ i' ∧ τ 0 = .slice (some ⟨g, 0, none⟩) n cap ∧ τ 1 = .int .i64 a ∧ τ 4 = f ∧ τ 12 = .int .i64 i' ∧ τ 13 = .int .i64 j ∧ Dt cs 53 6 w' g n cap d ∧ Mod (fun k => k = g) w w' ∧ scanUp (fun x => ltc c x d[a]!) d j i' = scanUp (fun x => ltc c x d[a]!) d j i) ⟨i, by omega, by omega, t0, t1, t4, ti, tj, hd, Mod.refl _ _, rfl⟩ ?_
  rintro i' τ w1 hi' ⟨hii, t0, t1, t4, ti, tj, hd1, m1, e1⟩
  have hwI : I w1 := C.inv _ _ hI m1
  unfold h64_9
  by_cases hc : i' ≤ j
  · have eg : decide ((i' : Int) ≤ (j : Int)) = true := by simpa using (by omega : (i' : Int) ≤ (j : Int))
    have x1 := (Dt.ldN hd1 hcs (show i' < n by omega)).1; have x2 := eq_true (Dt.ldN hd1 hcs (show i' < n by omega)).2
    have y1 := (Dt.ldN hd1 hcs ha).1; have y2 := eq_true (Dt.ldN hd1 hcs ha).2
    try simp only [go_sem, t0, t1, t4, ti, tj, eg, x1, x2, y1, y2]
    repeat refine ⟨⟨by omega, by omega⟩, ?_⟩
    refine bcmp_ hd1 C hwI ?_
    intro w2 hd2 m2
    have mm := m1.trans' m2
    try simp only [go_sem]
    refine ⟨fun hb => ?_, fun hb => ?_⟩
    · have hp : (ltc c d[i']! d[a]!) = true := by simpa [ltc] using hb
      rw [scanUp, if_pos (by rw [Bool.and_eq_true]; exact ⟨by simpa using hc, hp⟩)] at e1
      unfold h64_10
      try simp only [go_sem, t0, t1, t4, ti, tj]
      rw [w64 (by omega) (by omega)]
      refine ⟨i' + 1, by omega, by omega, ?_⟩
      (and_intros <;> first | rfl | assumption | omega)
    · have hp : (ltc c d[i']! d[a]!) = false := by simpa [ltc] using hb
      rw [scanUp, if_neg (by rw [Bool.and_eq_true]; rintro ⟨-, h⟩; simp only [hp] at h; cases h)] at e1
      try simp only [go_sem, t0, t1, t4, ti, tj]
      exact k _ _ t0 t1 t4 (by rw [← e1]; exact ti) tj hd2 mm
  · have eg : decide ((i' : Int) ≤ (j : Int)) = false := by simpa using (by omega : (j : Int) < (i' : Int))
    rw [scanUp, if_neg (by rw [Bool.and_eq_true]; rintro ⟨h, -⟩; simp at h; omega)] at e1
    try simp only [go_sem, t0, t1, t4, ti, tj, eg]
    exact k _ _ t0 t1 t4 (by rw [← e1]; exact ti) tj (hd1.mod (Mod.drew none' _) (fun h => h)) (m1.trans' (Mod.drew _ _))

theorem bdb_ {a i j : Nat} {τ : Env} {Q : HX → Env → World → Prop} (hd : Dt cs 53 6 w g n cap d) (hcs : ∀ x, (cs x).length = 6) (h1 : ∀ x, ∀ v ∈ cs x, v.oneCell' = true) (C : Cmp Try.prog f (fun x => .agg (cs x).toArray) c g B0 I) (hI : I w) (ha : a < n) (hj : j < n) (hi : a < i) (hij : i ≤ j + 1) (hn : n < 4611686018427387904)
    (t0 : τ 0 = .slice (some ⟨g, 0, none⟩) n cap) (t1 : τ 1 = .int .i64 a) (t4 : τ 4 = f) (ti : τ 12 = .int .i64 i) (tj : τ 13 = .int .i64 j)
    (k : ∀ σ w', σ 0 = .slice (some ⟨g, 0, none⟩) n cap → σ 1 = .int .i64 a → σ 4 = f → σ 12 = .int .i64 (i) → σ 13 = .int .i64 ((scanDown (fun x => !ltc c x d[a]!) d i j : Nat)) → Dt cs 53 6 w' g n cap d → Mod (fun k => k = g) w w' → Q (.exit 8) σ w') :
    hloop (hw Try.prog noPanic h64_12) Q τ w := by
  refine ⟨fun j' τ w' => i ≤ j' + 1 ∧ j' ≤ j ∧ τ 0 = .slice (some ⟨g, 0, none⟩) n cap ∧ τ 1 = .int .i64 a ∧ τ 4 = f ∧ τ 12 = .int .i64 i ∧ τ 13 = .int .i64 j' ∧ Dt cs 53 6 w' g n cap d ∧ Mod (fun k => k = g) w w' ∧ scanDown (fun x => !ltc c x d[a]!) d i j' = scanDown (fun x => !ltc c x d[a]!) d i j, j, ⟨hij, by omega, t0, t1, t4, ti, tj, hd, Mod.refl _ _, rfl⟩, ?_⟩
  rintro j' τ w1 ⟨hij', hjj, t0, t1, t4, ti, tj, hd1, m1, e1⟩
  have hwI : I w1 := C.inv _ _ hI m1
  unfold h64_12
  by_cases hc : i ≤ j'
  · obtain ⟨j', rfl⟩ : ∃ q, j' = q + 1 := ⟨j' - 1, by omega⟩
    have eg : decide ((i : Int) ≤ ((j' + 1 : Nat) : Int)) = true := by simpa using (by omega : (i : Int) ≤ ((j' + 1 : Nat) : Int))
    have x1 := (Dt.ldN hd1 hcs (show j' + 1 < n by omega)).1; have x2 := eq_true (Dt.ldN hd1 hcs (show j' + 1 < n by omega)).2
    have y1 := (Dt.ldN hd1 hcs ha).1; have y2 := eq_true (Dt.ldN hd1 hcs ha).2
    try simp only [go_sem, t0, t1, t4, ti, tj, eg, x1, x2, y1, y2]
    repeat refine ⟨⟨by omega, by omega⟩, ?_⟩
    refine bcmp_ hd1 C hwI ?_
    intro w2 hd2 m2
    have mm := m1.trans' m2
    try simp only [go_sem]
    refine ⟨fun hb => ?_, fun hb => ?_⟩
    · have hp : (!ltc c d[j' + 1]! d[a]!) = true := by simpa [ltc] using hb
      rw [scanDown, if_pos (by rw [Bool.and_eq_true]; exact ⟨by simpa using hc, hp⟩)] at e1
      unfold h64_13
      try simp only [go_sem, t0, t1, t4, ti, tj]
      rw [w64 (by omega) (by omega)]
      have ej : ((j' + 1 : Nat) : Int) - 1 = (j' : Int) := by omega
      rw [ej]
      refine ⟨j', by omega, ?_⟩
      (and_intros <;> first | rfl | assumption | omega)
    · have hp : (!ltc c d[j' + 1]! d[a]!) = false := by simpa [ltc] using hb
      rw [scanDown, if_neg (by rw [Bool.and_eq_true]; rintro ⟨-, h⟩; simp only [hp] at h; cases h)] at e1
      try simp only [go_sem, t0, t1, t4, ti, tj]
      exact k _ _ t0 t1 t4 ti (by rw [← e1]; exact tj) hd2 mm
  · have eg : decide ((i : Int) ≤ (j' : Int)) = false := by simpa using (by omega : (j' : Int) < (i : Int))
    have e2 : scanDown (fun x => !ltc c x d[a]!) d i j' = j' := by
      cases j' with
      | zero => rfl
      | succ q => rw [scanDown, if_neg (by rw [Bool.and_eq_true]; rintro ⟨h, -⟩; simp at h; omega)]
    rw [e2] at e1
    try simp only [go_sem, t0, t1, t4, ti, tj, eg]
    exact k _ _ t0 t1 t4 ti (by rw [← e1]; exact tj) (hd1.mod (Mod.drew none' _) (fun h => h)) (m1.trans' (Mod.drew _ _))

theorem buc_ {a i j : Nat} {τ : Env} {Q : HX → Env → World → Prop} (hd : Dt cs 53 6 w g n cap d) (hcs : ∀ x, (cs x).length = 6) (h1 : ∀ x, ∀ v ∈ cs x, v.oneCell' = true) (C : Cmp Try.prog f (fun x => .agg (cs x).toArray) c g B0 I) (hI : I w) (ha : a < n) (hj : j < n) (hi : a < i) (hij : i ≤ j + 1) (hn : n < 4611686018427387904)
    (t0 : τ 0 = .slice (some ⟨g, 0, none⟩) n cap) (t1 : τ 1 = .int .i64 a) (t4 : τ 4 = f) (ti : τ 11 = .int .i64 i) (tj : τ 12 = .int .i64 j)
    (k : ∀ σ w', σ 0 = .slice (some ⟨g, 0, none⟩) n cap → σ 1 = .int .i64 a → σ 4 = f → σ 11 = .int .i64 ((scanUp (fun x => !ltc c d[a]! x) d j i : Nat)) → σ 12 = .int .i64 (j) → Dt cs 53 6 w' g n cap d → Mod (fun k => k = g) w w' → Q (.exit 2) σ w') :
    hloop (hw Try.prog noPanic h63_2) Q τ w := by
  refine loopN (j + 1) (fun i' τ w' => i ≤ i' ∧ τ 0 = .slice (some ⟨g, 0, none⟩) n cap ∧ τ 1 = .int .i64 a ∧ τ 4 = f ∧ τ 11 = .int .i64 i' ∧ τ 12 = .int .i64 j ∧ Dt cs 53 6 w' g n cap d ∧ Mod (fun k => k = g) w w' ∧ scanUp (fun x => !ltc c d[a]! x) d j i' = scanUp (fun x => !ltc c d[a]! x) d j i) ⟨i, by omega, by omega, t0, t1, t4, ti, tj, hd, Mod.refl _ _, rfl⟩ ?_
  rintro i' τ w1 hi' ⟨hii, t0, t1, t4, ti, tj, hd1, m1, e1⟩
  have hwI : I w1 := C.inv _ _ hI m1
  unfold h63_2
  by_cases hc : i' ≤ j
  · have eg : decide ((i' : Int) ≤ (j : Int)) = true := by simpa using (by omega : (i' : Int) ≤ (j : Int))
    have x1 := (Dt.ldN hd1 hcs (show i' < n by omega)).1; have x2 := eq_true (Dt.ldN hd1 hcs (show i' < n by omega)).2
    have y1 := (Dt.ldN hd1 hcs ha).1; have y2 := eq_true (Dt.ldN hd1 hcs ha).2
    try simp only [go_sem, t0, t1, t4, ti, tj, eg, x1, x2, y1, y2]
    repeat refine ⟨⟨by omega, by omega⟩, ?_⟩
    refine bcmp_ hd1 C hwI ?_
    intro w2 hd2 m2
    have mm := m1.trans' m2
    try simp only [go_sem]
    refine ⟨fun hb => ?_, fun hb => ?_⟩
    · have hp : (!ltc c d[a]! d[i']!) = true := by simpa [ltc] using hb
      rw [scanUp, if_pos (by rw [Bool.and_eq_true]; exact ⟨by simpa using hc, hp⟩)] at e1
      unfold h63_3
      try simp only [go_sem, t0, t1, t4, ti, tj]
      rw [w64 (by omega) (by omega)]
      refine ⟨i' + 1, by omega, by omega, ?_⟩
      (and_intros <;> first | rfl | assumption | omega)
    · have hp : (!ltc c d[a]! d[i']!) = false := by simpa [ltc] using hb
      rw [scanUp, if_neg (by rw [Bool.and_eq_true]; rintro ⟨-, h⟩; simp only [hp] at h; cases h)] at e1
      try simp only [go_sem, t0, t1, t4, ti, tj]
      exact k _ _ t0 t1 t4 (by rw [← e1]; exact ti) tj hd2 mm
  · have eg : decide ((i' : Int) ≤ (j : Int)) = false := by simpa using (by omega : (j : Int) < (i' : Int))
    rw [scanUp, if_neg (by rw [Bool.and_eq_true]; rintro ⟨h, -⟩; simp at h; omega)] at e1
    try simp only [go_sem, t0, t1, t4, ti, tj, eg]
    exact k _ _ t0 t1 t4 (by rw [← e1]; exact ti) tj (hd1.mod (Mod.drew none' _) (fun h => h)) (m1.trans' (Mod.drew _ _))

theorem bdc_ {a i j : Nat} {τ : Env} {Q : HX → Env → World → Prop} (hd : Dt cs 53 6 w g n cap d) (hcs : ∀ x, (cs x).length = 6) (h1 : ∀ x, ∀ v ∈ cs x, v.oneCell' = true) (C : Cmp Try.prog f (fun x => .agg (cs x).toArray) c g B0 I) (hI : I w) (ha : a < n) (hj : j < n) (hi : a < i) (hij : i ≤ j + 1) (hn : n < 4611686018427387904)
    (t0 : τ 0 = .slice (some ⟨g, 0, none⟩) n cap) (t1 : τ 1 = .int .i64 a) (t4 : τ 4 = f) (ti : τ 11 = .int .i64 i) (tj : τ 12 = .int .i64 j)
    (k : ∀ σ w', σ 0 = .slice (some ⟨g, 0, none⟩) n cap → σ 1 = .int .i64 a → σ 4 = f → σ 11 = .int .i64 (i) → σ 12 = .int .i64 ((scanDown (fun x => ltc c d[a]! x) d i j : Nat)) → Dt cs 53 6 w' g n cap d → Mod (fun k => k = g) w w' → Q (.exit 4) σ w') :
    hloop (hw Try.prog noPanic h63_5) Q τ w := by
  refine ⟨fun j' τ w' => i ≤ j' + 1 ∧ j' ≤ j ∧ τ 0 = .slice (some ⟨g, 0, none⟩) n cap ∧ τ 1 = .int .i64 a ∧ τ 4 = f ∧ τ 11 = .int .i64 i ∧ τ 12 = .int .i64 j' ∧ Dt cs 53 6 w' g n cap d ∧ Mod (fun k => k = g) w w' ∧ scanDown (fun x => ltc c d[a]! x) d i j' = scanDown (fun x => ltc c d[a]! x) d i j, j, ⟨hij, by omega, t0, t1, t4, ti, tj, hd, Mod.refl _ _, rfl⟩, ?_⟩
  rintro j' τ w1 ⟨hij', hjj, t0, t1, t4, ti, tj, hd1, m1, e1⟩
  have hwI : I w1 := C.inv _ _ hI m1
  unfold h63_5
  by_cases hc : i ≤ j'
  · obtain ⟨j', rfl⟩ : ∃ q, j' = q + 1 := ⟨j' - 1, by omega⟩
    have eg : decide ((i : Int) ≤ ((j' + 1 : Nat) : Int)) = true := by simpa using (by omega : (i : Int) ≤ ((j' + 1 : Nat) : Int))
    have x1 := (Dt.ldN hd1 hcs (show j' + 1 < n by omega)).1; have x2 := eq_true (Dt.ldN hd1 hcs (show j' + 1 < n by omega)).2
    have y1 := (Dt.ldN hd1 hcs ha).1; have y2 := eq_true (Dt.ldN hd1 hcs ha).2
    try simp only [go_sem, t0, t1, t4, ti, tj, eg, x1, x2, y1, y2]
    repeat refine ⟨⟨by omega, by omega⟩, ?_⟩
    refine bcmp_ hd1 C hwI ?_
    intro w2 hd2 m2
    have mm := m1.trans' m2
    try simp only [go_sem]
    refine ⟨fun hb => ?_, fun hb => ?_⟩
    · have hp : (ltc c d[a]! d[j' + 1]!) = true := by simpa [ltc] using hb
      rw [scanDown, if_pos (by rw [Bool.and_eq_true]; exact ⟨by simpa using hc, hp⟩)] at e1
      unfold h63_6
      try simp only [go_sem, t0, t1, t4, ti, tj]
      rw [w64 (by omega) (by omega)]
      have ej : ((j' + 1 : Nat) : Int) - 1 = (j' : Int) := by omega
      rw [ej]
      refine ⟨j', by omega, ?_⟩
      (and_intros <;> first | rfl | assumption | omega)
    · have hp : (ltc c d[a]! d[j' + 1]!) = false := by simpa [ltc] using hb
      rw [scanDown, if_neg (by rw [Bool.and_eq_true]; rintro ⟨-, h⟩; simp only [hp] at h; cases h)] at e1
      try simp only [go_sem, t0, t1, t4, ti, tj]
      exact k _ _ t0 t1 t4 ti (by rw [← e1]; exact tj) hd2 mm
  · have eg : decide ((i : Int) ≤ (j' : Int)) = false := by simpa using (by omega : (j' : Int) < (i : Int))
    have e2 : scanDown (fun x => ltc c d[a]! x) d i j' = j' := by
      cases j' with
      | zero => rfl
      | succ q => rw [scanDown, if_neg (by rw [Bool.and_eq_true]; rintro ⟨h, -⟩; simp at h; omega)]
    rw [e2] at e1
    try simp only [go_sem, t0, t1, t4, ti, tj, eg]
    exact k _ _ t0 t1 t4 ti (by rw [← e1]; exact tj) (hd1.mod (Mod.drew none' _) (fun h => h)) (m1.trans' (Mod.drew _ _))

/-- what the two scans come to -/
theorem bcross_ {p q : α → Bool} (hq : ∀ x, q x = !p x) {i j : Nat} (hi : 1 ≤ i) (hij : i ≤ j + 1) :
    i ≤ scanUp p d j i ∧ scanUp p d j i ≤ j + 1 ∧ scanDown q d (scanUp p d j i) j ≤ j ∧ scanUp p d j i ≤ scanDown q d (scanUp p d j i) j + 1 ∧ scanUp p d j i ≠ scanDown q d (scanUp p d j i) j := by
  obtain ⟨u1, u2, u3, u4⟩ := Sort.scanUp_spec p d j _ i rfl
  obtain ⟨v1, v2, v3, v4⟩ := Sort.scanDown_spec q d (scanUp p d j i) j
  have hu := u2 hij
  refine ⟨u1, hu, v1, v2 hu, fun e => ?_⟩
  have h1 := v4 (by omega) (by omega)
  rw [← e, hq, u4 (by omega)] at h1
  cases h1

theorem bpart_ {a b p : Nat} (hd : Dt cs 53 6 w g n cap d) (hcs : ∀ x, (cs x).length = 6) (h1 : ∀ x, ∀ v ∈ cs x, v.oneCell' = true) (C : Cmp Try.prog f (fun x => .agg (cs x).toArray) c g B0 I) (hI : I w) (hap : a ≤ p) (hpb : p < b) (hb : b ≤ n) (hn : n < 4611686018427387904)
    (k : ∀ w', Dt cs 53 6 w' g n cap (partition (ltc c) d a b p).2.2 → Mod (fun k => k = g) w w' → next (.tuple #[.int .i64 (partition (ltc c) d a b p).1, .bool (partition (ltc c) d a b p).2.1]) w') :
    callvK Try.prog (.func (.func 64) #[] #[]) [.slice (some ⟨g, 0, none⟩) n cap, .int .i64 a, .int .i64 b, .int .i64 p, f] w next QP := by
  refine r64 rfl ?_
  have ea : IntKind.i64.wrap ((a : Int) + 1) = ((a + 1 : Nat) : Int) := by rw [w64 (by omega) (by omega)]; omega
  have eb : IntKind.i64.wrap ((b : Int) - 1) = ((b - 1 : Nat) : Int) := by rw [w64 (by omega) (by omega)]; omega
  unfold h64
  have x1 := (Dt.ldN hd hcs (show a < n by omega)).1; have x2 := eq_true (Dt.ldN hd hcs (show a < n by omega)).2
  have y1 := (Dt.ldN hd hcs (show p < n by omega)).1; have y2 := eq_true (Dt.ldN hd hcs (show p < n by omega)).2
  try simp only [go_sem, x1, x2, y1, y2]
  repeat refine ⟨⟨by omega, by omega⟩, ?_⟩
  refine bswap_ hd hcs h1 (show a < n by omega) (show p < n by omega) (by omega) ?_
  intro w1 hd1 m1
  try simp only [go_sem, ea, eb]
  unfold partition at k
  simp only [] at k
  generalize hD : swp d a p = d1 at k hd1
  obtain ⟨c1, c2, c3, c4, c5⟩ := bcross_ (d := d1) (p := fun x => ltc c x d1[a]!) (q := fun x => !ltc c x d1[a]!) (fun _ => rfl) (i := a + 1) (j := b - 1) (by omega) (by omega)
  refine bua_ hd1 hcs h1 C (C.inv _ _ hI m1) (show a < n by omega) (show b - 1 < n by omega) (by omega) (by omega) hn rfl rfl rfl rfl rfl ?_
  intro σ w2 t0 t1 t4 t12 t13 hd2 m2
  have m12 := m1.trans' m2
  generalize hi1 : scanUp (fun x => ltc c x d1[a]!) d1 (b - 1) (a + 1) = i1 at *
  try simp only [go_sem]
  unfold h64_3
  try simp only [go_sem]
  refine bda_ hd2 hcs h1 C (C.inv _ _ hI m12) (show a < n by omega) (show b - 1 < n by omega) (by omega) (by omega) hn t0 t1 t4 t12 t13 ?_
  intro σ w3 t0 t1 t4 t12 t13 hd3 m3
  have m13 := m12.trans' m3
  generalize hj1 : scanDown (fun x => !ltc c x d1[a]!) d1 i1 (b - 1) = j1 at *
  try simp only [go_sem]
  unfold h64_6
  try simp only [go_sem, t0, t1, t4, t12, t13]
  refine ⟨fun hgt => ?_, fun hle => ?_⟩
  · have hgt' : i1 > j1 := by
      have := of_decide_eq_true hgt
      omega
    rw [if_pos hgt'] at k
    have x1 := (Dt.ldN hd3 hcs (show j1 < n by omega)).1; have x2 := eq_true (Dt.ldN hd3 hcs (show j1 < n by omega)).2
    have y1 := (Dt.ldN hd3 hcs (show a < n by omega)).1; have y2 := eq_true (Dt.ldN hd3 hcs (show a < n by omega)).2
    try simp only [go_sem, t0, t1, t4, t12, t13, x1, x2, y1, y2]
    repeat refine ⟨⟨by omega, by omega⟩, ?_⟩
    refine bswap_ hd3 hcs h1 (show j1 < n by omega) (show a < n by omega) (by omega) ?_
    intro w4 hd4 m4
    try simp only [go_sem, t0, t1, t4, t12, t13]
    exact k _ hd4 (m13.trans' m4)
  · have hle' : ¬ i1 > j1 := by
      have := of_decide_eq_false hle
      omega
    rw [if_neg hle'] at k
    unfold h64_7
    have x1 := (Dt.ldN hd3 hcs (show i1 < n by omega)).1; have x2 := eq_true (Dt.ldN hd3 hcs (show i1 < n by omega)).2
    have y1 := (Dt.ldN hd3 hcs (show j1 < n by omega)).1; have y2 := eq_true (Dt.ldN hd3 hcs (show j1 < n by omega)).2
    try simp only [go_sem, t0, t1, t4, t12, t13, x1, x2, y1, y2]
    repeat refine ⟨⟨by omega, by omega⟩, ?_⟩
    refine bswap_ hd3 hcs h1 (show i1 < n by omega) (show j1 < n by omega) (by omega) ?_
    intro w4 hd4 m4
    have m14 := m13.trans' m4
    try simp only [go_sem, t0, t1, t4, t12, t13]
    rw [w64 (by omega) (by omega), w64 (by omega) (by omega)]
    generalize hD4 : swp d1 i1 j1 = d4 at k hd4
    refine loopN n (fun i τ w' => ∃ d' j, a < i ∧ i ≤ j + 1 ∧ j < n ∧ τ 0 = .slice (some ⟨g, 0, none⟩) n cap ∧ τ 1 = .int .i64 a ∧ τ 4 = f ∧ τ 12 = .int .i64 i ∧ τ 13 = .int .i64 j ∧ Dt cs 53 6 w' g n cap d' ∧ Mod (fun k => k = g) w w' ∧ partLoop (ltc c) a i j d' = partLoop (ltc c) a (i1 + 1) (j1 - 1) d4) ⟨i1 + 1, by omega, d4, j1 - 1, by omega, by omega, by omega, t0, t1, t4, rfl, by simp only [upd]; simp; omega, hd4, m14, rfl⟩ ?_
    rintro i τ w5 hi ⟨d5, j, hai, hij, hj, t0, t1, t4, t12, t13, hd5, m5, e5⟩
    rw [Sort.partLoop_eq] at e5
    obtain ⟨c1, c2, c3, c4, c5⟩ := bcross_ (d := d5) (p := fun x => ltc c x d5[a]!) (q := fun x => !ltc c x d5[a]!) (fun _ => rfl) (i := i) (j := j) (by omega) (by omega)
    unfold h64_8
    try simp only [go_sem]
    refine bub_ hd5 hcs h1 C (C.inv _ _ hI m5) (show a < n by omega) (show j < n by omega) (by omega) (by omega) hn t0 t1 t4 t12 t13 ?_
    intro σ w6 t0 t1 t4 t12 t13 hd6 m6
    have m56 := m5.trans' m6
    generalize hi2 : scanUp (fun x => ltc c x d5[a]!) d5 j i = i2 at *
    try simp only [go_sem]
    unfold h64_11
    try simp only [go_sem]
    refine bdb_ hd6 hcs h1 C (C.inv _ _ hI m56) (show a < n by omega) (show j < n by omega) (by omega) (by omega) hn t0 t1 t4 t12 t13 ?_
    intro σ w7 t0 t1 t4 t12 t13 hd7 m7
    have m57 := m56.trans' m7
    generalize hj2 : scanDown (fun x => !ltc c x d5[a]!) d5 i2 j = j2 at *
    try simp only [go_sem]
    unfold h64_14
    try simp only [go_sem, t0, t1, t4, t12, t13]
    refine ⟨fun hgt => ?_, fun hle => ?_⟩
    · have hgt' : i2 > j2 := by
        have := of_decide_eq_true hgt
        omega
      rw [if_pos hgt'] at e5
      unfold h64_16
      have x1 := (Dt.ldN hd7 hcs (show j2 < n by omega)).1; have x2 := eq_true (Dt.ldN hd7 hcs (show j2 < n by omega)).2
      have y1 := (Dt.ldN hd7 hcs (show a < n by omega)).1; have y2 := eq_true (Dt.ldN hd7 hcs (show a < n by omega)).2
      try simp only [go_sem, t0, t1, t4, t12, t13, x1, x2, y1, y2]
      repeat refine ⟨⟨by omega, by omega⟩, ?_⟩
      refine bswap_ hd7 hcs h1 (show j2 < n by omega) (show a < n by omega) (by omega) ?_
      intro w8 hd8 m8
      try simp only [go_sem, t0, t1, t4, t12, t13]
      rw [← e5] at k
      exact k _ hd8 (m57.trans' m8)
    · have hle' : ¬ i2 > j2 := by
        have := of_decide_eq_false hle
        omega
      rw [if_neg hle'] at e5
      unfold h64_15
      have x1 := (Dt.ldN hd7 hcs (show i2 < n by omega)).1; have x2 := eq_true (Dt.ldN hd7 hcs (show i2 < n by omega)).2
      have y1 := (Dt.ldN hd7 hcs (show j2 < n by omega)).1; have y2 := eq_true (Dt.ldN hd7 hcs (show j2 < n by omega)).2
      try simp only [go_sem, t0, t1, t4, t12, t13, x1, x2, y1, y2]
      repeat refine ⟨⟨by omega, by omega⟩, ?_⟩
      refine bswap_ hd7 hcs h1 (show i2 < n by omega) (show j2 < n by omega) (by omega) ?_
      intro w8 hd8 m8
      have mm := m57.trans' m8
      try simp only [go_sem, t0, t1, t4, t12, t13]
      rw [w64 (by omega) (by omega), w64 (by omega) (by omega)]
      refine ⟨i2 + 1, by omega, by omega, swp d5 i2 j2, j2 - 1, ?_⟩
      have ej : (j2 : Int) - 1 = ((j2 - 1 : Nat) : Int) := by omega
      rw [ej]
      (and_intros <;> first | rfl | assumption | omega)

theorem bparteq_ {a b p : Nat} (hd : Dt cs 53 6 w g n cap d) (hcs : ∀ x, (cs x).length = 6) (h1 : ∀ x, ∀ v ∈ cs x, v.oneCell' = true) (C : Cmp Try.prog f (fun x => .agg (cs x).toArray) c g B0 I) (hI : I w) (hap : a ≤ p) (hpb : p < b) (hb : b ≤ n) (hn : n < 4611686018427387904)
    (k : ∀ w', Dt cs 53 6 w' g n cap (partitionEqual (ltc c) d a b p).2 → Mod (fun k => k = g) w w' → next (.int .i64 (partitionEqual (ltc c) d a b p).1) w') :
    callvK Try.prog (.func (.func 63) #[] #[]) [.slice (some ⟨g, 0, none⟩) n cap, .int .i64 a, .int .i64 b, .int .i64 p, f] w next QP := by
  refine r63 rfl ?_
  have ea : IntKind.i64.wrap ((a : Int) + 1) = ((a + 1 : Nat) : Int) := by rw [w64 (by omega) (by omega)]; omega
  have eb : IntKind.i64.wrap ((b : Int) - 1) = ((b - 1 : Nat) : Int) := by rw [w64 (by omega) (by omega)]; omega
  unfold h63
  have x1 := (Dt.ldN hd hcs (show a < n by omega)).1; have x2 := eq_true (Dt.ldN hd hcs (show a < n by omega)).2
  have y1 := (Dt.ldN hd hcs (show p < n by omega)).1; have y2 := eq_true (Dt.ldN hd hcs (show p < n by omega)).2
  try simp only [go_sem, x1, x2, y1, y2]
  repeat refine ⟨⟨by omega, by omega⟩, ?_⟩
  refine bswap_ hd hcs h1 (show a < n by omega) (show p < n by omega) (by omega) ?_
  intro w1 hd1 m1
  try simp only [go_sem, ea, eb]
  unfold partitionEqual at k
  generalize hD : swp d a p = d1 at k hd1
  refine loopN n (fun i τ w' => ∃ d' j, a < i ∧ i ≤ j + 1 ∧ j < n ∧ τ 0 = .slice (some ⟨g, 0, none⟩) n cap ∧ τ 1 = .int .i64 a ∧ τ 4 = f ∧ τ 11 = .int .i64 i ∧ τ 12 = .int .i64 j ∧ Dt cs 53 6 w' g n cap d' ∧ Mod (fun k => k = g) w w' ∧ partEqLoop (ltc c) a i j d' = partEqLoop (ltc c) a (a + 1) (b - 1) d1) ⟨a + 1, by omega, d1, b - 1, by omega, by omega, by omega, rfl, rfl, rfl, rfl, rfl, hd1, m1, rfl⟩ ?_
  rintro i τ w5 hi ⟨d5, j, hai, hij, hj, t0, t1, t4, t12, t13, hd5, m5, e5⟩
  rw [Sort.partEqLoop_eq] at e5
  obtain ⟨c1, c2, c3, c4, c5⟩ := bcross_ (d := d5) (p := fun x => !ltc c d5[a]! x) (q := fun x => ltc c d5[a]! x) (fun _ => by simp) (i := i) (j := j) (by omega) (by omega)
  unfold h63_1
  try simp only [go_sem]
  refine buc_ hd5 hcs h1 C (C.inv _ _ hI m5) (show a < n by omega) (show j < n by omega) (by omega) (by omega) hn t0 t1 t4 t12 t13 ?_
  intro σ w6 t0 t1 t4 t12 t13 hd6 m6
  have m56 := m5.trans' m6
  generalize hi2 : scanUp (fun x => !ltc c d5[a]! x) d5 j i = i2 at *
  try simp only [go_sem]
  unfold h63_4
  try simp only [go_sem]
  refine bdc_ hd6 hcs h1 C (C.inv _ _ hI m56) (show a < n by omega) (show j < n by omega) (by omega) (by omega) hn t0 t1 t4 t12 t13 ?_
  intro σ w7 t0 t1 t4 t12 t13 hd7 m7
  have m57 := m56.trans' m7
  generalize hj2 : scanDown (fun x => ltc c d5[a]! x) d5 i2 j = j2 at *
  try simp only [go_sem]
  unfold h63_7
  try simp only [go_sem, t0, t1, t4, t12, t13]
  refine ⟨fun hgt => ?_, fun hle => ?_⟩
  · have hgt' : i2 > j2 := by
      have := of_decide_eq_true hgt
      omega
    rw [if_pos hgt'] at e5
    unfold h63_9
    try simp only [go_sem, t0, t1, t4, t12, t13]
    rw [← e5] at k
    exact k _ hd7 m57
  · have hle' : ¬ i2 > j2 := by
      have := of_decide_eq_false hle
      omega
    rw [if_neg hle'] at e5
    unfold h63_8
    have x1 := (Dt.ldN hd7 hcs (show i2 < n by omega)).1; have x2 := eq_true (Dt.ldN hd7 hcs (show i2 < n by omega)).2
    have y1 := (Dt.ldN hd7 hcs (show j2 < n by omega)).1; have y2 := eq_true (Dt.ldN hd7 hcs (show j2 < n by omega)).2
    try simp only [go_sem, t0, t1, t4, t12, t13, x1, x2, y1, y2]
    repeat refine ⟨⟨by omega, by omega⟩, ?_⟩
    refine bswap_ hd7 hcs h1 (show i2 < n by omega) (show j2 < n by omega) (by omega) ?_
    intro w8 hd8 m8
    have mm := m57.trans' m8
    try simp only [go_sem, t0, t1, t4, t12, t13]
    rw [w64 (by omega) (by omega), w64 (by omega) (by omega)]
    refine ⟨i2 + 1, by omega, by omega, swp d5 i2 j2, j2 - 1, ?_⟩
    have ej : (j2 : Int) - 1 = ((j2 - 1 : Nat) : Int) := by omega
    rw [ej]
    (and_intros <;> first | rfl | assumption | omega)
end
end Go.Proofs.Y

/- TYB: thread: Go's sort of slices, walked: the parts. -/
namespace Go.Proofs.Y
open Go Go.HL Go.Proofs
open Go.Sort (swp insInner insOuter insertionSort siftDown heapBuild heapPop heapSort scanUp scanDown partLoop partition partEqLoop partitionEqual scanSorted shiftDown shiftUp partialIns partialInsertionSort reverseLoop reverseRange PermIn SortedIn Below SWO size_swp)

section
variable {α : Type} [Inhabited α] {w : World} {cs : α → List Value} {c : α → α → Int} {f : Value} {I : World → Prop} {g n cap B0 : Nat} {d : Array α} {next : Value → World → Prop} {QP : List PanicEntry → World → Prop}
/-! ### partial insertion -/
theorem bps_ {a b i : Nat} {c10 : Value} {τ : Env} {Q : HX → Env → World → Prop} (hd : Dt cs 53 6 w g n cap d) (hcs : ∀ x, (cs x).length = 6) (h1 : ∀ x, ∀ v ∈ cs x, v.oneCell' = true) (C : Cmp Try.prog f (fun x => .agg (cs x).toArray) c g B0 I) (hI : I w) (hi : 0 < i) (hib : i ≤ b) (hb : b ≤ n) (hn : n < 4611686018427387904)
    (t0 : τ 0 = .slice (some ⟨g, 0, none⟩) n cap) (t1 : τ 1 = .int .i64 a) (t2 : τ 2 = .int .i64 b) (t3 : τ 3 = f) (t9 : τ 9 = .int .i64 i) (t10 : τ 10 = c10)
    (k : ∀ σ w', i ≤ scanSorted (ltc c) d b i → scanSorted (ltc c) d b i ≤ b → σ 0 = .slice (some ⟨g, 0, none⟩) n cap → σ 1 = .int .i64 a → σ 2 = .int .i64 b → σ 3 = f → σ 9 = .int .i64 (scanSorted (ltc c) d b i : Nat) → σ 10 = c10 → Dt cs 53 6 w' g n cap d → Mod (fun k => k = g) w w' → Q (.exit 2) σ w') :
    hloop (hw Try.prog noPanic h62_3) Q τ w := by
  refine loopN b (fun i' τ w' => i ≤ i' ∧ τ 0 = .slice (some ⟨g, 0, none⟩) n cap ∧ τ 1 = .int .i64 a ∧ τ 2 = .int .i64 b ∧ τ 3 = f ∧ τ 9 = .int .i64 i' ∧ τ 10 = c10 ∧ Dt cs 53 6 w' g n cap d ∧ Mod (fun k => k = g) w w' ∧ scanSorted (ltc c) d b i' = scanSorted (ltc c) d b i) ⟨i, hib, by omega, t0, t1, t2, t3, t9, t10, hd, Mod.refl _ _, rfl⟩ ?_
  rintro i' τ w1 hi' ⟨hii, t0, t1, t2, t3, t9, t10, hd1, m1, e1⟩
  have hwI : I w1 := C.inv _ _ hI m1
  unfold h62_3
  by_cases hc : i' < b
  · have eg : decide ((i' : Int) < (b : Int)) = true := by simpa using (by omega : (i' : Int) < (b : Int))
    have ew : IntKind.i64.wrap ((i' : Int) - 1) = ((i' - 1 : Nat) : Int) := by rw [w64 (by omega) (by omega)]; omega
    have x1 := (Dt.ldN hd1 hcs (show i' < n by omega)).1; have x2 := eq_true (Dt.ldN hd1 hcs (show i' < n by omega)).2
    have y1 := (Dt.ldN hd1 hcs (show i' - 1 < n by omega)).1; have y2 := eq_true (Dt.ldN hd1 hcs (show i' - 1 < n by omega)).2
    try simp only [go_sem, t0, t1, t2, t3, t9, t10, eg, ew, x1, x2, y1, y2]
    repeat refine ⟨⟨by omega, by omega⟩, ?_⟩
    refine bcmp_ hd1 C hwI ?_
    intro w2 hd2 m2
    have mm := m1.trans' m2
    try simp only [go_sem]
    refine ⟨fun hb => ?_, fun hb => ?_⟩
    · have hp : (!ltc c d[i']! d[i' - 1]!) = true := by simpa [ltc] using hb
      rw [scanSorted, if_pos (by rw [Bool.and_eq_true]; exact ⟨by simpa using hc, hp⟩)] at e1
      unfold h62_4
      try simp only [go_sem, t0, t1, t2, t3, t9, t10]
      rw [w64 (by omega) (by omega)]
      refine ⟨i' + 1, by omega, by omega, ?_⟩
      (and_intros <;> first | rfl | assumption | omega)
    · have hp : (!ltc c d[i']! d[i' - 1]!) = false := by simpa [ltc] using hb
      rw [scanSorted, if_neg (by rw [Bool.and_eq_true]; rintro ⟨-, h⟩; simp only [hp] at h; cases h)] at e1
      try simp only [go_sem, t0, t1, t2, t3, t9, t10]
      exact k _ _ (by omega) (by omega) t0 t1 t2 t3 (by rw [← e1]; exact t9) t10 hd2 mm
  · have eg : decide ((i' : Int) < (b : Int)) = false := by simpa using (by omega : (b : Int) ≤ (i' : Int))
    rw [scanSorted, if_neg (by rw [Bool.and_eq_true]; rintro ⟨h, -⟩; simp at h; omega)] at e1
    try simp only [go_sem, t0, t1, t2, t3, t9, t10, eg]
    exact k _ _ (by omega) (by omega) t0 t1 t2 t3 (by rw [← e1]; exact t9) t10 (hd1.mod (Mod.drew none' _) (fun h => h)) (m1.trans' (Mod.drew _ _))

theorem bpd_ {a b i j : Nat} {c10 : Value} {τ : Env} {Q : HX → Env → World → Prop} (hd : Dt cs 53 6 w g n cap d) (hcs : ∀ x, (cs x).length = 6) (h1 : ∀ x, ∀ v ∈ cs x, v.oneCell' = true) (C : Cmp Try.prog f (fun x => .agg (cs x).toArray) c g B0 I) (hI : I w) (hj : j < n) (hn : n < 4611686018427387904)
    (t0 : τ 0 = .slice (some ⟨g, 0, none⟩) n cap) (t1 : τ 1 = .int .i64 a) (t2 : τ 2 = .int .i64 b) (t3 : τ 3 = f) (t9 : τ 9 = .int .i64 i) (t10 : τ 10 = c10) (t11 : τ 11 = .int .i64 j)
    (k : ∀ σ w', σ 0 = .slice (some ⟨g, 0, none⟩) n cap → σ 1 = .int .i64 a → σ 2 = .int .i64 b → σ 3 = f → σ 9 = .int .i64 i → σ 10 = c10 → Dt cs 53 6 w' g n cap (shiftDown (ltc c) j d) → Mod (fun k => k = g) w w' → Q (.exit 4) σ w') :
    hloop (hw Try.prog noPanic h62_8) Q τ w := by
  refine ⟨fun j' τ w' => ∃ d', j' ≤ j ∧ τ 0 = .slice (some ⟨g, 0, none⟩) n cap ∧ τ 1 = .int .i64 a ∧ τ 2 = .int .i64 b ∧ τ 3 = f ∧ τ 9 = .int .i64 i ∧ τ 10 = c10 ∧ τ 11 = .int .i64 j' ∧ Dt cs 53 6 w' g n cap d' ∧ Mod (fun k => k = g) w w' ∧ shiftDown (ltc c) j' d' = shiftDown (ltc c) j d, j, ⟨d, by omega, t0, t1, t2, t3, t9, t10, t11, hd, Mod.refl _ _, rfl⟩, ?_⟩
  rintro j' τ w1 ⟨d1, hjj, t0, t1, t2, t3, t9, t10, t11, hd1, m1, e1⟩
  have hwI : I w1 := C.inv _ _ hI m1
  unfold h62_8
  cases j' with
  | zero =>
    have eg : decide ((1 : Int) ≤ 0) = false := rfl
    try simp only [go_sem, t0, t1, t2, t3, t9, t10, t11, eg]
    rw [shiftDown] at e1
    exact k _ _ t0 t1 t2 t3 t9 t10 (by rw [← e1]; exact hd1) m1
  | succ j' =>
    have eg : decide ((1 : Int) ≤ ((j' + 1 : Nat) : Int)) = true := by simp; omega
    have ew : IntKind.i64.wrap (((j' + 1 : Nat) : Int) - 1) = (j' : Int) := by rw [w64 (by omega) (by omega)]; omega
    have x1 := (Dt.ldN hd1 hcs (show j' + 1 < n by omega)).1; have x2 := eq_true (Dt.ldN hd1 hcs (show j' + 1 < n by omega)).2
    have y1 := (Dt.ldN hd1 hcs (show j' < n by omega)).1; have y2 := eq_true (Dt.ldN hd1 hcs (show j' < n by omega)).2
    try simp only [go_sem, t0, t1, t2, t3, t9, t10, t11, eg]
    unfold h62_9
    try simp only [go_sem, t0, t1, t2, t3, t9, t10, t11, ew, x1, x2, y1, y2]
    repeat refine ⟨⟨by omega, by omega⟩, ?_⟩
    refine bcmp_ hd1 C hwI ?_
    intro w2 hd2 m2
    have mm := m1.trans' m2
    rw [shiftDown] at e1
    try simp only [go_sem]
    refine ⟨fun hb => ?_, fun hb => ?_⟩
    · have hp : (!ltc c d1[j' + 1]! d1[j']!) = true := by simpa [ltc] using hb
      rw [if_pos hp] at e1
      try simp only [go_sem, t0, t1, t2, t3, t9, t10]
      exact k _ _ t0 t1 t2 t3 t9 t10 (by rw [← e1]; exact hd2) mm
    · have hp : (!ltc c d1[j' + 1]! d1[j']!) = false := by simpa [ltc] using hb
      rw [if_neg (by rw [hp]; simp)] at e1
      have x1 := (Dt.ldN hd2 hcs (show j' + 1 < n by omega)).1; have x2 := eq_true (Dt.ldN hd2 hcs (show j' + 1 < n by omega)).2
      have y1 := (Dt.ldN hd2 hcs (show j' < n by omega)).1; have y2 := eq_true (Dt.ldN hd2 hcs (show j' < n by omega)).2
      unfold h62_10
      try simp only [go_sem, t0, t1, t2, t3, t9, t10, t11, ew, x1, x2, y1, y2]
      repeat refine ⟨⟨by omega, by omega⟩, ?_⟩
      refine bswap_ hd2 hcs h1 (show j' + 1 < n by omega) (show j' < n by omega) (by omega) ?_
      intro w3 hd3 m3
      have mm3 := mm.trans' m3
      unfold h62_11
      try simp only [go_sem, t0, t1, t2, t3, t9, t10, t11, ew]
      refine ⟨j', by omega, swp d1 (j' + 1) j', ?_⟩
      (and_intros <;> first | rfl | assumption | omega)

theorem bpu_ {a b i j : Nat} {c10 : Value} {τ : Env} {Q : HX → Env → World → Prop} (hd : Dt cs 53 6 w g n cap d) (hcs : ∀ x, (cs x).length = 6) (h1 : ∀ x, ∀ v ∈ cs x, v.oneCell' = true) (C : Cmp Try.prog f (fun x => .agg (cs x).toArray) c g B0 I) (hI : I w) (hj : 0 < j) (hjb : j ≤ b) (hb : b ≤ n) (hn : n < 4611686018427387904)
    (t0 : τ 0 = .slice (some ⟨g, 0, none⟩) n cap) (t1 : τ 1 = .int .i64 a) (t2 : τ 2 = .int .i64 b) (t3 : τ 3 = f) (t9 : τ 9 = .int .i64 i) (t10 : τ 10 = c10) (t12 : τ 12 = .int .i64 j)
    (k : ∀ σ w', σ 0 = .slice (some ⟨g, 0, none⟩) n cap → σ 1 = .int .i64 a → σ 2 = .int .i64 b → σ 3 = f → σ 9 = .int .i64 i → σ 10 = c10 → Dt cs 53 6 w' g n cap (shiftUp (ltc c) b j d) → Mod (fun k => k = g) w w' → Q (.exit 6) σ w') :
    hloop (hw Try.prog noPanic h62_13) Q τ w := by
  refine loopN b (fun j' τ w' => ∃ d', j ≤ j' ∧ τ 0 = .slice (some ⟨g, 0, none⟩) n cap ∧ τ 1 = .int .i64 a ∧ τ 2 = .int .i64 b ∧ τ 3 = f ∧ τ 9 = .int .i64 i ∧ τ 10 = c10 ∧ τ 12 = .int .i64 j' ∧ Dt cs 53 6 w' g n cap d' ∧ Mod (fun k => k = g) w w' ∧ shiftUp (ltc c) b j' d' = shiftUp (ltc c) b j d) ⟨j, by omega, d, by omega, t0, t1, t2, t3, t9, t10, t12, hd, Mod.refl _ _, rfl⟩ ?_
  rintro j' τ w1 hj' ⟨d1, hjj, t0, t1, t2, t3, t9, t10, t12, hd1, m1, e1⟩
  have hwI : I w1 := C.inv _ _ hI m1
  unfold h62_13
  by_cases hc : j' < b
  · have eg : decide ((j' : Int) < (b : Int)) = true := by simpa using (by omega : (j' : Int) < (b : Int))
    have ew : IntKind.i64.wrap ((j' : Int) - 1) = ((j' - 1 : Nat) : Int) := by rw [w64 (by omega) (by omega)]; omega
    have x1 := (Dt.ldN hd1 hcs (show j' < n by omega)).1; have x2 := eq_true (Dt.ldN hd1 hcs (show j' < n by omega)).2
    have y1 := (Dt.ldN hd1 hcs (show j' - 1 < n by omega)).1; have y2 := eq_true (Dt.ldN hd1 hcs (show j' - 1 < n by omega)).2
    try simp only [go_sem, t0, t1, t2, t3, t9, t10, t12, eg]
    unfold h62_14
    try simp only [go_sem, t0, t1, t2, t3, t9, t10, t12, ew, x1, x2, y1, y2]
    repeat refine ⟨⟨by omega, by omega⟩, ?_⟩
    refine bcmp_ hd1 C hwI ?_
    intro w2 hd2 m2
    have mm := m1.trans' m2
    rw [shiftUp, if_pos hc] at e1
    try simp only [go_sem]
    refine ⟨fun hb => ?_, fun hb => ?_⟩
    · have hp : (!ltc c d1[j']! d1[j' - 1]!) = true := by simpa [ltc] using hb
      rw [if_pos hp] at e1
      try simp only [go_sem, t0, t1, t2, t3, t9, t10]
      exact k _ _ t0 t1 t2 t3 t9 t10 (by rw [← e1]; exact hd2) mm
    · have hp : (!ltc c d1[j']! d1[j' - 1]!) = false := by simpa [ltc] using hb
      rw [if_neg (by rw [hp]; simp)] at e1
      have x1 := (Dt.ldN hd2 hcs (show j' < n by omega)).1; have x2 := eq_true (Dt.ldN hd2 hcs (show j' < n by omega)).2
      have y1 := (Dt.ldN hd2 hcs (show j' - 1 < n by omega)).1; have y2 := eq_true (Dt.ldN hd2 hcs (show j' - 1 < n by omega)).2
      unfold h62_15
      try simp only [go_sem, t0, t1, t2, t3, t9, t10, t12, ew, x1, x2, y1, y2]
      repeat refine ⟨⟨by omega, by omega⟩, ?_⟩
      refine bswap_ hd2 hcs h1 (show j' < n by omega) (show j' - 1 < n by omega) (by omega) ?_
      intro w3 hd3 m3
      have mm3 := mm.trans' m3
      unfold h62_16
      try simp only [go_sem, t0, t1, t2, t3, t9, t10, t12]
      rw [w64 (by omega) (by omega)]
      refine ⟨j' + 1, by omega, by omega, swp d1 j' (j' - 1), ?_⟩
      (and_intros <;> first | rfl | assumption | omega)
  · have eg : decide ((j' : Int) < (b : Int)) = false := by simpa using (by omega : (b : Int) ≤ (j' : Int))
    rw [shiftUp, if_neg hc] at e1
    try simp only [go_sem, t0, t1, t2, t3, t9, t10, t12, eg]
    exact k _ _ t0 t1 t2 t3 t9 t10 (by rw [← e1]; exact hd1) m1

/-- behind the shift to the left -/
theorem bpt_ {a b i : Nat} {c10 : Value} {τ : Env} {Q : HX → Env → World → Prop} (hd : Dt cs 53 6 w g n cap d) (hcs : ∀ x, (cs x).length = 6) (h1 : ∀ x, ∀ v ∈ cs x, v.oneCell' = true) (C : Cmp Try.prog f (fun x => .agg (cs x).toArray) c g B0 I) (hI : I w) (hib : i < b) (hb : b ≤ n) (hn : n < 4611686018427387904)
    (t0 : τ 0 = .slice (some ⟨g, 0, none⟩) n cap) (t1 : τ 1 = .int .i64 a) (t2 : τ 2 = .int .i64 b) (t3 : τ 3 = f) (t9 : τ 9 = .int .i64 i) (t10 : τ 10 = c10)
    (k : ∀ σ w', σ 0 = .slice (some ⟨g, 0, none⟩) n cap → σ 1 = .int .i64 a → σ 2 = .int .i64 b → σ 3 = f → σ 9 = .int .i64 i → σ 10 = c10 → Dt cs 53 6 w' g n cap (if b - i ≥ 2 then shiftUp (ltc c) b (i + 1) d else d) → Mod (fun k => k = g) w w' → Q .normal σ w') :
    hw Try.prog noPanic h62_12 Q τ w := by
  unfold h62_12
  have ea : IntKind.i64.wrap ((b : Int) - (i : Int)) = ((b - i : Nat) : Int) := by rw [w64 (by omega) (by omega)]; omega
  have eb : IntKind.i64.wrap ((i : Int) + 1) = ((i + 1 : Nat) : Int) := by rw [w64 (by omega) (by omega)]; omega
  try simp only [go_sem, t0, t1, t2, t3, t9, t10, ea, eb]
  refine ⟨fun hc => ?_, fun hc => ?_⟩
  · have hc' : b - i ≥ 2 := by have := of_decide_eq_true hc; omega
    rw [if_pos hc'] at k
    try simp only [go_sem, t0, t1, t2, t3, t9, t10, eb]
    refine bpu_ (a := a) (i := i) hd hcs h1 C hI (show 0 < i + 1 by omega) (by omega) hb hn t0 t1 t2 t3 t9 t10 rfl ?_
    intro σ w' t0 t1 t2 t3 t9 t10 hd' m'
    try simp only [go_sem]
    exact k _ _ t0 t1 t2 t3 t9 t10 hd' m'
  · have hc' : ¬ b - i ≥ 2 := by have := of_decide_eq_false hc; omega
    rw [if_neg hc'] at k
    try simp only [go_sem]
    exact k _ _ t0 t1 t2 t3 t9 t10 hd (Mod.refl _ _)

theorem bpins_ {a b : Nat} (hd : Dt cs 53 6 w g n cap d) (hcs : ∀ x, (cs x).length = 6) (h1 : ∀ x, ∀ v ∈ cs x, v.oneCell' = true) (C : Cmp Try.prog f (fun x => .agg (cs x).toArray) c g B0 I) (hI : I w) (hab : a < b) (hb : b ≤ n) (hn : n < 4611686018427387904)
    (k : ∀ w', Dt cs 53 6 w' g n cap (partialInsertionSort (ltc c) d a b).1 → Mod (fun k => k = g) w w' → next (.bool (partialInsertionSort (ltc c) d a b).2) w') :
    callvK Try.prog (.func (.func 62) #[] #[]) [.slice (some ⟨g, 0, none⟩) n cap, .int .i64 a, .int .i64 b, f] w next QP := by
  refine r62 rfl ?_
  unfold h62
  try simp only [go_sem]
  rw [w64 (by omega) (by omega)]
  refine loopN 5 (fun s τ w' => ∃ d' i, a < i ∧ i ≤ b ∧ τ 0 = .slice (some ⟨g, 0, none⟩) n cap ∧ τ 1 = .int .i64 a ∧ τ 2 = .int .i64 b ∧ τ 3 = f ∧ τ 9 = .int .i64 i ∧ τ 10 = .int .i64 s ∧ Dt cs 53 6 w' g n cap d' ∧ Mod (fun k => k = g) w w' ∧ partialIns (ltc c) a b (5 - s) i d' = partialInsertionSort (ltc c) d a b) ⟨0, by omega, d, a + 1, by omega, by omega, rfl, rfl, rfl, rfl, rfl, rfl, hd, Mod.refl _ _, rfl⟩ ?_
  rintro s τ w1 hs ⟨d1, i, hai, hib, t0, t1, t2, t3, t9, t10, hd1, m1, e1⟩
  unfold h62_1
  try simp only [go_sem, t0, t1, t2, t3, t9, t10]
  refine ⟨fun hlt => ?_, fun hge => ?_⟩
  · have hs5 : s < 5 := by
      have := of_decide_eq_true hlt
      omega
    obtain ⟨q, hq⟩ : ∃ q, 5 - s = q + 1 := ⟨4 - s, by omega⟩
    rw [hq, partialIns] at e1
    simp only [] at e1
    unfold h62_2
    try simp only [go_sem]
    refine bps_ (a := a) hd1 hcs h1 C (C.inv _ _ hI m1) (show 0 < i by omega) hib hb hn t0 t1 t2 t3 t9 t10 ?_
    intro σ w2 hi1 hi2 t0 t1 t2 t3 t9 t10 hd2 m2
    have m12 := m1.trans' m2
    generalize scanSorted (ltc c) d1 b i = i1 at *
    try simp only [go_sem]
    unfold h62_5
    try simp only [go_sem, t0, t1, t2, t3, t9, t10]
    refine ⟨fun heq => ?_, fun hne => ?_⟩
    · have he : i1 = b := by
        have := of_decide_eq_true heq
        omega
      rw [if_pos he] at e1
      try simp only [go_sem]
      rw [← e1] at k
      exact k _ hd2 m12
    · have he : ¬ i1 = b := by
        have := of_decide_eq_false hne
        omega
      rw [if_neg he] at e1
      have ea : IntKind.i64.wrap ((b : Int) - (a : Int)) = ((b - a : Nat) : Int) := by rw [w64 (by omega) (by omega)]; omega
      unfold h62_6
      try simp only [go_sem, t0, t1, t2, t3, t9, t10, ea]
      refine ⟨fun h50 => ?_, fun h50 => ?_⟩
      · have he : b - a < 50 := by
          have := of_decide_eq_true h50
          omega
        rw [if_pos he] at e1
        try simp only [go_sem]
        rw [← e1] at k
        exact k _ hd2 m12
      · have he : ¬ b - a < 50 := by
          have := of_decide_eq_false h50
          omega
        rw [if_neg he] at e1
        have ew : IntKind.i64.wrap ((i1 : Int) - 1) = ((i1 - 1 : Nat) : Int) := by rw [w64 (by omega) (by omega)]; omega
        have ex : IntKind.i64.wrap ((i1 : Int) - (a : Int)) = ((i1 - a : Nat) : Int) := by rw [w64 (by omega) (by omega)]; omega
        have x1 := (Dt.ldN hd2 hcs (show i1 < n by omega)).1; have x2 := eq_true (Dt.ldN hd2 hcs (show i1 < n by omega)).2
        have y1 := (Dt.ldN hd2 hcs (show i1 - 1 < n by omega)).1; have y2 := eq_true (Dt.ldN hd2 hcs (show i1 - 1 < n by omega)).2
        unfold h62_7
        try simp only [go_sem, t0, t1, t2, t3, t9, t10, ew, x1, x2, y1, y2]
        repeat refine ⟨⟨by omega, by omega⟩, ?_⟩
        refine bswap_ hd2 hcs h1 (show i1 < n by omega) (show i1 - 1 < n by omega) (by omega) ?_
        intro w3 hd3 m3
        have m13 := m12.trans' m3
        try simp only [go_sem, t0, t1, t2, t3, t9, t10, ex]
        refine ⟨fun h2 => ?_, fun h2 => ?_⟩
        · have he : i1 - a ≥ 2 := by
            have := of_decide_eq_true h2
            omega
          rw [if_pos he] at e1
          try simp only [go_sem, t0, t1, t2, t3, t9, t10, ew]
          refine bpd_ (a := a) (b := b) (i := i1) (j := i1 - 1) hd3 hcs h1 C (C.inv _ _ hI m13) (by omega) hn t0 t1 t2 t3 t9 t10 rfl ?_
          intro σ w4 t0 t1 t2 t3 t9 t10 hd4 m4
          have m14 := m13.trans' m4
          try simp only [go_sem]
          refine bpt_ (a := a) (i := i1) hd4 hcs h1 C (C.inv _ _ hI m14) (by omega) hb hn t0 t1 t2 t3 t9 t10 ?_
          intro σ w5 t0 t1 t2 t3 t9 t10 hd5 m5
          have m15 := m14.trans' m5
          unfold h62_17
          try simp only [go_sem, t0, t1, t2, t3, t9, t10]
          rw [w64 (by omega) (by omega)]
          rw [show q = 5 - (s + 1) by omega] at e1
          refine ⟨s + 1, by omega, by omega, if b - i1 ≥ 2 then shiftUp (ltc c) b (i1 + 1) (shiftDown (ltc c) (i1 - 1) (swp d1 i1 (i1 - 1))) else shiftDown (ltc c) (i1 - 1) (swp d1 i1 (i1 - 1)), i1, ?_⟩
          (and_intros <;> first | rfl | assumption | omega)
        · have he : ¬ i1 - a ≥ 2 := by
            have := of_decide_eq_false h2
            omega
          rw [if_neg he] at e1
          try simp only [go_sem, t0, t1, t2, t3, t9, t10]
          refine bpt_ (a := a) (i := i1) hd3 hcs h1 C (C.inv _ _ hI m13) (by omega) hb hn t0 t1 t2 t3 t9 t10 ?_
          intro σ w5 t0 t1 t2 t3 t9 t10 hd5 m5
          have m15 := m13.trans' m5
          unfold h62_17
          try simp only [go_sem, t0, t1, t2, t3, t9, t10]
          rw [w64 (by omega) (by omega)]
          rw [show q = 5 - (s + 1) by omega] at e1
          refine ⟨s + 1, by omega, by omega, if b - i1 ≥ 2 then shiftUp (ltc c) b (i1 + 1) (swp d1 i1 (i1 - 1)) else swp d1 i1 (i1 - 1), i1, ?_⟩
          (and_intros <;> first | rfl | assumption | omega)
  · have hs5 : s = 5 := by
      have := of_decide_eq_false hge
      omega
    subst hs5
    rw [show 5 - 5 = 0 from rfl, partialIns] at e1
    unfold h62_18
    try simp only [go_sem]
    rw [← e1] at k
    exact k _ hd1 m1
end
end Go.Proofs.Y

/- TZB: thread: Go's sort of slices, walked: the parts. -/
namespace Go.Proofs.Y
open Go Go.HL Go.Proofs
open Go.Sort (swp insInner insOuter insertionSort siftDown heapBuild heapPop heapSort scanUp scanDown partLoop partition partEqLoop partitionEqual scanSorted shiftDown shiftUp partialIns partialInsertionSort reverseLoop reverseRange PermIn SortedIn Below SWO size_swp)

section
variable {α : Type} [Inhabited α] {w : World} {cs : α → List Value} {c : α → α → Int} {f : Value} {I : World → Prop} {g n cap B0 : Nat} {d : Array α} {next : Value → World → Prop} {QP : List PanicEntry → World → Prop}
/-! ### the pivot -/
theorem bkp_ {q : Nat} (hd : Dt cs 53 6 w g n cap d) {w' : World} (m : Mod (fun k => k = q) w w') (hq : q ≠ g) : Dt cs 53 6 w' g n cap d := by
  have _h := (default : α)
  exact hd.mod m (fun h => hq h.symm)
theorem bord_ {a b q : Nat} {s : Int} (hd : Dt cs 53 6 w g n cap d) (hcs : ∀ x, (cs x).length = 6) (h1 : ∀ x, ∀ v ∈ cs x, v.oneCell' = true) (C : Cmp Try.prog f (fun x => .agg (cs x).toArray) c g B0 I) (hI : I w) (hq : Blk w q 3 [.int .i64 s]) (hqB : B0 ≤ q) (hqg : q ≠ g) (ha : a < n) (hb : b < n)
    (k : ∀ (x y : Nat) (s' : Int) w', (x = a ∧ y = b ∨ x = b ∧ y = a) → Blk w' q 3 [.int .i64 s'] → Dt cs 53 6 w' g n cap d → I w' → Mod (fun k => k = q) w w' → next (.tuple #[.int .i64 x, .int .i64 y]) w') :
    callvK Try.prog (.func (.func 88) #[] #[]) [.slice (some ⟨g, 0, none⟩) n cap, .int .i64 a, .int .i64 b, ptr q, f] w next QP := by
  refine r88 rfl ?_
  unfold h88
  have x1 := (Dt.ldN hd hcs ha).1; have x2 := eq_true (Dt.ldN hd hcs ha).2
  have y1 := (Dt.ldN hd hcs hb).1; have y2 := eq_true (Dt.ldN hd hcs hb).2
  try simp only [go_sem, x1, x2, y1, y2]
  repeat refine ⟨⟨by omega, by omega⟩, ?_⟩
  refine C.call _ _ _ _ _ (C.inv0 hI (Mod.drew _ _)) ?_
  intro w1 m1
  have m01 := (Mod.drew none' w).trans' m1
  have hq1 := hq.mod m01 (fun h => h)
  have hd1 := hd.mod m01 (fun h => h)
  have c0 := hq1.cell 0
  simp only [List.getElem?_cons_zero] at c0
  try simp only [go_sem, c0]
  refine ⟨fun hc => ?_, fun hc => ?_⟩
  · try simp only [go_sem, c0]
    refine store1 szint hq1 (by simp) rfl ?_
    intro w2 hq2 m2 _
    have m02 := (m01.up (S := fun k => k = q)).trans' m2
    try simp only [go_sem]
    exact k b a _ _ (.inr ⟨rfl, rfl⟩) hq2 (bkp_ hd m02 hqg) (C.inv2 _ _ hI (m02.mono fun _ _ h => .inr (by omega))) m02
  · unfold h88_1
    try simp only [go_sem]
    exact k a b _ _ (.inl ⟨rfl, rfl⟩) hq1 hd1 (C.inv0 hI m01) (m01.up)

theorem bmed_ {a b e q : Nat} {s : Int} (hd : Dt cs 53 6 w g n cap d) (hcs : ∀ x, (cs x).length = 6) (h1 : ∀ x, ∀ v ∈ cs x, v.oneCell' = true) (C : Cmp Try.prog f (fun x => .agg (cs x).toArray) c g B0 I) (hI : I w) (hq : Blk w q 3 [.int .i64 s]) (hqB : B0 ≤ q) (hqg : q ≠ g) (ha : a < n) (hb : b < n) (he : e < n)
    (k : ∀ (x : Nat) (s' : Int) w', (x = a ∨ x = b ∨ x = e) → Blk w' q 3 [.int .i64 s'] → Dt cs 53 6 w' g n cap d → I w' → Mod (fun k => k = q) w w' → next (.int .i64 x) w') :
    callvK Try.prog (.func (.func 83) #[] #[]) [.slice (some ⟨g, 0, none⟩) n cap, .int .i64 a, .int .i64 b, .int .i64 e, ptr q, f] w next QP := by
  refine r83 rfl ?_
  unfold h83
  try simp only [go_sem]
  refine bord_ hd hcs h1 C hI hq hqB hqg ha hb ?_
  intro x1 y1 s1 w1 h1' hq1 hd1 hI1 m1
  try simp only [go_sem]
  refine bord_ hd1 hcs h1 C hI1 hq1 hqB hqg (show y1 < n by omega) he ?_
  intro x2 y2 s2 w2 h2' hq2 hd2 hI2 m2
  try simp only [go_sem]
  refine bord_ hd2 hcs h1 C hI2 hq2 hqB hqg (show x1 < n by omega) (show x2 < n by omega) ?_
  intro x3 y3 s3 w3 h3' hq3 hd3 hI3 m3
  try simp only [go_sem]
  exact k y3 s3 w3 (by omega) hq3 hd3 hI3 ((m1.trans' m2).trans' m3)

theorem badj_ {a q : Nat} {s : Int} (hd : Dt cs 53 6 w g n cap d) (hcs : ∀ x, (cs x).length = 6) (h1 : ∀ x, ∀ v ∈ cs x, v.oneCell' = true) (C : Cmp Try.prog f (fun x => .agg (cs x).toArray) c g B0 I) (hI : I w) (hq : Blk w q 3 [.int .i64 s]) (hqB : B0 ≤ q) (hqg : q ≠ g) (ha0 : 0 < a) (ha : a + 1 < n) (hn : n < 4611686018427387904)
    (k : ∀ (x : Nat) (s' : Int) w', a - 1 ≤ x → x ≤ a + 1 → Blk w' q 3 [.int .i64 s'] → Dt cs 53 6 w' g n cap d → I w' → Mod (fun k => k = q) w w' → next (.int .i64 x) w') :
    callvK Try.prog (.func (.func 82) #[] #[]) [.slice (some ⟨g, 0, none⟩) n cap, .int .i64 a, ptr q, f] w next QP := by
  refine r82 rfl ?_
  have ea : IntKind.i64.wrap ((a : Int) - 1) = ((a - 1 : Nat) : Int) := by rw [w64 (by omega) (by omega)]; omega
  have eb : IntKind.i64.wrap ((a : Int) + 1) = ((a + 1 : Nat) : Int) := by rw [w64 (by omega) (by omega)]; omega
  unfold h82
  try simp only [go_sem, ea, eb]
  refine bmed_ hd hcs h1 C hI hq hqB hqg (show a - 1 < n by omega) (show a < n by omega) ha ?_
  intro x s' w' hx hq' hd' hI' m'
  try simp only [go_sem]
  exact k x s' w' (by omega) (by omega) hq' hd' hI' m'

theorem bcho2_ {a b j q : Nat} {s : Int} {τ : Env} (hd : Dt cs 53 6 w g n cap d) (hq : Blk w q 3 [.int .i64 s]) (t11 : τ 11 = ptr q) (t13 : τ 13 = .int .i64 j)
    (k : ∀ h : Int, next (.tuple #[.int .i64 j, .int .i64 h]) w) : hw Try.prog noPanic h60_2 (endV [.tmp 8, .tmp 9] next) τ w := by
  have _h := (default : α)
  have c0 := hq.cell 0
  simp only [List.getElem?_cons_zero] at c0
  unfold h60_2
  try simp only [go_sem, t11, t13, c0]
  refine ⟨fun _ => ?_, fun _ => ?_⟩
  · exact k 1
  · refine ⟨fun _ => ?_, fun _ => ?_⟩
    · exact k 2
    · exact k 0
theorem bcho1_ {a b i j l q : Nat} {s : Int} {τ : Env} (hd : Dt cs 53 6 w g n cap d) (hcs : ∀ x, (cs x).length = 6) (h1 : ∀ x, ∀ v ∈ cs x, v.oneCell' = true) (C : Cmp Try.prog f (fun x => .agg (cs x).toArray) c g B0 I) (hI : I w) (hq : Blk w q 3 [.int .i64 s]) (hqB : B0 ≤ q) (hqg : q ≠ g)
    (hi : a ≤ i ∧ i < b) (hj : a ≤ j ∧ j < b) (hl : a ≤ l ∧ l < b) (hb : b ≤ n)
    (t0 : τ 0 = .slice (some ⟨g, 0, none⟩) n cap) (t3 : τ 3 = f) (t11 : τ 11 = ptr q) (t12 : τ 12 = .int .i64 i) (t13 : τ 13 = .int .i64 j) (t14 : τ 14 = .int .i64 l)
    {Q : HX → Env → World → Prop}
    (k : ∀ (x : Nat) (s' : Int) σ w', a ≤ x → x < b → σ 11 = ptr q → σ 13 = .int .i64 x → Blk w' q 3 [.int .i64 s'] → Dt cs 53 6 w' g n cap d → Mod (fun k => k = q) w w' → Q .normal σ w') : hw Try.prog noPanic h60_1 Q τ w := by
  unfold h60_1
  try simp only [go_sem, t0, t3, t11, t12, t13, t14]
  refine bmed_ hd hcs h1 C hI hq hqB hqg (show i < n by omega) (show j < n by omega) (show l < n by omega) ?_
  intro x s' w' hx hq' hd' hI' m'
  try simp only [go_sem]
  exact k x s' _ w' (by omega) (by omega) t11 rfl hq' hd' m'

theorem bcho_ {a b : Nat} (hd : Dt cs 53 6 w g n cap d) (hcs : ∀ x, (cs x).length = 6) (h1 : ∀ x, ∀ v ∈ cs x, v.oneCell' = true) (C : Cmp Try.prog f (fun x => .agg (cs x).toArray) c g B0 I) (hI : I w) (hab : a + 12 < b) (hb : b ≤ n) (hn : n < 4611686018427387904)
    (k : ∀ (x : Nat) (h : Int) w', a ≤ x → x < b → Dt cs 53 6 w' g n cap d → I w' → Mod none' w w' → next (.tuple #[.int .i64 x, .int .i64 h]) w') :
    callvK Try.prog (.func (.func 60) #[] #[]) [.slice (some ⟨g, 0, none⟩) n cap, .int .i64 a, .int .i64 b, f] w next QP := by
  refine r60 rfl ?_
  obtain ⟨l4, hl4⟩ : ∃ q, (b - a) / 4 = q := ⟨_, rfl⟩
  have ea : IntKind.i64.wrap ((b : Int) - (a : Int)) = ((b - a : Nat) : Int) := by rw [w64 (by omega) (by omega)]; omega
  have eq : IntKind.i64.wrap (Int.tdiv ((b - a : Nat) : Int) 4) = (l4 : Int) := by
    rw [Int.tdiv_eq_ediv_of_nonneg (by omega), w64 (by omega) (by omega)]; omega
  have em : ∀ t : Int, 1 ≤ t → t ≤ 3 → IntKind.i64.wrap ((a : Int) + IntKind.i64.wrap ((l4 : Int) * t)) = (a : Int) + (l4 : Int) * t := by
    intro t h1 h3
    have : t = 1 ∨ t = 2 ∨ t = 3 := by omega
    rcases this with rfl | rfl | rfl <;> rw [w64 (x := (l4 : Int) * _) (by omega) (by omega), w64 (by omega) (by omega)]
  have e1 : IntKind.i64.wrap ((a : Int) + IntKind.i64.wrap ((l4 : Int) * 1)) = ((a + l4 : Nat) : Int) := by rw [em 1 (by omega) (by omega)]; omega
  have e2 : IntKind.i64.wrap ((a : Int) + IntKind.i64.wrap ((l4 : Int) * 2)) = ((a + l4 * 2 : Nat) : Int) := by rw [em 2 (by omega) (by omega)]; omega
  have e3 : IntKind.i64.wrap ((a : Int) + IntKind.i64.wrap ((l4 : Int) * 3)) = ((a + l4 * 3 : Nat) : Int) := by rw [em 3 (by omega) (by omega)]; omega
  have g8 : decide ((8 : Int) ≤ ((b - a : Nat) : Int)) = true := by simp; omega
  unfold h60
  try simp only [go_sem, ea]
  refine alloc_ (cs := [.int .i64 0]) (z := .int .i64 0) zint rfl ?_
  intro q w1 hqw hq1 m1 hs1
  have hd1 := hd.mod m1 (fun h => h)
  have hI1 := C.inv0 hI m1
  have hB := C.base _ hI
  have hqB : B0 ≤ q := by omega
  have hqg : q ≠ g := fun e => by
    have := C.inB
    omega
  have up : ∀ {w'}, Mod (fun k => k = q) w1 w' → Mod none' w w' := fun {w'} m => m1.trans m fun i hi h => by
    have h : i = q := h
    omega
  try simp only [go_sem, ea, eq, e1, e2, e3, g8]
  repeat (refine ⟨by omega, ?_⟩)
  refine ⟨fun h50 => ?_, fun h50 => ?_⟩
  · have h50 := of_decide_eq_true h50
    try simp only [go_sem]
    refine badj_ (a := a + l4) hd1 hcs h1 C hI1 hq1 hqB hqg (by omega) (by omega) hn ?_
    intro x1 s1 w2 h1' h1'' hq2 hd2 hI2 m2
    try simp only [go_sem]
    refine badj_ (a := a + l4 * 2) hd2 hcs h1 C hI2 hq2 hqB hqg (by omega) (by omega) hn ?_
    intro x2 s2 w3 h2' h2'' hq3 hd3 hI3 m3
    try simp only [go_sem]
    refine badj_ (a := a + l4 * 3) hd3 hcs h1 C hI3 hq3 hqB hqg (by omega) (by omega) hn ?_
    intro x3 s3 w4 h3' h3'' hq4 hd4 hI4 m4
    try simp only [go_sem]
    refine bcho1_ (a := a) (b := b) (i := x1) (j := x2) (l := x3) hd4 hcs h1 C hI4 hq4 hqB hqg (by omega) (by omega) (by omega) hb rfl rfl rfl rfl rfl rfl ?_
    intro x s' σ w5 hx1 hx2 t11 t13 hq5 hd5 m5
    have mm := up (((m2.trans' m3).trans' m4).trans' m5)
    try simp only [go_sem]
    exact bcho2_ (a := a) (b := b) hd5 hq5 t11 t13 fun h => k x h w5 hx1 hx2 hd5 (C.inv0 hI mm) mm
  · have h50 := of_decide_eq_false h50
    try simp only [go_sem]
    refine bcho1_ (a := a) (b := b) (i := a + l4) (j := a + l4 * 2) (l := a + l4 * 3) hd1 hcs h1 C hI1 hq1 hqB hqg (by omega) (by omega) (by omega) hb rfl rfl rfl rfl rfl rfl ?_
    intro x s' σ w5 hx1 hx2 t11 t13 hq5 hd5 m5
    have mm := up m5
    try simp only [go_sem]
    exact bcho2_ (a := a) (b := b) hd5 hq5 t11 t13 fun h => k x h w5 hx1 hx2 hd5 (C.inv0 hI mm) mm

/-! ### patterns -/
theorem bandle_ (x m : Nat) (hx : x < 18446744073709551616) (hm : m < 18446744073709551616) : ∃ y : Nat, y ≤ m ∧ intV .and .u64 (x : Int) (m : Int) = .int .u64 (y : Nat) := by
  refine ⟨x &&& m, Nat.and_le_right, ?_⟩
  have h := andV (k := .u64) (a := x) (b := m) (show x < 2 ^ 64 by omega) (show m < 2 ^ 64 by omega)
  have h2 : x &&& m ≤ m := Nat.and_le_right
  rw [h, wrap_u64]
  congr 1; omega

theorem bbrk_ {a b : Nat} (hd : Dt cs 53 6 w g n cap d) (hcs : ∀ x, (cs x).length = 6) (h1 : ∀ x, ∀ v ∈ cs x, v.oneCell' = true) (C : Cmp Try.prog f (fun x => .agg (cs x).toArray) c g B0 I) (hI : I w) (hab : a + 12 < b) (hb : b ≤ n) (hn : n < 4611686018427387904)
    (k : ∀ d' w', PermIn a b d d' → Dt cs 53 6 w' g n cap d' → Mod (fun k => k = g) w w' → next (.tuple #[]) w') :
    callvK Try.prog (.func (.func 59) #[] #[]) [.slice (some ⟨g, 0, none⟩) n cap, .int .i64 a, .int .i64 b, f] w next QP := by
  refine r59 rfl ?_
  obtain ⟨l4, hl4⟩ : ∃ q, (b - a) / 4 = q := ⟨_, rfl⟩
  have ea : IntKind.i64.wrap ((b : Int) - (a : Int)) = ((b - a : Nat) : Int) := by rw [w64 (by omega) (by omega)]; omega
  have eq : IntKind.i64.wrap (Int.tdiv ((b - a : Nat) : Int) 4) = (l4 : Int) := by
    rw [Int.tdiv_eq_ediv_of_nonneg (by omega), w64 (by omega) (by omega)]; omega
  have e2 : IntKind.i64.wrap ((a : Int) + IntKind.i64.wrap ((l4 : Int) * 2)) = ((a + l4 * 2 : Nat) : Int) := by
    rw [w64 (x := (l4 : Int) * 2) (by omega) (by omega), w64 (by omega) (by omega)]; omega
  have e3 : IntKind.i64.wrap (((a + l4 * 2 : Nat) : Int) - 1) = ((a + l4 * 2 - 1 : Nat) : Int) := by rw [w64 (by omega) (by omega)]; omega
  have e4 : IntKind.i64.wrap (((a + l4 * 2 : Nat) : Int) + 1) = ((a + l4 * 2 + 1 : Nat) : Int) := by rw [w64 (by omega) (by omega)]; omega
  have g8 : decide ((8 : Int) ≤ ((b - a : Nat) : Int)) = true := by simp; omega
  unfold h59
  try simp only [go_sem, ea, g8]
  refine alloc_ (cs := [.int .u64 0]) (z := .int .u64 0) z108 rfl ?_
  intro q w1 hqw hq1 m1 hs1
  have hB := C.base _ hI
  have hqB : B0 ≤ q := by omega
  have hqg : q ≠ g := fun e => by
    have := C.inB
    omega
  try simp only [go_sem]
  rw [wrap_u64]
  have eu : ((b - a : Nat) : Int) % 18446744073709551616 = ((b - a : Nat) : Int) := by omega
  rw [eu]
  refine store1 sz108 hq1 (by simp) rfl ?_
  intro w2 hq2 m2 hs2
  try simp only [go_sem]
  refine npow_ (b - a) (by omega) (by omega) fun m hm0 hm2 => ?_
  try simp only [go_sem, eq, e2, e3]
  repeat (refine ⟨by omega, ?_⟩)
  have m02 : Mod (fun k => k = g ∨ k = q) w w2 := (m1.up (S := fun k => k = g ∨ k = q)).trans' (m2.mono fun _ _ h => .inr h)
  have hd2 := hd.mod ((m1.up (S := fun k => k = q)).trans' m2) (fun h => hqg h.symm)
  refine loopN n (fun i τ w' => ∃ d' r, r < 18446744073709551616 ∧ a + l4 * 2 - 1 ≤ i ∧ τ 0 = .slice (some ⟨g, 0, none⟩) n cap ∧ τ 1 = .int .i64 a ∧ τ 8 = .int .i64 (b - a : Nat) ∧ τ 9 = ptr q ∧ τ 10 = .int .u64 m ∧ τ 11 = .int .i64 i ∧ Dt cs 53 6 w' g n cap d' ∧ PermIn a b d d' ∧ Blk w' q 108 [.int .u64 (r : Nat)] ∧ Mod (fun k => k = g ∨ k = q) w w') ⟨a + l4 * 2 - 1, by omega, d, b - a, by omega, by omega, rfl, rfl, rfl, rfl, rfl, rfl, hd2, Sort.permIn_refl _ _ _, hq2, m02⟩ ?_
  rintro i τ w3 hi ⟨d3, r, hr, hai, t0, t1, t8, t9, t10, t11, hd3, hp3, hq3, m3⟩
  unfold h59_1
  try simp only [go_sem, t0, t1, t8, t9, t10, t11, eq, e2, e4]
  repeat (refine ⟨by omega, ?_⟩)
  refine ⟨fun hle => ?_, fun hgt => ?_⟩
  · have hle := of_decide_eq_true hle
    unfold h59_2
    try simp only [go_sem, t0, t1, t8, t9, t10, t11]
    refine rnd_ hq3 ?_
    intro y w4 hy hq4 m4 hs4
    have hd4 := hd3.mod m4 (fun h => hqg h.symm)
    have em : IntKind.u64.wrap ((m : Int) - 1) = ((m - 1 : Nat) : Int) := by rw [wrap_u64]; omega
    obtain ⟨z, hz, ez⟩ := bandle_ y (m - 1) hy (by omega)
    try simp only [go_sem, t0, t1, t8, t9, t10, t11, em, ez]
    rw [w64 (x := (z : Int)) (by omega) (by omega)]
    -- the place of the other one
    have go : ∀ (o : Nat) (σ : Env) (QQ : HX → Env → World → Prop), a + o < b → σ 0 = .slice (some ⟨g, 0, none⟩) n cap → σ 1 = .int .i64 a → σ 8 = .int .i64 (b - a : Nat) → σ 9 = ptr q → σ 10 = .int .u64 m → σ 11 = .int .i64 i → σ 12 = .int .i64 o →
        (∀ σ' w', σ' 0 = .slice (some ⟨g, 0, none⟩) n cap → σ' 1 = .int .i64 a → σ' 8 = .int .i64 (b - a : Nat) → σ' 9 = ptr q → σ' 10 = .int .u64 m → σ' 11 = .int .i64 i → Dt cs 53 6 w' g n cap (swp d3 i (a + o)) → PermIn a b d (swp d3 i (a + o)) → Blk w' q 108 [.int .u64 (y : Nat)] → Mod (fun k => k = g ∨ k = q) w w' → QQ .normal σ' w') → hw Try.prog noPanic h59_3 QQ σ w4 := by
      intro o σ QQ ho s0 s1 s8 s9 s10 s11 s12 kk
      have eo : IntKind.i64.wrap ((a : Int) + (o : Int)) = ((a + o : Nat) : Int) := by rw [w64 (by omega) (by omega)]; omega
      have x1 := (Dt.ldN hd4 hcs (show i < n by omega)).1; have x2 := eq_true (Dt.ldN hd4 hcs (show i < n by omega)).2
      have y1 := (Dt.ldN hd4 hcs (show a + o < n by omega)).1; have y2 := eq_true (Dt.ldN hd4 hcs (show a + o < n by omega)).2
      unfold h59_3
      try simp only [go_sem, s0, s1, s8, s9, s10, s11, s12, eo, x1, x2, y1, y2]
      repeat refine ⟨⟨by omega, by omega⟩, ?_⟩
      refine bswap_ hd4 hcs h1 (show i < n by omega) (show a + o < n by omega) (by omega) ?_
      intro w5 hd5 m5
      try simp only [go_sem]
      have hp5 := Sort.permIn_trans _ _ _ a b hp3 (Sort.swp_permIn d3 a b i (a + o) (by omega) (by omega) (by omega) ho (by rw [hd3.size]; exact hb))
      exact kk _ w5 s0 s1 s8 s9 s10 s11 hd5 hp5 (hq4.mod m5 (fun h => hqg h)) ((m3.trans' (m4.mono fun _ _ h => .inr h)).trans' (m5.mono fun _ _ h => .inl h))
    refine ⟨fun hge => ?_, fun hlt => ?_⟩
    · have hge := of_decide_eq_true hge
      have es : IntKind.i64.wrap ((z : Int) - ((b - a : Nat) : Int)) = ((z - (b - a) : Nat) : Int) := by rw [w64 (by omega) (by omega)]; omega
      try simp only [go_sem, t8, es]
      refine go (z - (b - a)) _ _ (by omega) t0 t1 t8 t9 t10 t11 rfl ?_
      intro σ' w5 t0 t1 t8 t9 t10 t11 hd5 hp5 hq5 m5
      try simp only [go_sem]
      unfold h59_4
      try simp only [go_sem, t0, t1, t8, t9, t10, t11]
      rw [w64 (by omega) (by omega)]
      refine ⟨i + 1, by omega, by omega, swp d3 i (a + (z - (b - a))), y, ?_⟩
      (and_intros <;> first | rfl | assumption | omega | exact hp5.1 | exact hp5.2.1 | exact hp5.2.2)
    · have hlt := of_decide_eq_false hlt
      try simp only [go_sem]
      refine go z _ _ (by omega) t0 t1 t8 t9 t10 t11 rfl ?_
      intro σ' w5 t0 t1 t8 t9 t10 t11 hd5 hp5 hq5 m5
      try simp only [go_sem]
      unfold h59_4
      try simp only [go_sem, t0, t1, t8, t9, t10, t11]
      rw [w64 (by omega) (by omega)]
      refine ⟨i + 1, by omega, by omega, swp d3 i (a + z), y, ?_⟩
      (and_intros <;> first | rfl | assumption | omega | exact hp5.1 | exact hp5.2.1 | exact hp5.2.2)
  · refine k d3 w3 hp3 hd3 (m3.mono fun i hi h => ?_)
    rcases h with h | h
    · exact h
    · omega

/-! ### the recursion -/
/-- what a call of the recursion gives -/
def BPQ (cs : α → List Value) (f : Value) (c : α → α → Int) (I : World → Prop) (g n cap : Nat) (a b : Nat) : Prop :=
  ∀ (w : World) (d : Array α) (lim : Int) (next : Value → World → Prop) (QP : List PanicEntry → World → Prop), Dt cs 53 6 w g n cap d → I w → a ≤ b → b ≤ n → Below (ltc c) a b d →
    (∀ w' d', Dt cs 53 6 w' g n cap d' → PermIn a b d d' → SortedIn (ltc c) a b d' → Mod (fun k => k = g) w w' → next (.tuple #[]) w') →
    callvK Try.prog (.func (.func 41) #[] #[]) [.slice (some ⟨g, 0, none⟩) n cap, .int .i64 a, .int .i64 b, .int .i64 lim, f] w next QP
/-- where a round of the loop ends: with a part that is left -/
def BRest (c : α → α → Int) (a b : Nat) (d : Array α) (a' b' : Nat) (d' : Array α) : Prop :=
  a ≤ a' ∧ a' ≤ b' ∧ b' ≤ b ∧ Below (ltc c) a' b' d' ∧ ∀ R, PermIn a' b' d' R → SortedIn (ltc c) a' b' R → PermIn a b d R ∧ SortedIn (ltc c) a b R
structure BSl4 (f : Value) (g n cap a b : Nat) (σ : Env) : Prop where
  s0 : σ 0 = .slice (some ⟨g, 0, none⟩) n cap
  s1 : σ 1 = .int .i64 a
  s2 : σ 2 = .int .i64 b
  s3 : ∃ l : Int, σ 3 = .int .i64 l
  s4 : σ 4 = f
  s10 : ∃ q : Bool, σ 10 = .bool q
  s11 : ∃ q : Bool, σ 11 = .bool q

theorem br7_ {a b p : Nat} {τ : Env} {Q : HX → Env → World → Prop} (hS : SWO (ltc c)) (hd : Dt cs 53 6 w g n cap d) (hcs : ∀ x, (cs x).length = 6) (h1 : ∀ x, ∀ v ∈ cs x, v.oneCell' = true) (C : Cmp Try.prog f (fun x => .agg (cs x).toArray) c g B0 I) (hI : I w) (hb : b ≤ n) (hn : n < 4611686018427387904) (hap : a ≤ p) (hpb : p < b) (hB : Below (ltc c) a b d)
    (REC : ∀ a' b', b' - a' < b - a → BPQ cs f c I g n cap a' b')
    (t : BSl4 f g n cap a b τ) (t12 : τ 12 = .int .i64 (b - a : Nat)) (t13 : τ 13 = .int .i64 p)
    (k : ∀ a' b' d' σ w', b' - a' < b - a → BRest c a b d a' b' d' → BSl4 f g n cap a' b' σ → Dt cs 53 6 w' g n cap d' → Mod (fun k => k = g) w w' → Q .normal σ w') : hw Try.prog noPanic h41_7 Q τ w := by
  obtain ⟨t0, t1, t2, ⟨lim, t3⟩, t4, ⟨wb, t10⟩, ⟨wp, t11⟩⟩ := t
  unfold h41_7
  try simp only [go_sem, t0, t1, t2, t3, t4, t13]
  refine bpart_ hd hcs h1 C hI hap hpb hb hn ?_
  intro w1 hd1 m1
  generalize hx : partition (ltc c) d a b p = pr at hd1
  obtain ⟨mid, ap, d1⟩ := pr
  obtain ⟨r1, r2, r3, r4, r5, r6, r7⟩ := Sort.round_part hS (Sort.partition_holds _) hap hpb (by rw [hd.size]; exact hb) hB hx
  have hI1 := C.inv _ _ hI m1
  simp only [] at hd1
  have ea : IntKind.i64.wrap ((mid : Int) - (a : Int)) = ((mid - a : Nat) : Int) := by rw [w64 (by omega) (by omega)]; omega
  have eb : IntKind.i64.wrap ((b : Int) - (mid : Int)) = ((b - mid : Nat) : Int) := by rw [w64 (by omega) (by omega)]; omega
  have ec : IntKind.i64.wrap ((mid : Int) + 1) = ((mid + 1 : Nat) : Int) := by rw [w64 (by omega) (by omega)]; omega
  try simp only [go_sem, t0, t1, t2, t3, t4, t10, t11, t12, t13, ea, eb]
  repeat (refine ⟨by omega, ?_⟩)
  refine ⟨fun hlt => ?_, fun hge => ?_⟩
  · try simp only [go_sem, t0, t1, t2, t3, t4, ea, eb, ec]
    refine REC a mid (by omega) _ d1 lim _ _ hd1 hI1 r1 (by omega) r4 ?_
    intro w2 d2 hd2 hp2 hs2 m2
    obtain ⟨r8, r9⟩ := r6 d2 hp2 hs2
    try simp only [go_sem, t0, t1, t2, t3, t4, ec]
    refine k (mid + 1) b d2 _ w2 (by omega) ⟨by omega, by omega, by omega, r8, r9⟩ ⟨t0, rfl, t2, ⟨lim, t3⟩, t4, ⟨_, rfl⟩, ⟨_, rfl⟩⟩ hd2 (m1.trans' m2)
  · try simp only [go_sem, t0, t1, t2, t3, t4, ea, eb, ec]
    refine REC (mid + 1) b (by omega) _ d1 lim _ _ hd1 hI1 (by omega) hb r5 ?_
    intro w2 d2 hd2 hp2 hs2 m2
    obtain ⟨r8, r9⟩ := r7 d2 hp2 hs2
    try simp only [go_sem, t0, t1, t2, t3, t4, ec]
    refine k a mid d2 _ w2 (by omega) ⟨by omega, by omega, by omega, r8, r9⟩ ⟨t0, t1, rfl, ⟨lim, t3⟩, t4, ⟨_, rfl⟩, ⟨_, rfl⟩⟩ hd2 (m1.trans' m2)

theorem br6_ {a b p : Nat} {τ : Env} {Q : HX → Env → World → Prop} (hS : SWO (ltc c)) (hd : Dt cs 53 6 w g n cap d) (hcs : ∀ x, (cs x).length = 6) (h1 : ∀ x, ∀ v ∈ cs x, v.oneCell' = true) (C : Cmp Try.prog f (fun x => .agg (cs x).toArray) c g B0 I) (hI : I w) (hb : b ≤ n) (hn : n < 4611686018427387904) (hap : a ≤ p) (hpb : p < b) (hB : Below (ltc c) a b d)
    (REC : ∀ a' b', b' - a' < b - a → BPQ cs f c I g n cap a' b')
    (t : BSl4 f g n cap a b τ) (t12 : τ 12 = .int .i64 (b - a : Nat)) (t13 : τ 13 = .int .i64 p)
    (k1 : ∀ a' b' d' σ w', b' - a' < b - a → BRest c a b d a' b' d' → BSl4 f g n cap a' b' σ → Dt cs 53 6 w' g n cap d' → Mod (fun k => k = g) w w' → Q (.exit 1) σ w')
    (k : ∀ a' b' d' σ w', b' - a' < b - a → BRest c a b d a' b' d' → BSl4 f g n cap a' b' σ → Dt cs 53 6 w' g n cap d' → Mod (fun k => k = g) w w' → Q .normal σ w') : hw Try.prog noPanic h41_6 Q τ w := by
  have t' := t
  obtain ⟨t0, t1, t2, ⟨lim, t3⟩, t4, ⟨wb, t10⟩, ⟨wp, t11⟩⟩ := t
  unfold h41_6
  by_cases ha : 0 < a
  · have eg : decide ((0 : Int) < (a : Int)) = true := by simpa using ha
    have ea : IntKind.i64.wrap ((a : Int) - 1) = ((a - 1 : Nat) : Int) := by rw [w64 (by omega) (by omega)]; omega
    have x1 := (Dt.ldN hd hcs (show a - 1 < n by omega)).1; have x2 := eq_true (Dt.ldN hd hcs (show a - 1 < n by omega)).2
    have y1 := (Dt.ldN hd hcs (show p < n by omega)).1; have y2 := eq_true (Dt.ldN hd hcs (show p < n by omega)).2
    try simp only [go_sem, t0, t1, t2, t3, t4, t13, eg, ea, x1, x2, y1, y2]
    repeat refine ⟨⟨by omega, by omega⟩, ?_⟩
    refine bcmp_ hd C hI ?_
    intro w1 hd1 m1
    have hI1 := C.inv _ _ hI m1
    try simp only [go_sem]
    refine ⟨fun hc => ?_, fun hc => ?_⟩
    · have hc : ltc c d[a - 1]! d[p]! = false := by simpa [ltc] using hc
      try simp only [go_sem, t0, t1, t2, t3, t4, t13]
      refine bparteq_ hd1 hcs h1 C hI1 hap hpb hb hn ?_
      intro w2 hd2 m2
      generalize hx : partitionEqual (ltc c) d a b p = pr at hd2
      obtain ⟨mid, d2⟩ := pr
      obtain ⟨r1, r2, r3, r4, r5⟩ := Sort.round_eq hS (Sort.partitionEqual_holds _) ha hap hpb (by rw [hd.size]; exact hb) hB hc hx
      simp only [] at hd2
      try simp only [go_sem, t0, t1, t2, t3, t4, t13]
      exact k1 mid b d2 _ w2 (by omega) ⟨by omega, r2, by omega, r4, r5⟩ ⟨t0, rfl, t2, ⟨lim, t3⟩, t4, ⟨wb, t10⟩, ⟨wp, t11⟩⟩ hd2 (m1.trans' m2)
    · try simp only [go_sem]
      refine br7_ (a := a) (b := b) (p := p) hS hd1 hcs h1 C hI1 hb hn hap hpb hB REC ⟨t0, t1, t2, ⟨lim, t3⟩, t4, ⟨wb, t10⟩, ⟨wp, t11⟩⟩ t12 t13 ?_
      intro a' b' d' σ w' h1 h2 h3 h4 h5
      exact k a' b' d' σ w' h1 h2 h3 h4 (m1.trans' h5)
  · have eg : decide ((0 : Int) < (a : Int)) = false := by simp; omega
    try simp only [go_sem, t0, t1, t2, t3, t4, t13, eg]
    have m1 := Mod.drew (fun k => k = g) w
    refine br7_ (a := a) (b := b) (p := p) hS (hd.mod (Mod.drew none' _) (fun h => h)) hcs h1 C (C.inv _ _ hI m1) hb hn hap hpb hB REC ⟨t0, t1, t2, ⟨lim, t3⟩, t4, ⟨wb, t10⟩, ⟨wp, t11⟩⟩ t12 t13 ?_
    intro a' b' d' σ w' h1 h2 h3 h4 h5
    exact k a' b' d' σ w' h1 h2 h3 h4 (m1.trans' h5)
end
end Go.Proofs.Y

/- TVB: thread: Go's sort of slices, walked: the parts. -/
namespace Go.Proofs.Y
open Go Go.HL Go.Proofs
open Go.Sort (swp insInner insOuter insertionSort siftDown heapBuild heapPop heapSort scanUp scanDown partLoop partition partEqLoop partitionEqual scanSorted shiftDown shiftUp partialIns partialInsertionSort reverseLoop reverseRange PermIn SortedIn Below SWO size_swp)

section
variable {α : Type} [Inhabited α] {w : World} {cs : α → List Value} {c : α → α → Int} {f : Value} {I : World → Prop} {g n cap B0 : Nat} {d : Array α} {next : Value → World → Prop} {QP : List PanicEntry → World → Prop}
theorem brestt_ {a b a' b' : Nat} {d d1 d' : Array α} (hp : PermIn a b d d1) (h : BRest c a b d1 a' b' d') : BRest c a b d a' b' d' :=
  ⟨h.1, h.2.1, h.2.2.1, h.2.2.2.1, fun R h1 h2 => ⟨Sort.permIn_trans _ _ _ a b hp (h.2.2.2.2 R h1 h2).1, (h.2.2.2.2 R h1 h2).2⟩⟩

theorem br5_ {a b p : Nat} {hint : Int} {τ : Env} {Q : HX → Env → World → Prop} (hS : SWO (ltc c)) (hd : Dt cs 53 6 w g n cap d) (hcs : ∀ x, (cs x).length = 6) (h1 : ∀ x, ∀ v ∈ cs x, v.oneCell' = true) (C : Cmp Try.prog f (fun x => .agg (cs x).toArray) c g B0 I) (hI : I w) (hb : b ≤ n) (hn : n < 4611686018427387904) (hap : a ≤ p) (hpb : p < b) (hB : Below (ltc c) a b d)
    (REC : ∀ a' b', b' - a' < b - a → BPQ cs f c I g n cap a' b')
    (t : BSl4 f g n cap a b τ) (t12 : τ 12 = .int .i64 (b - a : Nat)) (t13 : τ 13 = .int .i64 p) (t14 : τ 14 = .int .i64 hint)
    (k0 : ∀ d' σ w', PermIn a b d d' → SortedIn (ltc c) a b d' → Dt cs 53 6 w' g n cap d' → Mod (fun k => k = g) w w' → Q .ret σ w')
    (k1 : ∀ a' b' d' σ w', b' - a' < b - a → BRest c a b d a' b' d' → BSl4 f g n cap a' b' σ → Dt cs 53 6 w' g n cap d' → Mod (fun k => k = g) w w' → Q (.exit 1) σ w')
    (k : ∀ a' b' d' σ w', b' - a' < b - a → BRest c a b d a' b' d' → BSl4 f g n cap a' b' σ → Dt cs 53 6 w' g n cap d' → Mod (fun k => k = g) w w' → Q .normal σ w') : hw Try.prog noPanic h41_5 Q τ w := by
  obtain ⟨t0, t1, t2, ⟨lim, t3⟩, t4, ⟨wb, t10⟩, ⟨wp, t11⟩⟩ := t
  unfold h41_5
  try simp only [go_sem, t0, t1, t2, t3, t4, t10, t11, t14]
  -- whichever way the test goes
  have hno : ∀ σ, σ 0 = τ 0 → σ 1 = τ 1 → σ 2 = τ 2 → σ 3 = τ 3 → σ 4 = τ 4 → σ 10 = τ 10 → σ 11 = τ 11 → σ 12 = τ 12 → σ 13 = τ 13 → hw Try.prog noPanic h41_6 Q σ w := by
    intro σ s0 s1 s2 s3 s4 s10 s11 s12 s13
    exact br6_ (a := a) (b := b) (p := p) hS hd hcs h1 C hI hb hn hap hpb hB REC ⟨s0.trans t0, s1.trans t1, s2.trans t2, ⟨lim, s3.trans t3⟩, s4.trans t4, ⟨wb, s10.trans t10⟩, ⟨wp, s11.trans t11⟩⟩ (s12.trans t12) (s13.trans t13) k1 k
  have hyes : ∀ σ, σ 0 = τ 0 → σ 1 = τ 1 → σ 2 = τ 2 → σ 3 = τ 3 → σ 4 = τ 4 → σ 10 = τ 10 → σ 11 = τ 11 → σ 12 = τ 12 → σ 13 = τ 13 →
      callvK Try.prog (.func (.func 62) #[] #[]) [.slice (some ⟨g, 0, none⟩) n cap, .int .i64 a, .int .i64 b, f] w (fun v w' => hcond v (Q .ret (upd σ 80 v) w') (hw Try.prog noPanic h41_6 Q (upd σ 80 v) w')) noPanic := by
    intro σ s0 s1 s2 s3 s4 s10 s11 s12 s13
    refine bpins_ hd hcs h1 C hI (by omega) hb hn ?_
    intro w1 hd1 m1
    obtain ⟨p1, p2⟩ := Sort.partialInsertionSort_holds hS d a b (by omega) (by rw [hd.size]; exact hb) hB
    refine ⟨_, rfl, fun h => ?_, fun h => ?_⟩
    · exact k0 _ _ w1 p1 (p2 h) hd1 m1
    · refine br6_ (a := a) (b := b) (p := p) hS hd1 hcs h1 C (C.inv _ _ hI m1) hb hn hap hpb (hB.perm (by rw [hd.size]; exact hb) p1) REC ⟨s0.trans t0, s1.trans t1, s2.trans t2, ⟨lim, s3.trans t3⟩, s4.trans t4, ⟨wb, s10.trans t10⟩, ⟨wp, s11.trans t11⟩⟩ (s12.trans t12) (s13.trans t13) ?_ ?_
      · intro a' b' d' σ w' h1 h2 h3 h4 h5
        exact k1 a' b' d' σ w' h1 (brestt_ p1 h2) h3 h4 (m1.trans' h5)
      · intro a' b' d' σ w' h1 h2 h3 h4 h5
        exact k a' b' d' σ w' h1 (brestt_ p1 h2) h3 h4 (m1.trans' h5)
  exact ⟨fun _ => hyes _ rfl rfl rfl rfl rfl rfl rfl rfl rfl, fun _ => hno _ rfl rfl rfl rfl rfl rfl rfl rfl rfl⟩

theorem br4_ {a b : Nat} {τ : Env} {Q : HX → Env → World → Prop} (hS : SWO (ltc c)) (hd : Dt cs 53 6 w g n cap d) (hcs : ∀ x, (cs x).length = 6) (h1 : ∀ x, ∀ v ∈ cs x, v.oneCell' = true) (C : Cmp Try.prog f (fun x => .agg (cs x).toArray) c g B0 I) (hI : I w) (hb : b ≤ n) (hn : n < 4611686018427387904) (hab : a + 12 < b) (hB : Below (ltc c) a b d)
    (REC : ∀ a' b', b' - a' < b - a → BPQ cs f c I g n cap a' b')
    (t : BSl4 f g n cap a b τ) (t12 : τ 12 = .int .i64 (b - a : Nat))
    (k0 : ∀ d' σ w', PermIn a b d d' → SortedIn (ltc c) a b d' → Dt cs 53 6 w' g n cap d' → Mod (fun k => k = g) w w' → Q .ret σ w')
    (k1 : ∀ a' b' d' σ w', b' - a' < b - a → BRest c a b d a' b' d' → BSl4 f g n cap a' b' σ → Dt cs 53 6 w' g n cap d' → Mod (fun k => k = g) w w' → Q (.exit 1) σ w')
    (k : ∀ a' b' d' σ w', b' - a' < b - a → BRest c a b d a' b' d' → BSl4 f g n cap a' b' σ → Dt cs 53 6 w' g n cap d' → Mod (fun k => k = g) w w' → Q .normal σ w') : hw Try.prog noPanic h41_4 Q τ w := by
  obtain ⟨t0, t1, t2, ⟨lim, t3⟩, t4, ⟨wb, t10⟩, ⟨wp, t11⟩⟩ := t
  unfold h41_4
  try simp only [go_sem, t0, t1, t2, t3, t4]
  refine bcho_ hd hcs h1 C hI hab hb hn ?_
  intro p hint w1 hap hpb hd1 hI1 m1
  have m1' := m1.up (S := fun k => k = g)
  have ea : IntKind.i64.wrap ((b : Int) - 1) = ((b - 1 : Nat) : Int) := by rw [w64 (by omega) (by omega)]; omega
  have eb : IntKind.i64.wrap ((p : Int) - (a : Int)) = ((p - a : Nat) : Int) := by rw [w64 (by omega) (by omega)]; omega
  have ec : IntKind.i64.wrap (((b - 1 : Nat) : Int) - ((p - a : Nat) : Int)) = ((b - 1 - (p - a) : Nat) : Int) := by rw [w64 (by omega) (by omega)]; omega
  try simp only [go_sem, t0, t1, t2, t3, t4]
  refine ⟨fun _ => ?_, fun _ => ?_⟩
  · try simp only [go_sem, t0, t1, t2, t3, t4]
    refine brev_ hd1 hcs h1 hb (by omega) hn ?_
    intro w2 hd2 m2
    have hp := Sort.reverseRange_holds d a b (by omega) (by rw [hd.size]; exact hb)
    have m2' := m1'.trans' m2
    try simp only [go_sem, t0, t1, t2, t3, t4, ea, eb, ec]
    refine br5_ (a := a) (b := b) (p := b - 1 - (p - a)) (hint := 1) hS hd2 hcs h1 C (C.inv _ _ hI m2') hb hn (by omega) (by omega) (hB.perm (by rw [hd.size]; exact hb) hp) REC ⟨t0, t1, t2, ⟨lim, t3⟩, t4, ⟨wb, t10⟩, ⟨wp, t11⟩⟩ t12 rfl rfl ?_ ?_ ?_
    · intro d' σ w' h1 h2 h3 h4
      exact k0 d' σ w' (Sort.permIn_trans _ _ _ a b hp h1) h2 h3 (m2'.trans' h4)
    · intro a' b' d' σ w' h1 h2 h3 h4 h5
      exact k1 a' b' d' σ w' h1 (brestt_ hp h2) h3 h4 (m2'.trans' h5)
    · intro a' b' d' σ w' h1 h2 h3 h4 h5
      exact k a' b' d' σ w' h1 (brestt_ hp h2) h3 h4 (m2'.trans' h5)
  · try simp only [go_sem]
    refine br5_ (a := a) (b := b) (p := p) (hint := hint) hS hd1 hcs h1 C hI1 hb hn hap hpb hB REC ⟨t0, t1, t2, ⟨lim, t3⟩, t4, ⟨wb, t10⟩, ⟨wp, t11⟩⟩ t12 rfl rfl ?_ ?_ ?_
    · intro d' σ w' h1 h2 h3 h4
      exact k0 d' σ w' h1 h2 h3 (m1'.trans' h4)
    · intro a' b' d' σ w' h1 h2 h3 h4 h5
      exact k1 a' b' d' σ w' h1 h2 h3 h4 (m1'.trans' h5)
    · intro a' b' d' σ w' h1 h2 h3 h4 h5
      exact k a' b' d' σ w' h1 h2 h3 h4 (m1'.trans' h5)

theorem bpdq_ (hcs : ∀ x, (cs x).length = 6) (h1 : ∀ x, ∀ v ∈ cs x, v.oneCell' = true) (hS : SWO (ltc c)) (C : Cmp Try.prog f (fun x => .agg (cs x).toArray) c g B0 I) (hn : n < 4611686018427387904) : ∀ (m a b : Nat), b - a ≤ m → BPQ cs f c I g n cap a b := by
  intro m
  induction m using Nat.strongRecOn with
  | ind m ih =>
  intro a b hm w d lim next QP hd hI hab hb hB k
  refine r41 rfl ?_
  unfold h41
  try simp only [go_sem]
  refine loop_ (fun τ w' => ∃ a' b' d', BRest c a b d a' b' d' ∧ BSl4 f g n cap a' b' τ ∧ Dt cs 53 6 w' g n cap d' ∧ Mod (fun k => k = g) w w') (fun τ w' => match τ 1, τ 2 with | .int _ x, .int _ y => (y - x).toNat | _, _ => 0) ⟨a, b, d, ⟨by omega, hab, by omega, hB, fun R h1 h2 => ⟨h1, h2⟩⟩, ⟨rfl, rfl, rfl, ⟨lim, rfl⟩, rfl, ⟨true, rfl⟩, ⟨true, rfl⟩⟩, hd, Mod.refl _ _⟩ ?_
  rintro τ w1 ⟨a', b', d1, hR, t, hd1, m1⟩
  have hR' := hR
  obtain ⟨q1, q2, q3, q4, q5⟩ := hR
  have t' := t
  obtain ⟨t0, t1, t2, ⟨lim', t3⟩, t4, ⟨wb, t10⟩, ⟨wp, t11⟩⟩ := t
  have hI1 := C.inv _ _ hI m1
  have ea : IntKind.i64.wrap ((b' : Int) - (a' : Int)) = ((b' - a' : Nat) : Int) := by
    have := hd1.len
    rw [w64 (by omega) (by omega)]; omega
  have hmu : ((match τ 1, τ 2 with | .int _ x, .int _ y => (y - x).toNat | _, _ => 0) : Nat) = b' - a' := by
    rw [t1, t2]; simp only; omega
  rw [hmu]
  have fin : ∀ (d2 : Array α) (w2 : World), PermIn a' b' d1 d2 → SortedIn (ltc c) a' b' d2 → Dt cs 53 6 w2 g n cap d2 → Mod (fun k => k = g) w1 w2 → next (.tuple #[]) w2 := fun d2 w2 h1 h2 h3 h4 =>
    k w2 d2 h3 (q5 d2 h1 h2).1 (q5 d2 h1 h2).2 (m1.trans' h4)
  unfold h41_1
  try simp only [go_sem, t0, t1, t2, t3, t4, ea]
  refine ⟨fun hle => ?_, fun hgt => ?_⟩
  · try simp only [go_sem, t0, t1, t2, t3, t4]
    refine bins_ hd1 hcs h1 C hI1 (by omega) q2 hn ?_
    intro w2 hd2 m2
    obtain ⟨p1, p2⟩ := Sort.insertionSort_holds hS d1 a' b' q2 (by rw [hd1.size]; omega)
    try simp only [go_sem]
    exact fin _ _ p1 p2 hd2 m2
  · have hgt := of_decide_eq_false hgt
    have hlen : a' + 12 < b' := by omega
    have hb' : b' ≤ n := by omega
    unfold h41_2
    try simp only [go_sem, t0, t1, t2, t3, t4]
    refine ⟨fun hz => ?_, fun hz => ?_⟩
    · try simp only [go_sem, t0, t1, t2, t3, t4]
      refine bheap_ hd1 hcs h1 C hI1 hb' (by omega) hn ?_
      intro w2 hd2 m2
      obtain ⟨p1, p2⟩ := Sort.heapSort_holds hS d1 a' b' q2 (by rw [hd1.size]; omega)
      try simp only [go_sem]
      exact fin _ _ p1 p2 hd2 m2
    · have REC : ∀ a2 b2, b2 - a2 < b' - a' → BPQ cs f c I g n cap a2 b2 := fun a2 b2 h => ih (b2 - a2) (by omega) a2 b2 (Nat.le_refl _)
      -- what a round leaves, for the loop's next one
      have go : ∀ (d2 : Array α) (w2 : World), PermIn a' b' d1 d2 → Mod (fun k => k = g) w1 w2 → ∀ a2 b2 d3 (σ : Env) (w3 : World), b2 - a2 < b' - a' → BRest c a' b' d2 a2 b2 d3 → BSl4 f g n cap a2 b2 σ → Dt cs 53 6 w3 g n cap d3 → Mod (fun k => k = g) w2 w3 →
          (∃ a'' b'' d'', BRest c a b d a'' b'' d'' ∧ BSl4 f g n cap a'' b'' σ ∧ Dt cs 53 6 w3 g n cap d'' ∧ Mod (fun k => k = g) w w3) ∧ ((match σ 1, σ 2 with | .int _ x, .int _ y => (y - x).toNat | _, _ => 0) : Nat) < b' - a' := by
        intro d2 w2 hp m2 a2 b2 d3 σ w3 h1 h2 h3 h4 h5
        obtain ⟨x1, x2, x3, x4, x5⟩ := h2
        refine ⟨⟨a2, b2, d3, ⟨by omega, x2, by omega, x4, fun R h6 h7 => ?_⟩, h3, h4, (m1.trans' m2).trans' h5⟩, ?_⟩
        · obtain ⟨y1, y2⟩ := x5 R h6 h7
          exact q5 R (Sort.permIn_trans _ _ _ a' b' hp y1) y2
        · rw [h3.s1, h3.s2]; simp only; omega
      unfold h41_3
      try simp only [go_sem, t0, t1, t2, t3, t4, t10]
      refine ⟨fun hwb => ?_, fun hwb => ?_⟩
      · try simp only [go_sem, t0, t1, t2, t3, t4]
        refine bbrk_ hd1 hcs h1 C hI1 hlen hb' hn ?_
        intro d2 w2 p2 hd2 m2
        try simp only [go_sem, t0, t1, t2, t3, t4]
        refine br4_ (a := a') (b := b') hS hd2 hcs h1 C (C.inv _ _ hI1 m2) hb' hn hlen (q4.perm (by rw [hd1.size]; omega) p2) REC ⟨t0, t1, t2, ⟨_, rfl⟩, t4, ⟨wb, t10⟩, ⟨wp, t11⟩⟩ rfl ?_ ?_ ?_
        · intro d' σ w' h1 h2 h3 h4
          try simp only [go_sem]
          exact fin d' w' (Sort.permIn_trans _ _ _ a' b' p2 h1) h2 h3 (m2.trans' h4)
        · intro a2 b2 d3 σ w3 h1 h2 h3 h4 h5
          try simp only [go_sem]
          exact go d2 w2 p2 m2 a2 b2 d3 σ w3 h1 h2 h3 h4 h5
        · intro a2 b2 d3 σ w3 h1 h2 h3 h4 h5
          try simp only [go_sem]
          exact go d2 w2 p2 m2 a2 b2 d3 σ w3 h1 h2 h3 h4 h5
      · try simp only [go_sem]
        refine br4_ (a := a') (b := b') hS hd1 hcs h1 C hI1 hb' hn hlen q4 REC ⟨t0, t1, t2, ⟨_, t3⟩, t4, ⟨wb, t10⟩, ⟨wp, t11⟩⟩ rfl ?_ ?_ ?_
        · intro d' σ w' h1 h2 h3 h4
          try simp only [go_sem]
          exact fin d' w' h1 h2 h3 h4
        · intro a2 b2 d3 σ w3 h1 h2 h3 h4 h5
          try simp only [go_sem]
          exact go d1 w1 (Sort.permIn_refl _ _ _) (Mod.refl _ _) a2 b2 d3 σ w3 h1 h2 h3 h4 h5
        · intro a2 b2 d3 σ w3 h1 h2 h3 h4 h5
          try simp only [go_sem]
          exact go d1 w1 (Sort.permIn_refl _ _ _) (Mod.refl _ _) a2 b2 d3 σ w3 h1 h2 h3 h4 h5

theorem bbang_ (d : Array α) (i : Nat) (h : i < d.toList.length) : d[i]! = d.toList[i] := by
  have h' : i < d.size := by simpa using h
  simp [h']
/-- slices.SortFunc -/
theorem bsort_ (hd : Dt cs 53 6 w g n cap d) (hcs : ∀ x, (cs x).length = 6) (h1 : ∀ x, ∀ v ∈ cs x, v.oneCell' = true) (hS : SWO (ltc c)) (C : Cmp Try.prog f (fun x => .agg (cs x).toArray) c g B0 I) (hI : I w) (hn : n < 4611686018427387904)
    (k : ∀ w' d', Dt cs 53 6 w' g n cap d' → d'.toList.Perm d.toList → d'.toList.Pairwise (fun x y => ltc c y x = false) → Mod (fun k => k = g) w w' → next (.tuple #[]) w') :
    callvK Try.prog (.func (.func 30) #[] #[]) [.slice (some ⟨g, 0, none⟩) n cap, f] w next QP := by
  refine r30 rfl ?_
  unfold h30
  try simp only [go_sem]
  rw [wrap_u64]
  have e : (n : Int) % 18446744073709551616 = n := by omega
  rw [e]
  refine len_ n (by omega) fun l l1 l2 l3 => ?_
  try simp only [go_sem]
  refine bpdq_ hcs h1 hS C hn n 0 n (by omega) w d l _ _ hd hI (by omega) (Nat.le_refl _) (.inl rfl) ?_
  intro w1 d1 hd1 p1 s1 m1
  try simp only [go_sem]
  refine k w1 d1 hd1 ?_ ?_ m1
  · have := p1.2.2
    have e0 : d.extract 0 n = d := by rw [← hd.size]; exact Array.extract_size ..
    have e1 : d1.extract 0 n = d1 := by rw [← hd1.size]; exact Array.extract_size ..
    rw [e0, e1] at this
    exact this
  · rw [List.pairwise_iff_getElem]
    intro i j hi hj hij
    have := s1 i j (by omega) hij (by simp at hj; rw [hd1.size] at hj; exact hj)
    rw [bbang_ d1 i hi, bbang_ d1 j hj] at this
    exact this
/-- .. of nothing -/
theorem bsort0_ {va : Option Addr} {vc : Nat} {f : Value} (k : next (.tuple #[]) w) : callvK Try.prog (.func (.func 30) #[] #[]) [.slice va 0 vc, f] w next QP := by
  refine r30 rfl ?_
  unfold h30
  try simp only [go_sem]
  refine len_ 0 (by omega) fun l l1 l2 l3 => ?_
  try simp only [go_sem]
  refine r41 rfl ?_
  unfold h41
  try simp only [go_sem]
  refine loop_ (fun τ w' => τ 0 = .slice va 0 vc ∧ τ 1 = .int .i64 0 ∧ τ 2 = .int .i64 0 ∧ τ 4 = f ∧ w' = w) (fun _ _ => 0) ⟨rfl, rfl, rfl, rfl, rfl⟩ ?_
  rintro τ w1 ⟨t0, t1, t2, t4, rfl⟩
  unfold h41_1
  have e : IntKind.i64.wrap ((0 : Int) - 0) = 0 := rfl
  have e2 : decide ((0 : Int) ≤ 12) = true := rfl
  try simp only [go_sem, t0, t1, t2, t4, e, e2]
  refine r57 rfl ?_
  unfold h57
  try simp only [go_sem]
  refine loop_ (fun τ w' => τ 8 = .int .i64 1 ∧ τ 2 = .int .i64 0 ∧ w' = w1) (fun _ _ => 0) ⟨rfl, rfl, rfl⟩ ?_
  rintro τ w2 ⟨t8, t2, rfl⟩
  unfold h57_1
  have e3 : decide ((1 : Int) < 0) = false := rfl
  try simp only [go_sem, t8, t2, e3]
  exact k
end
end Go.Proofs.Y

/- TO: thread: the forest's walk. -/
namespace Go.Proofs.Y
open Go Go.HL Go.Proofs

/-- a branch in memory -/
structure Br where
  it : It
  ra : Option Addr
  rn : Nat
  rc : Nat
  ghost : Bool
abbrev Br.rv (b : Br) : Value := .slice b.ra b.rn b.rc
def Br.cells (b : Br) : List Value := [str b.it.id, .int .i64 b.it.date, b.rv, str b.it.base, .bool b.it.reply, .bool b.ghost]
def Br.pn (b : Br) : Pn := ⟨b.it.id, b.ghost, b.it.date⟩
instance : Inhabited Br := ⟨⟨⟨[], 0, [], [], false⟩, none, 0, 0, false⟩⟩
theorem Br.len (b : Br) : b.cells.length = 6 := rfl
theorem Br.one (b : Br) : ∀ v ∈ b.cells, v.oneCell' = true := by
  intro v hv
  simp [Br.cells] at hv
  rcases hv with rfl | rfl | rfl | rfl | rfl | rfl <;> rfl
def Nd.cells (n : Nd) : List Value := [str n.id, .bool n.ghost, .int .i64 n.parent, .int .i64 n.depth]
theorem Nd.len (n : Nd) : n.cells.length = 4 := rfl
theorem sl50 : SlTy Try.prog 50 53 6 80 (.agg #[str [], .int .i64 0, .slice none 0 0, str [], .bool false, .bool false]) := ⟨by kernel_rfl, by kernel_rfl, rfl, by decide⟩
theorem sl25 : SlTy Try.prog 25 29 4 40 (.agg #[str [], .bool false, .int .i64 0, .int .i64 0]) := ⟨by kernel_rfl, by kernel_rfl, rfl, by decide⟩
theorem sz53 : szOf Try.prog 53 = some 6 := by kernel_rfl
theorem sz25 : szOf Try.prog 25 = some 1 := by kernel_rfl
theorem u48 : Try.prog.underlying 48 = some (.map 9 50) := by kernel_rfl
theorem zs50 : ∀ w : World, (zeroValue 50).run Try.prog w = .ok (.slice none 0 0) w := fun w => run_zero (by kernel_rfl)
theorem z53 : (Try.prog.info? 53).bind (·.zero) = some (.agg #[str [], .int .i64 0, .slice none 0 0, str [], .bool false, .bool false]) := by kernel_rfl
def brC (x y : Br) : Int := befC x.it.date x.it.id y.it.date y.it.id

section
variable {w w' : World} {next : Value → World → Prop} {QP : List PanicEntry → World → Prop}
/-- the closure that compares branches -/
theorem closure31_ (x y : Br) (k : ∀ w', Mod none' w w' → next (.int .i64 (brC x y)) w') : callvK Try.prog (.func (.func 31) #[] #[]) [.agg x.cells.toArray, .agg y.cells.toArray] w next QP := by
  refine r31 rfl ?_
  unfold h31
  try simp only [go_sem]
  refine box_ (cs := x.cells) rfl ?_
  intro b1 w1 hb1 bk1 m1 s1
  try simp only [go_sem]
  refine box_ (cs := y.cells) rfl ?_
  intro b2 w2 hb2 bk2 m2 s2
  have bk1' := bk1.mod m2 fun h => h
  have x1 := bk1'.loadN (o := 0) (n := 5) (by simp [Br.cells])
  have x2 : (∀ i, i < 5 → (w2.cell? ⟨b1, i, none⟩).isSome = true) = True := eq_true fun i hi => by rw [bk1'.cell]; simp [Br.cells]; omega
  have y1 := bk2.loadN (o := 0) (n := 5) (by simp [Br.cells])
  have y2 : (∀ i, i < 5 → (w2.cell? ⟨b2, i, none⟩).isSome = true) = True := eq_true fun i hi => by rw [bk2.cell]; simp [Br.cells]; omega
  try simp only [go_sem, x1, x2, y1, y2]
  refine before_ x.it y.it x.rv y.rv ?_
  intro w3 m3
  try simp only [go_sem]
  exact k w3 ((m1.trans' m2).trans' m3)

/-! ### the state of the walk -/
structure WK where
  b3 : Nat
  b4 : Nat
  b5 : Nat
  cb : Nat
  B' : Nat
abbrev WK.f (K : WK) : Value := .func (.func 29) #[] #[ptr K.b3, ptr K.b4, ptr K.b5]
def rowsOf (hs : List (Bytes × Value)) (k : Nat) : Prop := ∃ p ∈ hs, p.2.ownBlock = some k
/-- what a walk may turn -/
def WK.S (K : WK) (hs : List (Bytes × Value)) (k : Nat) : Prop := k = K.b3 ∨ K.B' ≤ k ∨ rowsOf hs k
structure WS (K : WK) (w : World) (B : Nat) (hs : List (Bytes × Value)) (F : Bytes → List Br) (out : List Nd) : Prop where
  ex : ∃ ov, Blk w K.b3 25 [ov] ∧ HL.Own w ov 29 4 out.length (rows Nd.cells out) ∧ ∀ k, ov.ownBlock = some k → K.B' ≤ k
  b4 : Blk w K.b4 55 [K.f]
  b5 : Blk w K.b5 48 [.map (some K.cb)]
  hm : HM Br.cells 53 6 w B K.cb hs F
  low : ∀ k ∈ [K.b3, K.b4, K.b5, K.cb], k < K.B'
  diff : [K.b3, K.b4, K.b5, K.cb].Nodup
  rows : ∀ k, rowsOf hs k → k < K.B' ∧ k ∉ [K.b3, K.b4, K.b5, K.cb]
  big : K.B' ≤ w.heap.size
/-- a row that is sorted -/
def SrtR (w : World) (F : Bytes → List Br) (p : Bytes × Value) : Prop := ∃ l : List Br, l.Perm (F p.1) ∧ 0 < l.length ∧ HL.Own w p.2 53 6 l.length (HL.rows Br.cells l) ∧ SortedB (fun x y => ltc brC x y) l
theorem WS.mod {K : WK} {B : Nat} {hs : List (Bytes × Value)} {F : Bytes → List Br} {out : List Nd} {S : Nat → Prop} (h : WS K w B hs F out) (m : Mod S w w') (hS : ∀ k, S k → w.heap.size ≤ k ∨ False) : WS K w' B hs F out := by
  have hlt : ∀ k, k < w.heap.size → ¬ S k := fun k hk hs => by
    rcases hS k hs with h | h
    · omega
    · exact h
  have hl := h.low
  have hb := h.big
  obtain ⟨ov, h1, h2, h3⟩ := h.ex
  exact ⟨⟨ov, h1.mod m (hlt _ h1.lt), h2.mod m fun k hk => hlt k (h2.lt k hk), h3⟩, h.b4.mod m (hlt _ h.b4.lt), h.b5.mod m (hlt _ h.b5.lt), h.hm.mod m (hlt _ h.hm.mp.lt) fun p hp k hk => by
    obtain ⟨l, -, -, own⟩ := h.hm.val p hp
    exact hlt k (own.lt k hk), h.low, h.diff, h.rows, Nat.le_trans h.big m.size⟩
theorem WS.up {K : WK} {B : Nat} {hs : List (Bytes × Value)} {F : Bytes → List Br} {out : List Nd} (h : WS K w B hs F out) (m : Mod none' w w') : WS K w' B hs F out := h.mod m fun _ h => h.elim
/-- the list that a walk is given: held under a key, or apart -/
structure Given (K : WK) (w : World) (hs : List (Bytes × Value)) (F : Bytes → List Br) (lv : Value) (lb : List Br) : Prop where
  own : HL.Own w lv 53 6 lb.length (HL.rows Br.cells lb)
  place : (∃ p ∈ hs, lv = p.2 ∧ lb.Perm (F p.1)) ∨ (∀ k, lv.ownBlock = some k → k < K.B' ∧ k ∉ [K.b3, K.b4, K.b5, K.cb] ∧ ¬ rowsOf hs k)
theorem brC_swo : Sort.SWO (ltc brC) := swo_bef (fun b : Br => b.it.date) fun b => b.it.id
theorem ltc_pn (x y : Br) : ltc brC x y = befP x.pn y.pn := befC_lt _ _ _ _
/-- the lists under a key: in order of date and id no two are alike -/
def Alone (F : Bytes → List Br) : Prop := ∀ c, ∀ x ∈ F c, ∀ y ∈ F c, x.it.id = y.it.id → x = y

theorem walk_sort {K : WK} {B : Nat} {hs : List (Bytes × Value)} {F : Bytes → List Br} {out : List Nd} {lv : Value} {lb : List Br} (hW : WS K w B hs F out) (hG : Given K w hs F lv lb) (hn : lb.length ≤ 1000000)
    (kk : ∀ w' lb', WS K w' B hs F out → Given K w' hs F lv lb' → lb'.Perm lb → SortedB (fun x y => ltc brC x y) lb' → (∀ q ∈ hs, SrtR w F q → SrtR w' F q) → (∀ p ∈ hs, lv = p.2 → 0 < lb.length → SrtR w' F p) → (∀ k, lv.ownBlock = some k → k < K.B') → Mod (fun k => lv.ownBlock = some k ∧ k < K.B' ∧ k ∉ [K.b3, K.b4, K.b5, K.cb]) w w' → next (.tuple #[]) w') : callvK Try.prog (.func (.func 30) #[] #[]) [lv, .func (.func 31) #[] #[]] w next QP := by
  have hlow : ∀ k, lv.ownBlock = some k → k < K.B' ∧ k ∉ [K.b3, K.b4, K.b5, K.cb] := by
    intro k hk
    rcases hG.place with ⟨p, hp, rfl, -⟩ | h
    · exact hW.rows k ⟨p, hp, hk⟩
    · exact ⟨(h k hk).1, (h k hk).2.1⟩
  rcases hG.own.2 with ⟨hv, h0⟩ | ⟨g, cap, cur, fz, hpv, -, -, -, -, -, -⟩
  · have hlb : lb = [] := List.eq_nil_of_length_eq_zero h0
    subst hlb hv
    exact bsort0_ (kk w [] hW hG (List.Perm.refl _) List.Pairwise.nil (fun q _ h => h) (fun p hp e h => by simp at h) (fun k hk => by cases hk) (Mod.refl _ _))
  have hgl := hlow g (by rw [hpv]; rfl)
  have own := hG.own
  rw [hpv] at own
  have hD : Dt Br.cells 53 6 w g lb.length cap lb.toArray := ⟨by simp, own⟩
  have hgw : g < w.heap.size := own.lt g rfl
  have C : Cmp Try.prog (.func (.func 31) #[] #[]) (fun b => .agg (Br.cells b).toArray) brC g w.heap.size (fun u => w.heap.size ≤ u.heap.size) :=
    ⟨fun u x y nx QP' _ hk => closure31_ x y hk, fun u u' h m => Nat.le_trans h m.size, fun u h => h, hgw⟩
  rw [hpv]
  refine bsort_ hD Br.len Br.one brC_swo C (Nat.le_refl _) (by omega) ?_
  intro w1 d1 hD1 hp1 hs1 m1
  have hp1 : d1.toList.Perm lb := hp1
  have own1 : HL.Own w1 lv 53 6 d1.toList.length (HL.rows Br.cells d1.toList) := by rw [hpv, hp1.length_eq]; exact hD1.own
  have hgn : ∀ j ∈ [K.b3, K.b4, K.b5, K.cb], ¬ j = g := fun j hj e => hgl.2 (e ▸ hj)
  have hrow : ∀ p ∈ hs, p.2.ownBlock = some g → lv = p.2 ∧ lb.Perm (F p.1) := by
    intro p hp hpg
    rcases hG.place with ⟨q, hq, e, hpq⟩ | h
    · by_cases hk : q.1 = p.1
      · have h1 := mem_get hW.hm.keys hp
        have h2 := mem_get hW.hm.keys hq
        rw [hk, h1] at h2
        have e2 := Option.some.inj h2
        exact ⟨e.trans e2.symm, by rw [← hk]; exact hpq⟩
      · exact absurd hpg (hW.hm.sep q hq p hp hk g (by rw [← e, hpv]; rfl))
    · exact absurd ⟨p, hp, hpg⟩ (h g (by rw [hpv]; rfl)).2.2
  have hval : ∀ p ∈ hs, ∃ l : List Br, l.Perm (F p.1) ∧ 0 < l.length ∧ HL.Own w1 p.2 53 6 l.length (HL.rows Br.cells l) := by
    intro p hp
    obtain ⟨l, l1, l2, l3⟩ := hW.hm.val p hp
    by_cases hpg : p.2.ownBlock = some g
    · obtain ⟨e1, e2⟩ := hrow p hp hpg
      refine ⟨d1.toList, hp1.trans e2, ?_, by rw [← e1]; exact own1⟩
      rw [hp1.length_eq, e2.length_eq, ← l1.length_eq]; exact l2
    · exact ⟨l, l1, l2, l3.mod m1 fun j hj e => hpg (by have e : j = g := e; rw [← e]; exact hj)⟩
  obtain ⟨ov, o1, o2, o3⟩ := hW.ex
  have hW1 : WS K w1 B hs F out := ⟨⟨ov, o1.mod m1 (hgn _ (by simp)), o2.mod m1 fun j hj e => by
      have e : j = g := e
      have := o3 j hj
      omega, o3⟩, hW.b4.mod m1 (hgn _ (by simp)), hW.b5.mod m1 (hgn _ (by simp)),
    ⟨hW.hm.mp.mod m1 (hgn _ (by simp)), hW.hm.keys, hval, hW.hm.emp, hW.hm.fresh, hW.hm.sep⟩, hW.low, hW.diff, hW.rows, Nat.le_trans hW.big m1.size⟩
  refine kk w1 d1.toList hW1 ⟨own1, ?_⟩ hp1 hs1 (fun q hq hsq => ?_) (fun p hp e h0 => ?_) (fun j hj => (hlow j hj).1) (m1.mono fun j _ hj => by have hj : j = g := hj; subst hj; exact ⟨by rw [hpv]; rfl, hgl⟩)
  · rcases hG.place with ⟨p, hp, e, hpp⟩ | h
    · exact .inl ⟨p, hp, e, hp1.trans hpp⟩
    · exact .inr h
  · obtain ⟨l, l1, l2, l3, l4⟩ := hsq
    by_cases hpg : q.2.ownBlock = some g
    · obtain ⟨e1, e2⟩ := hrow q hq hpg
      exact ⟨d1.toList, hp1.trans e2, by rw [hp1.length_eq, e2.length_eq, ← l1.length_eq]; exact l2, by rw [← e1]; exact own1, hs1⟩
    · exact ⟨l, l1, l2, l3.mod m1 fun j hj e => hpg (by have e : j = g := e; rw [← e]; exact hj), l4⟩
  · obtain ⟨e1, e2⟩ := hrow p hp (by rw [← e, hpv]; rfl)
    exact ⟨d1.toList, hp1.trans e2, by rw [hp1.length_eq]; exact h0, by rw [← e]; exact own1, hs1⟩
end
end Go.Proofs.Y

/- TQ: thread: the forest's walk, by fuel. -/
namespace Go.Proofs.Y
open Go Go.HL Go.Proofs

section
variable {K : WK} {w w' : World} {B : Nat} {hs : List (Bytes × Value)} {F : Bytes → List Br} {ch : Bytes → List Pn} {next : Value → World → Prop} {QP : List PanicEntry → World → Prop}
theorem SrtR.mod {S : Nat → Prop} {p : Bytes × Value} (h : SrtR w F p) (m : Mod S w w') (hS : ∀ k, p.2.ownBlock = some k → ¬ S k) : SrtR w' F p := by
  obtain ⟨l, l1, l2, l3, l4⟩ := h
  exact ⟨l, l1, l2, l3.mod m hS, l4⟩
/-- one row more -/
theorem WS.push {out out' : List Nd} {ov ov' : Value} {w1 w2 : World} (hW : WS K w B hs F out) (hov : ∀ k, ov.ownBlock = some k → K.B' ≤ k) (m1 : Mod (ownS ov) w w1) (own : HL.Own w1 ov' 29 4 out'.length (HL.rows Nd.cells out')) (hf : ∀ k, ov'.ownBlock = some k → K.B' ≤ k)
    (hb : Blk w2 K.b3 25 [ov']) (m2 : Mod (fun k => k = K.b3) w1 w2) : WS K w2 B hs F out' ∧ (∀ q ∈ hs, SrtR w F q → SrtR w2 F q) ∧ Mod (fun k => k = K.b3 ∨ K.B' ≤ k) w w2 := by
  have hl := hW.low
  have m12 : Mod (fun k => k = K.b3 ∨ K.B' ≤ k) w w2 := (m1.mono fun k _ hk => .inr (hov k hk)).trans' (m2.mono fun k _ hk => .inl hk)
  have hd := hW.diff
  simp only [List.nodup_cons, List.mem_cons, List.not_mem_nil, or_false, not_or] at hd
  obtain ⟨⟨d1, d2, d3⟩, -⟩ := hd
  have l3 := hl K.b3 (by simp)
  have l4 := hl K.b4 (by simp)
  have l5 := hl K.b5 (by simp)
  have lc := hl K.cb (by simp)
  have hr : ∀ p ∈ hs, ∀ k, p.2.ownBlock = some k → ¬ (k = K.b3 ∨ K.B' ≤ k) := fun p hp k hk => by
    obtain ⟨h1, h2⟩ := hW.rows k ⟨p, hp, hk⟩
    rintro (h | h)
    · exact h2 (by simp [h])
    · omega
  refine ⟨⟨⟨ov', hb, own.mod m2 fun k hk e => by
      have e : k = K.b3 := e
      have := hf k hk
      omega, hf⟩, hW.b4.mod m12 (by omega), hW.b5.mod m12 (by omega), hW.hm.mod m12 (by omega) hr, hW.low, hW.diff, hW.rows, Nat.le_trans hW.big m12.size⟩, fun q hq h => h.mod m12 (hr q hq), m12⟩

def stepW (ch : Bytes → List Pn) (f : Nat) (p d : Int) (out : List Nd) (b : Pn) : List Nd := walkF ch f (out ++ [⟨b.id, b.ghost, p, d⟩]) (ch b.id) (out.length : Int) (d + 1)
theorem walkF_eq (ch : Bytes → List Pn) (f : Nat) (out : List Nd) (L : List Pn) (p d : Int) (h : f = 0 → L = []) : walkF ch f out L p d = L.foldl (stepW ch (f - 1) p d) out := by
  cases f with
  | zero => rw [h rfl]; rfl
  | succ f => rfl
theorem walkF_len (ch : Bytes → List Pn) : ∀ (f : Nat) (out : List Nd) (L : List Pn) (p d : Int), out.length ≤ (walkF ch f out L p d).length
  | 0, out, L, p, d => Nat.le_refl _
  | f + 1, out, L, p, d => by
    show out.length ≤ (L.foldl (stepW ch f p d) out).length
    induction L generalizing out with
    | nil => exact Nat.le_refl _
    | cons b L ih =>
      refine Nat.le_trans ?_ (ih _)
      refine Nat.le_trans ?_ (walkF_len ch f _ _ _ _)
      simp
theorem fold_len (ch : Bytes → List Pn) (f : Nat) (p d : Int) : ∀ (L : List Pn) (out : List Nd), out.length + L.length ≤ (L.foldl (stepW ch f p d) out).length
  | [], out => by simp
  | b :: L, out => by
    have := fold_len ch f p d L (stepW ch f p d out b)
    have h2 : out.length + 1 ≤ (stepW ch f p d out b).length := Nat.le_trans (by simp) (walkF_len ch f _ _ _ _)
    simp only [List.foldl_cons, List.length_cons]
    omega
theorem lb_sorted (lb : List Br) : ∃ l : List Br, l.Perm lb ∧ SortedB (fun x y => ltc brC x y) l := by
  obtain ⟨h1, h2⟩ := isortB_ok (lt := fun x y => ltc brC x y) (fun a => brC_swo.irrefl a) (fun a b c => brC_swo.trans a b c) lb
  exact ⟨_, h1, h2⟩
theorem br_unique (hA : Alone F) {c : Bytes} {l l' : List Br} (h : l.Perm (F c)) (h' : l'.Perm (F c)) (hs : SortedB (fun x y => ltc brC x y) l) (hs' : SortedB (fun x y => ltc brC x y) l') : l = l' := by
  refine sorted_unique (fun x hx y hy h1 h2 => ?_) (h.trans h'.symm) hs hs'
  rw [ltc_pn] at h1 h2
  exact hA c x (h.mem_iff.1 hx) y (h.mem_iff.1 hy) (bef_tri h1 h2).2

theorem walk_ (hA : Alone F) (hKd : ∀ c (l : List Br), l.Perm (F c) → SortedB (fun x y => ltc brC x y) l → l.map Br.pn = ch c) : ∀ (f : Nat) {w : World} {lv : Value} {lb : List Br} {L : List Pn} {out : List Nd} {p d : Int} {next : Value → World → Prop} {QP : List PanicEntry → World → Prop},
    deepF ch f L → (∀ l : List Br, l.Perm lb → SortedB (fun x y => ltc brC x y) l → l.map Br.pn = L) → WS K w B hs F out → Given K w hs F lv lb → (walkF ch f out L p d).length ≤ 1000000 → 0 ≤ d → d + f ≤ 1000000 →
    (∀ w', WS K w' B hs F (walkF ch f out L p d) → (∀ q ∈ hs, SrtR w F q → SrtR w' F q) → Mod (fun k => K.S hs k ∨ lv.ownBlock = some k) w w' → next (.tuple #[]) w') →
    callvK Try.prog K.f [lv, .int .i64 p, .int .i64 d] w next QP := by
  intro f
  induction f with
  | zero => ?_
  | succ f ih => ?_
  all_goals
    intro w lv lb L out p d next QP hdeep hL hW hG hN hd0 hdf kk
    refine callv (first := []) (caps := [ptr K.b3, ptr K.b4, ptr K.b5]) c29 (q29 rfl ?_)
    simp only [List.nil_append, List.append_nil, List.cons_append]
    obtain ⟨la, lc, rfl, -, -⟩ := hG.own.sl.form
    -- how many
    have hLl : lb.length = L.length := by
      obtain ⟨l, l1, l2⟩ := lb_sorted lb
      rw [← hL l l1 l2, List.length_map, l1.length_eq]
  · have hL0 : L = [] := hdeep
    subst hL0
    have hlb : lb = [] := List.eq_nil_of_length_eq_zero hLl
    subst hlb
    unfold h29
    try simp only [go_sem]
    refine walk_sort hW hG (by simp) ?_
    intro w1 ls hW1 hG1 hp1 hs1 hsr1 _ _ m1
    try simp only [go_sem]
    refine loop_ (fun τ w' => τ 14 = .int .i64 0 ∧ τ 15 = .int .i64 0 ∧ w' = w1) (fun _ _ => 0) ⟨rfl, rfl, rfl⟩ ?_
    rintro τ w2 ⟨t14, t15, rfl⟩
    unfold h29_1
    try simp only [go_sem, t14, t15, show decide ((0 : Int) < 0) = false from rfl]
    exact kk w2 hW1 hsr1 (m1.mono fun k _ h => .inr h.1)
  · have hfold := walkF_eq ch (f + 1) out L p d (fun h => by omega)
    rw [Nat.add_sub_cancel] at hfold
    rw [hfold] at hN kk
    have hlen := fold_len ch f p d L out
    unfold h29
    try simp only [go_sem]
    refine walk_sort hW hG (by omega) ?_
    intro w1 ls hW1 hG1 hp1 hs1 hsr1 hsrt1 hlow1 m1
    have hmap := hL ls hp1 hs1
    have hll : ls.length = lb.length := hp1.length_eq
    have hown1 := hG1.own
    have hsrt0 : ∀ q ∈ hs, (Value.slice la lb.length lc) = q.2 → 0 < lb.length → SrtR w1 F q := hsrt1
    -- reading the row
    try simp only [go_sem]
    refine loopN lb.length (fun i τ w' => τ 1 = .int .i64 p ∧ τ 2 = .int .i64 d ∧ τ 3 = ptr K.b3 ∧ τ 4 = ptr K.b4 ∧ τ 5 = ptr K.b5 ∧ τ 13 = .slice la lb.length lc ∧ τ 14 = .int .i64 lb.length ∧ τ 15 = .int .i64 i ∧ WS K w' B hs F ((L.take i).foldl (stepW ch f p d) out) ∧ HL.Own w' (.slice la lb.length lc) 53 6 ls.length (rows Br.cells ls) ∧
      (∀ q ∈ hs, SrtR w F q → SrtR w' F q) ∧ (∀ q ∈ hs, (Value.slice la lb.length lc) = q.2 → 0 < lb.length → SrtR w' F q) ∧ Mod (fun k => K.S hs k ∨ (Value.slice la lb.length lc).ownBlock = some k) w w') ⟨0, by omega, rfl, rfl, rfl, rfl, rfl, rfl, rfl, rfl, hW1, hown1, hsr1, hsrt0, m1.mono fun k _ h => .inr h.1⟩ ?_
    rintro i τ w2 hi ⟨t1, t2, t3, t4, t5, t13, t14, t15, hW2, own2, hsr2, hst2, m2⟩
    unfold h29_1
    try simp only [go_sem, t1, t2, t3, t4, t5, t13, t14, t15]
    refine ⟨fun hlt => ?_, fun hge => ?_⟩
    · have hil : i < lb.length := by
        have := of_decide_eq_true hlt
        omega
      have his : i < ls.length := by omega
      have hiL : i < L.length := by omega
      have hLi : L[i] = ls[i].pn := by
        have : (ls.map Br.pn)[i]? = L[i]? := by rw [hmap]
        rw [List.getElem?_map, List.getElem?_eq_getElem his, List.getElem?_eq_getElem hiL] at this
        exact (Option.some.inj this).symm
      obtain ⟨g, o, c, e1, -, hcell⟩ := own2.sl.get Br.len rfl (by omega)
      simp only [Value.slice.injEq] at e1
      obtain ⟨rfl, -, rfl⟩ := e1
      have y1 : loadN w2 ⟨g, o + i * 6, none⟩ 6 = ls[i].cells.toArray := loadN_of rfl fun j hj => by rw [e_add]; exact hcell i j his hj
      have y2 : (∀ j, j < 6 → (w2.cell? ⟨g, o + i * 6 + j, none⟩).isSome = true) = True := eq_true fun j hj => by rw [hcell i j his hj]; simp [Br.cells, hj]
      unfold h29_2
      try simp only [go_sem, t1, t2, t3, t4, t5, t13, t14, t15, y1, y2]
      repeat refine ⟨⟨by omega, by omega⟩, ?_⟩
      refine alloc_ (cs := [str [], .int .i64 0, .slice none 0 0, str [], .bool false, .bool false]) z53 rfl ?_
      intro b10 w3 hb10 bk3 m3 s3
      try simp only [go_sem, t1, t2, t3, t4, t5, t13, t14, t15]
      refine storeN (vs := ls[i].cells) sz53 rfl bk3 (by simp) (Br.one _) ?_
      intro w4 bk4 m4 s4
      have bk4 : Blk w4 b10 53 ls[i].cells := by simpa [Br.cells] using bk4
      have m24 : Mod none' w2 w4 := m3.trans m4 fun x hx e => by
        have e : x = b10 := e
        omega
      have hW4 := hW2.up m24
      obtain ⟨ov, o1, o2, o3⟩ := hW4.ex
      have c3 := o1.cell 0
      have z0 := bk4.cell 0
      have z5 := bk4.cell 5
      simp only [Br.cells, List.getElem?_cons_zero, List.getElem?_cons_succ] at c3 z0 z5
      try simp only [go_sem, t1, t2, t3, t4, t5, t13, t14, t15, c3, z0, z5]
      refine ⟨by simp, by simp, by simp, by simp, ?_⟩
      have hN2 : ((L.take i).foldl (stepW ch f p d) out).length + (L.length - i) ≤ 1000000 := by
        have h1 := fold_len ch f p d (L.drop i) ((L.take i).foldl (stepW ch f p d) out)
        rw [← List.foldl_append, List.take_append_drop, List.length_drop] at h1
        omega
      generalize hout : (L.take i).foldl (stepW ch f p d) out = oi at hW2 hW4 o2 hN2
      refine bsl1 (cs := Nd.cells ⟨ls[i].it.id, ls[i].ghost, p, d⟩) sl25 rfl rfl (by omega) ?_
      intro b6 w6 hb6 own6 bk6 m6 s6
      try simp only [go_sem]
      refine append_ sl25 (o2.mod m6 fun _ _ h => h) own6.sl (by intro u hu; simp [Nd.cells] at hu; rcases hu with rfl | rfl | rfl | rfl <;> rfl) (by omega) (by unfold maxLen; omega) ?_
      intro v7 w7 own7 m7 hf7 _
      have hW6 := hW4.up m6
      have c3' : Blk w6 K.b3 25 [ov] := o1.mod m6 fun h => h
      have hl3 := hW.low K.b3 (by simp)
      have bk7 : Blk w7 K.b3 25 [ov] := c3'.mod m7 fun h => by
        have := o3 _ h
        omega
      refine store1 sz25 bk7 (by simp) (by obtain ⟨a, c, e, -⟩ := own7.form; rw [e]; rfl) ?_
      intro w8 bk8 m8 s8
      have hrows : rows Nd.cells oi ++ Nd.cells ⟨ls[i].it.id, ls[i].ghost, p, d⟩ = rows Nd.cells (oi ++ [⟨ls[i].it.id, ls[i].ghost, p, d⟩]) := by
        rw [rows_app, rows_cons, rows_nil, List.append_nil]
      rw [hrows] at own7
      have hf7' : ∀ k, v7.ownBlock = some k → K.B' ≤ k := fun k hk => by
        rcases hf7 k hk with h | h
        · exact o3 k h
        · have := hW6.big; omega
      obtain ⟨hW8, hsr8, mm8⟩ := hW6.push (out' := oi ++ [⟨ls[i].it.id, ls[i].ghost, p, d⟩]) o3 m7 (by rw [List.length_append]; exact own7) hf7' bk8 m8
      have m46 := m24.trans' m6
      have hsr28 : ∀ q ∈ hs, SrtR w2 F q → SrtR w8 F q := fun q hq h => hsr8 q hq (h.mod m46 fun _ _ h => h)
      have m28 : Mod (fun k => k = K.b3 ∨ K.B' ≤ k) w2 w8 := m46.up.trans' mm8
      obtain ⟨ov8, p1, p2, p3⟩ := hW8.ex
      have d3 := p1.cell 0
      have d4 := hW8.b4.cell 0
      have d5 := hW8.b5.cell 0
      simp only [List.getElem?_cons_zero] at d3 d4 d5
      have hb10 : K.b3 ≠ b10 := fun e => by
        have := hW2.big
        omega
      have z0' : w8.cell? ⟨b10, 0, none⟩ = some (str ls[i].it.id) := by
        have q1 := bk4.mod m6 fun h => h
        have q2 := q1.mod m7 fun h => by
          have h7 := o2.lt b10 h
          have := o3 b10 h
          -- the row came before the variable
          have e1 : b10 < w2.heap.size → False := fun h => by omega
          obtain ⟨ovx, x1, x2, x3⟩ := hW2.ex
          have x1' := (x1.mod m24 fun h => h).cell 0
          have o1' := o1.cell 0
          rw [x1'] at o1'
          simp only [List.getElem?_cons_zero, Option.some.injEq] at o1'
          subst o1'
          exact e1 (x2.lt b10 h)
        have q3 := q2.mod m8 fun h => hb10 h.symm
        have := q3.cell 0
        simpa [Br.cells] using this
      unfold h29_3
      try simp only [go_sem, t1, t2, t3, t4, t5, t13, t14, t15, d3, d4, d5, z0']
      refine lookup1_ u48 u9 zs50 hW8.hm.mp ?_
      obtain ⟨l9, hl9, own9, hfr9⟩ := hW8.hm.look ls[i].it.id
      have hlen8 : ∃ a c, ov8 = .slice a (oi.length + 1) c := by
        obtain ⟨a, c, e, -⟩ := p2.form
        exact ⟨a, c, by rw [e, List.length_append]; rfl⟩
      obtain ⟨oa, oc, rfl⟩ := hlen8
      have ew1 : IntKind.i64.wrap (((oi.length + 1 : Nat) : Int) - 1) = ((oi.length : Nat) : Int) := by rw [w64 (by omega) (by omega)]; omega
      have ew2 : IntKind.i64.wrap (d + 1) = d + 1 := w64 (by omega) (by omega)
      have hG9 : Given K w8 hs F ((getM ls[i].it.id hs).getD (.slice none 0 0)) l9 := by
        refine ⟨own9, ?_⟩
        cases hg : getM ls[i].it.id hs with
        | none => exact .inr fun k hk => by cases hk
        | some v => exact .inl ⟨(ls[i].it.id, v), getM_mem hg, rfl, hl9⟩
      try simp only [go_sem, t1, t2, t3, t4, t5, t13, t14, t15, d3, d4, d5, ew1, ew2]
      have hstep : walkF ch f (oi ++ [⟨ls[i].it.id, ls[i].ghost, p, d⟩]) (ch ls[i].it.id) (oi.length : Int) (d + 1) = (L.take (i + 1)).foldl (stepW ch f p d) out := by
        rw [List.take_succ_eq_append_getElem hiL, List.foldl_append, hout, hLi]; rfl
      refine ih (L := ch ls[i].it.id) (out := oi ++ [⟨ls[i].it.id, ls[i].ghost, p, d⟩]) (p := (oi.length : Int)) (d := d + 1) ?_ (fun l h1 h2 => hKd _ l (h1.trans hl9) h2) hW8 hG9 ?_ (by omega) (by omega) ?_
      · have := hdeep L[i] (List.getElem_mem hiL)
        rw [hLi] at this; exact this
      · rw [hstep]
        have h1 := fold_len ch f p d (L.drop (i + 1)) ((L.take (i + 1)).foldl (stepW ch f p d) out)
        rw [← List.foldl_append, List.take_append_drop] at h1
        omega
      intro w9 hW9 hsr9 m9
      rw [hstep] at hW9
      have hS9 : ∀ k, (K.S hs k ∨ ((getM ls[i].it.id hs).getD (.slice none 0 0)).ownBlock = some k) → K.S hs k := by
        rintro k (h | h)
        · exact h
        · cases hg : getM ls[i].it.id hs with
          | none => rw [hg] at h; cases h
          | some v => rw [hg] at h; exact .inr (.inr ⟨_, getM_mem hg, h⟩)
      have m29 : Mod (K.S hs) w2 w9 := (m28.mono fun k _ hk => hk.elim .inl fun h => .inr (.inl h)).trans' (m9.mono fun k _ hk => hS9 k hk)
      have g1 : ∀ q ∈ hs, SrtR w F q → SrtR w9 F q := fun q hq h => hsr9 q hq (hsr28 q hq (hsr2 q hq h))
      have g2 : ∀ q ∈ hs, (Value.slice (some ⟨g, o, none⟩) lb.length lc) = q.2 → 0 < lb.length → SrtR w9 F q := fun q hq e h => hsr9 q hq (hsr28 q hq (hst2 q hq e h))
      have g3 : Mod (fun k => K.S hs k ∨ (Value.slice (some ⟨g, o, none⟩) lb.length lc).ownBlock = some k) w w9 := m2.trans' (m29.mono fun _ _ h => .inl h)
      have g4 : HL.Own w9 (.slice (some ⟨g, o, none⟩) lb.length lc) 53 6 ls.length (rows Br.cells ls) := by
        rcases hG.place with ⟨q, hq, e, hqp⟩ | h
        · obtain ⟨l', l1, l2, l3, l4⟩ := g2 q hq e (by omega)
          have := br_unique hA l1 (hp1.trans hqp) l4 hs1
          rw [← this, e]; exact l3
        · refine own2.mod m29 fun k hk hS => ?_
          obtain ⟨h1, h2, h3⟩ := h k hk
          rcases hS with hS | hS | hS
          · exact h2 (by simp [hS])
          · omega
          · exact h3 hS
      unfold h29_4
      try simp only [go_sem, t1, t2, t3, t4, t5, t13, t14, t15]
      rw [w64 (by omega) (by omega)]
      refine ⟨i + 1, by omega, by omega, ?_⟩
      (repeat' first | assumption | rfl | omega | apply And.intro)
    · have hil : i = lb.length := by
        have := of_decide_eq_false hge
        omega
      subst hil
      rw [hLl, List.take_length] at hW2
      try simp only [go_sem]
      exact kk w2 hW2 hsr2 m2
end
end Go.Proofs.Y
