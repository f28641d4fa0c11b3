/- TYI: thread: Go's sort of slices, walked: the parts. -/
import Derived.Test.YthenjelndjlnfaaTSI
import Derived.Test.YthenjelndjlnfaaTU
import Derived.Test.YthenjelndjlnfaaTB
set_option linter.unusedSimpArgs false
set_option linter.unusedVariables false
set_option maxRecDepth 100000
namespace Go.Proofs.Y
open Go Go.HL Go.Proofs
open Go.Sort (swp insInner insOuter insertionSort siftDown heapBuild heapPop heapSort scanUp scanDown partLoop partition partEqLoop partitionEqual scanSorted shiftDown shiftUp partialIns partialInsertionSort reverseLoop reverseRange PermIn SortedIn Below SWO size_swp)

section
variable {α : Type} [Inhabited α] {w : World} {v : α → Value} {c : α → α → Int} {f : Value} {I : World → Prop} {g n cap B0 : Nat} {d : Array α} {next : Value → World → Prop} {QP : List PanicEntry → World → Prop}
/-! ### partial insertion -/
theorem ips_ {a b i : Nat} {c10 : Value} {τ : Env} {Q : HX → Env → World → Prop} (hd : Dt (fun x => [v x]) 3 1 w g n cap d) (h1 : ∀ x, (v x).oneCell' = true) (C : Cmp Try.prog f v c g B0 I) (hI : I w) (hi : 0 < i) (hib : i ≤ b) (hb : b ≤ n) (hn : n < 4611686018427387904)
    (t0 : τ 0 = .slice (some ⟨g, 0, none⟩) n cap) (t1 : τ 1 = .int .i64 a) (t2 : τ 2 = .int .i64 b) (t3 : τ 3 = f) (t9 : τ 9 = .int .i64 i) (t10 : τ 10 = c10)
    (k : ∀ σ w', i ≤ scanSorted (ltc c) d b i → scanSorted (ltc c) d b i ≤ b → σ 0 = .slice (some ⟨g, 0, none⟩) n cap → σ 1 = .int .i64 a → σ 2 = .int .i64 b → σ 3 = f → σ 9 = .int .i64 (scanSorted (ltc c) d b i : Nat) → σ 10 = c10 → Dt (fun x => [v x]) 3 1 w' g n cap d → Mod (fun k => k = g) w w' → Q (.exit 2) σ w') :
    hloop (hw Try.prog noPanic h76_3) Q τ w := by
  refine loopN b (fun i' τ w' => i ≤ i' ∧ τ 0 = .slice (some ⟨g, 0, none⟩) n cap ∧ τ 1 = .int .i64 a ∧ τ 2 = .int .i64 b ∧ τ 3 = f ∧ τ 9 = .int .i64 i' ∧ τ 10 = c10 ∧ Dt (fun x => [v x]) 3 1 w' g n cap d ∧ Mod (fun k => k = g) w w' ∧ scanSorted (ltc c) d b i' = scanSorted (ltc c) d b i) ⟨i, hib, by omega, t0, t1, t2, t3, t9, t10, hd, Mod.refl _ _, rfl⟩ ?_
  rintro i' τ w1 hi' ⟨hii, t0, t1, t2, t3, t9, t10, hd1, m1, e1⟩
  have hwI : I w1 := C.inv _ _ hI m1
  unfold h76_3
  by_cases hc : i' < b
  · have eg : decide ((i' : Int) < (b : Int)) = true := by simpa using (by omega : (i' : Int) < (b : Int))
    have ew : IntKind.i64.wrap ((i' : Int) - 1) = ((i' - 1 : Nat) : Int) := by rw [w64 (by omega) (by omega)]; omega
    have x1 := Dt.ld1 hd1 (show i' < n by omega); have x2 := Nat.zero_add 0
    have y1 := Dt.ld1 hd1 (show i' - 1 < n by omega); have y2 := Nat.zero_add 0
    try simp only [go_sem, t0, t1, t2, t3, t9, t10, eg, ew, x1, x2, y1, y2]
    repeat refine ⟨⟨by omega, by omega⟩, ?_⟩
    refine icmp_ hd1 C hwI ?_
    intro w2 hd2 m2
    have mm := m1.trans' m2
    try simp only [go_sem]
    refine ⟨fun hb => ?_, fun hb => ?_⟩
    · have hp : (!ltc c d[i']! d[i' - 1]!) = true := by simpa [ltc] using hb
      rw [scanSorted, if_pos (by rw [Bool.and_eq_true]; exact ⟨by simpa using hc, hp⟩)] at e1
      unfold h76_4
      try simp only [go_sem, t0, t1, t2, t3, t9, t10]
      rw [w64 (by omega) (by omega)]
      refine ⟨i' + 1, by omega, by omega, ?_⟩
      (and_intros <;> first | rfl | assumption | omega)
    · have hp : (!ltc c d[i']! d[i' - 1]!) = false := by simpa [ltc] using hb
      rw [scanSorted, if_neg (by rw [Bool.and_eq_true]; rintro ⟨-, h⟩; simp only [hp] at h; cases h)] at e1
      try simp only [go_sem, t0, t1, t2, t3, t9, t10]
      exact k _ _ (by omega) (by omega) t0 t1 t2 t3 (by rw [← e1]; exact t9) t10 hd2 mm
  · have eg : decide ((i' : Int) < (b : Int)) = false := by simpa using (by omega : (b : Int) ≤ (i' : Int))
    rw [scanSorted, if_neg (by rw [Bool.and_eq_true]; rintro ⟨h, -⟩; simp at h; omega)] at e1
    try simp only [go_sem, t0, t1, t2, t3, t9, t10, eg]
    exact k _ _ (by omega) (by omega) t0 t1 t2 t3 (by rw [← e1]; exact t9) t10 (hd1.mod (Mod.drew none' _) (fun h => h)) (m1.trans' (Mod.drew _ _))

theorem ipd_ {a b i j : Nat} {c10 : Value} {τ : Env} {Q : HX → Env → World → Prop} (hd : Dt (fun x => [v x]) 3 1 w g n cap d) (h1 : ∀ x, (v x).oneCell' = true) (C : Cmp Try.prog f v c g B0 I) (hI : I w) (hj : j < n) (hn : n < 4611686018427387904)
    (t0 : τ 0 = .slice (some ⟨g, 0, none⟩) n cap) (t1 : τ 1 = .int .i64 a) (t2 : τ 2 = .int .i64 b) (t3 : τ 3 = f) (t9 : τ 9 = .int .i64 i) (t10 : τ 10 = c10) (t11 : τ 11 = .int .i64 j)
    (k : ∀ σ w', σ 0 = .slice (some ⟨g, 0, none⟩) n cap → σ 1 = .int .i64 a → σ 2 = .int .i64 b → σ 3 = f → σ 9 = .int .i64 i → σ 10 = c10 → Dt (fun x => [v x]) 3 1 w' g n cap (shiftDown (ltc c) j d) → Mod (fun k => k = g) w w' → Q (.exit 4) σ w') :
    hloop (hw Try.prog noPanic h76_8) Q τ w := by
  refine ⟨fun j' τ w' => ∃ d', j' ≤ j ∧ τ 0 = .slice (some ⟨g, 0, none⟩) n cap ∧ τ 1 = .int .i64 a ∧ τ 2 = .int .i64 b ∧ τ 3 = f ∧ τ 9 = .int .i64 i ∧ τ 10 = c10 ∧ τ 11 = .int .i64 j' ∧ Dt (fun x => [v x]) 3 1 w' g n cap d' ∧ Mod (fun k => k = g) w w' ∧ shiftDown (ltc c) j' d' = shiftDown (ltc c) j d, j, ⟨d, by omega, t0, t1, t2, t3, t9, t10, t11, hd, Mod.refl _ _, rfl⟩, ?_⟩
  rintro j' τ w1 ⟨d1, hjj, t0, t1, t2, t3, t9, t10, t11, hd1, m1, e1⟩
  have hwI : I w1 := C.inv _ _ hI m1
  unfold h76_8
  cases j' with
  | zero =>
    have eg : decide ((1 : Int) ≤ 0) = false := rfl
    try simp only [go_sem, t0, t1, t2, t3, t9, t10, t11, eg]
    rw [shiftDown] at e1
    exact k _ _ t0 t1 t2 t3 t9 t10 (by rw [← e1]; exact hd1) m1
  | succ j' =>
    have eg : decide ((1 : Int) ≤ ((j' + 1 : Nat) : Int)) = true := by simp; omega
    have ew : IntKind.i64.wrap (((j' + 1 : Nat) : Int) - 1) = (j' : Int) := by rw [w64 (by omega) (by omega)]; omega
    have x1 := Dt.ld1 hd1 (show j' + 1 < n by omega); have x2 := Nat.zero_add 0
    have y1 := Dt.ld1 hd1 (show j' < n by omega); have y2 := Nat.zero_add 0
    try simp only [go_sem, t0, t1, t2, t3, t9, t10, t11, eg]
    unfold h76_9
    try simp only [go_sem, t0, t1, t2, t3, t9, t10, t11, ew, x1, x2, y1, y2]
    repeat refine ⟨⟨by omega, by omega⟩, ?_⟩
    refine icmp_ hd1 C hwI ?_
    intro w2 hd2 m2
    have mm := m1.trans' m2
    rw [shiftDown] at e1
    try simp only [go_sem]
    refine ⟨fun hb => ?_, fun hb => ?_⟩
    · have hp : (!ltc c d1[j' + 1]! d1[j']!) = true := by simpa [ltc] using hb
      rw [if_pos hp] at e1
      try simp only [go_sem, t0, t1, t2, t3, t9, t10]
      exact k _ _ t0 t1 t2 t3 t9 t10 (by rw [← e1]; exact hd2) mm
    · have hp : (!ltc c d1[j' + 1]! d1[j']!) = false := by simpa [ltc] using hb
      rw [if_neg (by rw [hp]; simp)] at e1
      have x1 := Dt.ld1 hd2 (show j' + 1 < n by omega); have x2 := Nat.zero_add 0
      have y1 := Dt.ld1 hd2 (show j' < n by omega); have y2 := Nat.zero_add 0
      unfold h76_10
      try simp only [go_sem, t0, t1, t2, t3, t9, t10, t11, ew, x1, x2, y1, y2]
      repeat refine ⟨⟨by omega, by omega⟩, ?_⟩
      refine iswap_ hd2 h1 (show j' + 1 < n by omega) (show j' < n by omega) (by omega) ?_
      intro w3 hd3 m3
      have mm3 := mm.trans' m3
      unfold h76_11
      try simp only [go_sem, t0, t1, t2, t3, t9, t10, t11, ew]
      refine ⟨j', by omega, swp d1 (j' + 1) j', ?_⟩
      (and_intros <;> first | rfl | assumption | omega)

theorem ipu_ {a b i j : Nat} {c10 : Value} {τ : Env} {Q : HX → Env → World → Prop} (hd : Dt (fun x => [v x]) 3 1 w g n cap d) (h1 : ∀ x, (v x).oneCell' = true) (C : Cmp Try.prog f v c g B0 I) (hI : I w) (hj : 0 < j) (hjb : j ≤ b) (hb : b ≤ n) (hn : n < 4611686018427387904)
    (t0 : τ 0 = .slice (some ⟨g, 0, none⟩) n cap) (t1 : τ 1 = .int .i64 a) (t2 : τ 2 = .int .i64 b) (t3 : τ 3 = f) (t9 : τ 9 = .int .i64 i) (t10 : τ 10 = c10) (t12 : τ 12 = .int .i64 j)
    (k : ∀ σ w', σ 0 = .slice (some ⟨g, 0, none⟩) n cap → σ 1 = .int .i64 a → σ 2 = .int .i64 b → σ 3 = f → σ 9 = .int .i64 i → σ 10 = c10 → Dt (fun x => [v x]) 3 1 w' g n cap (shiftUp (ltc c) b j d) → Mod (fun k => k = g) w w' → Q (.exit 6) σ w') :
    hloop (hw Try.prog noPanic h76_13) Q τ w := by
  refine loopN b (fun j' τ w' => ∃ d', j ≤ j' ∧ τ 0 = .slice (some ⟨g, 0, none⟩) n cap ∧ τ 1 = .int .i64 a ∧ τ 2 = .int .i64 b ∧ τ 3 = f ∧ τ 9 = .int .i64 i ∧ τ 10 = c10 ∧ τ 12 = .int .i64 j' ∧ Dt (fun x => [v x]) 3 1 w' g n cap d' ∧ Mod (fun k => k = g) w w' ∧ shiftUp (ltc c) b j' d' = shiftUp (ltc c) b j d) ⟨j, by omega, d, by omega, t0, t1, t2, t3, t9, t10, t12, hd, Mod.refl _ _, rfl⟩ ?_
  rintro j' τ w1 hj' ⟨d1, hjj, t0, t1, t2, t3, t9, t10, t12, hd1, m1, e1⟩
  have hwI : I w1 := C.inv _ _ hI m1
  unfold h76_13
  by_cases hc : j' < b
  · have eg : decide ((j' : Int) < (b : Int)) = true := by simpa using (by omega : (j' : Int) < (b : Int))
    have ew : IntKind.i64.wrap ((j' : Int) - 1) = ((j' - 1 : Nat) : Int) := by rw [w64 (by omega) (by omega)]; omega
    have x1 := Dt.ld1 hd1 (show j' < n by omega); have x2 := Nat.zero_add 0
    have y1 := Dt.ld1 hd1 (show j' - 1 < n by omega); have y2 := Nat.zero_add 0
    try simp only [go_sem, t0, t1, t2, t3, t9, t10, t12, eg]
    unfold h76_14
    try simp only [go_sem, t0, t1, t2, t3, t9, t10, t12, ew, x1, x2, y1, y2]
    repeat refine ⟨⟨by omega, by omega⟩, ?_⟩
    refine icmp_ hd1 C hwI ?_
    intro w2 hd2 m2
    have mm := m1.trans' m2
    rw [shiftUp, if_pos hc] at e1
    try simp only [go_sem]
    refine ⟨fun hb => ?_, fun hb => ?_⟩
    · have hp : (!ltc c d1[j']! d1[j' - 1]!) = true := by simpa [ltc] using hb
      rw [if_pos hp] at e1
      try simp only [go_sem, t0, t1, t2, t3, t9, t10]
      exact k _ _ t0 t1 t2 t3 t9 t10 (by rw [← e1]; exact hd2) mm
    · have hp : (!ltc c d1[j']! d1[j' - 1]!) = false := by simpa [ltc] using hb
      rw [if_neg (by rw [hp]; simp)] at e1
      have x1 := Dt.ld1 hd2 (show j' < n by omega); have x2 := Nat.zero_add 0
      have y1 := Dt.ld1 hd2 (show j' - 1 < n by omega); have y2 := Nat.zero_add 0
      unfold h76_15
      try simp only [go_sem, t0, t1, t2, t3, t9, t10, t12, ew, x1, x2, y1, y2]
      repeat refine ⟨⟨by omega, by omega⟩, ?_⟩
      refine iswap_ hd2 h1 (show j' < n by omega) (show j' - 1 < n by omega) (by omega) ?_
      intro w3 hd3 m3
      have mm3 := mm.trans' m3
      unfold h76_16
      try simp only [go_sem, t0, t1, t2, t3, t9, t10, t12]
      rw [w64 (by omega) (by omega)]
      refine ⟨j' + 1, by omega, by omega, swp d1 j' (j' - 1), ?_⟩
      (and_intros <;> first | rfl | assumption | omega)
  · have eg : decide ((j' : Int) < (b : Int)) = false := by simpa using (by omega : (b : Int) ≤ (j' : Int))
    rw [shiftUp, if_neg hc] at e1
    try simp only [go_sem, t0, t1, t2, t3, t9, t10, t12, eg]
    exact k _ _ t0 t1 t2 t3 t9 t10 (by rw [← e1]; exact hd1) m1

/-- behind the shift to the left -/
theorem ipt_ {a b i : Nat} {c10 : Value} {τ : Env} {Q : HX → Env → World → Prop} (hd : Dt (fun x => [v x]) 3 1 w g n cap d) (h1 : ∀ x, (v x).oneCell' = true) (C : Cmp Try.prog f v c g B0 I) (hI : I w) (hib : i < b) (hb : b ≤ n) (hn : n < 4611686018427387904)
    (t0 : τ 0 = .slice (some ⟨g, 0, none⟩) n cap) (t1 : τ 1 = .int .i64 a) (t2 : τ 2 = .int .i64 b) (t3 : τ 3 = f) (t9 : τ 9 = .int .i64 i) (t10 : τ 10 = c10)
    (k : ∀ σ w', σ 0 = .slice (some ⟨g, 0, none⟩) n cap → σ 1 = .int .i64 a → σ 2 = .int .i64 b → σ 3 = f → σ 9 = .int .i64 i → σ 10 = c10 → Dt (fun x => [v x]) 3 1 w' g n cap (if b - i ≥ 2 then shiftUp (ltc c) b (i + 1) d else d) → Mod (fun k => k = g) w w' → Q .normal σ w') :
    hw Try.prog noPanic h76_12 Q τ w := by
  unfold h76_12
  have ea : IntKind.i64.wrap ((b : Int) - (i : Int)) = ((b - i : Nat) : Int) := by rw [w64 (by omega) (by omega)]; omega
  have eb : IntKind.i64.wrap ((i : Int) + 1) = ((i + 1 : Nat) : Int) := by rw [w64 (by omega) (by omega)]; omega
  try simp only [go_sem, t0, t1, t2, t3, t9, t10, ea, eb]
  refine ⟨fun hc => ?_, fun hc => ?_⟩
  · have hc' : b - i ≥ 2 := by have := of_decide_eq_true hc; omega
    rw [if_pos hc'] at k
    try simp only [go_sem, t0, t1, t2, t3, t9, t10, eb]
    refine ipu_ (a := a) (i := i) hd h1 C hI (show 0 < i + 1 by omega) (by omega) hb hn t0 t1 t2 t3 t9 t10 rfl ?_
    intro σ w' t0 t1 t2 t3 t9 t10 hd' m'
    try simp only [go_sem]
    exact k _ _ t0 t1 t2 t3 t9 t10 hd' m'
  · have hc' : ¬ b - i ≥ 2 := by have := of_decide_eq_false hc; omega
    rw [if_neg hc'] at k
    try simp only [go_sem]
    exact k _ _ t0 t1 t2 t3 t9 t10 hd (Mod.refl _ _)

theorem ipins_ {a b : Nat} (hd : Dt (fun x => [v x]) 3 1 w g n cap d) (h1 : ∀ x, (v x).oneCell' = true) (C : Cmp Try.prog f v c g B0 I) (hI : I w) (hab : a < b) (hb : b ≤ n) (hn : n < 4611686018427387904)
    (k : ∀ w', Dt (fun x => [v x]) 3 1 w' g n cap (partialInsertionSort (ltc c) d a b).1 → Mod (fun k => k = g) w w' → next (.bool (partialInsertionSort (ltc c) d a b).2) w') :
    callvK Try.prog (.func (.func 76) #[] #[]) [.slice (some ⟨g, 0, none⟩) n cap, .int .i64 a, .int .i64 b, f] w next QP := by
  refine r76 rfl ?_
  unfold h76
  try simp only [go_sem]
  rw [w64 (by omega) (by omega)]
  refine loopN 5 (fun s τ w' => ∃ d' i, a < i ∧ i ≤ b ∧ τ 0 = .slice (some ⟨g, 0, none⟩) n cap ∧ τ 1 = .int .i64 a ∧ τ 2 = .int .i64 b ∧ τ 3 = f ∧ τ 9 = .int .i64 i ∧ τ 10 = .int .i64 s ∧ Dt (fun x => [v x]) 3 1 w' g n cap d' ∧ Mod (fun k => k = g) w w' ∧ partialIns (ltc c) a b (5 - s) i d' = partialInsertionSort (ltc c) d a b) ⟨0, by omega, d, a + 1, by omega, by omega, rfl, rfl, rfl, rfl, rfl, rfl, hd, Mod.refl _ _, rfl⟩ ?_
  rintro s τ w1 hs ⟨d1, i, hai, hib, t0, t1, t2, t3, t9, t10, hd1, m1, e1⟩
  unfold h76_1
  try simp only [go_sem, t0, t1, t2, t3, t9, t10]
  refine ⟨fun hlt => ?_, fun hge => ?_⟩
  · have hs5 : s < 5 := by
      have := of_decide_eq_true hlt
      omega
    obtain ⟨q, hq⟩ : ∃ q, 5 - s = q + 1 := ⟨4 - s, by omega⟩
    rw [hq, partialIns] at e1
    simp only [] at e1
    unfold h76_2
    try simp only [go_sem]
    refine ips_ (a := a) hd1 h1 C (C.inv _ _ hI m1) (show 0 < i by omega) hib hb hn t0 t1 t2 t3 t9 t10 ?_
    intro σ w2 hi1 hi2 t0 t1 t2 t3 t9 t10 hd2 m2
    have m12 := m1.trans' m2
    generalize scanSorted (ltc c) d1 b i = i1 at *
    try simp only [go_sem]
    unfold h76_5
    try simp only [go_sem, t0, t1, t2, t3, t9, t10]
    refine ⟨fun heq => ?_, fun hne => ?_⟩
    · have he : i1 = b := by
        have := of_decide_eq_true heq
        omega
      rw [if_pos he] at e1
      try simp only [go_sem]
      rw [← e1] at k
      exact k _ hd2 m12
    · have he : ¬ i1 = b := by
        have := of_decide_eq_false hne
        omega
      rw [if_neg he] at e1
      have ea : IntKind.i64.wrap ((b : Int) - (a : Int)) = ((b - a : Nat) : Int) := by rw [w64 (by omega) (by omega)]; omega
      unfold h76_6
      try simp only [go_sem, t0, t1, t2, t3, t9, t10, ea]
      refine ⟨fun h50 => ?_, fun h50 => ?_⟩
      · have he : b - a < 50 := by
          have := of_decide_eq_true h50
          omega
        rw [if_pos he] at e1
        try simp only [go_sem]
        rw [← e1] at k
        exact k _ hd2 m12
      · have he : ¬ b - a < 50 := by
          have := of_decide_eq_false h50
          omega
        rw [if_neg he] at e1
        have ew : IntKind.i64.wrap ((i1 : Int) - 1) = ((i1 - 1 : Nat) : Int) := by rw [w64 (by omega) (by omega)]; omega
        have ex : IntKind.i64.wrap ((i1 : Int) - (a : Int)) = ((i1 - a : Nat) : Int) := by rw [w64 (by omega) (by omega)]; omega
        have x1 := Dt.ld1 hd2 (show i1 < n by omega); have x2 := Nat.zero_add 0
        have y1 := Dt.ld1 hd2 (show i1 - 1 < n by omega); have y2 := Nat.zero_add 0
        unfold h76_7
        try simp only [go_sem, t0, t1, t2, t3, t9, t10, ew, x1, x2, y1, y2]
        repeat refine ⟨⟨by omega, by omega⟩, ?_⟩
        refine iswap_ hd2 h1 (show i1 < n by omega) (show i1 - 1 < n by omega) (by omega) ?_
        intro w3 hd3 m3
        have m13 := m12.trans' m3
        try simp only [go_sem, t0, t1, t2, t3, t9, t10, ex]
        refine ⟨fun h2 => ?_, fun h2 => ?_⟩
        · have he : i1 - a ≥ 2 := by
            have := of_decide_eq_true h2
            omega
          rw [if_pos he] at e1
          try simp only [go_sem, t0, t1, t2, t3, t9, t10, ew]
          refine ipd_ (a := a) (b := b) (i := i1) (j := i1 - 1) hd3 h1 C (C.inv _ _ hI m13) (by omega) hn t0 t1 t2 t3 t9 t10 rfl ?_
          intro σ w4 t0 t1 t2 t3 t9 t10 hd4 m4
          have m14 := m13.trans' m4
          try simp only [go_sem]
          refine ipt_ (a := a) (i := i1) hd4 h1 C (C.inv _ _ hI m14) (by omega) hb hn t0 t1 t2 t3 t9 t10 ?_
          intro σ w5 t0 t1 t2 t3 t9 t10 hd5 m5
          have m15 := m14.trans' m5
          unfold h76_17
          try simp only [go_sem, t0, t1, t2, t3, t9, t10]
          rw [w64 (by omega) (by omega)]
          rw [show q = 5 - (s + 1) by omega] at e1
          refine ⟨s + 1, by omega, by omega, if b - i1 ≥ 2 then shiftUp (ltc c) b (i1 + 1) (shiftDown (ltc c) (i1 - 1) (swp d1 i1 (i1 - 1))) else shiftDown (ltc c) (i1 - 1) (swp d1 i1 (i1 - 1)), i1, ?_⟩
          (and_intros <;> first | rfl | assumption | omega)
        · have he : ¬ i1 - a ≥ 2 := by
            have := of_decide_eq_false h2
            omega
          rw [if_neg he] at e1
          try simp only [go_sem, t0, t1, t2, t3, t9, t10]
          refine ipt_ (a := a) (i := i1) hd3 h1 C (C.inv _ _ hI m13) (by omega) hb hn t0 t1 t2 t3 t9 t10 ?_
          intro σ w5 t0 t1 t2 t3 t9 t10 hd5 m5
          have m15 := m13.trans' m5
          unfold h76_17
          try simp only [go_sem, t0, t1, t2, t3, t9, t10]
          rw [w64 (by omega) (by omega)]
          rw [show q = 5 - (s + 1) by omega] at e1
          refine ⟨s + 1, by omega, by omega, if b - i1 ≥ 2 then shiftUp (ltc c) b (i1 + 1) (swp d1 i1 (i1 - 1)) else swp d1 i1 (i1 - 1), i1, ?_⟩
          (and_intros <;> first | rfl | assumption | omega)
  · have hs5 : s = 5 := by
      have := of_decide_eq_false hge
      omega
    subst hs5
    rw [show 5 - 5 = 0 from rfl, partialIns] at e1
    unfold h76_18
    try simp only [go_sem]
    rw [← e1] at k
    exact k _ hd1 m1
end
end Go.Proofs.Y

/- TZI: thread: Go's sort of slices, walked: the parts. -/
namespace Go.Proofs.Y
open Go Go.HL Go.Proofs
open Go.Sort (swp insInner insOuter insertionSort siftDown heapBuild heapPop heapSort scanUp scanDown partLoop partition partEqLoop partitionEqual scanSorted shiftDown shiftUp partialIns partialInsertionSort reverseLoop reverseRange PermIn SortedIn Below SWO size_swp)

section
variable {α : Type} [Inhabited α] {w : World} {v : α → Value} {c : α → α → Int} {f : Value} {I : World → Prop} {g n cap B0 : Nat} {d : Array α} {next : Value → World → Prop} {QP : List PanicEntry → World → Prop}
/-! ### the pivot -/
theorem ikp_ {q : Nat} (hd : Dt (fun x => [v x]) 3 1 w g n cap d) {w' : World} (m : Mod (fun k => k = q) w w') (hq : q ≠ g) : Dt (fun x => [v x]) 3 1 w' g n cap d := by
  have _h := (default : α)
  exact hd.mod m (fun h => hq h.symm)
theorem iord_ {a b q : Nat} {s : Int} (hd : Dt (fun x => [v x]) 3 1 w g n cap d) (h1 : ∀ x, (v x).oneCell' = true) (C : Cmp Try.prog f v c g B0 I) (hI : I w) (hq : Blk w q 3 [.int .i64 s]) (hqB : B0 ≤ q) (hqg : q ≠ g) (ha : a < n) (hb : b < n)
    (k : ∀ (x y : Nat) (s' : Int) w', (x = a ∧ y = b ∨ x = b ∧ y = a) → Blk w' q 3 [.int .i64 s'] → Dt (fun x => [v x]) 3 1 w' g n cap d → I w' → Mod (fun k => k = q) w w' → next (.tuple #[.int .i64 x, .int .i64 y]) w') :
    callvK Try.prog (.func (.func 90) #[] #[]) [.slice (some ⟨g, 0, none⟩) n cap, .int .i64 a, .int .i64 b, ptr q, f] w next QP := by
  refine r90 rfl ?_
  unfold h90
  have x1 := Dt.ld1 hd ha; have x2 := Nat.zero_add 0
  have y1 := Dt.ld1 hd hb; have y2 := Nat.zero_add 0
  try simp only [go_sem, x1, x2, y1, y2]
  repeat refine ⟨⟨by omega, by omega⟩, ?_⟩
  refine C.call _ _ _ _ _ (C.inv0 hI (Mod.drew _ _)) ?_
  intro w1 m1
  have m01 := (Mod.drew none' w).trans' m1
  have hq1 := hq.mod m01 (fun h => h)
  have hd1 := hd.mod m01 (fun h => h)
  have c0 := hq1.cell 0
  simp only [List.getElem?_cons_zero] at c0
  try simp only [go_sem, c0]
  refine ⟨fun hc => ?_, fun hc => ?_⟩
  · try simp only [go_sem, c0]
    refine store1 szint hq1 (by simp) rfl ?_
    intro w2 hq2 m2 _
    have m02 := (m01.up (S := fun k => k = q)).trans' m2
    try simp only [go_sem]
    exact k b a _ _ (.inr ⟨rfl, rfl⟩) hq2 (ikp_ hd m02 hqg) (C.inv2 _ _ hI (m02.mono fun _ _ h => .inr (by omega))) m02
  · unfold h90_1
    try simp only [go_sem]
    exact k a b _ _ (.inl ⟨rfl, rfl⟩) hq1 hd1 (C.inv0 hI m01) (m01.up)

theorem imed_ {a b e q : Nat} {s : Int} (hd : Dt (fun x => [v x]) 3 1 w g n cap d) (h1 : ∀ x, (v x).oneCell' = true) (C : Cmp Try.prog f v c g B0 I) (hI : I w) (hq : Blk w q 3 [.int .i64 s]) (hqB : B0 ≤ q) (hqg : q ≠ g) (ha : a < n) (hb : b < n) (he : e < n)
    (k : ∀ (x : Nat) (s' : Int) w', (x = a ∨ x = b ∨ x = e) → Blk w' q 3 [.int .i64 s'] → Dt (fun x => [v x]) 3 1 w' g n cap d → I w' → Mod (fun k => k = q) w w' → next (.int .i64 x) w') :
    callvK Try.prog (.func (.func 87) #[] #[]) [.slice (some ⟨g, 0, none⟩) n cap, .int .i64 a, .int .i64 b, .int .i64 e, ptr q, f] w next QP := by
  refine r87 rfl ?_
  unfold h87
  try simp only [go_sem]
  refine iord_ hd h1 C hI hq hqB hqg ha hb ?_
  intro x1 y1 s1 w1 h1' hq1 hd1 hI1 m1
  try simp only [go_sem]
  refine iord_ hd1 h1 C hI1 hq1 hqB hqg (show y1 < n by omega) he ?_
  intro x2 y2 s2 w2 h2' hq2 hd2 hI2 m2
  try simp only [go_sem]
  refine iord_ hd2 h1 C hI2 hq2 hqB hqg (show x1 < n by omega) (show x2 < n by omega) ?_
  intro x3 y3 s3 w3 h3' hq3 hd3 hI3 m3
  try simp only [go_sem]
  exact k y3 s3 w3 (by omega) hq3 hd3 hI3 ((m1.trans' m2).trans' m3)

theorem iadj_ {a q : Nat} {s : Int} (hd : Dt (fun x => [v x]) 3 1 w g n cap d) (h1 : ∀ x, (v x).oneCell' = true) (C : Cmp Try.prog f v c g B0 I) (hI : I w) (hq : Blk w q 3 [.int .i64 s]) (hqB : B0 ≤ q) (hqg : q ≠ g) (ha0 : 0 < a) (ha : a + 1 < n) (hn : n < 4611686018427387904)
    (k : ∀ (x : Nat) (s' : Int) w', a - 1 ≤ x → x ≤ a + 1 → Blk w' q 3 [.int .i64 s'] → Dt (fun x => [v x]) 3 1 w' g n cap d → I w' → Mod (fun k => k = q) w w' → next (.int .i64 x) w') :
    callvK Try.prog (.func (.func 86) #[] #[]) [.slice (some ⟨g, 0, none⟩) n cap, .int .i64 a, ptr q, f] w next QP := by
  refine r86 rfl ?_
  have ea : IntKind.i64.wrap ((a : Int) - 1) = ((a - 1 : Nat) : Int) := by rw [w64 (by omega) (by omega)]; omega
  have eb : IntKind.i64.wrap ((a : Int) + 1) = ((a + 1 : Nat) : Int) := by rw [w64 (by omega) (by omega)]; omega
  unfold h86
  try simp only [go_sem, ea, eb]
  refine imed_ hd h1 C hI hq hqB hqg (show a - 1 < n by omega) (show a < n by omega) ha ?_
  intro x s' w' hx hq' hd' hI' m'
  try simp only [go_sem]
  exact k x s' w' (by omega) (by omega) hq' hd' hI' m'

theorem icho2_ {a b j q : Nat} {s : Int} {τ : Env} (hd : Dt (fun x => [v x]) 3 1 w g n cap d) (hq : Blk w q 3 [.int .i64 s]) (t11 : τ 11 = ptr q) (t13 : τ 13 = .int .i64 j)
    (k : ∀ h : Int, next (.tuple #[.int .i64 j, .int .i64 h]) w) : hw Try.prog noPanic h74_2 (endV [.tmp 8, .tmp 9] next) τ w := by
  have _h := (default : α)
  have c0 := hq.cell 0
  simp only [List.getElem?_cons_zero] at c0
  unfold h74_2
  try simp only [go_sem, t11, t13, c0]
  refine ⟨fun _ => ?_, fun _ => ?_⟩
  · exact k 1
  · refine ⟨fun _ => ?_, fun _ => ?_⟩
    · exact k 2
    · exact k 0
theorem icho1_ {a b i j l q : Nat} {s : Int} {τ : Env} (hd : Dt (fun x => [v x]) 3 1 w g n cap d) (h1 : ∀ x, (v x).oneCell' = true) (C : Cmp Try.prog f v c g B0 I) (hI : I w) (hq : Blk w q 3 [.int .i64 s]) (hqB : B0 ≤ q) (hqg : q ≠ g)
    (hi : a ≤ i ∧ i < b) (hj : a ≤ j ∧ j < b) (hl : a ≤ l ∧ l < b) (hb : b ≤ n)
    (t0 : τ 0 = .slice (some ⟨g, 0, none⟩) n cap) (t3 : τ 3 = f) (t11 : τ 11 = ptr q) (t12 : τ 12 = .int .i64 i) (t13 : τ 13 = .int .i64 j) (t14 : τ 14 = .int .i64 l)
    {Q : HX → Env → World → Prop}
    (k : ∀ (x : Nat) (s' : Int) σ w', a ≤ x → x < b → σ 11 = ptr q → σ 13 = .int .i64 x → Blk w' q 3 [.int .i64 s'] → Dt (fun x => [v x]) 3 1 w' g n cap d → Mod (fun k => k = q) w w' → Q .normal σ w') : hw Try.prog noPanic h74_1 Q τ w := by
  unfold h74_1
  try simp only [go_sem, t0, t3, t11, t12, t13, t14]
  refine imed_ hd h1 C hI hq hqB hqg (show i < n by omega) (show j < n by omega) (show l < n by omega) ?_
  intro x s' w' hx hq' hd' hI' m'
  try simp only [go_sem]
  exact k x s' _ w' (by omega) (by omega) t11 rfl hq' hd' m'

theorem icho_ {a b : Nat} (hd : Dt (fun x => [v x]) 3 1 w g n cap d) (h1 : ∀ x, (v x).oneCell' = true) (C : Cmp Try.prog f v c g B0 I) (hI : I w) (hab : a + 12 < b) (hb : b ≤ n) (hn : n < 4611686018427387904)
    (k : ∀ (x : Nat) (h : Int) w', a ≤ x → x < b → Dt (fun x => [v x]) 3 1 w' g n cap d → I w' → Mod none' w w' → next (.tuple #[.int .i64 x, .int .i64 h]) w') :
    callvK Try.prog (.func (.func 74) #[] #[]) [.slice (some ⟨g, 0, none⟩) n cap, .int .i64 a, .int .i64 b, f] w next QP := by
  refine r74 rfl ?_
  obtain ⟨l4, hl4⟩ : ∃ q, (b - a) / 4 = q := ⟨_, rfl⟩
  have ea : IntKind.i64.wrap ((b : Int) - (a : Int)) = ((b - a : Nat) : Int) := by rw [w64 (by omega) (by omega)]; omega
  have eq : IntKind.i64.wrap (Int.tdiv ((b - a : Nat) : Int) 4) = (l4 : Int) := by
    rw [Int.tdiv_eq_ediv_of_nonneg (by omega), w64 (by omega) (by omega)]; omega
  have em : ∀ t : Int, 1 ≤ t → t ≤ 3 → IntKind.i64.wrap ((a : Int) + IntKind.i64.wrap ((l4 : Int) * t)) = (a : Int) + (l4 : Int) * t := by
    intro t h1 h3
    have : t = 1 ∨ t = 2 ∨ t = 3 := by omega
    rcases this with rfl | rfl | rfl <;> rw [w64 (x := (l4 : Int) * _) (by omega) (by omega), w64 (by omega) (by omega)]
  have e1 : IntKind.i64.wrap ((a : Int) + IntKind.i64.wrap ((l4 : Int) * 1)) = ((a + l4 : Nat) : Int) := by rw [em 1 (by omega) (by omega)]; omega
  have e2 : IntKind.i64.wrap ((a : Int) + IntKind.i64.wrap ((l4 : Int) * 2)) = ((a + l4 * 2 : Nat) : Int) := by rw [em 2 (by omega) (by omega)]; omega
  have e3 : IntKind.i64.wrap ((a : Int) + IntKind.i64.wrap ((l4 : Int) * 3)) = ((a + l4 * 3 : Nat) : Int) := by rw [em 3 (by omega) (by omega)]; omega
  have g8 : decide ((8 : Int) ≤ ((b - a : Nat) : Int)) = true := by simp; omega
  unfold h74
  try simp only [go_sem, ea]
  refine alloc_ (cs := [.int .i64 0]) (z := .int .i64 0) zint rfl ?_
  intro q w1 hqw hq1 m1 hs1
  have hd1 := hd.mod m1 (fun h => h)
  have hI1 := C.inv0 hI m1
  have hB := C.base _ hI
  have hqB : B0 ≤ q := by omega
  have hqg : q ≠ g := fun e => by
    have := C.inB
    omega
  have up : ∀ {w'}, Mod (fun k => k = q) w1 w' → Mod none' w w' := fun {w'} m => m1.trans m fun i hi h => by
    have h : i = q := h
    omega
  try simp only [go_sem, ea, eq, e1, e2, e3, g8]
  repeat (refine ⟨by omega, ?_⟩)
  refine ⟨fun h50 => ?_, fun h50 => ?_⟩
  · have h50 := of_decide_eq_true h50
    try simp only [go_sem]
    refine iadj_ (a := a + l4) hd1 h1 C hI1 hq1 hqB hqg (by omega) (by omega) hn ?_
    intro x1 s1 w2 h1' h1'' hq2 hd2 hI2 m2
    try simp only [go_sem]
    refine iadj_ (a := a + l4 * 2) hd2 h1 C hI2 hq2 hqB hqg (by omega) (by omega) hn ?_
    intro x2 s2 w3 h2' h2'' hq3 hd3 hI3 m3
    try simp only [go_sem]
    refine iadj_ (a := a + l4 * 3) hd3 h1 C hI3 hq3 hqB hqg (by omega) (by omega) hn ?_
    intro x3 s3 w4 h3' h3'' hq4 hd4 hI4 m4
    try simp only [go_sem]
    refine icho1_ (a := a) (b := b) (i := x1) (j := x2) (l := x3) hd4 h1 C hI4 hq4 hqB hqg (by omega) (by omega) (by omega) hb rfl rfl rfl rfl rfl rfl ?_
    intro x s' σ w5 hx1 hx2 t11 t13 hq5 hd5 m5
    have mm := up (((m2.trans' m3).trans' m4).trans' m5)
    try simp only [go_sem]
    exact icho2_ (a := a) (b := b) hd5 hq5 t11 t13 fun h => k x h w5 hx1 hx2 hd5 (C.inv0 hI mm) mm
  · have h50 := of_decide_eq_false h50
    try simp only [go_sem]
    refine icho1_ (a := a) (b := b) (i := a + l4) (j := a + l4 * 2) (l := a + l4 * 3) hd1 h1 C hI1 hq1 hqB hqg (by omega) (by omega) (by omega) hb rfl rfl rfl rfl rfl rfl ?_
    intro x s' σ w5 hx1 hx2 t11 t13 hq5 hd5 m5
    have mm := up m5
    try simp only [go_sem]
    exact icho2_ (a := a) (b := b) hd5 hq5 t11 t13 fun h => k x h w5 hx1 hx2 hd5 (C.inv0 hI mm) mm

/-! ### patterns -/
theorem iandle_ (x m : Nat) (hx : x < 18446744073709551616) (hm : m < 18446744073709551616) : ∃ y : Nat, y ≤ m ∧ intV .and .u64 (x : Int) (m : Int) = .int .u64 (y : Nat) := by
  refine ⟨x &&& m, Nat.and_le_right, ?_⟩
  have h := andV (k := .u64) (a := x) (b := m) (show x < 2 ^ 64 by omega) (show m < 2 ^ 64 by omega)
  have h2 : x &&& m ≤ m := Nat.and_le_right
  rw [h, wrap_u64]
  congr 1; omega

theorem ibrk_ {a b : Nat} (hd : Dt (fun x => [v x]) 3 1 w g n cap d) (h1 : ∀ x, (v x).oneCell' = true) (C : Cmp Try.prog f v c g B0 I) (hI : I w) (hab : a + 12 < b) (hb : b ≤ n) (hn : n < 4611686018427387904)
    (k : ∀ d' w', PermIn a b d d' → Dt (fun x => [v x]) 3 1 w' g n cap d' → Mod (fun k => k = g) w w' → next (.tuple #[]) w') :
    callvK Try.prog (.func (.func 73) #[] #[]) [.slice (some ⟨g, 0, none⟩) n cap, .int .i64 a, .int .i64 b, f] w next QP := by
  refine r73 rfl ?_
  obtain ⟨l4, hl4⟩ : ∃ q, (b - a) / 4 = q := ⟨_, rfl⟩
  have ea : IntKind.i64.wrap ((b : Int) - (a : Int)) = ((b - a : Nat) : Int) := by rw [w64 (by omega) (by omega)]; omega
  have eq : IntKind.i64.wrap (Int.tdiv ((b - a : Nat) : Int) 4) = (l4 : Int) := by
    rw [Int.tdiv_eq_ediv_of_nonneg (by omega), w64 (by omega) (by omega)]; omega
  have e2 : IntKind.i64.wrap ((a : Int) + IntKind.i64.wrap ((l4 : Int) * 2)) = ((a + l4 * 2 : Nat) : Int) := by
    rw [w64 (x := (l4 : Int) * 2) (by omega) (by omega), w64 (by omega) (by omega)]; omega
  have e3 : IntKind.i64.wrap (((a + l4 * 2 : Nat) : Int) - 1) = ((a + l4 * 2 - 1 : Nat) : Int) := by rw [w64 (by omega) (by omega)]; omega
  have e4 : IntKind.i64.wrap (((a + l4 * 2 : Nat) : Int) + 1) = ((a + l4 * 2 + 1 : Nat) : Int) := by rw [w64 (by omega) (by omega)]; omega
  have g8 : decide ((8 : Int) ≤ ((b - a : Nat) : Int)) = true := by simp; omega
  unfold h73
  try simp only [go_sem, ea, g8]
  refine alloc_ (cs := [.int .u64 0]) (z := .int .u64 0) z108 rfl ?_
  intro q w1 hqw hq1 m1 hs1
  have hB := C.base _ hI
  have hqB : B0 ≤ q := by omega
  have hqg : q ≠ g := fun e => by
    have := C.inB
    omega
  try simp only [go_sem]
  rw [wrap_u64]
  have eu : ((b - a : Nat) : Int) % 18446744073709551616 = ((b - a : Nat) : Int) := by omega
  rw [eu]
  refine store1 sz108 hq1 (by simp) rfl ?_
  intro w2 hq2 m2 hs2
  try simp only [go_sem]
  refine npow_ (b - a) (by omega) (by omega) fun m hm0 hm2 => ?_
  try simp only [go_sem, eq, e2, e3]
  repeat (refine ⟨by omega, ?_⟩)
  have m02 : Mod (fun k => k = g ∨ k = q) w w2 := (m1.up (S := fun k => k = g ∨ k = q)).trans' (m2.mono fun _ _ h => .inr h)
  have hd2 := hd.mod ((m1.up (S := fun k => k = q)).trans' m2) (fun h => hqg h.symm)
  refine loopN n (fun i τ w' => ∃ d' r, r < 18446744073709551616 ∧ a + l4 * 2 - 1 ≤ i ∧ τ 0 = .slice (some ⟨g, 0, none⟩) n cap ∧ τ 1 = .int .i64 a ∧ τ 8 = .int .i64 (b - a : Nat) ∧ τ 9 = ptr q ∧ τ 10 = .int .u64 m ∧ τ 11 = .int .i64 i ∧ Dt (fun x => [v x]) 3 1 w' g n cap d' ∧ PermIn a b d d' ∧ Blk w' q 108 [.int .u64 (r : Nat)] ∧ Mod (fun k => k = g ∨ k = q) w w') ⟨a + l4 * 2 - 1, by omega, d, b - a, by omega, by omega, rfl, rfl, rfl, rfl, rfl, rfl, hd2, Sort.permIn_refl _ _ _, hq2, m02⟩ ?_
  rintro i τ w3 hi ⟨d3, r, hr, hai, t0, t1, t8, t9, t10, t11, hd3, hp3, hq3, m3⟩
  unfold h73_1
  try simp only [go_sem, t0, t1, t8, t9, t10, t11, eq, e2, e4]
  repeat (refine ⟨by omega, ?_⟩)
  refine ⟨fun hle => ?_, fun hgt => ?_⟩
  · have hle := of_decide_eq_true hle
    unfold h73_2
    try simp only [go_sem, t0, t1, t8, t9, t10, t11]
    refine rnd_ hq3 ?_
    intro y w4 hy hq4 m4 hs4
    have hd4 := hd3.mod m4 (fun h => hqg h.symm)
    have em : IntKind.u64.wrap ((m : Int) - 1) = ((m - 1 : Nat) : Int) := by rw [wrap_u64]; omega
    obtain ⟨z, hz, ez⟩ := iandle_ y (m - 1) hy (by omega)
    try simp only [go_sem, t0, t1, t8, t9, t10, t11, em, ez]
    rw [w64 (x := (z : Int)) (by omega) (by omega)]
    -- the place of the other one
    have go : ∀ (o : Nat) (σ : Env) (QQ : HX → Env → World → Prop), a + o < b → σ 0 = .slice (some ⟨g, 0, none⟩) n cap → σ 1 = .int .i64 a → σ 8 = .int .i64 (b - a : Nat) → σ 9 = ptr q → σ 10 = .int .u64 m → σ 11 = .int .i64 i → σ 12 = .int .i64 o →
        (∀ σ' w', σ' 0 = .slice (some ⟨g, 0, none⟩) n cap → σ' 1 = .int .i64 a → σ' 8 = .int .i64 (b - a : Nat) → σ' 9 = ptr q → σ' 10 = .int .u64 m → σ' 11 = .int .i64 i → Dt (fun x => [v x]) 3 1 w' g n cap (swp d3 i (a + o)) → PermIn a b d (swp d3 i (a + o)) → Blk w' q 108 [.int .u64 (y : Nat)] → Mod (fun k => k = g ∨ k = q) w w' → QQ .normal σ' w') → hw Try.prog noPanic h73_3 QQ σ w4 := by
      intro o σ QQ ho s0 s1 s8 s9 s10 s11 s12 kk
      have eo : IntKind.i64.wrap ((a : Int) + (o : Int)) = ((a + o : Nat) : Int) := by rw [w64 (by omega) (by omega)]; omega
      have x1 := Dt.ld1 hd4 (show i < n by omega); have x2 := Nat.zero_add 0
      have y1 := Dt.ld1 hd4 (show a + o < n by omega); have y2 := Nat.zero_add 0
      unfold h73_3
      try simp only [go_sem, s0, s1, s8, s9, s10, s11, s12, eo, x1, x2, y1, y2]
      repeat refine ⟨⟨by omega, by omega⟩, ?_⟩
      refine iswap_ hd4 h1 (show i < n by omega) (show a + o < n by omega) (by omega) ?_
      intro w5 hd5 m5
      try simp only [go_sem]
      have hp5 := Sort.permIn_trans _ _ _ a b hp3 (Sort.swp_permIn d3 a b i (a + o) (by omega) (by omega) (by omega) ho (by rw [hd3.size]; exact hb))
      exact kk _ w5 s0 s1 s8 s9 s10 s11 hd5 hp5 (hq4.mod m5 (fun h => hqg h)) ((m3.trans' (m4.mono fun _ _ h => .inr h)).trans' (m5.mono fun _ _ h => .inl h))
    refine ⟨fun hge => ?_, fun hlt => ?_⟩
    · have hge := of_decide_eq_true hge
      have es : IntKind.i64.wrap ((z : Int) - ((b - a : Nat) : Int)) = ((z - (b - a) : Nat) : Int) := by rw [w64 (by omega) (by omega)]; omega
      try simp only [go_sem, t8, es]
      refine go (z - (b - a)) _ _ (by omega) t0 t1 t8 t9 t10 t11 rfl ?_
      intro σ' w5 t0 t1 t8 t9 t10 t11 hd5 hp5 hq5 m5
      try simp only [go_sem]
      unfold h73_4
      try simp only [go_sem, t0, t1, t8, t9, t10, t11]
      rw [w64 (by omega) (by omega)]
      refine ⟨i + 1, by omega, by omega, swp d3 i (a + (z - (b - a))), y, ?_⟩
      (and_intros <;> first | rfl | assumption | omega | exact hp5.1 | exact hp5.2.1 | exact hp5.2.2)
    · have hlt := of_decide_eq_false hlt
      try simp only [go_sem]
      refine go z _ _ (by omega) t0 t1 t8 t9 t10 t11 rfl ?_
      intro σ' w5 t0 t1 t8 t9 t10 t11 hd5 hp5 hq5 m5
      try simp only [go_sem]
      unfold h73_4
      try simp only [go_sem, t0, t1, t8, t9, t10, t11]
      rw [w64 (by omega) (by omega)]
      refine ⟨i + 1, by omega, by omega, swp d3 i (a + z), y, ?_⟩
      (and_intros <;> first | rfl | assumption | omega | exact hp5.1 | exact hp5.2.1 | exact hp5.2.2)
  · refine k d3 w3 hp3 hd3 (m3.mono fun i hi h => ?_)
    rcases h with h | h
    · exact h
    · omega

/-! ### the recursion -/
/-- what a call of the recursion gives -/
def IPQ (v : α → Value) (f : Value) (c : α → α → Int) (I : World → Prop) (g n cap : Nat) (a b : Nat) : Prop :=
  ∀ (w : World) (d : Array α) (lim : Int) (next : Value → World → Prop) (QP : List PanicEntry → World → Prop), Dt (fun x => [v x]) 3 1 w g n cap d → I w → a ≤ b → b ≤ n → Below (ltc c) a b d →
    (∀ w' d', Dt (fun x => [v x]) 3 1 w' g n cap d' → PermIn a b d d' → SortedIn (ltc c) a b d' → Mod (fun k => k = g) w w' → next (.tuple #[]) w') →
    callvK Try.prog (.func (.func 53) #[] #[]) [.slice (some ⟨g, 0, none⟩) n cap, .int .i64 a, .int .i64 b, .int .i64 lim, f] w next QP
/-- where a round of the loop ends: with a part that is left -/
def IRest (c : α → α → Int) (a b : Nat) (d : Array α) (a' b' : Nat) (d' : Array α) : Prop :=
  a ≤ a' ∧ a' ≤ b' ∧ b' ≤ b ∧ Below (ltc c) a' b' d' ∧ ∀ R, PermIn a' b' d' R → SortedIn (ltc c) a' b' R → PermIn a b d R ∧ SortedIn (ltc c) a b R
structure ISl4 (f : Value) (g n cap a b : Nat) (σ : Env) : Prop where
  s0 : σ 0 = .slice (some ⟨g, 0, none⟩) n cap
  s1 : σ 1 = .int .i64 a
  s2 : σ 2 = .int .i64 b
  s3 : ∃ l : Int, σ 3 = .int .i64 l
  s4 : σ 4 = f
  s10 : ∃ q : Bool, σ 10 = .bool q
  s11 : ∃ q : Bool, σ 11 = .bool q

theorem ir7_ {a b p : Nat} {τ : Env} {Q : HX → Env → World → Prop} (hS : SWO (ltc c)) (hd : Dt (fun x => [v x]) 3 1 w g n cap d) (h1 : ∀ x, (v x).oneCell' = true) (C : Cmp Try.prog f v c g B0 I) (hI : I w) (hb : b ≤ n) (hn : n < 4611686018427387904) (hap : a ≤ p) (hpb : p < b) (hB : Below (ltc c) a b d)
    (REC : ∀ a' b', b' - a' < b - a → IPQ v f c I g n cap a' b')
    (t : ISl4 f g n cap a b τ) (t12 : τ 12 = .int .i64 (b - a : Nat)) (t13 : τ 13 = .int .i64 p)
    (k : ∀ a' b' d' σ w', b' - a' < b - a → IRest c a b d a' b' d' → ISl4 f g n cap a' b' σ → Dt (fun x => [v x]) 3 1 w' g n cap d' → Mod (fun k => k = g) w w' → Q .normal σ w') : hw Try.prog noPanic h53_7 Q τ w := by
  obtain ⟨t0, t1, t2, ⟨lim, t3⟩, t4, ⟨wb, t10⟩, ⟨wp, t11⟩⟩ := t
  unfold h53_7
  try simp only [go_sem, t0, t1, t2, t3, t4, t13]
  refine ipart_ hd h1 C hI hap hpb hb hn ?_
  intro w1 hd1 m1
  generalize hx : partition (ltc c) d a b p = pr at hd1
  obtain ⟨mid, ap, d1⟩ := pr
  obtain ⟨r1, r2, r3, r4, r5, r6, r7⟩ := Sort.round_part hS (Sort.partition_holds _) hap hpb (by rw [hd.size]; exact hb) hB hx
  have hI1 := C.inv _ _ hI m1
  simp only [] at hd1
  have ea : IntKind.i64.wrap ((mid : Int) - (a : Int)) = ((mid - a : Nat) : Int) := by rw [w64 (by omega) (by omega)]; omega
  have eb : IntKind.i64.wrap ((b : Int) - (mid : Int)) = ((b - mid : Nat) : Int) := by rw [w64 (by omega) (by omega)]; omega
  have ec : IntKind.i64.wrap ((mid : Int) + 1) = ((mid + 1 : Nat) : Int) := by rw [w64 (by omega) (by omega)]; omega
  try simp only [go_sem, t0, t1, t2, t3, t4, t10, t11, t12, t13, ea, eb]
  repeat (refine ⟨by omega, ?_⟩)
  refine ⟨fun hlt => ?_, fun hge => ?_⟩
  · try simp only [go_sem, t0, t1, t2, t3, t4, ea, eb, ec]
    refine REC a mid (by omega) _ d1 lim _ _ hd1 hI1 r1 (by omega) r4 ?_
    intro w2 d2 hd2 hp2 hs2 m2
    obtain ⟨r8, r9⟩ := r6 d2 hp2 hs2
    try simp only [go_sem, t0, t1, t2, t3, t4, ec]
    refine k (mid + 1) b d2 _ w2 (by omega) ⟨by omega, by omega, by omega, r8, r9⟩ ⟨t0, rfl, t2, ⟨lim, t3⟩, t4, ⟨_, rfl⟩, ⟨_, rfl⟩⟩ hd2 (m1.trans' m2)
  · try simp only [go_sem, t0, t1, t2, t3, t4, ea, eb, ec]
    refine REC (mid + 1) b (by omega) _ d1 lim _ _ hd1 hI1 (by omega) hb r5 ?_
    intro w2 d2 hd2 hp2 hs2 m2
    obtain ⟨r8, r9⟩ := r7 d2 hp2 hs2
    try simp only [go_sem, t0, t1, t2, t3, t4, ec]
    refine k a mid d2 _ w2 (by omega) ⟨by omega, by omega, by omega, r8, r9⟩ ⟨t0, t1, rfl, ⟨lim, t3⟩, t4, ⟨_, rfl⟩, ⟨_, rfl⟩⟩ hd2 (m1.trans' m2)

theorem ir6_ {a b p : Nat} {τ : Env} {Q : HX → Env → World → Prop} (hS : SWO (ltc c)) (hd : Dt (fun x => [v x]) 3 1 w g n cap d) (h1 : ∀ x, (v x).oneCell' = true) (C : Cmp Try.prog f v c g B0 I) (hI : I w) (hb : b ≤ n) (hn : n < 4611686018427387904) (hap : a ≤ p) (hpb : p < b) (hB : Below (ltc c) a b d)
    (REC : ∀ a' b', b' - a' < b - a → IPQ v f c I g n cap a' b')
    (t : ISl4 f g n cap a b τ) (t12 : τ 12 = .int .i64 (b - a : Nat)) (t13 : τ 13 = .int .i64 p)
    (k1 : ∀ a' b' d' σ w', b' - a' < b - a → IRest c a b d a' b' d' → ISl4 f g n cap a' b' σ → Dt (fun x => [v x]) 3 1 w' g n cap d' → Mod (fun k => k = g) w w' → Q (.exit 1) σ w')
    (k : ∀ a' b' d' σ w', b' - a' < b - a → IRest c a b d a' b' d' → ISl4 f g n cap a' b' σ → Dt (fun x => [v x]) 3 1 w' g n cap d' → Mod (fun k => k = g) w w' → Q .normal σ w') : hw Try.prog noPanic h53_6 Q τ w := by
  have t' := t
  obtain ⟨t0, t1, t2, ⟨lim, t3⟩, t4, ⟨wb, t10⟩, ⟨wp, t11⟩⟩ := t
  unfold h53_6
  by_cases ha : 0 < a
  · have eg : decide ((0 : Int) < (a : Int)) = true := by simpa using ha
    have ea : IntKind.i64.wrap ((a : Int) - 1) = ((a - 1 : Nat) : Int) := by rw [w64 (by omega) (by omega)]; omega
    have x1 := Dt.ld1 hd (show a - 1 < n by omega); have x2 := Nat.zero_add 0
    have y1 := Dt.ld1 hd (show p < n by omega); have y2 := Nat.zero_add 0
    try simp only [go_sem, t0, t1, t2, t3, t4, t13, eg, ea, x1, x2, y1, y2]
    repeat refine ⟨⟨by omega, by omega⟩, ?_⟩
    refine icmp_ hd C hI ?_
    intro w1 hd1 m1
    have hI1 := C.inv _ _ hI m1
    try simp only [go_sem]
    refine ⟨fun hc => ?_, fun hc => ?_⟩
    · have hc : ltc c d[a - 1]! d[p]! = false := by simpa [ltc] using hc
      try simp only [go_sem, t0, t1, t2, t3, t4, t13]
      refine iparteq_ hd1 h1 C hI1 hap hpb hb hn ?_
      intro w2 hd2 m2
      generalize hx : partitionEqual (ltc c) d a b p = pr at hd2
      obtain ⟨mid, d2⟩ := pr
      obtain ⟨r1, r2, r3, r4, r5⟩ := Sort.round_eq hS (Sort.partitionEqual_holds _) ha hap hpb (by rw [hd.size]; exact hb) hB hc hx
      simp only [] at hd2
      try simp only [go_sem, t0, t1, t2, t3, t4, t13]
      exact k1 mid b d2 _ w2 (by omega) ⟨by omega, r2, by omega, r4, r5⟩ ⟨t0, rfl, t2, ⟨lim, t3⟩, t4, ⟨wb, t10⟩, ⟨wp, t11⟩⟩ hd2 (m1.trans' m2)
    · try simp only [go_sem]
      refine ir7_ (a := a) (b := b) (p := p) hS hd1 h1 C hI1 hb hn hap hpb hB REC ⟨t0, t1, t2, ⟨lim, t3⟩, t4, ⟨wb, t10⟩, ⟨wp, t11⟩⟩ t12 t13 ?_
      intro a' b' d' σ w' h1 h2 h3 h4 h5
      exact k a' b' d' σ w' h1 h2 h3 h4 (m1.trans' h5)
  · have eg : decide ((0 : Int) < (a : Int)) = false := by simp; omega
    try simp only [go_sem, t0, t1, t2, t3, t4, t13, eg]
    have m1 := Mod.drew (fun k => k = g) w
    refine ir7_ (a := a) (b := b) (p := p) hS (hd.mod (Mod.drew none' _) (fun h => h)) h1 C (C.inv _ _ hI m1) hb hn hap hpb hB REC ⟨t0, t1, t2, ⟨lim, t3⟩, t4, ⟨wb, t10⟩, ⟨wp, t11⟩⟩ t12 t13 ?_
    intro a' b' d' σ w' h1 h2 h3 h4 h5
    exact k a' b' d' σ w' h1 h2 h3 h4 (m1.trans' h5)
end
end Go.Proofs.Y

/- TVI: thread: Go's sort of slices, walked: the parts. -/
namespace Go.Proofs.Y
open Go Go.HL Go.Proofs
open Go.Sort (swp insInner insOuter insertionSort siftDown heapBuild heapPop heapSort scanUp scanDown partLoop partition partEqLoop partitionEqual scanSorted shiftDown shiftUp partialIns partialInsertionSort reverseLoop reverseRange PermIn SortedIn Below SWO size_swp)

section
variable {α : Type} [Inhabited α] {w : World} {v : α → Value} {c : α → α → Int} {f : Value} {I : World → Prop} {g n cap B0 : Nat} {d : Array α} {next : Value → World → Prop} {QP : List PanicEntry → World → Prop}
theorem irestt_ {a b a' b' : Nat} {d d1 d' : Array α} (hp : PermIn a b d d1) (h : IRest c a b d1 a' b' d') : IRest c a b d a' b' d' :=
  ⟨h.1, h.2.1, h.2.2.1, h.2.2.2.1, fun R h1 h2 => ⟨Sort.permIn_trans _ _ _ a b hp (h.2.2.2.2 R h1 h2).1, (h.2.2.2.2 R h1 h2).2⟩⟩

theorem ir5_ {a b p : Nat} {hint : Int} {τ : Env} {Q : HX → Env → World → Prop} (hS : SWO (ltc c)) (hd : Dt (fun x => [v x]) 3 1 w g n cap d) (h1 : ∀ x, (v x).oneCell' = true) (C : Cmp Try.prog f v c g B0 I) (hI : I w) (hb : b ≤ n) (hn : n < 4611686018427387904) (hap : a ≤ p) (hpb : p < b) (hB : Below (ltc c) a b d)
    (REC : ∀ a' b', b' - a' < b - a → IPQ v f c I g n cap a' b')
    (t : ISl4 f g n cap a b τ) (t12 : τ 12 = .int .i64 (b - a : Nat)) (t13 : τ 13 = .int .i64 p) (t14 : τ 14 = .int .i64 hint)
    (k0 : ∀ d' σ w', PermIn a b d d' → SortedIn (ltc c) a b d' → Dt (fun x => [v x]) 3 1 w' g n cap d' → Mod (fun k => k = g) w w' → Q .ret σ w')
    (k1 : ∀ a' b' d' σ w', b' - a' < b - a → IRest c a b d a' b' d' → ISl4 f g n cap a' b' σ → Dt (fun x => [v x]) 3 1 w' g n cap d' → Mod (fun k => k = g) w w' → Q (.exit 1) σ w')
    (k : ∀ a' b' d' σ w', b' - a' < b - a → IRest c a b d a' b' d' → ISl4 f g n cap a' b' σ → Dt (fun x => [v x]) 3 1 w' g n cap d' → Mod (fun k => k = g) w w' → Q .normal σ w') : hw Try.prog noPanic h53_5 Q τ w := by
  obtain ⟨t0, t1, t2, ⟨lim, t3⟩, t4, ⟨wb, t10⟩, ⟨wp, t11⟩⟩ := t
  unfold h53_5
  try simp only [go_sem, t0, t1, t2, t3, t4, t10, t11, t14]
  -- whichever way the test goes
  have hno : ∀ σ, σ 0 = τ 0 → σ 1 = τ 1 → σ 2 = τ 2 → σ 3 = τ 3 → σ 4 = τ 4 → σ 10 = τ 10 → σ 11 = τ 11 → σ 12 = τ 12 → σ 13 = τ 13 → hw Try.prog noPanic h53_6 Q σ w := by
    intro σ s0 s1 s2 s3 s4 s10 s11 s12 s13
    exact ir6_ (a := a) (b := b) (p := p) hS hd h1 C hI hb hn hap hpb hB REC ⟨s0.trans t0, s1.trans t1, s2.trans t2, ⟨lim, s3.trans t3⟩, s4.trans t4, ⟨wb, s10.trans t10⟩, ⟨wp, s11.trans t11⟩⟩ (s12.trans t12) (s13.trans t13) k1 k
  have hyes : ∀ σ, σ 0 = τ 0 → σ 1 = τ 1 → σ 2 = τ 2 → σ 3 = τ 3 → σ 4 = τ 4 → σ 10 = τ 10 → σ 11 = τ 11 → σ 12 = τ 12 → σ 13 = τ 13 →
      callvK Try.prog (.func (.func 76) #[] #[]) [.slice (some ⟨g, 0, none⟩) n cap, .int .i64 a, .int .i64 b, f] w (fun v w' => hcond v (Q .ret (upd σ 80 v) w') (hw Try.prog noPanic h53_6 Q (upd σ 80 v) w')) noPanic := by
    intro σ s0 s1 s2 s3 s4 s10 s11 s12 s13
    refine ipins_ hd h1 C hI (by omega) hb hn ?_
    intro w1 hd1 m1
    obtain ⟨p1, p2⟩ := Sort.partialInsertionSort_holds hS d a b (by omega) (by rw [hd.size]; exact hb) hB
    refine ⟨_, rfl, fun h => ?_, fun h => ?_⟩
    · exact k0 _ _ w1 p1 (p2 h) hd1 m1
    · refine ir6_ (a := a) (b := b) (p := p) hS hd1 h1 C (C.inv _ _ hI m1) hb hn hap hpb (hB.perm (by rw [hd.size]; exact hb) p1) REC ⟨s0.trans t0, s1.trans t1, s2.trans t2, ⟨lim, s3.trans t3⟩, s4.trans t4, ⟨wb, s10.trans t10⟩, ⟨wp, s11.trans t11⟩⟩ (s12.trans t12) (s13.trans t13) ?_ ?_
      · intro a' b' d' σ w' h1 h2 h3 h4 h5
        exact k1 a' b' d' σ w' h1 (irestt_ p1 h2) h3 h4 (m1.trans' h5)
      · intro a' b' d' σ w' h1 h2 h3 h4 h5
        exact k a' b' d' σ w' h1 (irestt_ p1 h2) h3 h4 (m1.trans' h5)
  exact ⟨fun _ => hyes _ rfl rfl rfl rfl rfl rfl rfl rfl rfl, fun _ => hno _ rfl rfl rfl rfl rfl rfl rfl rfl rfl⟩

theorem ir4_ {a b : Nat} {τ : Env} {Q : HX → Env → World → Prop} (hS : SWO (ltc c)) (hd : Dt (fun x => [v x]) 3 1 w g n cap d) (h1 : ∀ x, (v x).oneCell' = true) (C : Cmp Try.prog f v c g B0 I) (hI : I w) (hb : b ≤ n) (hn : n < 4611686018427387904) (hab : a + 12 < b) (hB : Below (ltc c) a b d)
    (REC : ∀ a' b', b' - a' < b - a → IPQ v f c I g n cap a' b')
    (t : ISl4 f g n cap a b τ) (t12 : τ 12 = .int .i64 (b - a : Nat))
    (k0 : ∀ d' σ w', PermIn a b d d' → SortedIn (ltc c) a b d' → Dt (fun x => [v x]) 3 1 w' g n cap d' → Mod (fun k => k = g) w w' → Q .ret σ w')
    (k1 : ∀ a' b' d' σ w', b' - a' < b - a → IRest c a b d a' b' d' → ISl4 f g n cap a' b' σ → Dt (fun x => [v x]) 3 1 w' g n cap d' → Mod (fun k => k = g) w w' → Q (.exit 1) σ w')
    (k : ∀ a' b' d' σ w', b' - a' < b - a → IRest c a b d a' b' d' → ISl4 f g n cap a' b' σ → Dt (fun x => [v x]) 3 1 w' g n cap d' → Mod (fun k => k = g) w w' → Q .normal σ w') : hw Try.prog noPanic h53_4 Q τ w := by
  obtain ⟨t0, t1, t2, ⟨lim, t3⟩, t4, ⟨wb, t10⟩, ⟨wp, t11⟩⟩ := t
  unfold h53_4
  try simp only [go_sem, t0, t1, t2, t3, t4]
  refine icho_ hd h1 C hI hab hb hn ?_
  intro p hint w1 hap hpb hd1 hI1 m1
  have m1' := m1.up (S := fun k => k = g)
  have ea : IntKind.i64.wrap ((b : Int) - 1) = ((b - 1 : Nat) : Int) := by rw [w64 (by omega) (by omega)]; omega
  have eb : IntKind.i64.wrap ((p : Int) - (a : Int)) = ((p - a : Nat) : Int) := by rw [w64 (by omega) (by omega)]; omega
  have ec : IntKind.i64.wrap (((b - 1 : Nat) : Int) - ((p - a : Nat) : Int)) = ((b - 1 - (p - a) : Nat) : Int) := by rw [w64 (by omega) (by omega)]; omega
  try simp only [go_sem, t0, t1, t2, t3, t4]
  refine ⟨fun _ => ?_, fun _ => ?_⟩
  · try simp only [go_sem, t0, t1, t2, t3, t4]
    refine irev_ hd1 h1 hb (by omega) hn ?_
    intro w2 hd2 m2
    have hp := Sort.reverseRange_holds d a b (by omega) (by rw [hd.size]; exact hb)
    have m2' := m1'.trans' m2
    try simp only [go_sem, t0, t1, t2, t3, t4, ea, eb, ec]
    refine ir5_ (a := a) (b := b) (p := b - 1 - (p - a)) (hint := 1) hS hd2 h1 C (C.inv _ _ hI m2') hb hn (by omega) (by omega) (hB.perm (by rw [hd.size]; exact hb) hp) REC ⟨t0, t1, t2, ⟨lim, t3⟩, t4, ⟨wb, t10⟩, ⟨wp, t11⟩⟩ t12 rfl rfl ?_ ?_ ?_
    · intro d' σ w' h1 h2 h3 h4
      exact k0 d' σ w' (Sort.permIn_trans _ _ _ a b hp h1) h2 h3 (m2'.trans' h4)
    · intro a' b' d' σ w' h1 h2 h3 h4 h5
      exact k1 a' b' d' σ w' h1 (irestt_ hp h2) h3 h4 (m2'.trans' h5)
    · intro a' b' d' σ w' h1 h2 h3 h4 h5
      exact k a' b' d' σ w' h1 (irestt_ hp h2) h3 h4 (m2'.trans' h5)
  · try simp only [go_sem]
    refine ir5_ (a := a) (b := b) (p := p) (hint := hint) hS hd1 h1 C hI1 hb hn hap hpb hB REC ⟨t0, t1, t2, ⟨lim, t3⟩, t4, ⟨wb, t10⟩, ⟨wp, t11⟩⟩ t12 rfl rfl ?_ ?_ ?_
    · intro d' σ w' h1 h2 h3 h4
      exact k0 d' σ w' h1 h2 h3 (m1'.trans' h4)
    · intro a' b' d' σ w' h1 h2 h3 h4 h5
      exact k1 a' b' d' σ w' h1 h2 h3 h4 (m1'.trans' h5)
    · intro a' b' d' σ w' h1 h2 h3 h4 h5
      exact k a' b' d' σ w' h1 h2 h3 h4 (m1'.trans' h5)

theorem ipdq_ (h1 : ∀ x, (v x).oneCell' = true) (hS : SWO (ltc c)) (C : Cmp Try.prog f v c g B0 I) (hn : n < 4611686018427387904) : ∀ (m a b : Nat), b - a ≤ m → IPQ v f c I g n cap a b := by
  intro m
  induction m using Nat.strongRecOn with
  | ind m ih =>
  intro a b hm w d lim next QP hd hI hab hb hB k
  refine r53 rfl ?_
  unfold h53
  try simp only [go_sem]
  refine loop_ (fun τ w' => ∃ a' b' d', IRest c a b d a' b' d' ∧ ISl4 f g n cap a' b' τ ∧ Dt (fun x => [v x]) 3 1 w' g n cap d' ∧ Mod (fun k => k = g) w w') (fun τ w' => match τ 1, τ 2 with | .int _ x, .int _ y => (y - x).toNat | _, _ => 0) ⟨a, b, d, ⟨by omega, hab, by omega, hB, fun R h1 h2 => ⟨h1, h2⟩⟩, ⟨rfl, rfl, rfl, ⟨lim, rfl⟩, rfl, ⟨true, rfl⟩, ⟨true, rfl⟩⟩, hd, Mod.refl _ _⟩ ?_
  rintro τ w1 ⟨a', b', d1, hR, t, hd1, m1⟩
  have hR' := hR
  obtain ⟨q1, q2, q3, q4, q5⟩ := hR
  have t' := t
  obtain ⟨t0, t1, t2, ⟨lim', t3⟩, t4, ⟨wb, t10⟩, ⟨wp, t11⟩⟩ := t
  have hI1 := C.inv _ _ hI m1
  have ea : IntKind.i64.wrap ((b' : Int) - (a' : Int)) = ((b' - a' : Nat) : Int) := by
    have := hd1.len
    rw [w64 (by omega) (by omega)]; omega
  have hmu : ((match τ 1, τ 2 with | .int _ x, .int _ y => (y - x).toNat | _, _ => 0) : Nat) = b' - a' := by
    rw [t1, t2]; simp only; omega
  rw [hmu]
  have fin : ∀ (d2 : Array α) (w2 : World), PermIn a' b' d1 d2 → SortedIn (ltc c) a' b' d2 → Dt (fun x => [v x]) 3 1 w2 g n cap d2 → Mod (fun k => k = g) w1 w2 → next (.tuple #[]) w2 := fun d2 w2 h1 h2 h3 h4 =>
    k w2 d2 h3 (q5 d2 h1 h2).1 (q5 d2 h1 h2).2 (m1.trans' h4)
  unfold h53_1
  try simp only [go_sem, t0, t1, t2, t3, t4, ea]
  refine ⟨fun hle => ?_, fun hgt => ?_⟩
  · try simp only [go_sem, t0, t1, t2, t3, t4]
    refine iins_ hd1 h1 C hI1 (by omega) q2 hn ?_
    intro w2 hd2 m2
    obtain ⟨p1, p2⟩ := Sort.insertionSort_holds hS d1 a' b' q2 (by rw [hd1.size]; omega)
    try simp only [go_sem]
    exact fin _ _ p1 p2 hd2 m2
  · have hgt := of_decide_eq_false hgt
    have hlen : a' + 12 < b' := by omega
    have hb' : b' ≤ n := by omega
    unfold h53_2
    try simp only [go_sem, t0, t1, t2, t3, t4]
    refine ⟨fun hz => ?_, fun hz => ?_⟩
    · try simp only [go_sem, t0, t1, t2, t3, t4]
      refine iheap_ hd1 h1 C hI1 hb' (by omega) hn ?_
      intro w2 hd2 m2
      obtain ⟨p1, p2⟩ := Sort.heapSort_holds hS d1 a' b' q2 (by rw [hd1.size]; omega)
      try simp only [go_sem]
      exact fin _ _ p1 p2 hd2 m2
    · have REC : ∀ a2 b2, b2 - a2 < b' - a' → IPQ v f c I g n cap a2 b2 := fun a2 b2 h => ih (b2 - a2) (by omega) a2 b2 (Nat.le_refl _)
      -- what a round leaves, for the loop's next one
      have go : ∀ (d2 : Array α) (w2 : World), PermIn a' b' d1 d2 → Mod (fun k => k = g) w1 w2 → ∀ a2 b2 d3 (σ : Env) (w3 : World), b2 - a2 < b' - a' → IRest c a' b' d2 a2 b2 d3 → ISl4 f g n cap a2 b2 σ → Dt (fun x => [v x]) 3 1 w3 g n cap d3 → Mod (fun k => k = g) w2 w3 →
          (∃ a'' b'' d'', IRest c a b d a'' b'' d'' ∧ ISl4 f g n cap a'' b'' σ ∧ Dt (fun x => [v x]) 3 1 w3 g n cap d'' ∧ Mod (fun k => k = g) w w3) ∧ ((match σ 1, σ 2 with | .int _ x, .int _ y => (y - x).toNat | _, _ => 0) : Nat) < b' - a' := by
        intro d2 w2 hp m2 a2 b2 d3 σ w3 h1 h2 h3 h4 h5
        obtain ⟨x1, x2, x3, x4, x5⟩ := h2
        refine ⟨⟨a2, b2, d3, ⟨by omega, x2, by omega, x4, fun R h6 h7 => ?_⟩, h3, h4, (m1.trans' m2).trans' h5⟩, ?_⟩
        · obtain ⟨y1, y2⟩ := x5 R h6 h7
          exact q5 R (Sort.permIn_trans _ _ _ a' b' hp y1) y2
        · rw [h3.s1, h3.s2]; simp only; omega
      unfold h53_3
      try simp only [go_sem, t0, t1, t2, t3, t4, t10]
      refine ⟨fun hwb => ?_, fun hwb => ?_⟩
      · try simp only [go_sem, t0, t1, t2, t3, t4]
        refine ibrk_ hd1 h1 C hI1 hlen hb' hn ?_
        intro d2 w2 p2 hd2 m2
        try simp only [go_sem, t0, t1, t2, t3, t4]
        refine ir4_ (a := a') (b := b') hS hd2 h1 C (C.inv _ _ hI1 m2) hb' hn hlen (q4.perm (by rw [hd1.size]; omega) p2) REC ⟨t0, t1, t2, ⟨_, rfl⟩, t4, ⟨wb, t10⟩, ⟨wp, t11⟩⟩ rfl ?_ ?_ ?_
        · intro d' σ w' h1 h2 h3 h4
          try simp only [go_sem]
          exact fin d' w' (Sort.permIn_trans _ _ _ a' b' p2 h1) h2 h3 (m2.trans' h4)
        · intro a2 b2 d3 σ w3 h1 h2 h3 h4 h5
          try simp only [go_sem]
          exact go d2 w2 p2 m2 a2 b2 d3 σ w3 h1 h2 h3 h4 h5
        · intro a2 b2 d3 σ w3 h1 h2 h3 h4 h5
          try simp only [go_sem]
          exact go d2 w2 p2 m2 a2 b2 d3 σ w3 h1 h2 h3 h4 h5
      · try simp only [go_sem]
        refine ir4_ (a := a') (b := b') hS hd1 h1 C hI1 hb' hn hlen q4 REC ⟨t0, t1, t2, ⟨_, t3⟩, t4, ⟨wb, t10⟩, ⟨wp, t11⟩⟩ rfl ?_ ?_ ?_
        · intro d' σ w' h1 h2 h3 h4
          try simp only [go_sem]
          exact fin d' w' h1 h2 h3 h4
        · intro a2 b2 d3 σ w3 h1 h2 h3 h4 h5
          try simp only [go_sem]
          exact go d1 w1 (Sort.permIn_refl _ _ _) (Mod.refl _ _) a2 b2 d3 σ w3 h1 h2 h3 h4 h5
        · intro a2 b2 d3 σ w3 h1 h2 h3 h4 h5
          try simp only [go_sem]
          exact go d1 w1 (Sort.permIn_refl _ _ _) (Mod.refl _ _) a2 b2 d3 σ w3 h1 h2 h3 h4 h5

theorem ibang_ (d : Array α) (i : Nat) (h : i < d.toList.length) : d[i]! = d.toList[i] := by
  have h' : i < d.size := by simpa using h
  simp [h']
/-- slices.SortFunc -/
theorem isort_ (hd : Dt (fun x => [v x]) 3 1 w g n cap d) (h1 : ∀ x, (v x).oneCell' = true) (hS : SWO (ltc c)) (C : Cmp Try.prog f v c g B0 I) (hI : I w) (hn : n < 4611686018427387904)
    (k : ∀ w' d', Dt (fun x => [v x]) 3 1 w' g n cap d' → d'.toList.Perm d.toList → d'.toList.Pairwise (fun x y => ltc c y x = false) → Mod (fun k => k = g) w w' → next (.tuple #[]) w') :
    callvK Try.prog (.func (.func 38) #[] #[]) [.slice (some ⟨g, 0, none⟩) n cap, f] w next QP := by
  refine r38 rfl ?_
  unfold h38
  try simp only [go_sem]
  rw [wrap_u64]
  have e : (n : Int) % 18446744073709551616 = n := by omega
  rw [e]
  refine len_ n (by omega) fun l l1 l2 l3 => ?_
  try simp only [go_sem]
  refine ipdq_ h1 hS C hn n 0 n (by omega) w d l _ _ hd hI (by omega) (Nat.le_refl _) (.inl rfl) ?_
  intro w1 d1 hd1 p1 s1 m1
  try simp only [go_sem]
  refine k w1 d1 hd1 ?_ ?_ m1
  · have := p1.2.2
    have e0 : d.extract 0 n = d := by rw [← hd.size]; exact Array.extract_size ..
    have e1 : d1.extract 0 n = d1 := by rw [← hd1.size]; exact Array.extract_size ..
    rw [e0, e1] at this
    exact this
  · rw [List.pairwise_iff_getElem]
    intro i j hi hj hij
    have := s1 i j (by omega) hij (by simp at hj; rw [hd1.size] at hj; exact hj)
    rw [ibang_ d1 i hi, ibang_ d1 j hj] at this
    exact this
/-- .. of nothing -/
theorem isort0_ {va : Option Addr} {vc : Nat} {f : Value} (k : next (.tuple #[]) w) : callvK Try.prog (.func (.func 38) #[] #[]) [.slice va 0 vc, f] w next QP := by
  refine r38 rfl ?_
  unfold h38
  try simp only [go_sem]
  refine len_ 0 (by omega) fun l l1 l2 l3 => ?_
  try simp only [go_sem]
  refine r53 rfl ?_
  unfold h53
  try simp only [go_sem]
  refine loop_ (fun τ w' => τ 0 = .slice va 0 vc ∧ τ 1 = .int .i64 0 ∧ τ 2 = .int .i64 0 ∧ τ 4 = f ∧ w' = w) (fun _ _ => 0) ⟨rfl, rfl, rfl, rfl, rfl⟩ ?_
  rintro τ w1 ⟨t0, t1, t2, t4, rfl⟩
  unfold h53_1
  have e : IntKind.i64.wrap ((0 : Int) - 0) = 0 := rfl
  have e2 : decide ((0 : Int) ≤ 12) = true := rfl
  try simp only [go_sem, t0, t1, t2, t4, e, e2]
  refine r71 rfl ?_
  unfold h71
  try simp only [go_sem]
  refine loop_ (fun τ w' => τ 8 = .int .i64 1 ∧ τ 2 = .int .i64 0 ∧ w' = w1) (fun _ _ => 0) ⟨rfl, rfl, rfl⟩ ?_
  rintro τ w2 ⟨t8, t2, rfl⟩
  unfold h71_1
  have e3 : decide ((1 : Int) < 0) = false := rfl
  try simp only [go_sem, t8, t2, e3]
  exact k
end
end Go.Proofs.Y

/- TG: thread: study's beginning: four effects in whatever order. -/
namespace Go.Proofs.Y
open Go Go.HL Go.Proofs

section
variable {w w' : World} {its : List It} {next : Value → World → Prop} {QP : List PanicEntry → World → Prop}
theorem mk_ {t : TypeId} (k : ∀ b w', w.heap.size = b → Mp w' b [] → Mod none' w w' → w'.heap.size = b + 1 → next (.map (some b)) w') : mkmapK Try.prog t none w next QP := mkmap_ k
theorem mki_ {n : Nat} (hn : n ≤ 1000000) (k : ∀ b w', w.heap.size = b → Blk w' b 3 (List.replicate n (.int .i64 0)) → Mod none' w w' → w'.heap.size = b + 1 → next (.slice (some ⟨b, 0, none⟩) n n) w') : mslK Try.prog 60 (.int .i64 n) (.int .i64 n) w next QP :=
  msl1 sl60 rfl n rfl (by omega) (by unfold maxLen; omega) fun b w' h1 _ h2 h3 h4 => k b w' h1 h2 h3 h4
theorem mkb_ {n : Nat} (hn : n ≤ 1000000) (k : ∀ b w', w.heap.size = b → Blk w' b 4 (List.replicate n (.bool false)) → Mod none' w w' → w'.heap.size = b + 1 → next (.slice (some ⟨b, 0, none⟩) n n) w') : mslK Try.prog 61 (.int .i64 n) (.int .i64 n) w next QP :=
  msl1 sl61 rfl n rfl (by omega) (by unfold maxLen; omega) fun b w' h1 _ h2 h3 h4 => k b w' h1 h2 h3 h4

theorem tree27_ {va : Option Addr} {vc b0 : Nat} {σ : Env} {KW : Env → World → Prop} {w1 : World} (hn : its.length ≤ 1000000) (bk0 : Blk w1 b0 22 [.slice va its.length vc])
    (t1 : σ 1 = ptr b0) (t16 : σ 16 = .slice va its.length vc) (t19 : σ 19 = .int .i64 its.length) (t22 : σ 22 = .int .i64 its.length)
    (KK : ∀ (σ : Env) w' ib nb bb hb fb, σ 1 = ptr b0 → σ 3 = ptr fb → Mod none' w1 w' → Blk w' b0 22 [.slice va its.length vc] →
      Blk w' fb 64 [.slice va its.length vc, .map (some ib), .slice (some ⟨nb, 0, none⟩) its.length its.length, .slice (some ⟨bb, 0, none⟩) its.length its.length, .map (some hb)] →
      Mp w' ib [] → Blk w' nb 3 (List.replicate its.length (.int .i64 0)) → Blk w' bb 4 (List.replicate its.length (.bool false)) → Mp w' hb [] → [fb, ib, nb, bb, hb].Nodup → (∀ k ∈ [fb, ib, nb, bb, hb], w1.heap.size ≤ k) → KW σ w') :
    hsT Try.prog noPanic KW t27_1 σ w1.drew ∧ hsT Try.prog noPanic KW t27_12 σ w1.drew := by
  have M := Mod.drew none' w1
  have hd0 : w1.drew.heap.size = w1.heap.size := rfl
  have bk0 := bk0.mod M fun h => h
  have c0 := bk0.cell 0
  simp only [List.getElem?_cons_zero] at c0
  refine ⟨?_, ?_⟩
  · skip
    unfold t27_1
    try simp only [go_sem, t1, t16, t19, t22, c0]
    refine mk_ ?_
    intro bi wi ei fi mi si
    have M := M.trans' mi
    have bk0 := bk0.mod mi fun h => h
    have ci := bk0.cell 0
    simp only [List.getElem?_cons_zero] at ci
    try simp only [go_sem, t1, t16, t19, t22, ci]
    refine ⟨?_, ?_⟩
    · skip
      unfold t27_2
      try simp only [go_sem, t1, t16, t19, t22, ci]
      refine mki_ hn ?_
      intro bn wn en fn mn sn
      have M := M.trans' mn
      have fi := fi.mod mn fun h => h
      have bk0 := bk0.mod mn fun h => h
      have cn := bk0.cell 0
      simp only [List.getElem?_cons_zero] at cn
      try simp only [go_sem, t1, t16, t19, t22, cn]
      refine ⟨?_, ?_⟩
      · skip
        unfold t27_3
        try simp only [go_sem, t1, t16, t19, t22, cn]
        refine mkb_ hn ?_
        intro bb wb eb fb' mb sb
        have M := M.trans' mb
        have fi := fi.mod mb fun h => h
        have fn := fn.mod mb fun h => h
        have bk0 := bk0.mod mb fun h => h
        have cb := bk0.cell 0
        simp only [List.getElem?_cons_zero] at cb
        try simp only [go_sem, t1, t16, t19, t22, cb]
        refine mk_ ?_
        intro bh wh eh fh mh sh
        have M := M.trans' mh
        have fi := fi.mod mh fun h => h
        have fn := fn.mod mh fun h => h
        have fb' := fb'.mod mh fun h => h
        have bk0 := bk0.mod mh fun h => h
        have ch := bk0.cell 0
        simp only [List.getElem?_cons_zero] at ch
        try simp only [go_sem, t1, t16, t19, t22, ch]
        refine ⟨by simp, by simp, by simp, by simp, by simp, ?_⟩; refine box_ (cs := [.slice va its.length vc, .map (some bi), .slice (some ⟨bn, 0, none⟩) its.length its.length, .slice (some ⟨bb, 0, none⟩) its.length its.length, .map (some bh)]) rfl ?_
        intro fb w6 e6 f6 m6 s6
        try simp only [go_sem]
        exact KK _ w6 bi bn bb bh fb t1 rfl (M.trans' m6) (bk0.mod m6 fun h => h) f6 (fi.mod m6 fun h => h) (fn.mod m6 fun h => h) (fb'.mod m6 fun h => h) (fh.mod m6 fun h => h) (by simp only [List.nodup_cons, List.mem_cons, List.not_mem_nil, or_false, not_or, List.nodup_nil, not_false_eq_true, and_true]; omega) (by simp only [List.mem_cons, List.not_mem_nil, or_false]; intro k hk; omega)
      · skip
        unfold t27_4
        try simp only [go_sem, t1, t16, t19, t22, cn]
        refine mk_ ?_
        intro bh wh eh fh mh sh
        have M := M.trans' mh
        have fi := fi.mod mh fun h => h
        have fn := fn.mod mh fun h => h
        have bk0 := bk0.mod mh fun h => h
        have ch := bk0.cell 0
        simp only [List.getElem?_cons_zero] at ch
        try simp only [go_sem, t1, t16, t19, t22, ch]
        refine mkb_ hn ?_
        intro bb wb eb fb' mb sb
        have M := M.trans' mb
        have fi := fi.mod mb fun h => h
        have fn := fn.mod mb fun h => h
        have fh := fh.mod mb fun h => h
        have bk0 := bk0.mod mb fun h => h
        have cb := bk0.cell 0
        simp only [List.getElem?_cons_zero] at cb
        try simp only [go_sem, t1, t16, t19, t22, cb]
        refine ⟨by simp, by simp, by simp, by simp, by simp, ?_⟩; refine box_ (cs := [.slice va its.length vc, .map (some bi), .slice (some ⟨bn, 0, none⟩) its.length its.length, .slice (some ⟨bb, 0, none⟩) its.length its.length, .map (some bh)]) rfl ?_
        intro fb w6 e6 f6 m6 s6
        try simp only [go_sem]
        exact KK _ w6 bi bn bb bh fb t1 rfl (M.trans' m6) (bk0.mod m6 fun h => h) f6 (fi.mod m6 fun h => h) (fn.mod m6 fun h => h) (fb'.mod m6 fun h => h) (fh.mod m6 fun h => h) (by simp only [List.nodup_cons, List.mem_cons, List.not_mem_nil, or_false, not_or, List.nodup_nil, not_false_eq_true, and_true]; omega) (by simp only [List.mem_cons, List.not_mem_nil, or_false]; intro k hk; omega)
    · skip
      unfold t27_5
      try simp only [go_sem, t1, t16, t19, t22, ci]
      refine ⟨?_, ?_⟩
      · skip
        unfold t27_6
        try simp only [go_sem, t1, t16, t19, t22, ci]
        refine mkb_ hn ?_
        intro bb wb eb fb' mb sb
        have M := M.trans' mb
        have fi := fi.mod mb fun h => h
        have bk0 := bk0.mod mb fun h => h
        have cb := bk0.cell 0
        simp only [List.getElem?_cons_zero] at cb
        try simp only [go_sem, t1, t16, t19, t22, cb]
        refine ⟨?_, ?_⟩
        · skip
          unfold t27_7
          try simp only [go_sem, t1, t16, t19, t22, cb]
          refine mki_ hn ?_
          intro bn wn en fn mn sn
          have M := M.trans' mn
          have fi := fi.mod mn fun h => h
          have fb' := fb'.mod mn fun h => h
          have bk0 := bk0.mod mn fun h => h
          have cn := bk0.cell 0
          simp only [List.getElem?_cons_zero] at cn
          try simp only [go_sem, t1, t16, t19, t22, cn]
          refine mk_ ?_
          intro bh wh eh fh mh sh
          have M := M.trans' mh
          have fi := fi.mod mh fun h => h
          have fb' := fb'.mod mh fun h => h
          have fn := fn.mod mh fun h => h
          have bk0 := bk0.mod mh fun h => h
          have ch := bk0.cell 0
          simp only [List.getElem?_cons_zero] at ch
          try simp only [go_sem, t1, t16, t19, t22, ch]
          refine ⟨by simp, by simp, by simp, by simp, by simp, ?_⟩; refine box_ (cs := [.slice va its.length vc, .map (some bi), .slice (some ⟨bn, 0, none⟩) its.length its.length, .slice (some ⟨bb, 0, none⟩) its.length its.length, .map (some bh)]) rfl ?_
          intro fb w6 e6 f6 m6 s6
          try simp only [go_sem]
          exact KK _ w6 bi bn bb bh fb t1 rfl (M.trans' m6) (bk0.mod m6 fun h => h) f6 (fi.mod m6 fun h => h) (fn.mod m6 fun h => h) (fb'.mod m6 fun h => h) (fh.mod m6 fun h => h) (by simp only [List.nodup_cons, List.mem_cons, List.not_mem_nil, or_false, not_or, List.nodup_nil, not_false_eq_true, and_true]; omega) (by simp only [List.mem_cons, List.not_mem_nil, or_false]; intro k hk; omega)
        · skip
          unfold t27_8
          try simp only [go_sem, t1, t16, t19, t22, cb]
          refine mk_ ?_
          intro bh wh eh fh mh sh
          have M := M.trans' mh
          have fi := fi.mod mh fun h => h
          have fb' := fb'.mod mh fun h => h
          have bk0 := bk0.mod mh fun h => h
          have ch := bk0.cell 0
          simp only [List.getElem?_cons_zero] at ch
          try simp only [go_sem, t1, t16, t19, t22, ch]
          refine mki_ hn ?_
          intro bn wn en fn mn sn
          have M := M.trans' mn
          have fi := fi.mod mn fun h => h
          have fb' := fb'.mod mn fun h => h
          have fh := fh.mod mn fun h => h
          have bk0 := bk0.mod mn fun h => h
          have cn := bk0.cell 0
          simp only [List.getElem?_cons_zero] at cn
          try simp only [go_sem, t1, t16, t19, t22, cn]
          refine ⟨by simp, by simp, by simp, by simp, by simp, ?_⟩; refine box_ (cs := [.slice va its.length vc, .map (some bi), .slice (some ⟨bn, 0, none⟩) its.length its.length, .slice (some ⟨bb, 0, none⟩) its.length its.length, .map (some bh)]) rfl ?_
          intro fb w6 e6 f6 m6 s6
          try simp only [go_sem]
          exact KK _ w6 bi bn bb bh fb t1 rfl (M.trans' m6) (bk0.mod m6 fun h => h) f6 (fi.mod m6 fun h => h) (fn.mod m6 fun h => h) (fb'.mod m6 fun h => h) (fh.mod m6 fun h => h) (by simp only [List.nodup_cons, List.mem_cons, List.not_mem_nil, or_false, not_or, List.nodup_nil, not_false_eq_true, and_true]; omega) (by simp only [List.mem_cons, List.not_mem_nil, or_false]; intro k hk; omega)
      · skip
        unfold t27_9
        try simp only [go_sem, t1, t16, t19, t22, ci]
        refine mk_ ?_
        intro bh wh eh fh mh sh
        have M := M.trans' mh
        have fi := fi.mod mh fun h => h
        have bk0 := bk0.mod mh fun h => h
        have ch := bk0.cell 0
        simp only [List.getElem?_cons_zero] at ch
        try simp only [go_sem, t1, t16, t19, t22, ch]
        refine ⟨?_, ?_⟩
        · skip
          unfold t27_10
          try simp only [go_sem, t1, t16, t19, t22, ch]
          refine mki_ hn ?_
          intro bn wn en fn mn sn
          have M := M.trans' mn
          have fi := fi.mod mn fun h => h
          have fh := fh.mod mn fun h => h
          have bk0 := bk0.mod mn fun h => h
          have cn := bk0.cell 0
          simp only [List.getElem?_cons_zero] at cn
          try simp only [go_sem, t1, t16, t19, t22, cn]
          refine mkb_ hn ?_
          intro bb wb eb fb' mb sb
          have M := M.trans' mb
          have fi := fi.mod mb fun h => h
          have fh := fh.mod mb fun h => h
          have fn := fn.mod mb fun h => h
          have bk0 := bk0.mod mb fun h => h
          have cb := bk0.cell 0
          simp only [List.getElem?_cons_zero] at cb
          try simp only [go_sem, t1, t16, t19, t22, cb]
          refine ⟨by simp, by simp, by simp, by simp, by simp, ?_⟩; refine box_ (cs := [.slice va its.length vc, .map (some bi), .slice (some ⟨bn, 0, none⟩) its.length its.length, .slice (some ⟨bb, 0, none⟩) its.length its.length, .map (some bh)]) rfl ?_
          intro fb w6 e6 f6 m6 s6
          try simp only [go_sem]
          exact KK _ w6 bi bn bb bh fb t1 rfl (M.trans' m6) (bk0.mod m6 fun h => h) f6 (fi.mod m6 fun h => h) (fn.mod m6 fun h => h) (fb'.mod m6 fun h => h) (fh.mod m6 fun h => h) (by simp only [List.nodup_cons, List.mem_cons, List.not_mem_nil, or_false, not_or, List.nodup_nil, not_false_eq_true, and_true]; omega) (by simp only [List.mem_cons, List.not_mem_nil, or_false]; intro k hk; omega)
        · skip
          unfold t27_11
          try simp only [go_sem, t1, t16, t19, t22, ch]
          refine mkb_ hn ?_
          intro bb wb eb fb' mb sb
          have M := M.trans' mb
          have fi := fi.mod mb fun h => h
          have fh := fh.mod mb fun h => h
          have bk0 := bk0.mod mb fun h => h
          have cb := bk0.cell 0
          simp only [List.getElem?_cons_zero] at cb
          try simp only [go_sem, t1, t16, t19, t22, cb]
          refine mki_ hn ?_
          intro bn wn en fn mn sn
          have M := M.trans' mn
          have fi := fi.mod mn fun h => h
          have fh := fh.mod mn fun h => h
          have fb' := fb'.mod mn fun h => h
          have bk0 := bk0.mod mn fun h => h
          have cn := bk0.cell 0
          simp only [List.getElem?_cons_zero] at cn
          try simp only [go_sem, t1, t16, t19, t22, cn]
          refine ⟨by simp, by simp, by simp, by simp, by simp, ?_⟩; refine box_ (cs := [.slice va its.length vc, .map (some bi), .slice (some ⟨bn, 0, none⟩) its.length its.length, .slice (some ⟨bb, 0, none⟩) its.length its.length, .map (some bh)]) rfl ?_
          intro fb w6 e6 f6 m6 s6
          try simp only [go_sem]
          exact KK _ w6 bi bn bb bh fb t1 rfl (M.trans' m6) (bk0.mod m6 fun h => h) f6 (fi.mod m6 fun h => h) (fn.mod m6 fun h => h) (fb'.mod m6 fun h => h) (fh.mod m6 fun h => h) (by simp only [List.nodup_cons, List.mem_cons, List.not_mem_nil, or_false, not_or, List.nodup_nil, not_false_eq_true, and_true]; omega) (by simp only [List.mem_cons, List.not_mem_nil, or_false]; intro k hk; omega)
  · skip
    unfold t27_12
    try simp only [go_sem, t1, t16, t19, t22, c0]
    refine ⟨?_, ?_⟩
    · skip
      unfold t27_13
      try simp only [go_sem, t1, t16, t19, t22, c0]
      refine mki_ hn ?_
      intro bn wn en fn mn sn
      have M := M.trans' mn
      have bk0 := bk0.mod mn fun h => h
      have cn := bk0.cell 0
      simp only [List.getElem?_cons_zero] at cn
      try simp only [go_sem, t1, t16, t19, t22, cn]
      refine ⟨?_, ?_⟩
      · skip
        unfold t27_14
        try simp only [go_sem, t1, t16, t19, t22, cn]
        refine mk_ ?_
        intro bi wi ei fi mi si
        have M := M.trans' mi
        have fn := fn.mod mi fun h => h
        have bk0 := bk0.mod mi fun h => h
        have ci := bk0.cell 0
        simp only [List.getElem?_cons_zero] at ci
        try simp only [go_sem, t1, t16, t19, t22, ci]
        refine ⟨?_, ?_⟩
        · skip
          unfold t27_15
          try simp only [go_sem, t1, t16, t19, t22, ci]
          refine mkb_ hn ?_
          intro bb wb eb fb' mb sb
          have M := M.trans' mb
          have fn := fn.mod mb fun h => h
          have fi := fi.mod mb fun h => h
          have bk0 := bk0.mod mb fun h => h
          have cb := bk0.cell 0
          simp only [List.getElem?_cons_zero] at cb
          try simp only [go_sem, t1, t16, t19, t22, cb]
          refine mk_ ?_
          intro bh wh eh fh mh sh
          have M := M.trans' mh
          have fn := fn.mod mh fun h => h
          have fi := fi.mod mh fun h => h
          have fb' := fb'.mod mh fun h => h
          have bk0 := bk0.mod mh fun h => h
          have ch := bk0.cell 0
          simp only [List.getElem?_cons_zero] at ch
          try simp only [go_sem, t1, t16, t19, t22, ch]
          refine ⟨by simp, by simp, by simp, by simp, by simp, ?_⟩; refine box_ (cs := [.slice va its.length vc, .map (some bi), .slice (some ⟨bn, 0, none⟩) its.length its.length, .slice (some ⟨bb, 0, none⟩) its.length its.length, .map (some bh)]) rfl ?_
          intro fb w6 e6 f6 m6 s6
          try simp only [go_sem]
          exact KK _ w6 bi bn bb bh fb t1 rfl (M.trans' m6) (bk0.mod m6 fun h => h) f6 (fi.mod m6 fun h => h) (fn.mod m6 fun h => h) (fb'.mod m6 fun h => h) (fh.mod m6 fun h => h) (by simp only [List.nodup_cons, List.mem_cons, List.not_mem_nil, or_false, not_or, List.nodup_nil, not_false_eq_true, and_true]; omega) (by simp only [List.mem_cons, List.not_mem_nil, or_false]; intro k hk; omega)
        · skip
          unfold t27_16
          try simp only [go_sem, t1, t16, t19, t22, ci]
          refine mk_ ?_
          intro bh wh eh fh mh sh
          have M := M.trans' mh
          have fn := fn.mod mh fun h => h
          have fi := fi.mod mh fun h => h
          have bk0 := bk0.mod mh fun h => h
          have ch := bk0.cell 0
          simp only [List.getElem?_cons_zero] at ch
          try simp only [go_sem, t1, t16, t19, t22, ch]
          refine mkb_ hn ?_
          intro bb wb eb fb' mb sb
          have M := M.trans' mb
          have fn := fn.mod mb fun h => h
          have fi := fi.mod mb fun h => h
          have fh := fh.mod mb fun h => h
          have bk0 := bk0.mod mb fun h => h
          have cb := bk0.cell 0
          simp only [List.getElem?_cons_zero] at cb
          try simp only [go_sem, t1, t16, t19, t22, cb]
          refine ⟨by simp, by simp, by simp, by simp, by simp, ?_⟩; refine box_ (cs := [.slice va its.length vc, .map (some bi), .slice (some ⟨bn, 0, none⟩) its.length its.length, .slice (some ⟨bb, 0, none⟩) its.length its.length, .map (some bh)]) rfl ?_
          intro fb w6 e6 f6 m6 s6
          try simp only [go_sem]
          exact KK _ w6 bi bn bb bh fb t1 rfl (M.trans' m6) (bk0.mod m6 fun h => h) f6 (fi.mod m6 fun h => h) (fn.mod m6 fun h => h) (fb'.mod m6 fun h => h) (fh.mod m6 fun h => h) (by simp only [List.nodup_cons, List.mem_cons, List.not_mem_nil, or_false, not_or, List.nodup_nil, not_false_eq_true, and_true]; omega) (by simp only [List.mem_cons, List.not_mem_nil, or_false]; intro k hk; omega)
      · skip
        unfold t27_17
        try simp only [go_sem, t1, t16, t19, t22, cn]
        refine ⟨?_, ?_⟩
        · skip
          unfold t27_18
          try simp only [go_sem, t1, t16, t19, t22, cn]
          refine mkb_ hn ?_
          intro bb wb eb fb' mb sb
          have M := M.trans' mb
          have fn := fn.mod mb fun h => h
          have bk0 := bk0.mod mb fun h => h
          have cb := bk0.cell 0
          simp only [List.getElem?_cons_zero] at cb
          try simp only [go_sem, t1, t16, t19, t22, cb]
          refine ⟨?_, ?_⟩
          · skip
            unfold t27_19
            try simp only [go_sem, t1, t16, t19, t22, cb]
            refine mk_ ?_
            intro bi wi ei fi mi si
            have M := M.trans' mi
            have fn := fn.mod mi fun h => h
            have fb' := fb'.mod mi fun h => h
            have bk0 := bk0.mod mi fun h => h
            have ci := bk0.cell 0
            simp only [List.getElem?_cons_zero] at ci
            try simp only [go_sem, t1, t16, t19, t22, ci]
            refine mk_ ?_
            intro bh wh eh fh mh sh
            have M := M.trans' mh
            have fn := fn.mod mh fun h => h
            have fb' := fb'.mod mh fun h => h
            have fi := fi.mod mh fun h => h
            have bk0 := bk0.mod mh fun h => h
            have ch := bk0.cell 0
            simp only [List.getElem?_cons_zero] at ch
            try simp only [go_sem, t1, t16, t19, t22, ch]
            refine ⟨by simp, by simp, by simp, by simp, by simp, ?_⟩; refine box_ (cs := [.slice va its.length vc, .map (some bi), .slice (some ⟨bn, 0, none⟩) its.length its.length, .slice (some ⟨bb, 0, none⟩) its.length its.length, .map (some bh)]) rfl ?_
            intro fb w6 e6 f6 m6 s6
            try simp only [go_sem]
            exact KK _ w6 bi bn bb bh fb t1 rfl (M.trans' m6) (bk0.mod m6 fun h => h) f6 (fi.mod m6 fun h => h) (fn.mod m6 fun h => h) (fb'.mod m6 fun h => h) (fh.mod m6 fun h => h) (by simp only [List.nodup_cons, List.mem_cons, List.not_mem_nil, or_false, not_or, List.nodup_nil, not_false_eq_true, and_true]; omega) (by simp only [List.mem_cons, List.not_mem_nil, or_false]; intro k hk; omega)
          · skip
            unfold t27_20
            try simp only [go_sem, t1, t16, t19, t22, cb]
            refine mk_ ?_
            intro bh wh eh fh mh sh
            have M := M.trans' mh
            have fn := fn.mod mh fun h => h
            have fb' := fb'.mod mh fun h => h
            have bk0 := bk0.mod mh fun h => h
            have ch := bk0.cell 0
            simp only [List.getElem?_cons_zero] at ch
            try simp only [go_sem, t1, t16, t19, t22, ch]
            refine mk_ ?_
            intro bi wi ei fi mi si
            have M := M.trans' mi
            have fn := fn.mod mi fun h => h
            have fb' := fb'.mod mi fun h => h
            have fh := fh.mod mi fun h => h
            have bk0 := bk0.mod mi fun h => h
            have ci := bk0.cell 0
            simp only [List.getElem?_cons_zero] at ci
            try simp only [go_sem, t1, t16, t19, t22, ci]
            refine ⟨by simp, by simp, by simp, by simp, by simp, ?_⟩; refine box_ (cs := [.slice va its.length vc, .map (some bi), .slice (some ⟨bn, 0, none⟩) its.length its.length, .slice (some ⟨bb, 0, none⟩) its.length its.length, .map (some bh)]) rfl ?_
            intro fb w6 e6 f6 m6 s6
            try simp only [go_sem]
            exact KK _ w6 bi bn bb bh fb t1 rfl (M.trans' m6) (bk0.mod m6 fun h => h) f6 (fi.mod m6 fun h => h) (fn.mod m6 fun h => h) (fb'.mod m6 fun h => h) (fh.mod m6 fun h => h) (by simp only [List.nodup_cons, List.mem_cons, List.not_mem_nil, or_false, not_or, List.nodup_nil, not_false_eq_true, and_true]; omega) (by simp only [List.mem_cons, List.not_mem_nil, or_false]; intro k hk; omega)
        · skip
          unfold t27_21
          try simp only [go_sem, t1, t16, t19, t22, cn]
          refine mk_ ?_
          intro bh wh eh fh mh sh
          have M := M.trans' mh
          have fn := fn.mod mh fun h => h
          have bk0 := bk0.mod mh fun h => h
          have ch := bk0.cell 0
          simp only [List.getElem?_cons_zero] at ch
          try simp only [go_sem, t1, t16, t19, t22, ch]
          refine ⟨?_, ?_⟩
          · skip
            unfold t27_22
            try simp only [go_sem, t1, t16, t19, t22, ch]
            refine mk_ ?_
            intro bi wi ei fi mi si
            have M := M.trans' mi
            have fn := fn.mod mi fun h => h
            have fh := fh.mod mi fun h => h
            have bk0 := bk0.mod mi fun h => h
            have ci := bk0.cell 0
            simp only [List.getElem?_cons_zero] at ci
            try simp only [go_sem, t1, t16, t19, t22, ci]
            refine mkb_ hn ?_
            intro bb wb eb fb' mb sb
            have M := M.trans' mb
            have fn := fn.mod mb fun h => h
            have fh := fh.mod mb fun h => h
            have fi := fi.mod mb fun h => h
            have bk0 := bk0.mod mb fun h => h
            have cb := bk0.cell 0
            simp only [List.getElem?_cons_zero] at cb
            try simp only [go_sem, t1, t16, t19, t22, cb]
            refine ⟨by simp, by simp, by simp, by simp, by simp, ?_⟩; refine box_ (cs := [.slice va its.length vc, .map (some bi), .slice (some ⟨bn, 0, none⟩) its.length its.length, .slice (some ⟨bb, 0, none⟩) its.length its.length, .map (some bh)]) rfl ?_
            intro fb w6 e6 f6 m6 s6
            try simp only [go_sem]
            exact KK _ w6 bi bn bb bh fb t1 rfl (M.trans' m6) (bk0.mod m6 fun h => h) f6 (fi.mod m6 fun h => h) (fn.mod m6 fun h => h) (fb'.mod m6 fun h => h) (fh.mod m6 fun h => h) (by simp only [List.nodup_cons, List.mem_cons, List.not_mem_nil, or_false, not_or, List.nodup_nil, not_false_eq_true, and_true]; omega) (by simp only [List.mem_cons, List.not_mem_nil, or_false]; intro k hk; omega)
          · skip
            unfold t27_23
            try simp only [go_sem, t1, t16, t19, t22, ch]
            refine mkb_ hn ?_
            intro bb wb eb fb' mb sb
            have M := M.trans' mb
            have fn := fn.mod mb fun h => h
            have fh := fh.mod mb fun h => h
            have bk0 := bk0.mod mb fun h => h
            have cb := bk0.cell 0
            simp only [List.getElem?_cons_zero] at cb
            try simp only [go_sem, t1, t16, t19, t22, cb]
            refine mk_ ?_
            intro bi wi ei fi mi si
            have M := M.trans' mi
            have fn := fn.mod mi fun h => h
            have fh := fh.mod mi fun h => h
            have fb' := fb'.mod mi fun h => h
            have bk0 := bk0.mod mi fun h => h
            have ci := bk0.cell 0
            simp only [List.getElem?_cons_zero] at ci
            try simp only [go_sem, t1, t16, t19, t22, ci]
            refine ⟨by simp, by simp, by simp, by simp, by simp, ?_⟩; refine box_ (cs := [.slice va its.length vc, .map (some bi), .slice (some ⟨bn, 0, none⟩) its.length its.length, .slice (some ⟨bb, 0, none⟩) its.length its.length, .map (some bh)]) rfl ?_
            intro fb w6 e6 f6 m6 s6
            try simp only [go_sem]
            exact KK _ w6 bi bn bb bh fb t1 rfl (M.trans' m6) (bk0.mod m6 fun h => h) f6 (fi.mod m6 fun h => h) (fn.mod m6 fun h => h) (fb'.mod m6 fun h => h) (fh.mod m6 fun h => h) (by simp only [List.nodup_cons, List.mem_cons, List.not_mem_nil, or_false, not_or, List.nodup_nil, not_false_eq_true, and_true]; omega) (by simp only [List.mem_cons, List.not_mem_nil, or_false]; intro k hk; omega)
    · skip
      unfold t27_24
      try simp only [go_sem, t1, t16, t19, t22, c0]
      refine ⟨?_, ?_⟩
      · skip
        unfold t27_25
        try simp only [go_sem, t1, t16, t19, t22, c0]
        refine mkb_ hn ?_
        intro bb wb eb fb' mb sb
        have M := M.trans' mb
        have bk0 := bk0.mod mb fun h => h
        have cb := bk0.cell 0
        simp only [List.getElem?_cons_zero] at cb
        try simp only [go_sem, t1, t16, t19, t22, cb]
        refine ⟨?_, ?_⟩
        · skip
          unfold t27_26
          try simp only [go_sem, t1, t16, t19, t22, cb]
          refine mk_ ?_
          intro bi wi ei fi mi si
          have M := M.trans' mi
          have fb' := fb'.mod mi fun h => h
          have bk0 := bk0.mod mi fun h => h
          have ci := bk0.cell 0
          simp only [List.getElem?_cons_zero] at ci
          try simp only [go_sem, t1, t16, t19, t22, ci]
          refine ⟨?_, ?_⟩
          · skip
            unfold t27_27
            try simp only [go_sem, t1, t16, t19, t22, ci]
            refine mki_ hn ?_
            intro bn wn en fn mn sn
            have M := M.trans' mn
            have fb' := fb'.mod mn fun h => h
            have fi := fi.mod mn fun h => h
            have bk0 := bk0.mod mn fun h => h
            have cn := bk0.cell 0
            simp only [List.getElem?_cons_zero] at cn
            try simp only [go_sem, t1, t16, t19, t22, cn]
            refine mk_ ?_
            intro bh wh eh fh mh sh
            have M := M.trans' mh
            have fb' := fb'.mod mh fun h => h
            have fi := fi.mod mh fun h => h
            have fn := fn.mod mh fun h => h
            have bk0 := bk0.mod mh fun h => h
            have ch := bk0.cell 0
            simp only [List.getElem?_cons_zero] at ch
            try simp only [go_sem, t1, t16, t19, t22, ch]
            refine ⟨by simp, by simp, by simp, by simp, by simp, ?_⟩; refine box_ (cs := [.slice va its.length vc, .map (some bi), .slice (some ⟨bn, 0, none⟩) its.length its.length, .slice (some ⟨bb, 0, none⟩) its.length its.length, .map (some bh)]) rfl ?_
            intro fb w6 e6 f6 m6 s6
            try simp only [go_sem]
            exact KK _ w6 bi bn bb bh fb t1 rfl (M.trans' m6) (bk0.mod m6 fun h => h) f6 (fi.mod m6 fun h => h) (fn.mod m6 fun h => h) (fb'.mod m6 fun h => h) (fh.mod m6 fun h => h) (by simp only [List.nodup_cons, List.mem_cons, List.not_mem_nil, or_false, not_or, List.nodup_nil, not_false_eq_true, and_true]; omega) (by simp only [List.mem_cons, List.not_mem_nil, or_false]; intro k hk; omega)
          · skip
            unfold t27_28
            try simp only [go_sem, t1, t16, t19, t22, ci]
            refine mk_ ?_
            intro bh wh eh fh mh sh
            have M := M.trans' mh
            have fb' := fb'.mod mh fun h => h
            have fi := fi.mod mh fun h => h
            have bk0 := bk0.mod mh fun h => h
            have ch := bk0.cell 0
            simp only [List.getElem?_cons_zero] at ch
            try simp only [go_sem, t1, t16, t19, t22, ch]
            refine mki_ hn ?_
            intro bn wn en fn mn sn
            have M := M.trans' mn
            have fb' := fb'.mod mn fun h => h
            have fi := fi.mod mn fun h => h
            have fh := fh.mod mn fun h => h
            have bk0 := bk0.mod mn fun h => h
            have cn := bk0.cell 0
            simp only [List.getElem?_cons_zero] at cn
            try simp only [go_sem, t1, t16, t19, t22, cn]
            refine ⟨by simp, by simp, by simp, by simp, by simp, ?_⟩; refine box_ (cs := [.slice va its.length vc, .map (some bi), .slice (some ⟨bn, 0, none⟩) its.length its.length, .slice (some ⟨bb, 0, none⟩) its.length its.length, .map (some bh)]) rfl ?_
            intro fb w6 e6 f6 m6 s6
            try simp only [go_sem]
            exact KK _ w6 bi bn bb bh fb t1 rfl (M.trans' m6) (bk0.mod m6 fun h => h) f6 (fi.mod m6 fun h => h) (fn.mod m6 fun h => h) (fb'.mod m6 fun h => h) (fh.mod m6 fun h => h) (by simp only [List.nodup_cons, List.mem_cons, List.not_mem_nil, or_false, not_or, List.nodup_nil, not_false_eq_true, and_true]; omega) (by simp only [List.mem_cons, List.not_mem_nil, or_false]; intro k hk; omega)
        · skip
          unfold t27_29
          try simp only [go_sem, t1, t16, t19, t22, cb]
          refine ⟨?_, ?_⟩
          · skip
            unfold t27_30
            try simp only [go_sem, t1, t16, t19, t22, cb]
            refine mki_ hn ?_
            intro bn wn en fn mn sn
            have M := M.trans' mn
            have fb' := fb'.mod mn fun h => h
            have bk0 := bk0.mod mn fun h => h
            have cn := bk0.cell 0
            simp only [List.getElem?_cons_zero] at cn
            try simp only [go_sem, t1, t16, t19, t22, cn]
            refine ⟨?_, ?_⟩
            · skip
              unfold t27_31
              try simp only [go_sem, t1, t16, t19, t22, cn]
              refine mk_ ?_
              intro bi wi ei fi mi si
              have M := M.trans' mi
              have fb' := fb'.mod mi fun h => h
              have fn := fn.mod mi fun h => h
              have bk0 := bk0.mod mi fun h => h
              have ci := bk0.cell 0
              simp only [List.getElem?_cons_zero] at ci
              try simp only [go_sem, t1, t16, t19, t22, ci]
              refine mk_ ?_
              intro bh wh eh fh mh sh
              have M := M.trans' mh
              have fb' := fb'.mod mh fun h => h
              have fn := fn.mod mh fun h => h
              have fi := fi.mod mh fun h => h
              have bk0 := bk0.mod mh fun h => h
              have ch := bk0.cell 0
              simp only [List.getElem?_cons_zero] at ch
              try simp only [go_sem, t1, t16, t19, t22, ch]
              refine ⟨by simp, by simp, by simp, by simp, by simp, ?_⟩; refine box_ (cs := [.slice va its.length vc, .map (some bi), .slice (some ⟨bn, 0, none⟩) its.length its.length, .slice (some ⟨bb, 0, none⟩) its.length its.length, .map (some bh)]) rfl ?_
              intro fb w6 e6 f6 m6 s6
              try simp only [go_sem]
              exact KK _ w6 bi bn bb bh fb t1 rfl (M.trans' m6) (bk0.mod m6 fun h => h) f6 (fi.mod m6 fun h => h) (fn.mod m6 fun h => h) (fb'.mod m6 fun h => h) (fh.mod m6 fun h => h) (by simp only [List.nodup_cons, List.mem_cons, List.not_mem_nil, or_false, not_or, List.nodup_nil, not_false_eq_true, and_true]; omega) (by simp only [List.mem_cons, List.not_mem_nil, or_false]; intro k hk; omega)
            · skip
              unfold t27_32
              try simp only [go_sem, t1, t16, t19, t22, cn]
              refine mk_ ?_
              intro bh wh eh fh mh sh
              have M := M.trans' mh
              have fb' := fb'.mod mh fun h => h
              have fn := fn.mod mh fun h => h
              have bk0 := bk0.mod mh fun h => h
              have ch := bk0.cell 0
              simp only [List.getElem?_cons_zero] at ch
              try simp only [go_sem, t1, t16, t19, t22, ch]
              refine mk_ ?_
              intro bi wi ei fi mi si
              have M := M.trans' mi
              have fb' := fb'.mod mi fun h => h
              have fn := fn.mod mi fun h => h
              have fh := fh.mod mi fun h => h
              have bk0 := bk0.mod mi fun h => h
              have ci := bk0.cell 0
              simp only [List.getElem?_cons_zero] at ci
              try simp only [go_sem, t1, t16, t19, t22, ci]
              refine ⟨by simp, by simp, by simp, by simp, by simp, ?_⟩; refine box_ (cs := [.slice va its.length vc, .map (some bi), .slice (some ⟨bn, 0, none⟩) its.length its.length, .slice (some ⟨bb, 0, none⟩) its.length its.length, .map (some bh)]) rfl ?_
              intro fb w6 e6 f6 m6 s6
              try simp only [go_sem]
              exact KK _ w6 bi bn bb bh fb t1 rfl (M.trans' m6) (bk0.mod m6 fun h => h) f6 (fi.mod m6 fun h => h) (fn.mod m6 fun h => h) (fb'.mod m6 fun h => h) (fh.mod m6 fun h => h) (by simp only [List.nodup_cons, List.mem_cons, List.not_mem_nil, or_false, not_or, List.nodup_nil, not_false_eq_true, and_true]; omega) (by simp only [List.mem_cons, List.not_mem_nil, or_false]; intro k hk; omega)
          · skip
            unfold t27_33
            try simp only [go_sem, t1, t16, t19, t22, cb]
            refine mk_ ?_
            intro bh wh eh fh mh sh
            have M := M.trans' mh
            have fb' := fb'.mod mh fun h => h
            have bk0 := bk0.mod mh fun h => h
            have ch := bk0.cell 0
            simp only [List.getElem?_cons_zero] at ch
            try simp only [go_sem, t1, t16, t19, t22, ch]
            refine ⟨?_, ?_⟩
            · skip
              unfold t27_34
              try simp only [go_sem, t1, t16, t19, t22, ch]
              refine mk_ ?_
              intro bi wi ei fi mi si
              have M := M.trans' mi
              have fb' := fb'.mod mi fun h => h
              have fh := fh.mod mi fun h => h
              have bk0 := bk0.mod mi fun h => h
              have ci := bk0.cell 0
              simp only [List.getElem?_cons_zero] at ci
              try simp only [go_sem, t1, t16, t19, t22, ci]
              refine mki_ hn ?_
              intro bn wn en fn mn sn
              have M := M.trans' mn
              have fb' := fb'.mod mn fun h => h
              have fh := fh.mod mn fun h => h
              have fi := fi.mod mn fun h => h
              have bk0 := bk0.mod mn fun h => h
              have cn := bk0.cell 0
              simp only [List.getElem?_cons_zero] at cn
              try simp only [go_sem, t1, t16, t19, t22, cn]
              refine ⟨by simp, by simp, by simp, by simp, by simp, ?_⟩; refine box_ (cs := [.slice va its.length vc, .map (some bi), .slice (some ⟨bn, 0, none⟩) its.length its.length, .slice (some ⟨bb, 0, none⟩) its.length its.length, .map (some bh)]) rfl ?_
              intro fb w6 e6 f6 m6 s6
              try simp only [go_sem]
              exact KK _ w6 bi bn bb bh fb t1 rfl (M.trans' m6) (bk0.mod m6 fun h => h) f6 (fi.mod m6 fun h => h) (fn.mod m6 fun h => h) (fb'.mod m6 fun h => h) (fh.mod m6 fun h => h) (by simp only [List.nodup_cons, List.mem_cons, List.not_mem_nil, or_false, not_or, List.nodup_nil, not_false_eq_true, and_true]; omega) (by simp only [List.mem_cons, List.not_mem_nil, or_false]; intro k hk; omega)
            · skip
              unfold t27_35
              try simp only [go_sem, t1, t16, t19, t22, ch]
              refine mki_ hn ?_
              intro bn wn en fn mn sn
              have M := M.trans' mn
              have fb' := fb'.mod mn fun h => h
              have fh := fh.mod mn fun h => h
              have bk0 := bk0.mod mn fun h => h
              have cn := bk0.cell 0
              simp only [List.getElem?_cons_zero] at cn
              try simp only [go_sem, t1, t16, t19, t22, cn]
              refine mk_ ?_
              intro bi wi ei fi mi si
              have M := M.trans' mi
              have fb' := fb'.mod mi fun h => h
              have fh := fh.mod mi fun h => h
              have fn := fn.mod mi fun h => h
              have bk0 := bk0.mod mi fun h => h
              have ci := bk0.cell 0
              simp only [List.getElem?_cons_zero] at ci
              try simp only [go_sem, t1, t16, t19, t22, ci]
              refine ⟨by simp, by simp, by simp, by simp, by simp, ?_⟩; refine box_ (cs := [.slice va its.length vc, .map (some bi), .slice (some ⟨bn, 0, none⟩) its.length its.length, .slice (some ⟨bb, 0, none⟩) its.length its.length, .map (some bh)]) rfl ?_
              intro fb w6 e6 f6 m6 s6
              try simp only [go_sem]
              exact KK _ w6 bi bn bb bh fb t1 rfl (M.trans' m6) (bk0.mod m6 fun h => h) f6 (fi.mod m6 fun h => h) (fn.mod m6 fun h => h) (fb'.mod m6 fun h => h) (fh.mod m6 fun h => h) (by simp only [List.nodup_cons, List.mem_cons, List.not_mem_nil, or_false, not_or, List.nodup_nil, not_false_eq_true, and_true]; omega) (by simp only [List.mem_cons, List.not_mem_nil, or_false]; intro k hk; omega)
      · skip
        unfold t27_36
        try simp only [go_sem, t1, t16, t19, t22, c0]
        refine mk_ ?_
        intro bh wh eh fh mh sh
        have M := M.trans' mh
        have bk0 := bk0.mod mh fun h => h
        have ch := bk0.cell 0
        simp only [List.getElem?_cons_zero] at ch
        try simp only [go_sem, t1, t16, t19, t22, ch]
        refine ⟨?_, ?_⟩
        · skip
          unfold t27_37
          try simp only [go_sem, t1, t16, t19, t22, ch]
          refine mk_ ?_
          intro bi wi ei fi mi si
          have M := M.trans' mi
          have fh := fh.mod mi fun h => h
          have bk0 := bk0.mod mi fun h => h
          have ci := bk0.cell 0
          simp only [List.getElem?_cons_zero] at ci
          try simp only [go_sem, t1, t16, t19, t22, ci]
          refine ⟨?_, ?_⟩
          · skip
            unfold t27_38
            try simp only [go_sem, t1, t16, t19, t22, ci]
            refine mki_ hn ?_
            intro bn wn en fn mn sn
            have M := M.trans' mn
            have fh := fh.mod mn fun h => h
            have fi := fi.mod mn fun h => h
            have bk0 := bk0.mod mn fun h => h
            have cn := bk0.cell 0
            simp only [List.getElem?_cons_zero] at cn
            try simp only [go_sem, t1, t16, t19, t22, cn]
            refine mkb_ hn ?_
            intro bb wb eb fb' mb sb
            have M := M.trans' mb
            have fh := fh.mod mb fun h => h
            have fi := fi.mod mb fun h => h
            have fn := fn.mod mb fun h => h
            have bk0 := bk0.mod mb fun h => h
            have cb := bk0.cell 0
            simp only [List.getElem?_cons_zero] at cb
            try simp only [go_sem, t1, t16, t19, t22, cb]
            refine ⟨by simp, by simp, by simp, by simp, by simp, ?_⟩; refine box_ (cs := [.slice va its.length vc, .map (some bi), .slice (some ⟨bn, 0, none⟩) its.length its.length, .slice (some ⟨bb, 0, none⟩) its.length its.length, .map (some bh)]) rfl ?_
            intro fb w6 e6 f6 m6 s6
            try simp only [go_sem]
            exact KK _ w6 bi bn bb bh fb t1 rfl (M.trans' m6) (bk0.mod m6 fun h => h) f6 (fi.mod m6 fun h => h) (fn.mod m6 fun h => h) (fb'.mod m6 fun h => h) (fh.mod m6 fun h => h) (by simp only [List.nodup_cons, List.mem_cons, List.not_mem_nil, or_false, not_or, List.nodup_nil, not_false_eq_true, and_true]; omega) (by simp only [List.mem_cons, List.not_mem_nil, or_false]; intro k hk; omega)
          · skip
            unfold t27_39
            try simp only [go_sem, t1, t16, t19, t22, ci]
            refine mkb_ hn ?_
            intro bb wb eb fb' mb sb
            have M := M.trans' mb
            have fh := fh.mod mb fun h => h
            have fi := fi.mod mb fun h => h
            have bk0 := bk0.mod mb fun h => h
            have cb := bk0.cell 0
            simp only [List.getElem?_cons_zero] at cb
            try simp only [go_sem, t1, t16, t19, t22, cb]
            refine mki_ hn ?_
            intro bn wn en fn mn sn
            have M := M.trans' mn
            have fh := fh.mod mn fun h => h
            have fi := fi.mod mn fun h => h
            have fb' := fb'.mod mn fun h => h
            have bk0 := bk0.mod mn fun h => h
            have cn := bk0.cell 0
            simp only [List.getElem?_cons_zero] at cn
            try simp only [go_sem, t1, t16, t19, t22, cn]
            refine ⟨by simp, by simp, by simp, by simp, by simp, ?_⟩; refine box_ (cs := [.slice va its.length vc, .map (some bi), .slice (some ⟨bn, 0, none⟩) its.length its.length, .slice (some ⟨bb, 0, none⟩) its.length its.length, .map (some bh)]) rfl ?_
            intro fb w6 e6 f6 m6 s6
            try simp only [go_sem]
            exact KK _ w6 bi bn bb bh fb t1 rfl (M.trans' m6) (bk0.mod m6 fun h => h) f6 (fi.mod m6 fun h => h) (fn.mod m6 fun h => h) (fb'.mod m6 fun h => h) (fh.mod m6 fun h => h) (by simp only [List.nodup_cons, List.mem_cons, List.not_mem_nil, or_false, not_or, List.nodup_nil, not_false_eq_true, and_true]; omega) (by simp only [List.mem_cons, List.not_mem_nil, or_false]; intro k hk; omega)
        · skip
          unfold t27_40
          try simp only [go_sem, t1, t16, t19, t22, ch]
          refine ⟨?_, ?_⟩
          · skip
            unfold t27_41
            try simp only [go_sem, t1, t16, t19, t22, ch]
            refine mki_ hn ?_
            intro bn wn en fn mn sn
            have M := M.trans' mn
            have fh := fh.mod mn fun h => h
            have bk0 := bk0.mod mn fun h => h
            have cn := bk0.cell 0
            simp only [List.getElem?_cons_zero] at cn
            try simp only [go_sem, t1, t16, t19, t22, cn]
            refine ⟨?_, ?_⟩
            · skip
              unfold t27_42
              try simp only [go_sem, t1, t16, t19, t22, cn]
              refine mk_ ?_
              intro bi wi ei fi mi si
              have M := M.trans' mi
              have fh := fh.mod mi fun h => h
              have fn := fn.mod mi fun h => h
              have bk0 := bk0.mod mi fun h => h
              have ci := bk0.cell 0
              simp only [List.getElem?_cons_zero] at ci
              try simp only [go_sem, t1, t16, t19, t22, ci]
              refine mkb_ hn ?_
              intro bb wb eb fb' mb sb
              have M := M.trans' mb
              have fh := fh.mod mb fun h => h
              have fn := fn.mod mb fun h => h
              have fi := fi.mod mb fun h => h
              have bk0 := bk0.mod mb fun h => h
              have cb := bk0.cell 0
              simp only [List.getElem?_cons_zero] at cb
              try simp only [go_sem, t1, t16, t19, t22, cb]
              refine ⟨by simp, by simp, by simp, by simp, by simp, ?_⟩; refine box_ (cs := [.slice va its.length vc, .map (some bi), .slice (some ⟨bn, 0, none⟩) its.length its.length, .slice (some ⟨bb, 0, none⟩) its.length its.length, .map (some bh)]) rfl ?_
              intro fb w6 e6 f6 m6 s6
              try simp only [go_sem]
              exact KK _ w6 bi bn bb bh fb t1 rfl (M.trans' m6) (bk0.mod m6 fun h => h) f6 (fi.mod m6 fun h => h) (fn.mod m6 fun h => h) (fb'.mod m6 fun h => h) (fh.mod m6 fun h => h) (by simp only [List.nodup_cons, List.mem_cons, List.not_mem_nil, or_false, not_or, List.nodup_nil, not_false_eq_true, and_true]; omega) (by simp only [List.mem_cons, List.not_mem_nil, or_false]; intro k hk; omega)
            · skip
              unfold t27_43
              try simp only [go_sem, t1, t16, t19, t22, cn]
              refine mkb_ hn ?_
              intro bb wb eb fb' mb sb
              have M := M.trans' mb
              have fh := fh.mod mb fun h => h
              have fn := fn.mod mb fun h => h
              have bk0 := bk0.mod mb fun h => h
              have cb := bk0.cell 0
              simp only [List.getElem?_cons_zero] at cb
              try simp only [go_sem, t1, t16, t19, t22, cb]
              refine mk_ ?_
              intro bi wi ei fi mi si
              have M := M.trans' mi
              have fh := fh.mod mi fun h => h
              have fn := fn.mod mi fun h => h
              have fb' := fb'.mod mi fun h => h
              have bk0 := bk0.mod mi fun h => h
              have ci := bk0.cell 0
              simp only [List.getElem?_cons_zero] at ci
              try simp only [go_sem, t1, t16, t19, t22, ci]
              refine ⟨by simp, by simp, by simp, by simp, by simp, ?_⟩; refine box_ (cs := [.slice va its.length vc, .map (some bi), .slice (some ⟨bn, 0, none⟩) its.length its.length, .slice (some ⟨bb, 0, none⟩) its.length its.length, .map (some bh)]) rfl ?_
              intro fb w6 e6 f6 m6 s6
              try simp only [go_sem]
              exact KK _ w6 bi bn bb bh fb t1 rfl (M.trans' m6) (bk0.mod m6 fun h => h) f6 (fi.mod m6 fun h => h) (fn.mod m6 fun h => h) (fb'.mod m6 fun h => h) (fh.mod m6 fun h => h) (by simp only [List.nodup_cons, List.mem_cons, List.not_mem_nil, or_false, not_or, List.nodup_nil, not_false_eq_true, and_true]; omega) (by simp only [List.mem_cons, List.not_mem_nil, or_false]; intro k hk; omega)
          · skip
            unfold t27_44
            try simp only [go_sem, t1, t16, t19, t22, ch]
            refine mkb_ hn ?_
            intro bb wb eb fb' mb sb
            have M := M.trans' mb
            have fh := fh.mod mb fun h => h
            have bk0 := bk0.mod mb fun h => h
            have cb := bk0.cell 0
            simp only [List.getElem?_cons_zero] at cb
            try simp only [go_sem, t1, t16, t19, t22, cb]
            refine ⟨?_, ?_⟩
            · skip
              unfold t27_45
              try simp only [go_sem, t1, t16, t19, t22, cb]
              refine mk_ ?_
              intro bi wi ei fi mi si
              have M := M.trans' mi
              have fh := fh.mod mi fun h => h
              have fb' := fb'.mod mi fun h => h
              have bk0 := bk0.mod mi fun h => h
              have ci := bk0.cell 0
              simp only [List.getElem?_cons_zero] at ci
              try simp only [go_sem, t1, t16, t19, t22, ci]
              refine mki_ hn ?_
              intro bn wn en fn mn sn
              have M := M.trans' mn
              have fh := fh.mod mn fun h => h
              have fb' := fb'.mod mn fun h => h
              have fi := fi.mod mn fun h => h
              have bk0 := bk0.mod mn fun h => h
              have cn := bk0.cell 0
              simp only [List.getElem?_cons_zero] at cn
              try simp only [go_sem, t1, t16, t19, t22, cn]
              refine ⟨by simp, by simp, by simp, by simp, by simp, ?_⟩; refine box_ (cs := [.slice va its.length vc, .map (some bi), .slice (some ⟨bn, 0, none⟩) its.length its.length, .slice (some ⟨bb, 0, none⟩) its.length its.length, .map (some bh)]) rfl ?_
              intro fb w6 e6 f6 m6 s6
              try simp only [go_sem]
              exact KK _ w6 bi bn bb bh fb t1 rfl (M.trans' m6) (bk0.mod m6 fun h => h) f6 (fi.mod m6 fun h => h) (fn.mod m6 fun h => h) (fb'.mod m6 fun h => h) (fh.mod m6 fun h => h) (by simp only [List.nodup_cons, List.mem_cons, List.not_mem_nil, or_false, not_or, List.nodup_nil, not_false_eq_true, and_true]; omega) (by simp only [List.mem_cons, List.not_mem_nil, or_false]; intro k hk; omega)
            · skip
              unfold t27_46
              try simp only [go_sem, t1, t16, t19, t22, cb]
              refine mki_ hn ?_
              intro bn wn en fn mn sn
              have M := M.trans' mn
              have fh := fh.mod mn fun h => h
              have fb' := fb'.mod mn fun h => h
              have bk0 := bk0.mod mn fun h => h
              have cn := bk0.cell 0
              simp only [List.getElem?_cons_zero] at cn
              try simp only [go_sem, t1, t16, t19, t22, cn]
              refine mk_ ?_
              intro bi wi ei fi mi si
              have M := M.trans' mi
              have fh := fh.mod mi fun h => h
              have fb' := fb'.mod mi fun h => h
              have fn := fn.mod mi fun h => h
              have bk0 := bk0.mod mi fun h => h
              have ci := bk0.cell 0
              simp only [List.getElem?_cons_zero] at ci
              try simp only [go_sem, t1, t16, t19, t22, ci]
              refine ⟨by simp, by simp, by simp, by simp, by simp, ?_⟩; refine box_ (cs := [.slice va its.length vc, .map (some bi), .slice (some ⟨bn, 0, none⟩) its.length its.length, .slice (some ⟨bb, 0, none⟩) its.length its.length, .map (some bh)]) rfl ?_
              intro fb w6 e6 f6 m6 s6
              try simp only [go_sem]
              exact KK _ w6 bi bn bb bh fb t1 rfl (M.trans' m6) (bk0.mod m6 fun h => h) f6 (fi.mod m6 fun h => h) (fn.mod m6 fun h => h) (fb'.mod m6 fun h => h) (fh.mod m6 fun h => h) (by simp only [List.nodup_cons, List.mem_cons, List.not_mem_nil, or_false, not_or, List.nodup_nil, not_false_eq_true, and_true]; omega) (by simp only [List.mem_cons, List.not_mem_nil, or_false]; intro k hk; omega)
end
end Go.Proofs.Y

/- TH: thread: study, its loops. -/
namespace Go.Proofs.Y
open Go Go.HL Go.Proofs

theorem u49 : Try.prog.underlying 49 = some (.map 9 3) := by kernel_rfl
theorem u62 : Try.prog.underlying 62 = some (.map 9 60) := by kernel_rfl
theorem zi : ∀ w : World, (zeroValue 3).run Try.prog w = .ok (.int .i64 0) w := fun w => run_zero (by kernel_rfl)
theorem zs60 : ∀ w : World, (zeroValue 60).run Try.prog w = .ok (.slice none 0 0) w := fun w => run_zero (by kernel_rfl)
theorem z34 : (Try.prog.info? 34).bind (·.zero) = some (.agg #[str [], .int .i64 0, .slice none 0 0, str [], .bool false]) := by kernel_rfl
/-- a head, for a subject -/
def hdB (x : It) (b : Bytes) : Bool := (decide (x.rf.length = 0) && !x.reply) && decide (lowerB x.base = b)
def hdAt (its : List It) (b : Bytes) (i : Nat) : Bool := match its[i]? with | some x => hdB x b | none => false
def headsN (its : List It) (n : Nat) (b : Bytes) : List Nat := (List.range n).filter (hdAt its b)
theorem headsN_succ {its : List It} {i : Nat} (hi : i < its.length) (b : Bytes) : headsN its (i + 1) b = if hdB its[i] b = true then headsN its i b ++ [i] else headsN its i b := by
  unfold headsN
  rw [List.range_succ, List.filter_append]
  have : hdAt its b i = hdB its[i] b := by unfold hdAt; rw [List.getElem?_eq_getElem hi]
  cases h : hdB its[i] b <;> simp [this, h]
def idxOK (its : List It) (ks : List (Bytes × Value)) : Prop := ∀ id, getM id ks = (findI its id).map fun (i : Nat) => Value.int .i64 (i : Int)

section
variable {B : Nat} {w w' : World} {va : Option Addr} {vc : Nat} {its : List It} {rvs : List Value} {fb ib nb bb hb b0 : Nat} {ks : List (Bytes × Value)} {ne : List Int} {br : List Bool} {hs : List (Bytes × Value)} {F : Bytes → List Nat}
  {next : Value → World → Prop} {QP : List PanicEntry → World → Prop}
abbrev FoT (B : Nat) (w : World) (va : Option Addr) (vc : Nat) (its : List It) (rvs : List Value) (fb ib nb bb hb : Nat) (ks : List (Bytes × Value)) (ne : List Int) (br : List Bool) (hs : List (Bytes × Value)) (F : Bytes → List Nat) : Prop := Fo B w (.slice va its.length vc) its rvs fb ib nb bb hb ks ne br hs F
theorem Fo.setix {v : Value} {ks' : List (Bytes × Value)} (h : Fo B w v its rvs fb ib nb bb hb ks ne br hs F) (m : Mod (fun k => k = ib) w w') (hm : Mp w' ib ks') : Fo B w' v its rvs fb ib nb bb hb ks' ne br hs F := by
  have hd := h.diff
  simp only [List.nodup_cons, List.mem_cons, List.not_mem_nil, or_false, not_or] at hd
  obtain ⟨⟨d1, d2, d3, d4⟩, ⟨d5, d6, d7⟩, ⟨d8, d9⟩, d10, -⟩ := hd
  have hB := h.high ib (by simp)
  refine ⟨h.kp.mod m fun k hk => by have hk : k = ib := hk; omega, h.f.mod m d1, hm, h.nev.mod m (fun e => d5 e.symm), h.brv.mod m (fun e => d6 e.symm), h.hm.mod m (fun e => d7 e.symm) fun p hp k hk e => ?_, h.lne, h.lbr, h.diff, h.high, h.own⟩
  have e : k = ib := e
  exact h.own p hp k hk (by simp [e])
theorem Fo.setne {v : Value} {i : Nat} {z : Int} (h : Fo B w v its rvs fb ib nb bb hb ks ne br hs F) (m : Mod (fun k => k = nb) w w') (hm : Blk w' nb 3 ((ne.map fun z => Value.int .i64 z).set i (.int .i64 z))) : Fo B w' v its rvs fb ib nb bb hb ks (ne.set i z) br hs F := by
  have hd := h.diff
  simp only [List.nodup_cons, List.mem_cons, List.not_mem_nil, or_false, not_or] at hd
  obtain ⟨⟨d1, d2, d3, d4⟩, ⟨d5, d6, d7⟩, ⟨d8, d9⟩, d10, -⟩ := hd
  have hB := h.high nb (by simp)
  refine ⟨h.kp.mod m fun k hk => by have hk : k = nb := hk; omega, h.f.mod m d2, h.ix.mod m d5, by rw [List.map_set]; exact hm, h.brv.mod m (fun e => d8 e.symm), h.hm.mod m (fun e => d9 e.symm) fun p hp k hk e => ?_, by simpa using h.lne, h.lbr, h.diff, h.high, h.own⟩
  have e : k = nb := e
  exact h.own p hp k hk (by simp [e])

theorem lp1_ {τ : Env} {Q : HX → Env → World → Prop} (hd : dist its) (hF : FoT B w va vc its rvs fb ib nb bb hb [] ne br hs F) (bx : Blk w b0 22 [.slice va its.length vc]) (hb0 : b0 < B) (hn : its.length ≤ 1000000)
    (t1 : τ 1 = ptr b0) (t3 : τ 3 = ptr fb) (t27 : τ 27 = .slice va its.length vc) (t28 : τ 28 = .int .i64 its.length) (t29 : τ 29 = .int .i64 0)
    (k : ∀ σ w' ks', idxOK its ks' → FoT B w' va vc its rvs fb ib nb bb hb ks' ne br hs F → Blk w' b0 22 [.slice va its.length vc] → σ 1 = ptr b0 → σ 3 = ptr fb → Mod (fun k => B ≤ k) w w' → Q (.exit 0) σ w') : hloop (hw Try.prog noPanic h27_48) Q τ w := by
  refine loopN its.length (fun i τ w' => ∃ ks', τ 1 = ptr b0 ∧ τ 3 = ptr fb ∧ τ 27 = .slice va its.length vc ∧ τ 28 = .int .i64 its.length ∧ τ 29 = .int .i64 i ∧ idxOK (its.take i) ks' ∧ FoT B w' va vc its rvs fb ib nb bb hb ks' ne br hs F ∧ Blk w' b0 22 [.slice va its.length vc] ∧ Mod (fun k => B ≤ k) w w') ⟨0, by omega, [], t1, t3, t27, t28, t29, fun id => rfl, hF, bx, Mod.refl _ _⟩ ?_
  rintro i τ w1 hi ⟨ks', t1, t3, t27, t28, t29, hix, hF1, bx1, m1⟩
  unfold h27_48
  try simp only [go_sem, t1, t3, t27, t28, t29]
  refine ⟨fun hlt => ?_, fun hge => ?_⟩
  · have hil : i < its.length := by
      have := of_decide_eq_true hlt
      omega
    obtain ⟨g, o, rfl⟩ := hF1.kp.i.addr (by omega)
    obtain ⟨rv, hrv, ax⟩ := hF1.kp.i.at hil
    have x1 := ax.ln
    have x2 := ax.sm
    unfold h27_49
    try simp only [go_sem, t1, t3, t27, t28, t29, x1, x2]
    repeat refine ⟨⟨by omega, by omega⟩, ?_⟩
    refine alloc_ (cs := [str [], .int .i64 0, .slice none 0 0, str [], .bool false]) z34 rfl ?_
    intro b5 w2 hb5 bk2 m2 s2
    try simp only [go_sem, t1, t3, t27, t28, t29]
    refine storeN (vs := its[i].cells rv) sz34 rfl bk2 (by simp) (by intro u hu; simp [It.cells] at hu; rcases hu with rfl | rfl | rfl | rfl | rfl <;> first | rfl | (obtain ⟨a, c, e, -⟩ := hrv.form; rw [e]; rfl)) ?_
    intro w3 bk3 m3 s3
    have m13 : Mod none' w1 w3 := m2.trans m3 fun x hx e => by
      have e : x = b5 := e
      omega
    have bk3 : Blk w3 b5 34 (its[i].cells rv) := by simpa [It.cells] using bk3
    have a3 := ItAt.blk bk3
    have hF3 := hF1.up m13
    have f1 := hF3.f.cell 1
    have d0 := a3.c0
    simp only [List.getElem?_cons_zero, List.getElem?_cons_succ] at f1
    try simp only [go_sem, t1, t3, t27, t28, t29, f1, d0]
    refine mapupd_ u49 u9 (hF3.ix.mod (Mod.drew none' _) (fun h => h)) ?_
    intro w4 mp4 m4 s4
    have hF4 := (hF3.up (Mod.drew none' _)).setix m4 mp4
    have m14 : Mod (fun k => B ≤ k) w1 w4 := (m13.up.trans' (Mod.drew _ _)).trans' (m4.mono fun x _ e => by
      have e : x = ib := e
      have := hF.high ib (by simp)
      omega)
    have bx4 := bx1.mod m14 (by omega)
    have mm := m1.trans' m14
    have hix4 : idxOK (its.take (i + 1)) (putM its[i].id (.int .i64 i) ks') := by
      intro id
      rw [getM_put, findI_take hd hil, hix id]
      by_cases e : its[i].id = id <;> simp [e]
    unfold h27_50
    try simp only [go_sem, t1, t3, t27, t28, t29]
    rw [w64 (by omega) (by omega)]
    refine ⟨i + 1, by omega, by omega, putM its[i].id (.int .i64 i) ks', ?_⟩
    (repeat' first | assumption | rfl | omega | apply And.intro)
  · have hil : i = its.length := by
      have := of_decide_eq_false hge
      omega
    subst hil
    rw [List.take_length] at hix
    try simp only [go_sem]
    exact k _ w1 ks' hix hF1 bx1 t1 t3 m1

theorem lp2in_ {τ : Env} {Q : HX → Env → World → Prop} {l : List Bytes} {ra : Option Addr} {rc i : Nat} {ne0 : List Int} {s4 : Value} {s8 : Value}
    (hF : FoT B w va vc its rvs fb ib nb bb hb ks (ne0.set i (-1)) br hs F) (hix : idxOK its ks) (hi : i < its.length) (hl0 : ne0.length = its.length)
    (sl : Sl w (.slice ra l.length rc) 1 l.length (l.map str)) (hrf : ∀ k, (Value.slice ra l.length rc).ownBlock = some k → k ≠ nb) (hln : l.length ≤ 1000000000) (hn : its.length ≤ 1000000)
    (t1 : τ 1 = ptr b0) (t3 : τ 3 = ptr fb) (t6 : τ 6 = .int .i64 i) (t7 : τ 7 = s4) (t8 : τ 8 = s8) (t42 : τ 42 = .slice va its.length vc) (t43 : τ 43 = .int .i64 its.length) (t44 : τ 44 = .int .i64 i) (t57 : τ 57 = .slice ra l.length rc) (t58 : τ 58 = .int .i64 l.length) (t59 : τ 59 = .int .i64 0)
    (k : ∀ σ w', FoT B w' va vc its rvs fb ib nb bb hb ks (ne0.set i (oi (nearL its l))) br hs F → σ 1 = ptr b0 → σ 3 = ptr fb → σ 6 = .int .i64 i → σ 7 = s4 → σ 8 = s8 → σ 42 = .slice va its.length vc → σ 43 = .int .i64 its.length → σ 44 = .int .i64 i → Mod (fun k => k = nb) w w' → Q (.exit 4) σ w') : hloop (hw Try.prog noPanic h27_55) Q τ w := by
  refine loopN l.length (fun j τ w' => τ 1 = ptr b0 ∧ τ 3 = ptr fb ∧ τ 6 = .int .i64 i ∧ τ 7 = s4 ∧ τ 8 = s8 ∧ τ 42 = .slice va its.length vc ∧ τ 43 = .int .i64 its.length ∧ τ 44 = .int .i64 i ∧ τ 57 = .slice ra l.length rc ∧ τ 58 = .int .i64 l.length ∧ τ 59 = .int .i64 j ∧ FoT B w' va vc its rvs fb ib nb bb hb ks (ne0.set i (oi (nearL its (l.take j)))) br hs F ∧ Mod (fun k => k = nb) w w') ⟨0, by omega, t1, t3, t6, t7, t8, t42, t43, t44, t57, t58, t59, hF, Mod.refl _ _⟩ ?_
  rintro j τ w1 hj ⟨t1, t3, t6, t7, t8, t42, t43, t44, t57, t58, t59, hF1, m1⟩
  unfold h27_55
  try simp only [go_sem, t1, t3, t6, t7, t8, t57, t58, t59]
  refine ⟨fun hlt => ?_, fun hge => ?_⟩
  · have hjl : j < l.length := by
      have := of_decide_eq_true hlt
      omega
    obtain ⟨-, a, c, e, -, hcell⟩ := sl
    simp only [Value.slice.injEq] at e
    obtain ⟨rfl, -, rfl⟩ := e
    obtain ⟨g, o, rfl, hce⟩ := hcell (by omega)
    have hc : w1.cell? ⟨g, o + j, none⟩ = some (str l[j]) := by
      refine m1.cell ?_ (fun e => hrf g rfl e)
      rw [hce j (by omega)]; simp [hjl]
    have f1 := hF1.f.cell 1
    have f2 := hF1.f.cell 2
    simp only [List.getElem?_cons_zero, List.getElem?_cons_succ] at f1 f2
    unfold h27_56
    try simp only [go_sem, t1, t3, t6, t7, t8, t57, t58, t59, hc, f1]
    repeat refine ⟨⟨by omega, by omega⟩, ?_⟩
    refine lookup_ u49 u9 zi hF1.ix ?_
    have hnl : nearL its (l.take (j + 1)) = (findI its l[j]).or (nearL its (l.take j)) := by
      rw [List.take_succ_eq_append_getElem hjl, nearL_snoc]
    have hw : IntKind.i64.wrap ((j : Int) + 1) = ((j + 1 : Nat) : Int) := by rw [w64 (by omega) (by omega)]; omega
    try simp only [go_sem, hix l[j]]
    cases hf : findI its l[j] with
    | none =>
      rw [hf] at hnl
      have hnl : nearL its (l.take (j + 1)) = nearL its (l.take j) := hnl
      try simp only [go_sem, t1, t3, t6, t7, t8, t57, t58, t59, Option.map_none, Option.isSome_none]
      unfold h27_57
      try simp only [go_sem, t1, t3, t6, t7, t8, t42, t43, t44, t57, t58, t59, hw]
      rw [← hnl] at hF1
      refine ⟨j + 1, by omega, by omega, ?_⟩
      (repeat' first | assumption | rfl | omega | apply And.intro)
    | some q =>
      rw [hf] at hnl
      have hnl : nearL its (l.take (j + 1)) = some q := hnl
      try simp only [go_sem, t1, t3, t6, t7, t8, t57, t58, t59, f2, Option.map_some]
      repeat refine ⟨⟨by omega, by omega⟩, ?_⟩
      refine store1 sz3 hF1.nev (by simp [hl0, hi]) rfl ?_
      intro w2 bk2 m2 s2
      have hF2 := hF1.setne m2 bk2
      rw [List.set_set, show (q : Int) = oi (some q) from rfl, ← hnl] at hF2
      have mm := m1.trans' m2
      unfold h27_57
      try simp only [go_sem, t1, t3, t6, t7, t8, t42, t43, t44, t57, t58, t59, hw]
      refine ⟨j + 1, by omega, by omega, ?_⟩
      (repeat' first | assumption | rfl | omega | apply And.intro)
  · have hjl : j = l.length := by
      have := of_decide_eq_false hge
      omega
    subst hjl
    rw [List.take_length] at hF1
    try simp only [go_sem]
    exact k _ w1 hF1 t1 t3 t6 t7 t8 t42 t43 t44 m1
end
end Go.Proofs.Y

/- TI: thread: study, its second loop. -/
namespace Go.Proofs.Y
open Go Go.HL Go.Proofs

section
variable {B : Nat} {w w' : World} {va : Option Addr} {vc : Nat} {its : List It} {rvs : List Value} {fb ib nb bb hb b0 : Nat} {ks : List (Bytes × Value)} {ne : List Int} {br : List Bool} {hs : List (Bytes × Value)} {F : Bytes → List Nat}
  {next : Value → World → Prop} {QP : List PanicEntry → World → Prop}
/-- the items that the second loop asks for -/
def szI (its : List It) : Prop := ∀ x ∈ its, x.refs.length ≤ 1000000 ∧ x.base.length ≤ 1000000000

theorem Fo.setm {v v' v'' : Value} {F' : Bytes → List Nat} {b : Bytes} {i : Nat} {l : List Nat} {w1 w2 : World} (h : Fo B w v its rvs fb ib nb bb hb ks ne br hs F) (hv : v' = (getM b hs).getD (.slice none 0 0)) (hl : l.Perm (F b))
    (own : HL.Own w1 v'' 3 1 (l.length + 1) (ints (l ++ [i]))) (m1 : Mod (ownS v') w w1) (hf : ∀ k, v''.ownBlock = some k → v'.ownBlock = some k ∨ w.heap.size ≤ k) (mp : Mp w2 hb (putM b v'' hs)) (m2 : Mod (fun k => k = hb) w1 w2)
    (hF' : F' = fun c => if c = b then F b ++ [i] else F c) :
    Fo B w2 v its rvs fb ib nb bb hb ks ne br (putM b v'' hs) F' ∧ Mod (fun k => B ≤ k) w w2 := by
  have hd := h.diff
  simp only [List.nodup_cons, List.mem_cons, List.not_mem_nil, or_false, not_or] at hd
  obtain ⟨⟨d1, d2, d3, d4⟩, ⟨d5, d6, d7⟩, ⟨d8, d9⟩, d10, -⟩ := hd
  obtain ⟨l0, -, own0, hfr⟩ := h.hm.look b
  rw [← hv] at own0 hfr
  -- the old row's block is none of the forest's own
  have hno : ∀ k, v'.ownBlock = some k → k ∉ [fb, ib, nb, bb, hb] := by
    intro k hk
    cases hg : getM b hs with
    | none => rw [hv, hg] at hk; cases hk
    | some u =>
      rw [hv, hg] at hk
      exact h.own _ (getM_mem hg) k hk
  have m12 : Mod (fun k => ownS v' k ∨ k = hb) w w2 := (m1.mono fun _ _ h => .inl h).trans' (m2.mono fun _ _ h => .inr h)
  have hne : ∀ k ∈ [fb, ib, nb, bb], ¬ (ownS v' k ∨ k = hb) := by
    intro k hk hor
    rcases hor with h1 | h1
    · refine hno k h1 ?_
      simp only [List.mem_cons, List.not_mem_nil, or_false] at hk ⊢
      rcases hk with h | h | h | h <;> simp [h]
    · simp only [List.mem_cons, List.not_mem_nil, or_false] at hk
      rcases hk with rfl | rfl | rfl | rfl
      · exact d4 h1
      · exact d7 h1
      · exact d9 h1
      · exact d10 h1
  have hBk : ∀ k, (ownS v' k ∨ k = hb) → B ≤ k := by
    rintro k (h1 | h1)
    · exact (hfr k h1).1
    · have := h.high hb (by simp); omega
  have hhm := h.hm.put (x := i) h.hm.mp.lt hv hl h.kp.base (by rw [ints_rows]; exact own) m1 hf mp m2
  rw [← hF'] at hhm
  refine ⟨⟨h.kp.mod m12 hBk, h.f.mod m12 (hne _ (by simp)), h.ix.mod m12 (hne _ (by simp)), h.nev.mod m12 (hne _ (by simp)), h.brv.mod m12 (hne _ (by simp)), hhm, h.lne, h.lbr, h.diff, h.high, fun p hp k hk hm => ?_⟩, m12.mono fun k _ hk => hBk k hk⟩
  -- whose block
  have hg := mem_get hhm.keys hp
  rw [getM_put] at hg
  by_cases e : b = p.1
  · rw [if_pos e] at hg
    obtain rfl := Option.some.inj hg
    rcases hf k hk with h1 | h1
    · exact hno k h1 hm
    · have := h.lt k hm; omega
  · rw [if_neg e] at hg
    exact h.own _ (getM_mem hg) k hk hm

theorem Fo.rowno {v : Value} {b : Bytes} {k : Nat} (h : Fo B w v its rvs fb ib nb bb hb ks ne br hs F) (hk : ((getM b hs).getD (.slice none 0 0)).ownBlock = some k) : k ∉ [fb, ib, nb, bb, hb] := by
  cases hg : getM b hs with
  | none => rw [hg] at hk; cases hk
  | some u =>
    rw [hg] at hk
    exact h.own _ (getM_mem hg) k hk
theorem headsF_step {i : Nat} (hi : i < its.length) {b : Bytes} (h : b = lowerB its[i].base) (hh : its[i].rf.length = 0 ∧ its[i].reply = false) : headsN its (i + 1) = fun c => if c = b then headsN its i b ++ [i] else headsN its i c := by
  funext c
  rw [headsN_succ hi]
  unfold hdB
  rw [hh.1, hh.2]
  by_cases e : c = b
  · subst e; simp [h]
  · have : ¬ lowerB its[i].base = c := fun e2 => e (by rw [h, e2])
    simp [e, this]
theorem headsF_stay {i : Nat} (hi : i < its.length) (hh : ¬ (its[i].rf.length = 0 ∧ its[i].reply = false)) : headsN its (i + 1) = headsN its i := by
  funext c
  rw [headsN_succ hi]
  have : hdB its[i] c = false := by
    unfold hdB
    by_cases h0 : its[i].rf.length = 0
    · cases hr : its[i].reply
      · exact absurd ⟨h0, hr⟩ hh
      · simp
    · simp [h0]
  rw [if_neg (by rw [this]; simp)]

/-- behind the inner loop -/
theorem lp2b_ {τ : Env} {Q : HX → Env → World → Prop} {rv : Value} {i b7 : Nat} {ra : Option Addr} {rc : Nat} (hF : FoT B w va vc its rvs fb ib nb bb hb ks ne br hs (headsN its i)) (hi : i < its.length) (hz : szI its) (hn : its.length ≤ 1000000)
    (bk : Blk w b7 34 (its[i].cells rv))
    (t1 : τ 1 = ptr b0) (t3 : τ 3 = ptr fb) (t6 : τ 6 = .int .i64 i) (t7 : τ 7 = ptr b7) (t8 : τ 8 = .slice ra its[i].rf.length rc) (t42 : τ 42 = .slice va its.length vc) (t43 : τ 43 = .int .i64 its.length) (t44 : τ 44 = .int .i64 i)
    (k : ∀ σ w' hs', FoT B w' va vc its rvs fb ib nb bb hb ks ne br hs' (headsN its (i + 1)) → σ 1 = ptr b0 → σ 3 = ptr fb → σ 42 = .slice va its.length vc → σ 43 = .int .i64 its.length → σ 44 = .int .i64 i → Mod (fun k => B ≤ k) w w' → Q .normal σ w') : hw Try.prog noPanic h27_58 Q τ w := by
  have ax := ItAt.blk bk
  have a3 := ax.c3
  have a4 := ax.c4
  obtain ⟨z1, z2⟩ := hz _ (List.getElem_mem hi)
  unfold h27_58
  try simp only [go_sem, t1, t3, t6, t7, t8, a3, a4]
  by_cases h0 : its[i].rf.length = 0
  · have e0 : decide ((its[i].rf.length : Int) = 0) = true := by simpa using h0
    try simp only [go_sem, e0]
    refine ⟨fun hr => ?_, fun hr => ?_⟩
    · have hr : its[i].reply = false := by simpa using hr
      refine low_ _ z2 ?_
      intro w1 m1
      have hF1 := hF.up m1
      have f4 := hF1.f.cell 4
      simp only [List.getElem?_cons_zero, List.getElem?_cons_succ] at f4
      try simp only [go_sem, t1, t3, t6, t7, t8, f4]
      have hF2 : FoT B w1.drew va vc its rvs fb ib nb bb hb ks ne br hs (headsN its i) := hF1.up (Mod.drew _ _)
      have f4' : w1.drew.cell? ⟨fb, 4, none⟩ = some (.map (some hb)) := f4
      obtain ⟨l, hl, ownl, -⟩ := hF2.hm.look (lowerB its[i].base)
      rw [ints_rows] at ownl
      have hlen : l.length ≤ 1000000 := by
        rw [hl.length_eq]
        unfold headsN
        exact Nat.le_trans (List.length_filter_le _ _) (by simp; omega)
      -- whatever comes first: the row, longer by one
      have fin : ∀ (σ : Env) (v'' : Value) (w5 : World) (w4 : World), Mod none' w1.drew w4 → σ 1 = ptr b0 → σ 3 = ptr fb → σ 42 = .slice va its.length vc → σ 43 = .int .i64 its.length → σ 44 = .int .i64 i →
          HL.Own w5 v'' 3 1 (l.length + 1) (ints (l ++ [i])) → Mod (ownS ((getM (lowerB its[i].base) hs).getD (.slice none 0 0))) w4 w5 → (∀ k, v''.ownBlock = some k → ((getM (lowerB its[i].base) hs).getD (.slice none 0 0)).ownBlock = some k ∨ w4.heap.size ≤ k) →
          mapupdK Try.prog 62 (.map (some hb)) (str (lowerB its[i].base)) v'' w5 (fun v w' => Q .normal σ w') noPanic := by
        intro σ v'' w5 w4 m4 s1 s3 s42 s43 s44 own5 m5 hf5
        have hF4 := hF2.up m4
        refine mapupd_ u62 u9 (hF4.hm.mp.mod m5 fun hk => ?_) ?_
        · obtain ⟨l0, -, -, hfr⟩ := hF4.hm.look (lowerB its[i].base)
          exact (hfr hb hk).2.1 rfl
        · intro w6 mp6 m6 s6
          obtain ⟨hF6, mm⟩ := hF4.setm (F' := headsN its (i + 1)) rfl hl own5 m5 hf5 mp6 m6 (headsF_step hi rfl ⟨h0, hr⟩)
          exact k σ w6 _ hF6 s1 s3 s42 s43 s44 (((m1.trans' (Mod.drew _ _)).trans' m4).up.trans' mm)
      refine ⟨?_, ?_⟩
      · unfold t27_59
        try simp only [go_sem, t1, t3, t6, t7, t8, f4']
        refine lookup1_ u62 u9 zs60 hF2.hm.mp ?_
        try simp only [go_sem, t1, t3, t6, t7, t8, f4']
        refine bsl1 (cs := [.int .i64 i]) sl60 rfl rfl (by omega) ?_
        intro b4 w4 hb4 own4 bk4 m4 s4
        have f4'' : w4.cell? ⟨fb, 4, none⟩ = some (.map (some hb)) := m4.cell f4' fun h => h
        try simp only [go_sem, t1, t3, t6, t7, t8, f4'']
        refine append_ sl60 (ownl.mod m4 fun _ _ h => h) own4.sl (by intro u hu; rw [List.mem_singleton.1 hu]; rfl) (by omega) (by unfold maxLen; omega) ?_
        intro v5 w5 own5 m5 hf5 _
        have f5 : w5.cell? ⟨fb, 4, none⟩ = some (.map (some hb)) := m5.cell f4'' fun hk => hF2.rowno hk (by simp)
        try simp only [go_sem, t1, t3, t6, t7, t8, f5]
        have own5' : HL.Own w5 v5 3 1 (l.length + 1) (ints (l ++ [i])) := by
          unfold ints at own5 ⊢
          rw [List.map_append]; exact own5
        exact fin _ v5 w5 w4 m4 t1 t3 t42 t43 t44 own5' m5 hf5
      · unfold t27_60
        try simp only [go_sem, t1, t3, t6, t7, t8, f4']
        refine bsl1 (cs := [.int .i64 i]) sl60 rfl rfl (by omega) ?_
        intro b4 w4 hb4 own4 bk4 m4 s4
        have f4'' : w4.cell? ⟨fb, 4, none⟩ = some (.map (some hb)) := m4.cell f4' fun h => h
        try simp only [go_sem, t1, t3, t6, t7, t8, f4'']
        refine lookup1_ u62 u9 zs60 (hF2.hm.mp.mod m4 fun h => h) ?_
        try simp only [go_sem, t1, t3, t6, t7, t8, f4'']
        refine append_ sl60 (ownl.mod m4 fun _ _ h => h) own4.sl (by intro u hu; rw [List.mem_singleton.1 hu]; rfl) (by omega) (by unfold maxLen; omega) ?_
        intro v5 w5 own5 m5 hf5 _
        have f5 : w5.cell? ⟨fb, 4, none⟩ = some (.map (some hb)) := m5.cell f4'' fun hk => hF2.rowno hk (by simp)
        try simp only [go_sem, t1, t3, t6, t7, t8, f5]
        have own5' : HL.Own w5 v5 3 1 (l.length + 1) (ints (l ++ [i])) := by
          unfold ints at own5 ⊢
          rw [List.map_append]; exact own5
        exact fin _ v5 w5 w4 m4 t1 t3 t42 t43 t44 own5' m5 hf5
    · have hr : its[i].reply = true := by simpa using hr
      try simp only [go_sem]
      refine k _ w hs ?_ t1 t3 t42 t43 t44 (Mod.refl _ _)
      rw [headsF_stay hi (by rw [hr]; simp)]; exact hF
  · have e0 : decide ((its[i].rf.length : Int) = 0) = false := by simpa using h0
    try simp only [go_sem, e0]
    refine k _ w hs ?_ t1 t3 t42 t43 t44 (Mod.refl _ _)
    rw [headsF_stay hi (fun h => h0 h.1)]; exact hF

theorem lp2_ {τ : Env} {Q : HX → Env → World → Prop} (hF : FoT B w va vc its rvs fb ib nb bb hb ks (List.replicate its.length 0) br hs (headsN its 0)) (bx : Blk w b0 22 [.slice va its.length vc]) (hb0 : b0 < B) (hix : idxOK its ks) (hz : szI its) (hn : its.length ≤ 1000000)
    (t1 : τ 1 = ptr b0) (t3 : τ 3 = ptr fb) (t42 : τ 42 = .slice va its.length vc) (t43 : τ 43 = .int .i64 its.length) (t44 : τ 44 = .int .i64 0)
    (k : ∀ σ w' ne' hs', (∀ x, x < its.length → ne'[x]? = some (oi (nearI its x))) → FoT B w' va vc its rvs fb ib nb bb hb ks ne' br hs' (headsN its its.length) → Blk w' b0 22 [.slice va its.length vc] → σ 1 = ptr b0 → σ 3 = ptr fb → Mod (fun k => B ≤ k) w w' → Q (.exit 2) σ w') : hloop (hw Try.prog noPanic h27_52) Q τ w := by
  refine loopN its.length (fun i τ w' => ∃ ne' hs', τ 1 = ptr b0 ∧ τ 3 = ptr fb ∧ τ 42 = .slice va its.length vc ∧ τ 43 = .int .i64 its.length ∧ τ 44 = .int .i64 i ∧ (∀ x, x < i → ne'[x]? = some (oi (nearI its x))) ∧ FoT B w' va vc its rvs fb ib nb bb hb ks ne' br hs' (headsN its i) ∧ Blk w' b0 22 [.slice va its.length vc] ∧ Mod (fun k => B ≤ k) w w') ⟨0, by omega, _, hs, t1, t3, t42, t43, t44, fun x hx => by omega, hF, bx, Mod.refl _ _⟩ ?_
  rintro i τ w1 hi ⟨ne', hs', t1, t3, t42, t43, t44, hne, hF1, bx1, m1⟩
  unfold h27_52
  try simp only [go_sem, t1, t3, t42, t43, t44]
  refine ⟨fun hlt => ?_, fun hge => ?_⟩
  · have hil : i < its.length := by
      have := of_decide_eq_true hlt
      omega
    obtain ⟨z1, z2⟩ := hz _ (List.getElem_mem hil)
    obtain ⟨g, o, rfl⟩ := hF1.kp.i.addr (by omega)
    obtain ⟨rv, hrv, ax⟩ := hF1.kp.i.at hil
    have x1 := ax.ln
    have x2 := ax.sm
    unfold h27_53
    try simp only [go_sem, t1, t3, t42, t43, t44, x1, x2]
    repeat refine ⟨⟨by omega, by omega⟩, ?_⟩
    refine alloc_ (cs := [str [], .int .i64 0, .slice none 0 0, str [], .bool false]) z34 rfl ?_
    intro b7 w2 hb7 bk2 m2 s2
    try simp only [go_sem, t1, t3, t42, t43, t44]
    refine storeN (vs := its[i].cells rv) sz34 rfl bk2 (by simp) (by intro u hu; simp [It.cells] at hu; rcases hu with rfl | rfl | rfl | rfl | rfl <;> first | rfl | (obtain ⟨a, c, e, -⟩ := hrv.form; rw [e]; rfl)) ?_
    intro w3 bk3 m3 s3
    have m13 : Mod none' w1 w3 := m2.trans m3 fun x hx e => by
      have e : x = b7 := e
      omega
    have bk3 : Blk w3 b7 34 (its[i].cells rv) := by simpa [It.cells] using bk3
    have hF3 := hF1.up m13
    have f2 := hF3.f.cell 2
    simp only [List.getElem?_cons_zero, List.getElem?_cons_succ] at f2
    try simp only [go_sem, t1, t3, t42, t43, t44, f2]
    repeat refine ⟨⟨by omega, by omega⟩, ?_⟩
    refine store1 sz3 hF3.nev (by simp [hF3.lne, hil]) rfl ?_
    intro w4 bk4 m4 s4
    have hF4 := hF3.setne m4 bk4
    have hb7n : b7 ≠ nb := fun e => by
      have := hF1.lt nb (by simp)
      omega
    have bk7 := bk3.mod m4 hb7n
    have a4 := ItAt.blk bk7
    have y1 := a4.ln
    have y2 := a4.sm0
    have hnbB : B ≤ nb := hF.high nb (by simp)
    have m14 : Mod (fun k => B ≤ k) w1 w4 := (m13.up (S := fun k => B ≤ k)).trans' (m4.mono fun x _ e => by
      have e : x = nb := e
      omega)
    have hrv4 : Sl w4 rv 1 its[i].refs.length (its[i].refs.map str) := by
      obtain ⟨g', o', e1⟩ : ∃ g' o', (some (⟨g, o, none⟩ : Addr)) = some (⟨g', o', none⟩ : Addr) := ⟨g, o, rfl⟩
      have h2 := (hF4.kp.i.at hil)
      obtain ⟨rv', hrv', ax'⟩ := h2
      have e2 := ax'.c2
      have e3 := ax.c2
      have e4 := m14.cell e3 (fun hk => by
        have := hF1.kp.low (by omega) g rfl
        have hk : B ≤ g := hk
        omega)
      rw [e4] at e2
      obtain rfl := Option.some.inj e2
      exact hrv'
    try simp only [go_sem, t1, t3, t42, t43, t44, y1, y2]
    refine refs_ hrv4 (by omega) ?_
    intro v5 w5 sl5 hf5 m5
    obtain ⟨ra, rc, rfl, -, -⟩ := sl5.form
    have hF5 := hF4.up m5
    have bk5 := bk7.mod m5 fun h => h
    try simp only [go_sem, t1, t3, t42, t43, t44]
    unfold h27_54
    try simp only [go_sem, t1, t3, t42, t43, t44]
    refine lp2in_ (ne0 := ne') (l := its[i].rf) (i := i) hF5 hix hil hF1.lne sl5 (fun k hk e => by
      have := hf5 k hk
      have := hF4.lt nb (by simp)
      omega) (by
        have := List.length_filter_le (fun r => !delB its[i] r) its[i].refs
        unfold It.rf
        omega) hn t1 t3 rfl rfl rfl t42 t43 t44 rfl rfl rfl ?_
    intro σ w6 hF6 t1 t3 t6 t7 t8 t42 t43 t44 m6
    have bk6 := bk5.mod m6 hb7n
    try simp only [go_sem]
    refine lp2b_ (i := i) hF6 hil hz hn bk6 t1 t3 t6 t7 t8 t42 t43 t44 ?_
    intro σ w7 hs7 hF7 t1 t3 t42 t43 t44 m7
    have mm : Mod (fun k => B ≤ k) w w7 := (((m1.trans' m14).trans' m5.up).trans' (m6.mono fun x _ e => by
      have e : x = nb := e
      omega)).trans' m7
    have bx7 := bx.mod mm (by omega)
    have hne7 : ∀ x, x < i + 1 → (ne'.set i (oi (nearL its its[i].rf)))[x]? = some (oi (nearI its x)) := by
      intro x hx
      rw [List.getElem?_set]
      by_cases e : i = x
      · subst e
        rw [if_pos rfl, if_pos (by rw [hF1.lne]; exact hil)]
        unfold nearI
        rw [List.getElem?_eq_getElem hil]; rfl
      · rw [if_neg e]; exact hne x (by omega)
    try simp only [go_sem]
    unfold h27_61
    try simp only [go_sem, t1, t3, t42, t43, t44]
    rw [w64 (by omega) (by omega)]
    refine ⟨i + 1, by omega, by omega, ne'.set i (oi (nearL its its[i].rf)), hs7, ?_⟩
    (repeat' first | assumption | rfl | omega | apply And.intro)
  · have hil : i = its.length := by
      have := of_decide_eq_false hge
      omega
    subst hil
    try simp only [go_sem]
    exact k _ w1 ne' hs' hne hF1 bx1 t1 t3 m1
end
end Go.Proofs.Y
