/- TMc: thread: Root, find. -/
import Derived.Test.YthenjelndjlnfaaTB
import Derived.Test.YthenjelndjlnfaaTR
set_option linter.unusedSimpArgs false
set_option linter.unusedVariables false
set_option maxRecDepth 100000
namespace Go.Proofs.Y
open Go Go.HL Go.Proofs

section
variable {w w' : World} {its : List It} {rvs : List Value} {next : Value → World → Prop} {QP : List PanicEntry → World → Prop}

theorem Root_ {v : Value} {c : Bytes} (hd : dist its) (hne : ne0 its) (hK : Its w v its rvs) (hz : szI its) (hn : its.length ≤ 1000000) (k : ∀ w', Mod none' w w' → next (str (rootB its c)) w') : callvK Try.prog (.func (.func 22) #[] #[]) [v, str c] w next QP := by
  refine r22 rfl ?_
  obtain ⟨va, vc, rfl, -, -⟩ := hK.sl.form
  unfold h22
  try simp only [go_sem]
  refine study_ hd hK hz hn ?_
  intro fb w1 hS m1
  obtain ⟨B, ib, nb, bb, hb, ks, ne, br, hs, hF, hix, hne', hbr, hsr⟩ := hS.ex
  have f1 := hF.f.cell 1
  simp only [List.getElem?_cons_zero, List.getElem?_cons_succ] at f1
  try simp only [go_sem, f1]
  refine lookup_ u49 u9 zi hF.ix ?_
  rw [hix c]
  cases hf : findI its c with
  | none =>
    have hroot : rootB its c = if c ∈ ghL its its.length then c else [] := by unfold rootB; rw [hf]
    try simp only [go_sem, Option.map_none, Option.isSome_none]
    refine loopN its.length (fun i τ w' => τ 0 = .slice va its.length vc ∧ τ 1 = str c ∧ τ 5 = ptr fb ∧ τ 27 = .int .i64 its.length ∧ τ 28 = .int .i64 i ∧ (∀ x, x < i → ¬ (gh its x ≠ [] ∧ gh its x = c)) ∧ Mod none' w1 w') ⟨0, by omega, rfl, rfl, rfl, rfl, rfl, fun x hx => by omega, Mod.refl _ _⟩ ?_
    rintro i τ w2 hi ⟨t0, t1, t5, t27, t28, hno, m2⟩
    unfold h22_1
    try simp only [go_sem, t0, t1, t5, t27, t28]
    refine ⟨fun hlt => ?_, fun hge => ?_⟩
    · have hil : i < its.length := by
        have := of_decide_eq_true hlt
        omega
      unfold h22_2
      try simp only [go_sem, t0, t1, t5, t27, t28]
      refine par_ hd (hS.up m2) hil hz hn ?_
      intro w3 m3
      unfold parV
      have e1 : (parI its i).2 = gh its i := rfl
      try simp only [go_sem, t0, t1, t5, t27, t28, e1]
      refine ⟨fun hc => ?_, fun hc => ?_⟩
      · have hg : gh its i ≠ [] ∧ gh its i = c := by
          by_cases h1 : gh its i = [] <;> simp [h1] at hc ⊢
          exact hc
        have := k w3 ((m1.trans' m2).trans' m3)
        rw [hroot, if_pos ((ghL_mem its _ _).2 ⟨by rw [← hg.2]; exact hg.1, i, hil, hg.2⟩)] at this
        exact this
      · have hg : ¬ (gh its i ≠ [] ∧ gh its i = c) := by
          rintro ⟨h1, h2⟩
          simp [h1, h2] at hc
          exact h1 (h2.trans hc)
        unfold h22_3
        try simp only [go_sem, t0, t1, t5, t27, t28]
        rw [w64 (by omega) (by omega)]
        have h4 : ∀ x, x < i + 1 → ¬ (gh its x ≠ [] ∧ gh its x = c) := by
          intro x hx
          by_cases e : x = i
          · subst e; exact hg
          · exact hno x (by omega)
        have m23 := m2.trans' m3
        refine ⟨i + 1, by omega, by omega, ?_⟩
        (repeat' first | assumption | rfl | omega | apply And.intro)
    · have hil : i = its.length := by
        have := of_decide_eq_false hge
        omega
      subst hil
      unfold h22_4
      try simp only [go_sem]
      have := k w2 (m1.trans' m2)
      rw [hroot, if_neg (fun h => by
        obtain ⟨h1, x, h2, h3⟩ := (ghL_mem its _ _).1 h
        exact hno x h2 ⟨by rw [h3]; exact h1, h3⟩)] at this
      exact this
  | some i0 =>
    obtain ⟨hil0, hid⟩ := findI_idAt hf
    have hroot : rootB its c = rootI its its.length i0 := by unfold rootB; rw [hf]
    try simp only [go_sem, Option.map_some, Option.isSome_some]
    unfold h22_5
    try simp only [go_sem]
    refine loopN its.length (fun m τ w' => τ 0 = .slice va its.length vc ∧ τ 5 = ptr fb ∧ (∃ j : Nat, j < its.length ∧ τ 6 = .int .i64 j ∧ rootB its c = rootI its (its.length - m) j ∧ itr (upI its) (its.length - m) j = none) ∧ Mod none' w1 w') ⟨0, by omega, rfl, rfl, ⟨i0, hil0, rfl, hroot, up_ends hd hil0⟩, Mod.refl _ _⟩ ?_
    rintro m τ w2 hm ⟨t0, t5, ⟨j, hj, t6, hr, hit⟩, m2⟩
    obtain ⟨f, hfm⟩ : ∃ f, its.length - m = f + 1 := by
      cases hlm : its.length - m with
      | zero => rw [hlm] at hit; simp [itr] at hit
      | succ f => exact ⟨f, rfl⟩
    rw [hfm] at hr hit
    rw [itr_succ] at hit
    unfold rootI at hr
    have hu : upI its j = (parI its j).1 := by unfold upI; rw [if_pos hj]
    rw [hu] at hit
    unfold h22_6
    try simp only [go_sem, t0, t5, t6]
    refine par_ hd (hS.up m2) hj hz hn ?_
    intro w3 m3
    unfold parV
    have e1 : (parI its j).2 = gh its j := rfl
    have m23 := m2.trans' m3
    have m13 := m1.trans' m23
    try simp only [go_sem, t0, t5, t6, e1]
    refine ⟨fun hc => ?_, fun hc => ?_⟩
    · have hg : gh its j ≠ [] := by simpa using hc
      rw [if_pos hg] at hr
      have := k w3 m13
      rw [hr] at this
      exact this
    · have hg : ¬ gh its j ≠ [] := by simpa using hc
      rw [if_neg hg] at hr
      try simp only [go_sem, t0, t5, t6, e1]
      refine ⟨fun hc => ?_, fun hc => ?_⟩
      · cases hp : (parI its j).1 with
        | some q =>
          rw [hp] at hc
          have hc : (q : Int) < 0 := of_decide_eq_true hc
          omega
        | none =>
          rw [hp] at hr
          obtain ⟨g, o, rfl⟩ := hK.addr (by omega)
          obtain ⟨rv, -, ax⟩ := ((hK.up m1).up m23).at hj
          have x0 := ax.c0
          try simp only [go_sem, t0, t5, t6, x0]
          repeat refine ⟨⟨by omega, by omega⟩, ?_⟩
          have := k w3 m13
          rw [hr, idAt_at hj] at this
          exact this
      · cases hp : (parI its j).1 with
        | none => rw [hp] at hc; simp [oi] at hc
        | some q =>
          rw [hp] at hr hit hu
          have hq := (upI_lt hu).2
          unfold h22_7
          try simp only [go_sem, t0, t5, t6]
          have hfm2 : its.length - (m + 1) = f := by omega
          refine ⟨m + 1, by omega, by omega, ⟨q, hq, rfl, by rw [hfm2]; exact hr, by rw [hfm2]; exact hit⟩, m23⟩
end
end Go.Proofs.Y

/- TNa: thread: the reference: breakers, subjects. -/
namespace Go.Proofs.Y
open Go Go.HL Go.Proofs

def NE (its : List It) : List Value := (List.range its.length).map fun x => .int .i64 (oi (nearI its x))
theorem NE_at {its : List It} {x : Nat} (h : x < its.length) : (NE its)[x]? = some (.int .i64 (oi (nearI its x))) := by
  unfold NE
  rw [List.getElem?_map, List.getElem?_range h]; rfl
/-! ### the subject's answer, plain -/
def okK (its : List It) (x : It) (k : Nat) : Bool := hdAt its (lowerB x.base) k && ansB its x k
def bestB (its : List It) (x : It) : Nat → Option Nat
  | 0 => none
  | n + 1 => if okK its x n = true then (match bestB its x n with
    | none => some n
    | some b => if befI its n b = true then some n else some b) else bestB its x n
theorem bestB_spec (its : List It) (x : It) : ∀ n, (∀ b, bestB its x n = some b → b < n ∧ okK its x b = true ∧ ∀ k, k < n → okK its x k = true → befI its k b = false) ∧ (bestB its x n = none → ∀ k, k < n → okK its x k = false)
  | 0 => ⟨(fun b h => nomatch h), fun _ k hk => by omega⟩
  | n + 1 => by
    obtain ⟨h1, h2⟩ := bestB_spec its x n
    unfold bestB
    by_cases hok : okK its x n = true
    · rw [if_pos hok]
      cases hb : bestB its x n with
      | none =>
        refine ⟨fun b h => ?_, fun h => by cases h⟩
        obtain rfl := Option.some.inj h
        refine ⟨by omega, hok, fun k hk hk2 => ?_⟩
        by_cases e : k = n
        · subst e; exact befI_irr its k
        · rw [h2 hb k (by omega)] at hk2; cases hk2
      | some c =>
        obtain ⟨a1, a2, a3⟩ := h1 c hb
        simp only
        by_cases hbf : befI its n c = true
        · rw [if_pos hbf]
          refine ⟨fun b h => ?_, fun h => by cases h⟩
          obtain rfl := Option.some.inj h
          refine ⟨by omega, hok, fun k hk hk2 => ?_⟩
          by_cases e : k = n
          · subst e; exact befI_irr its k
          · cases hkn : befI its k n with
            | false => rfl
            | true =>
              have := befI_tr k n c hkn hbf
              rw [a3 k (by omega) hk2] at this; cases this
        · rw [if_neg hbf]
          refine ⟨fun b h => ?_, fun h => by cases h⟩
          obtain rfl := Option.some.inj h
          refine ⟨by omega, a2, fun k hk hk2 => ?_⟩
          by_cases e : k = n
          · subst e; simpa using hbf
          · exact a3 k (by omega) hk2
    · rw [if_neg hok]
      have hok : okK its x n = false := by simpa using hok
      refine ⟨fun b h => ?_, fun h k hk => ?_⟩
      · obtain ⟨a1, a2, a3⟩ := h1 b h
        refine ⟨by omega, a2, fun k hk hk2 => ?_⟩
        by_cases e : k = n
        · subst e; rw [hok] at hk2; cases hk2
        · exact a3 k (by omega) hk2
      · by_cases e : k = n
        · subst e; exact hok
        · exact h2 h k (by omega)
theorem bestB_find {its : List It} (hd : dist its) (x : It) : bestB its x its.length = (headsS its (lowerB x.base)).find? (ansB its x) := by
  obtain ⟨h1, h2⟩ := bestB_spec its x its.length
  have okm : ∀ k, okK its x k = true → k ∈ headsS its (lowerB x.base) ∧ ansB its x k = true := by
    intro k hk
    unfold okK at hk
    simp only [Bool.and_eq_true] at hk
    refine ⟨?_, hk.2⟩
    have hh := hk.1
    unfold hdAt at hh
    by_cases hkl : k < its.length
    · rw [List.getElem?_eq_getElem hkl] at hh
      exact headsS_mem.2 ⟨hkl, hh⟩
    · rw [List.getElem?_eq_none (by omega)] at hh; cases hh
  have mok : ∀ k, k ∈ headsS its (lowerB x.base) → ansB its x k = true → k < its.length ∧ okK its x k = true := by
    intro k hk ha
    obtain ⟨hkl, hh⟩ := headsS_mem.1 hk
    refine ⟨hkl, ?_⟩
    unfold okK hdAt
    rw [List.getElem?_eq_getElem hkl]
    simp only [Bool.and_eq_true]
    exact ⟨hh, ha⟩
  cases hf : (headsS its (lowerB x.base)).find? (ansB its x) with
  | none =>
    cases hb : bestB its x its.length with
    | none => rfl
    | some b =>
      obtain ⟨a1, a2, -⟩ := h1 b hb
      obtain ⟨b1, b2⟩ := okm b a2
      have := List.find?_eq_none.1 hf b b1
      exact absurd b2 this
  | some y =>
    obtain ⟨y1, y2⟩ := find_some hf
    obtain ⟨yl, yok⟩ := mok y y1 y2
    cases hb : bestB its x its.length with
    | none => rw [h2 hb y yl] at yok; cases yok
    | some b =>
      obtain ⟨a1, a2, a3⟩ := h1 b hb
      obtain ⟨b1, b2⟩ := okm b a2
      have c1 := a3 y yl yok
      have c2 : befI its b y = false := by
        obtain ⟨-, l1, l2, e, hno⟩ := List.find?_eq_some_iff_append.1 hf
        have hs := (isortB_ok (lt := befI its) (befI_irr its) befI_tr (headsN its its.length (lowerB x.base))).2
        have e' : isortB (befI its) (headsN its its.length (lowerB x.base)) = l1 ++ y :: l2 := e
        rw [e'] at hs
        rw [e] at b1
        rcases List.mem_append.1 b1 with h | h
        · have := hno b h
          rw [b2] at this; cases this
        · rcases List.mem_cons.1 h with rfl | h
          · exact befI_irr its b
          · exact (List.pairwise_cons.1 (List.pairwise_append.1 hs).2.1).1 b h
      rw [idAt_inj hd a1 yl (bef_tri c2 c1).2]
section
variable {w w' : World} {its : List It} {rvs : List Value} {next : Value → World → Prop} {QP : List PanicEntry → World → Prop}
theorem breaker_ {v vn : Value} {i : Nat} (hK : Its w v its rvs) (hN : Sl w vn 1 its.length (NE its)) (hi : i < its.length) (hn : its.length ≤ 1000000) (k : ∀ w', Mod none' w w' → next (.bool (brkI its i)) w') : callvK Try.prog (.func (.func 47) #[] #[]) [v, vn, .int .i64 i] w next QP := by
  refine r47 rfl ?_
  obtain ⟨va, vc, rfl, -, -⟩ := hK.sl.form
  obtain ⟨na, nc, rfl, -, hcn⟩ := hN.form
  obtain ⟨gn, on, rfl, hce⟩ := hcn (by omega)
  have cell : ∀ x, x < its.length → w.cell? ⟨gn, on + x, none⟩ = some (.int .i64 (oi (nearI its x))) := fun x hx => by rw [hce x (by omega), NE_at hx]
  have ci := cell i hi
  unfold h47
  try simp only [go_sem, ci]
  repeat refine ⟨⟨by omega, by omega⟩, ?_⟩
  refine loopN its.length (fun n τ w' => τ 0 = .slice va its.length vc ∧ τ 1 = .slice (some ⟨gn, on, none⟩) its.length nc ∧ τ 2 = .int .i64 i ∧ τ 8 = .int .i64 n ∧ (∃ o : Option Nat, τ 7 = .int .i64 (oi o) ∧ (∀ j, o = some j → j < its.length) ∧ brkI its i = brkL (idAt its) (nearI its) i (its.length - n) o) ∧ Mod none' w w') ⟨0, by omega, rfl, rfl, rfl, rfl, ⟨_, rfl, fun j h => nearI_lt h, rfl⟩, Mod.refl _ _⟩ ?_
  rintro n τ w2 hnn ⟨t0, tn, t1, t6, ⟨o, t5, ho, hb⟩, m2⟩
  unfold h47_1
  try simp only [go_sem, t0, t1, t5, t6]
  have fin : ∀ b : Bool, b = brkI its i → decide (oi o = (i : Int)) = b → hw Try.prog noPanic h47_5 (endV [.tmp 6] next) (upd τ 25 (.bool false)) w2 := by
    intro b e1 e2
    unfold h47_5
    try simp only [go_sem, t1, t5, e2]
    have := k w2 m2
    rw [← e1] at this
    exact this
  by_cases hnl : n < its.length
  · have e1 : decide ((n : Int) < (its.length : Int)) = true := by simpa using hnl
    obtain ⟨t, ht⟩ : ∃ t, its.length - n = t + 1 := ⟨its.length - n - 1, by omega⟩
    rw [ht] at hb
    cases o with
    | none =>
      have e2 : decide (0 ≤ oi none) = false := rfl
      try simp only [go_sem, e1, e2]
      refine fin false ?_ (decide_eq_false (by unfold oi; simp only; omega))
      rw [hb]; rfl
    | some q =>
      have e2 : decide (0 ≤ oi (some q)) = true := decide_eq_true (by unfold oi; simp only; omega)
      unfold brkL at hb
      by_cases hqi : q = i
      · have e3 : decide (oi (some q) = (i : Int)) = true := decide_eq_true (by rw [hqi]; rfl)
        rw [if_pos hqi] at hb
        try simp only [go_sem, e1, e2, e3]
        exact fin true hb.symm e3
      · have e3 : decide (oi (some q) = (i : Int)) = false := decide_eq_false (by unfold oi; simp only; omega)
        rw [if_neg hqi] at hb
        have hq := ho q rfl
        try simp only [go_sem, e1, e2, e3]
        obtain ⟨g, oo, rfl⟩ := hK.addr (by omega)
        obtain ⟨rv, -, ax⟩ := (hK.up m2).at hq
        obtain ⟨rv2, -, ay⟩ := (hK.up m2).at hi
        have x0 := ax.c0
        have y0 := ay.c0
        have t5 : τ 7 = .int .i64 q := t5
        unfold h47_2
        try simp only [go_sem, t0, t1, t5, t6, x0, y0]
        repeat refine ⟨⟨by omega, by omega⟩, ?_⟩
        rw [idAt_at hq, idAt_at hi] at hb
        refine ⟨fun hl => ?_, fun hl => ?_⟩
        · rw [if_pos (show bl its[q].id its[i].id = true from hl)] at hb
          have := k w2.drew (m2.trans' (Mod.drew _ _))
          rw [hb] at this
          exact this
        · have hl' : ¬ bl its[q].id its[i].id = true := by
            intro h
            exact absurd (h.symm.trans hl) (by simp)
          rw [if_neg hl'] at hb
          have m3 := m2.trans' (Mod.drew none' w2)
          have cq := m3.cell (cell q hq) fun h => h
          unfold h47_3
          try simp only [go_sem, t0, t1, t5, t6, tn, cq]
          repeat refine ⟨⟨by omega, by omega⟩, ?_⟩
          unfold h47_4
          try simp only [go_sem, t0, t1, t5, t6]
          rw [w64 (by omega) (by omega)]
          have ht2 : its.length - (n + 1) = t := by omega
          refine ⟨n + 1, by omega, by omega, tn, rfl, ⟨nearI its q, rfl, fun j h => nearI_lt h, by rw [ht2]; exact hb⟩, m3⟩
  · have e1 : decide ((n : Int) < (its.length : Int)) = false := by simpa using hnl
    have : its.length - n = 0 := by omega
    rw [this] at hb
    try simp only [go_sem, e1]
    refine fin (decide (oi o = (i : Int))) ?_ rfl
    rw [hb]
    unfold brkL
    cases o with
    | none => rw [decide_eq_false (by unfold oi; simp only; omega)]; simp
    | some q => unfold oi; simp only [Option.some.injEq]; exact decide_eq_decide.2 (by omega)

theorem rbef_ (d1 d2 : Int) (a b : Bytes) (k : next (.bool (bef d1 a d2 b)) w) : callvK Try.prog (.func (.func 14) #[] #[]) [.int .i64 d1, str a, .int .i64 d2, str b] w next QP := by
  refine r14 rfl ?_
  unfold h14
  try simp only [go_sem]
  have e : (if decide (d1 < d2) = true then true else if decide (d1 = d2) = true then Op.bytesLess a b else false) = bef d1 a d2 b := by
    unfold bef bl
    by_cases h1 : d1 < d2 <;> by_cases h2 : d1 = d2 <;> simp [h1, h2]
  rw [e]
  exact k
theorem subject_ {v rv : Value} {x : It} (hK : Its w v its rvs) (hr : Sl w rv 1 x.refs.length (x.refs.map str)) (hz : szI its) (hx : x.base.length ≤ 1000000000) (hn : its.length ≤ 1000000) (k : ∀ w', Mod none' w w' → next (.int .i64 (oi (bestB its x its.length))) w') : callvK Try.prog (.func (.func 48) #[] #[]) [v, x.v rv] w next QP := by
  refine r48 rfl ?_
  obtain ⟨va, vc, rfl, -, -⟩ := hK.sl.form
  obtain ⟨ra, rc, rfl, -, -⟩ := hr.form
  unfold h48
  try simp only [go_sem]
  refine box_ (cs := x.cells (.slice ra x.refs.length rc)) rfl ?_
  intro b3 w1 hb3 bk1 m1 s1
  have a1 := ItAt.blk bk1
  try simp only [go_sem]
  refine loopN its.length (fun n τ w' => τ 0 = .slice va its.length vc ∧ τ 3 = ptr b3 ∧ τ 5 = .int .i64 (oi (bestB its x n)) ∧ τ 6 = .int .i64 n ∧ Mod none' w1 w') ⟨0, by omega, rfl, rfl, rfl, rfl, Mod.refl _ _⟩ ?_
  rintro n τ w2 hnn ⟨t0, t3, t5, t6, m2⟩
  unfold h48_1
  try simp only [go_sem, t0, t3, t5, t6]
  refine ⟨fun hlt => ?_, fun hge => ?_⟩
  · have hnl : n < its.length := by
      have := of_decide_eq_true hlt
      omega
    obtain ⟨z1, z2⟩ := hz _ (List.getElem_mem hnl)
    obtain ⟨g, o, rfl⟩ := hK.addr (by omega)
    obtain ⟨rvi, hrvi, ax⟩ := ((hK.up m1).up m2).at hnl
    have y1 := ax.ln
    have y2 := ax.sm
    unfold h48_2
    try simp only [go_sem, t0, t3, t5, t6, y1, y2]
    repeat refine ⟨⟨by omega, by omega⟩, ?_⟩
    refine alloc_ (cs := [str [], .int .i64 0, .slice none 0 0, str [], .bool false]) z34 rfl ?_
    intro b7 w5 hb7 bk5 m5 s5'
    try simp only [go_sem, t0, t3, t5, t6]
    refine storeN (vs := its[n].cells rvi) sz34 rfl bk5 (by simp) (by intro u hu; simp [It.cells] at hu; rcases hu with rfl | rfl | rfl | rfl | rfl <;> first | rfl | (obtain ⟨a, c, e, -⟩ := hrvi.form; rw [e]; rfl)) ?_
    intro w6 bk6 m6 s6'
    have m26 : Mod none' w2 w6 := m5.trans m6 fun x hx e => by
      have e : x = b7 := e
      omega
    have bk6 : Blk w6 b7 34 (its[n].cells rvi) := by simpa [It.cells] using bk6
    have a6 := ItAt.blk bk6
    have c4 := a6.c4
    have q1 := a6.ln
    have q2 := a6.sm0
    have fin : ∀ (σ : Env) (u : World), σ 0 = .slice (some ⟨g, o, none⟩) its.length vc → σ 3 = ptr b3 → σ 5 = .int .i64 (oi (bestB its x (n + 1))) → σ 6 = .int .i64 n → Mod none' w1 u → hw Try.prog noPanic h48_6 (seqX (fun σ' w' => ∃ i', n < i' ∧ i' ≤ its.length ∧ σ' 0 = .slice (some ⟨g, o, none⟩) its.length vc ∧ σ' 3 = ptr b3 ∧ σ' 5 = .int .i64 (oi (bestB its x i')) ∧ σ' 6 = .int .i64 i' ∧ Mod none' w1 w') (blockX 0 (seqX (hw Try.prog noPanic h48_7 (endV [.tmp 4] next)) (endV [.tmp 4] next)))) σ u := by
      intro σ u t0 t3 t5 t6 mu
      unfold h48_6
      try simp only [go_sem, t0, t3, t5, t6]
      rw [w64 (by omega) (by omega)]
      refine ⟨n + 1, by omega, by omega, ?_⟩
      (repeat' first | assumption | rfl | omega | apply And.intro)
    have hok : okK its x n = ((decide (its[n].rf.length = 0) && !its[n].reply) && decide (lowerB its[n].base = lowerB x.base) && decide (its[n].date ≤ x.date)) := by
      unfold okK hdAt hdB ansB
      rw [dateAt_at hnl, List.getElem?_eq_getElem hnl]
    have hno : okK its x n = false → bestB its x (n + 1) = bestB its x n := by
      intro h
      show (if okK its x n = true then _ else _) = _
      rw [h]; rfl
    have m16 := m2.trans' m26
    cases hrep : its[n].reply with
    | true =>
      rw [hrep] at c4
      try simp only [go_sem, t0, t3, t5, t6, c4]
      unfold l48_4 l48_3
      try simp only [go_sem, t0, t3, t5, t6]
      have h := hno (by rw [hok, hrep]; simp)
      exact fin _ _ t0 t3 (by rw [h]; exact t5) t6 m16
    | false =>
      rw [hrep] at c4
      try simp only [go_sem, t0, t3, t5, t6, c4, q1, q2]
      refine rrefs_ (hrvi.mod m26 fun _ _ h => h) (by omega) ?_
      intro v8 w8 sl8 m8
      obtain ⟨r8, c8, rfl, -, -⟩ := sl8.form
      have m18 := m16.trans' m8
      have a8 := a6.up m8
      have d1 := a8.c1
      have d3 := a8.c3
      have b1 := (a1.up m18).c1
      have b3' := (a1.up m18).c3
      unfold l48_4
      by_cases hrl : its[n].rf.length = 0
      · have e1 : decide ((0 : Int) < its[n].rf.length) = false := decide_eq_false (by omega)
        by_cases hdt : its[n].date ≤ x.date
        · have e2 : decide (x.date < its[n].date) = false := decide_eq_false (by omega)
          try simp only [go_sem, t0, t3, t5, t6, e1, d1, b1, e2, d3, b3']
          refine rsame_ _ _ (by omega) (by omega) ?_
          intro w9 m9
          have m19 := m18.trans' m9
          unfold l48_3
          cases hsm : sameB its[n].base x.base with
          | false =>
            try simp only [go_sem, t0, t3, t5, t6]
            have h := hno (by
              rw [hok]
              unfold sameB at hsm
              rw [hsm]; simp)
            exact fin _ _ t0 t3 (by rw [h]; exact t5) t6 m19
          | true =>
            have hyes : okK its x n = true := by
              rw [hok, hrep]
              unfold sameB at hsm
              rw [hsm]
              simp [hrl, hdt]
            try simp only [go_sem, t0, t3, t5, t6]
            unfold h48_5
            cases hbn : bestB its x n with
            | none =>
              have h : bestB its x (n + 1) = some n := by
                show (if okK its x n = true then _ else _) = _
                rw [if_pos hyes, hbn]
              have f1 : decide (oi none < 0) = true := rfl
              rw [hbn] at t5
              try simp only [go_sem, t0, t3, t5, t6, f1]
              exact fin _ _ t0 t3 (by rw [h]; rfl) t6 m19
            | some c =>
              have hcl := ((bestB_spec its x n).1 c hbn).1
              have f1 : decide ((c : Int) < 0) = false := decide_eq_false (by omega)
              have h : bestB its x (n + 1) = if befI its n c = true then some n else some c := by
                show (if okK its x n = true then _ else _) = _
                rw [if_pos hyes, hbn]
              rw [hbn] at t5
              have t5 : τ 5 = .int .i64 (c : Int) := t5
              have m19d := m19.trans' (Mod.drew none' w9)
              obtain ⟨rvc, -, ac⟩ := ((hK.up m1).up m19d).at (show c < its.length by omega)
              have g0 := ac.c0
              have g1 := ac.c1
              have a9 := (a8.up m9).up (Mod.drew none' w9)
              have d0 := a9.c0
              have d1 := a9.c1
              try simp only [go_sem, t0, t3, t5, t6, f1, d0, d1, g0, g1]
              repeat refine ⟨⟨by omega, by omega⟩, ?_⟩
              refine rbef_ _ _ _ _ ?_
              have hbe : befI its n c = bef its[n].date its[n].id its[c].date its[c].id := by
                unfold befI
                rw [dateAt_at hnl, dateAt_at (show c < its.length by omega), idAt_at hnl, idAt_at (show c < its.length by omega)]
              rw [← hbe]
              cases hbf : befI its n c with
              | true =>
                rw [hbf] at h
                try simp only [go_sem, t0, t3, t5, t6]
                exact fin _ _ t0 t3 (by rw [h]; rfl) t6 m19d
              | false =>
                rw [hbf] at h
                try simp only [go_sem, t0, t3, t5, t6]
                exact fin _ _ t0 t3 (by rw [h]; exact t5) t6 m19d
        · have e2 : decide (x.date < its[n].date) = true := decide_eq_true (by omega)
          try simp only [go_sem, t0, t3, t5, t6, e1, d1, b1, e2]
          unfold l48_3
          try simp only [go_sem, t0, t3, t5, t6]
          have h := hno (by rw [hok]; simp [hdt])
          exact fin _ _ t0 t3 (by rw [h]; exact t5) t6 m18
      · have e1 : decide ((0 : Int) < its[n].rf.length) = true := decide_eq_true (by omega)
        try simp only [go_sem, t0, t3, t5, t6, e1]
        unfold l48_3
        try simp only [go_sem, t0, t3, t5, t6]
        have h := hno (by rw [hok]; simp [hrl])
        exact fin _ _ t0 t3 (by rw [h]; exact t5) t6 m18
  · have hnl : n = its.length := by
      have := of_decide_eq_false hge
      omega
    subst hnl
    unfold h48_7
    try simp only [go_sem, t5]
    exact k w2 (m1.trans' m2)
end
end Go.Proofs.Y

/- TNb: thread: the reference's parents. -/
namespace Go.Proofs.Y
open Go Go.HL Go.Proofs

def PE (its : List It) : List Value := (List.range its.length).map fun x => .int .i64 (oi (parI its x).1)
def GE (its : List It) : List Value := (List.range its.length).map fun x => str (gh its x)
theorem PE_at {its : List It} {x : Nat} (h : x < its.length) : (PE its)[x]? = some (.int .i64 (oi (parI its x).1)) := by
  unfold PE
  rw [List.getElem?_map, List.getElem?_range h]; rfl
theorem GE_at {its : List It} {x : Nat} (h : x < its.length) : (GE its)[x]? = some (str (gh its x)) := by
  unfold GE
  rw [List.getElem?_map, List.getElem?_range h]; rfl
theorem NE_len (its : List It) : (NE its).length = its.length := by simp [NE]
theorem PE_len (its : List It) : (PE its).length = its.length := by simp [PE]
theorem GE_len (its : List It) : (GE its).length = its.length := by simp [GE]
theorem take_snoc {l : List Value} {i : Nat} {v : Value} (h : l[i]? = some v) : l.take i ++ [v] = l.take (i + 1) := by
  obtain ⟨hi, e⟩ := List.getElem?_eq_some_iff.1 h
  rw [List.take_succ_eq_append_getElem hi, e]
section
variable {w w' : World} {its : List It} {rvs : List Value} {next : Value → World → Prop} {QP : List PanicEntry → World → Prop}
theorem rparents_ {v : Value} (hd : dist its) (hK : Its w v its rvs) (hz : szI its) (hn : its.length ≤ 1000000)
    (k : ∀ vl vg w', Sl w' vl 1 its.length (PE its) → Sl w' vg 1 its.length (GE its) → Mod none' w w' → next (.tuple #[vl, vg]) w') : callvK Try.prog (.func (.func 34) #[] #[]) [v] w next QP := by
  refine r34 rfl ?_
  obtain ⟨va, vc, rfl, -, -⟩ := hK.sl.form
  unfold h34
  try simp only [go_sem]
  refine loopN its.length (fun i τ w' => τ 0 = .slice va its.length vc ∧ τ 5 = .int .i64 i ∧ (∃ vn, τ 4 = vn ∧ HL.Own w' vn 3 1 i ((NE its).take i) ∧ ∀ q, vn.ownBlock = some q → w.heap.size ≤ q) ∧ Mod none' w w') ⟨0, by omega, rfl, rfl, ⟨.slice none 0 0, rfl, HL.Own.nil w 3 1, fun q hq => by cases hq⟩, Mod.refl _ _⟩ ?_
  rintro i τ w1 hi ⟨t0, t5, ⟨vn, t4, ownn, hvn⟩, m1⟩
  unfold h34_1
  try simp only [go_sem, t0, t4, t5]
  refine ⟨fun hlt => ?_, fun hge => ?_⟩
  · have hil : i < its.length := by
      have := of_decide_eq_true hlt
      omega
    obtain ⟨z1, z2⟩ := hz _ (List.getElem_mem hil)
    unfold h34_2
    try simp only [go_sem, t0, t4, t5]
    refine near_ (hK.up m1) hil hn z1 ?_
    intro w2 m2
    try simp only [go_sem, t0, t4, t5]
    refine bsl1 (cs := [.int .i64 (oi (nearI its i))]) sl60 rfl rfl (by omega) ?_
    intro b3 w3 hb3 own3 bk3 m3 s3
    try simp only [go_sem, t0, t4, t5]
    have m23 := m2.trans' m3
    refine append_ sl60 (ownn.mod m23 fun _ _ h => h) own3.sl (by intro u hu; rw [List.mem_singleton.1 hu]; rfl) (by omega) (by unfold maxLen; omega) ?_
    intro v4 w4 own4 m4 hf4 _
    rw [take_snoc (NE_at hil)] at own4
    have m13 := m1.trans' m23
    have m14 : Mod none' w w4 := m13.trans m4 fun x hx e => by
      have := hvn x e
      omega
    have hv4 : ∀ q, v4.ownBlock = some q → w.heap.size ≤ q := by
      intro q hq
      rcases hf4 q hq with h | h
      · exact hvn q h
      · have := m13.size; omega
    unfold h34_3
    try simp only [go_sem, t0, t5]
    rw [w64 (by omega) (by omega)]
    exact ⟨i + 1, by omega, by omega, rfl, ⟨v4, rfl, own4, hv4⟩, m14⟩
  · have hil : i = its.length := by
      have := of_decide_eq_false hge
      omega
    subst hil
    rw [List.take_of_length_le (by rw [NE_len]; omega)] at ownn
    obtain ⟨na, nc, rfl, -, hcn⟩ := ownn.sl.form
    unfold h34_4
    try simp only [go_sem, t0, t4, t5]
    refine loopN its.length (fun i τ w' => τ 0 = .slice va its.length vc ∧ τ 4 = .slice na its.length nc ∧ τ 8 = .int .i64 i ∧ (∃ vl vg, τ 6 = vl ∧ τ 7 = vg ∧ HL.Own w' vl 3 1 i ((PE its).take i) ∧ HL.Own w' vg 9 1 i ((GE its).take i) ∧ (∀ q, vl.ownBlock = some q → w1.heap.size ≤ q ∧ vg.ownBlock ≠ some q) ∧ (∀ q, vg.ownBlock = some q → w1.heap.size ≤ q)) ∧ Mod none' w1 w') ⟨0, by omega, t0, t4, rfl, ⟨.slice none 0 0, .slice none 0 0, rfl, rfl, HL.Own.nil w1 3 1, HL.Own.nil w1 9 1, (fun q hq => by cases hq), fun q hq => by cases hq⟩, Mod.refl _ _⟩ ?_
    rintro i τ w2 hi ⟨t0, t4, t8, ⟨vl, vg, t6, t7, ownl, owng, hvl, hvg⟩, m2⟩
    unfold h34_5
    try simp only [go_sem, t0, t4, t6, t7, t8]
    refine ⟨fun hlt => ?_, fun hge => ?_⟩
    · have hil : i < its.length := by
        have := of_decide_eq_true hlt
        omega
      obtain ⟨z1, z2⟩ := hz _ (List.getElem_mem hil)
      obtain ⟨g, o, rfl⟩ := hK.addr (by omega)
      obtain ⟨rvi, hrvi, ax⟩ := ((hK.up m1).up m2).at hil
      have y1 := ax.ln
      have y2 := ax.sm
      unfold h34_6
      try simp only [go_sem, t0, t4, t6, t7, t8, y1, y2]
      repeat refine ⟨⟨by omega, by omega⟩, ?_⟩
      refine alloc_ (cs := [str [], .int .i64 0, .slice none 0 0, str [], .bool false]) z34 rfl ?_
      intro b9 w5 hb9 bk5 m5 s5'
      try simp only [go_sem, t0, t4, t6, t7, t8]
      refine storeN (vs := its[i].cells rvi) sz34 rfl bk5 (by simp) (by intro u hu; simp [It.cells] at hu; rcases hu with rfl | rfl | rfl | rfl | rfl <;> first | rfl | (obtain ⟨a, c, e, -⟩ := hrvi.form; rw [e]; rfl)) ?_
      intro w6 bk6 m6 s6'
      have m26 : Mod none' w2 w6 := m5.trans m6 fun x hx e => by
        have e : x = b9 := e
        omega
      have bk6 : Blk w6 b9 34 (its[i].cells rvi) := by simpa [It.cells] using bk6
      have a6 := ItAt.blk bk6
      have q1 := a6.ln
      have q2 := a6.sm0
      try simp only [go_sem, t0, t4, t6, t7, t8, q1, q2]
      refine rrefs_ (hrvi.mod m26 fun _ _ h => h) (by omega) ?_
      intro v8 w8 sl8 m8
      obtain ⟨r8, c8, rfl, -, hc8⟩ := sl8.form
      have m28 := m26.trans' m8
      have a8 := a6.up m8
      have c3 := a8.c3
      have c4 := a8.c4
      obtain ⟨gn, on, rfl, hce⟩ := hcn (by omega)
      have cn : w8.cell? ⟨gn, on + i, none⟩ = some (.int .i64 (oi (nearI its i))) := by
        refine (m2.trans' m28).cell ?_ fun h => h
        rw [hce i (by omega), NE_at hil]
      have fin : ∀ (Q : HX → Env → World → Prop) (σ : Env) (u : World), σ 0 = .slice (some ⟨g, o, none⟩) its.length vc → σ 4 = .slice (some ⟨gn, on, none⟩) its.length nc → σ 6 = vl → σ 7 = vg → σ 8 = .int .i64 i → σ 11 = .int .i64 (oi (parI its i).1) → σ 12 = str (gh its i) → Mod none' w8 u →
          (∀ σ u, σ 0 = .slice (some ⟨g, o, none⟩) its.length vc → σ 4 = .slice (some ⟨gn, on, none⟩) its.length nc → σ 8 = .int .i64 i → (∃ vl vg, σ 6 = vl ∧ σ 7 = vg ∧ HL.Own u vl 3 1 (i + 1) ((PE its).take (i + 1)) ∧ HL.Own u vg 9 1 (i + 1) ((GE its).take (i + 1)) ∧ (∀ q, vl.ownBlock = some q → w1.heap.size ≤ q ∧ vg.ownBlock ≠ some q) ∧ (∀ q, vg.ownBlock = some q → w1.heap.size ≤ q)) → Mod none' w1 u → Q .normal σ u) → hw Try.prog noPanic h34_7 Q σ u := by
        intro Q σ u t0 t4 t6 t7 t8 t11 t12 mu hQ
        have m2u := m28.trans' mu
        have m1u := m2.trans' m2u
        unfold h34_7
        try simp only [go_sem, t11]
        refine bsl1 (cs := [.int .i64 (oi (parI its i).1)]) sl60 rfl rfl (by omega) ?_
        intro b10 w10 hb10 own10 bk10 m10 s10
        try simp only [go_sem, t6]
        refine append_ sl60 ((ownl.mod m2u fun _ _ h => h).mod m10 fun _ _ h => h) own10.sl (by intro u hu; rw [List.mem_singleton.1 hu]; rfl) (by omega) (by unfold maxLen; omega) ?_
        intro v11 w11 own11 m11 hf11 _
        rw [take_snoc (PE_at hil)] at own11
        have hwl := ownl.lt
        have hwg := owng.lt
        have sz1 := m2u.size
        have sz2 := m10.size
        have m1_11 : Mod none' w1 w11 := (m1u.trans' m10).trans m11 fun x hx e => by
          have := (hvl x e).1
          omega
        have hv11 : ∀ q, v11.ownBlock = some q → w1.heap.size ≤ q ∧ vg.ownBlock ≠ some q := by
          intro q hq
          rcases hf11 q hq with h | h
          · exact hvl q h
          · have sz3 := m1u.size
            exact ⟨by omega, fun e => by have := hwg q e; omega⟩
        have owng11 : HL.Own w11 vg 9 1 i ((GE its).take i) := ((owng.mod m2u fun _ _ h => h).mod m10 fun _ _ h => h).mod m11 fun q hq e => (hvl q e).2 hq
        try simp only [go_sem, t12]
        refine bsl1 (cs := [str (gh its i)]) sl32 rfl rfl (by omega) ?_
        intro b12 w12 hb12 own12 bk12 m12 s12
        try simp only [go_sem, t7]
        refine append_ sl32 (owng11.mod m12 fun _ _ h => h) own12.sl (by intro u hu; rw [List.mem_singleton.1 hu]; rfl) (by omega) (by unfold maxLen; omega) ?_
        intro v13 w13 own13 m13 hf13 _
        rw [take_snoc (GE_at hil)] at own13
        try simp only [go_sem]
        refine hQ _ _ t0 t4 t8 ⟨v11, v13, rfl, rfl, ?_, own13, fun q hq => ⟨(hv11 q hq).1, fun e => ?_⟩, fun q hq => ?_⟩ ?_
        · refine (own11.mod m12 fun _ _ h => h).mod m13 fun q hq e => (hv11 q hq).2 e
        · rcases hf13 q e with h | h
          · exact (hv11 q hq).2 h
          · have := own11.lt q hq
            have := m12.size
            omega
        · rcases hf13 q hq with h | h
          · exact hvg q h
          · have := m1_11.size
            have := m12.size
            omega
        · exact (m1_11.trans' m12).trans m13 fun x hx e => by
            have := hvg x e
            omega
      have hpc := parI_c hil
      have hn0 : decide (0 ≤ oi none) = false := rfl
      have hs0 : ∀ q : Nat, decide (0 ≤ oi (some q)) = true := fun q => decide_eq_true (by unfold oi; simp only; omega)
      have hghe : gh its i = (parI its i).2 := rfl
      generalize hp : parI its i = pp at hpc
      rw [hp] at hghe
      cases hpc with
      | brk h q hq =>
        have hgh : gh its i = [] := hghe
        rw [hq] at cn
        try simp only [go_sem, t0, t4, t6, t7, t8, cn, hs0]
        repeat refine ⟨⟨by omega, by omega⟩, ?_⟩
        refine breaker_ (((hK.up m1).up m2).up m28) ((ownn.sl.mod (m2.trans' m28) fun _ _ h => h)) hil hn ?_
        intro w9 m9
        rw [h]
        try simp only [go_sem, t0, t4, t6, t7, t8]
        refine fin _ _ _ t0 t4 t6 t7 t8 (by rw [hp]; rfl) (by rw [hgh]; rfl) m9 ?_
        rintro σ u t0 t4 t8 ⟨vl', vg', t6, t7, hl', hg', h1', h2'⟩ mu
        show hw Try.prog noPanic h34_8 _ σ u
        unfold h34_8
        try simp only [go_sem, t0, t4, t8]
        rw [w64 (by omega) (by omega)]
        exact ⟨i + 1, by omega, by omega, rfl, ⟨vl', vg', t6, t7, hl', hg', h1', h2'⟩, mu⟩
      | near h q hq =>
        have hgh : gh its i = [] := hghe
        rw [hq] at cn
        try simp only [go_sem, t0, t4, t6, t7, t8, cn, hs0]
        repeat refine ⟨⟨by omega, by omega⟩, ?_⟩
        refine breaker_ (((hK.up m1).up m2).up m28) ((ownn.sl.mod (m2.trans' m28) fun _ _ h => h)) hil hn ?_
        intro w9 m9
        rw [h]
        have cn9 := m9.cell cn fun h => h
        try simp only [go_sem, t0, t4, t6, t7, t8, cn9]
        repeat refine ⟨⟨by omega, by omega⟩, ?_⟩
        refine fin _ _ _ t0 t4 t6 t7 t8 (by rw [hp]; rfl) (by rw [hgh]; rfl) m9 ?_
        rintro σ u t0 t4 t8 ⟨vl', vg', t6, t7, hl', hg', h1', h2'⟩ mu
        show hw Try.prog noPanic h34_8 _ σ u
        unfold h34_8
        try simp only [go_sem, t0, t4, t8]
        rw [w64 (by omega) (by omega)]
        exact ⟨i + 1, by omega, by omega, rfl, ⟨vl', vg', t6, t7, hl', hg', h1', h2'⟩, mu⟩
      | ghost h hk r hr =>
        have hgh : gh its i = r := hghe
        rw [hk] at cn
        have hrne : its[i].rf ≠ [] := by intro h; rw [h] at hr; cases hr
        have hrpos : 0 < its[i].rf.length := List.length_pos_iff.2 hrne
        have hl0 : decide ((0 : Int) < its[i].rf.length) = true := decide_eq_true (by omega)
        have hrfl : its[i].rf.length ≤ 1000000 := by
          have := List.length_filter_le (fun r => !delB its[i] r) its[i].refs
          unfold It.rf
          omega
        obtain ⟨gr, or_, rfl, hce8⟩ := hc8 hrpos
        have hcr : w8.cell? ⟨gr, or_ + (its[i].rf.length - 1), none⟩ = some (str r) := by
          rw [hce8 _ (by omega), List.getElem?_map, ← List.getLast?_eq_getElem?, hr]; rfl
        have hws : IntKind.i64.wrap ((its[i].rf.length : Int) - 1) = ((its[i].rf.length - 1 : Nat) : Int) := by rw [w64 (by omega) (by omega)]; omega
        try simp only [go_sem, t0, t4, t6, t7, t8, cn, hn0, hl0, hws, hcr]
        repeat refine ⟨⟨by omega, by omega⟩, ?_⟩
        refine fin _ _ _ t0 t4 t6 t7 t8 (by rw [hp]; rfl) (by rw [hgh]; rfl) (Mod.refl _ _) ?_
        rintro σ u t0 t4 t8 ⟨vl', vg', t6, t7, hl', hg', h1', h2'⟩ mu
        show hw Try.prog noPanic h34_8 _ σ u
        unfold h34_8
        try simp only [go_sem, t0, t4, t8]
        rw [w64 (by omega) (by omega)]
        exact ⟨i + 1, by omega, by omega, rfl, ⟨vl', vg', t6, t7, hl', hg', h1', h2'⟩, mu⟩
      | root h hk hr hb =>
        have hgh : gh its i = [] := hghe
        rw [hk] at cn
        have hl0 : decide ((0 : Int) < its[i].rf.length) = false := by rw [hr]; rfl
        have hrb : (if its[i].reply = true then !decide (its[i].base = []) else false) = false := by
          rcases hb with hb | hb <;> simp [hb]
        try simp only [go_sem, t0, t4, t6, t7, t8, cn, hn0, hl0, c3, c4, hrb]
        repeat refine ⟨⟨by omega, by omega⟩, ?_⟩
        refine fin _ _ _ t0 t4 t6 t7 t8 (by rw [hp]; rfl) (by rw [hgh]; rfl) (Mod.refl _ _) ?_
        rintro σ u t0 t4 t8 ⟨vl', vg', t6, t7, hl', hg', h1', h2'⟩ mu
        show hw Try.prog noPanic h34_8 _ σ u
        unfold h34_8
        try simp only [go_sem, t0, t4, t8]
        rw [w64 (by omega) (by omega)]
        exact ⟨i + 1, by omega, by omega, rfl, ⟨vl', vg', t6, t7, hl', hg', h1', h2'⟩, mu⟩
      | ans h hk hr hb o ho =>
        have hgh : gh its i = [] := hghe
        rw [hk] at cn
        have hl0 : decide ((0 : Int) < its[i].rf.length) = false := by rw [hr]; rfl
        have hrb : decide (its[i].base = []) = false := decide_eq_false hb.2
        rw [hb.1] at c4
        have q1 := a8.ln
        have q2 := a8.sm0
        try simp only [go_sem, t0, t4, t6, t7, t8, cn, hn0, hl0, c3, c4, hrb, q1, q2]
        repeat refine ⟨⟨by omega, by omega⟩, ?_⟩
        refine subject_ (((hK.up m1).up m2).up m28) (hrvi.mod m28 fun _ _ h => h) hz z2 hn ?_
        intro w9 m9
        rw [bestB_find hd, ← ho]
        try simp only [go_sem, t0, t4, t6, t7, t8]
        refine fin _ _ _ t0 t4 t6 t7 t8 (by rw [hp]; rfl) (by rw [hgh]; rfl) m9 ?_
        rintro σ u t0 t4 t8 ⟨vl', vg', t6, t7, hl', hg', h1', h2'⟩ mu
        show hw Try.prog noPanic h34_8 _ σ u
        unfold h34_8
        try simp only [go_sem, t0, t4, t8]
        rw [w64 (by omega) (by omega)]
        exact ⟨i + 1, by omega, by omega, rfl, ⟨vl', vg', t6, t7, hl', hg', h1', h2'⟩, mu⟩
    · have hil : i = its.length := by
        have := of_decide_eq_false hge
        omega
      subst hil
      rw [List.take_of_length_le (by rw [PE_len]; omega)] at ownl
      rw [List.take_of_length_le (by rw [GE_len]; omega)] at owng
      unfold h34_9
      try simp only [go_sem, t6, t7]
      exact k vl vg w2 ownl.sl owng.sl (m1.trans' m2)
end
end Go.Proofs.Y

/- TNc: thread: the reference's Parent and Root. -/
namespace Go.Proofs.Y
open Go Go.HL Go.Proofs

section
variable {w w' : World} {its : List It} {rvs : List Value} {next : Value → World → Prop} {QP : List PanicEntry → World → Prop}
theorem rParent_ {v : Value} {i : Int} (hd : dist its) (hK : Its w v its rvs) (hz : szI its) (hn : its.length ≤ 1000000)
    (k : ∀ w', Mod none' w w' → next (parV (parT its i)) w') : callvK Try.prog (.func (.func 23) #[] #[]) [v, .int .i64 i] w next QP := by
  refine r23 rfl ?_
  obtain ⟨va, vc, rfl, -, -⟩ := hK.sl.form
  unfold h23
  try simp only [go_sem]
  by_cases h : i < 0 ∨ (its.length : Int) ≤ i
  · have eg : (if decide (i < 0) = true then true else decide ((its.length : Int) ≤ i)) = true := by
      rcases h with h | h <;> simp [h]
    have := k w (Mod.refl _ _)
    unfold parT at this
    rw [if_pos h] at this
    try simp only [go_sem, eg]
    exact this
  · have eg : (if decide (i < 0) = true then true else decide ((its.length : Int) ≤ i)) = false := by
      have h1 : ¬ i < 0 := fun h' => h (.inl h')
      have h2 : ¬ (its.length : Int) ≤ i := fun h' => h (.inr h')
      simp [h1, h2]
    unfold parT at k
    rw [if_neg h] at k
    obtain ⟨j, rfl⟩ : ∃ j : Nat, i = j := ⟨i.toNat, by omega⟩
    have hj : j < its.length := by omega
    rw [Int.toNat_natCast] at k
    try simp only [go_sem, eg]
    unfold h23_1
    try simp only [go_sem]
    refine rparents_ hd hK hz hn ?_
    intro vl vg w1 sll slg m1
    obtain ⟨la, lc, rfl, -, hl⟩ := sll.form
    obtain ⟨ga, gc, rfl, -, hg⟩ := slg.form
    obtain ⟨lb, lo, rfl, hlc⟩ := hl (by omega)
    obtain ⟨gb, go, rfl, hgc⟩ := hg (by omega)
    have cl := hlc j (by omega)
    have cg := hgc j (by omega)
    rw [PE_at hj] at cl
    rw [GE_at hj] at cg
    try simp only [go_sem, cl, cg]
    repeat refine ⟨⟨by omega, by omega⟩, ?_⟩
    exact k _ (m1.trans' (Mod.drew _ _))

theorem rRoot_ {v : Value} {c : Bytes} (hd : dist its) (hne : ne0 its) (hK : Its w v its rvs) (hz : szI its) (hn : its.length ≤ 1000000) (k : ∀ w', Mod none' w w' → next (str (rootB its c)) w') : callvK Try.prog (.func (.func 24) #[] #[]) [v, str c] w next QP := by
  refine r24 rfl ?_
  obtain ⟨va, vc, rfl, -, -⟩ := hK.sl.form
  unfold h24
  try simp only [go_sem]
  refine rparents_ hd hK hz hn ?_
  intro vl vg w1 sll slg m1
  obtain ⟨la, lc, rfl, -, hl⟩ := sll.form
  obtain ⟨ga, gc, rfl, -, hg⟩ := slg.form
  try simp only [go_sem]
  refine rfind_ (hK.up m1) hn ?_
  try simp only [go_sem]
  cases hf : findI its c with
  | none =>
    have hroot : rootB its c = if c ∈ ghL its its.length then c else [] := by unfold rootB; rw [hf]
    have hm2 : decide (oi none < 0) = true := rfl
    refine loopN its.length (fun i τ w' => τ 0 = .slice va its.length vc ∧ τ 1 = str c ∧ τ 6 = .slice ga its.length gc ∧ τ 7 = .int .i64 (oi none) ∧ τ 8 = .int .i64 i ∧ (∀ x, x < i → ¬ (gh its x ≠ [] ∧ gh its x = c)) ∧ w' = w1) ⟨0, by omega, rfl, rfl, rfl, rfl, rfl, fun x hx => by omega, rfl⟩ ?_
    rintro i τ w2 hi ⟨t0, t1, t6, t7, t8, hno, rfl⟩
    unfold h24_1
    try simp only [go_sem, t0, t1, t6, t7, t8, hm2]
    refine ⟨fun hlt => ?_, fun hge => ?_⟩
    · have hil : i < its.length := by
        by_cases h : (i : Int) < its.length
        · omega
        · rw [decide_eq_false h] at hlt; simp at hlt
      obtain ⟨gb, go, rfl, hgc⟩ := hg (by omega)
      have cg := hgc i (by omega)
      rw [GE_at hil] at cg
      unfold h24_2
      try simp only [go_sem, t0, t1, t6, t7, t8, cg]
      repeat refine ⟨⟨by omega, by omega⟩, ?_⟩
      refine ⟨fun _ => ⟨by omega, by omega⟩, fun hc => ?_, fun hc => ?_⟩
      · have hg : gh its i ≠ [] ∧ gh its i = c := by
          by_cases h1 : gh its i = [] <;> simp [h1] at hc ⊢
          exact hc
        have := k w2 m1
        rw [hroot, if_pos ((ghL_mem its _ _).2 ⟨by rw [← hg.2]; exact hg.1, i, hil, hg.2⟩)] at this
        exact this
      · have hg : ¬ (gh its i ≠ [] ∧ gh its i = c) := by
          rintro ⟨h1, h2⟩
          simp [h1, h2] at hc
          exact h1 (h2.trans hc)
        unfold h24_3
        try simp only [go_sem, t0, t1, t6, t7, t8]
        rw [w64 (by omega) (by omega)]
        have h4 : ∀ x, x < i + 1 → ¬ (gh its x ≠ [] ∧ gh its x = c) := by
          intro x hx
          by_cases e : x = i
          · subst e; exact hg
          · exact hno x (by omega)
        refine ⟨i + 1, by omega, by omega, ?_⟩
        (repeat' first | assumption | rfl | omega | apply And.intro)
    · have hil : i = its.length := by
        by_cases h : (i : Int) < its.length
        · rw [decide_eq_true h] at hge; simp at hge
        · omega
      subst hil
      unfold h24_4
      try simp only [go_sem, t7, hm2]
      have := k w2 m1
      rw [hroot, if_neg (fun h => by
        obtain ⟨h1, x, h2, h3⟩ := (ghL_mem its _ _).1 h
        exact hno x h2 ⟨by rw [h3]; exact h1, h3⟩)] at this
      exact this
  | some i0 =>
    obtain ⟨hil0, hid⟩ := findI_idAt hf
    have hroot : rootB its c = rootI its its.length i0 := by unfold rootB; rw [hf]
    have hm2 : decide (oi (some i0) < 0) = false := decide_eq_false (by unfold oi; simp only; omega)
    have hm3 : decide ((i0 : Int) < 0) = false := decide_eq_false (by omega)
    obtain ⟨lb, lo, rfl, hlc⟩ := hl (by omega)
    obtain ⟨gb, go, rfl, hgc⟩ := hg (by omega)
    refine loopN its.length (fun i τ w' => i = 0 ∧ τ 0 = .slice va its.length vc ∧ τ 5 = .slice (some ⟨lb, lo, none⟩) its.length lc ∧ τ 6 = .slice (some ⟨gb, go, none⟩) its.length gc ∧ τ 7 = .int .i64 (i0 : Int) ∧ τ 8 = .int .i64 i ∧ w' = w1) ⟨0, by omega, rfl, rfl, rfl, rfl, rfl, rfl, rfl⟩ ?_
    rintro i τ w2 hi ⟨rfl, t0, t5, t6, t7, t8, rfl⟩
    have hlt0 : decide ((0 : Int) < (its.length : Int)) = true := decide_eq_true (by omega)
    unfold h24_1
    try simp only [go_sem, t0, t5, t6, t7, t8, hm3, hlt0]
    unfold h24_4
    try simp only [go_sem, t0, t5, t6, t7, t8, hm3]
    unfold h24_5
    try simp only [go_sem, t0, t5, t6, t7, t8]
    refine loopN its.length (fun m τ w' => τ 0 = .slice va its.length vc ∧ τ 5 = .slice (some ⟨lb, lo, none⟩) its.length lc ∧ τ 6 = .slice (some ⟨gb, go, none⟩) its.length gc ∧ (∃ j : Nat, j < its.length ∧ τ 7 = .int .i64 j ∧ rootB its c = rootI its (its.length - m) j ∧ itr (upI its) (its.length - m) j = none) ∧ w' = w2) ⟨0, by omega, t0, t5, t6, ⟨i0, hil0, t7, hroot, up_ends hd hil0⟩, rfl⟩ ?_
    rintro m τ w3 hm ⟨t0, t5, t6, ⟨j, hj, t7, hr, hit⟩, rfl⟩
    obtain ⟨f, hfm⟩ : ∃ f, its.length - m = f + 1 := by
      cases hlm : its.length - m with
      | zero => rw [hlm] at hit; simp [itr] at hit
      | succ f => exact ⟨f, rfl⟩
    rw [hfm] at hr hit
    rw [itr_succ] at hit
    unfold rootI at hr
    have hu : upI its j = (parI its j).1 := by unfold upI; rw [if_pos hj]
    rw [hu] at hit
    have cl := hlc j (by omega)
    have cg := hgc j (by omega)
    rw [PE_at hj] at cl
    rw [GE_at hj] at cg
    unfold h24_6
    cases hp : (parI its j).1 with
    | some q =>
      rw [hp] at cl hr hit hu
      have hq := (upI_lt hu).2
      have hg0 := (up_pid hu).2
      rw [if_neg (by simpa using hg0)] at hr
      have hs : decide (0 ≤ oi (some q)) = true := decide_eq_true (by unfold oi; simp only; omega)
      try simp only [go_sem, t0, t5, t6, t7, cl, hs]
      repeat refine ⟨⟨by omega, by omega⟩, ?_⟩
      unfold h24_7
      try simp only [go_sem, t0, t5, t6, t7, cl]
      repeat refine ⟨⟨by omega, by omega⟩, ?_⟩
      have hfm2 : its.length - (m + 1) = f := by omega
      exact ⟨m + 1, by omega, by omega, q, hq, rfl, by rw [hfm2]; exact hr, by rw [hfm2]; exact hit⟩
    | none =>
      rw [hp] at cl hr
      have hs : decide (0 ≤ oi none) = false := rfl
      try simp only [go_sem, t0, t5, t6, t7, cl, hs]
      repeat refine ⟨⟨by omega, by omega⟩, ?_⟩
      unfold h24_8
      try simp only [go_sem, t0, t5, t6, t7, cg]
      repeat refine ⟨⟨by omega, by omega⟩, ?_⟩
      refine ⟨fun hc => ?_, fun hc => ?_⟩
      · have hg : gh its j ≠ [] := by simpa using hc
        rw [if_pos hg] at hr
        have := k w3 m1
        rw [hr] at this
        repeat refine ⟨⟨by omega, by omega⟩, ?_⟩
        exact this
      · have hg : ¬ gh its j ≠ [] := by simpa using hc
        rw [if_neg hg] at hr
        obtain ⟨g, o, rfl⟩ := hK.addr (by omega)
        obtain ⟨rv, -, ax⟩ := (hK.up m1).at hj
        have x0 := ax.c0
        unfold h24_9
        try simp only [go_sem, t0, t7, x0]
        repeat refine ⟨⟨by omega, by omega⟩, ?_⟩
        have := k w3 m1
        rw [hr, idAt_at hj] at this
        exact this
end
end Go.Proofs.Y

/- TOc: thread: an order of the items that is another changes nothing; plain. -/
namespace Go.Proofs.Y
open Go Go.HL

/-- the same items at other places -/
structure Pm (its its' : List It) (s : Nat → Nat) : Prop where
  d : dist its
  d' : dist its'
  len : its'.length = its.length
  lt : ∀ i, i < its'.length → s i < its.length
  eq : ∀ i (h : i < its'.length) (h2 : s i < its.length), its[s i] = its'[i]
  on : ∀ j, j < its.length → ∃ i, i < its'.length ∧ s i = j
section
variable {its its' : List It} {s : Nat → Nat}
theorem Pm.of (hd : dist its) (hp : its'.Perm its) : ∃ s, Pm its its' s := by
  have hd' : dist its' := (hp.map _).nodup_iff.2 hd
  refine ⟨fun i => (findI its (idAt its' i)).getD 0, ?_⟩
  have key : ∀ i (h : i < its'.length), ∃ j, ∃ h2 : j < its.length, findI its (idAt its' i) = some j ∧ its[j] = its'[i] := by
    intro i h
    obtain ⟨j, hj, e⟩ := List.getElem_of_mem (hp.mem_iff.1 (List.getElem_mem h))
    exact ⟨j, hj, by rw [idAt_at h, ← e]; exact findI_at hd hj, e⟩
  refine ⟨hd, hd', hp.length_eq, fun i h => ?_, fun i h h2 => ?_, fun j hj => ?_⟩
  · obtain ⟨j, hj, e, -⟩ := key i h
    simp only [e]; exact hj
  · obtain ⟨j, hj, e, e2⟩ := key i h
    simp only [e]; exact e2
  · obtain ⟨i, hi, e⟩ := List.getElem_of_mem (hp.mem_iff.2 (List.getElem_mem hj))
    refine ⟨i, hi, ?_⟩
    rw [idAt_at hi, e, findI_at hd hj]; rfl
theorem Pm.at (h : Pm its its' s) {i : Nat} (hi : i < its'.length) : its[s i]? = its'[i]? := by
  rw [List.getElem?_eq_getElem (h.lt i hi), List.getElem?_eq_getElem hi, h.eq i hi]
theorem Pm.id (h : Pm its its' s) {i : Nat} (hi : i < its'.length) : idAt its (s i) = idAt its' i := by unfold idAt; rw [h.at hi]
theorem Pm.date (h : Pm its its' s) {i : Nat} (hi : i < its'.length) : dateAt its (s i) = dateAt its' i := by unfold dateAt; rw [h.at hi]
theorem Pm.inj (h : Pm its its' s) {i j : Nat} (hi : i < its'.length) (hj : j < its'.length) (e : s i = s j) : i = j := by
  refine idAt_inj h.d' hi hj ?_
  rw [← h.id hi, ← h.id hj, e]
theorem Pm.find (h : Pm its its' s) (r : Bytes) : findI its r = (findI its' r).map s := by
  cases hf : findI its' r with
  | some i =>
    obtain ⟨hi, e⟩ := findI_idAt hf
    rw [← e, ← h.id hi, find_idAt h.d (h.lt i hi)]; rfl
  | none =>
    cases hg : findI its r with
    | none => rfl
    | some j =>
      obtain ⟨hj, e⟩ := findI_idAt hg
      obtain ⟨i, hi, rfl⟩ := h.on j hj
      rw [h.id hi] at e
      rw [← e, find_idAt h.d' hi] at hf; cases hf
theorem Pm.nearL (h : Pm its its' s) (l : List Bytes) : nearL its l = (nearL its' l).map s := by
  unfold Y.nearL
  generalize l.reverse = l
  induction l with
  | nil => rfl
  | cons r l ih =>
    rw [List.findSome?_cons, List.findSome?_cons, h.find r]
    cases findI its' r with
    | some i => rfl
    | none => exact ih
theorem Pm.nearI (h : Pm its its' s) {i : Nat} (hi : i < its'.length) : nearI its (s i) = (nearI its' i).map s := by
  unfold Y.nearI
  rw [h.at hi, List.getElem?_eq_getElem hi]
  exact h.nearL _
theorem Pm.itr (h : Pm its its' s) {i : Nat} (hi : i < its'.length) : ∀ m, itr (Y.nearI its) m (s i) = (itr (Y.nearI its') m i).map s
  | 0 => rfl
  | m + 1 => by
    show (Y.itr _ m _).bind _ = ((Y.itr _ m _).bind _).map s
    rw [h.itr hi m]
    cases hj : Y.itr (Y.nearI its') m i with
    | none => rfl
    | some j =>
      have hjl : j < its'.length := by
        cases m with
        | zero => obtain rfl : i = j := by simpa [Y.itr] using hj
                  exact hi
        | succ m =>
          obtain ⟨z, -, hz⟩ := Option.bind_eq_some_iff.1 hj
          exact nearI_lt hz
      exact h.nearI hjl
theorem itr_nlt {its : List It} {i : Nat} (hi : i < its.length) : ∀ {m j : Nat}, itr (nearI its) m i = some j → j < its.length
  | 0, j, h => by
    obtain rfl : i = j := by simpa [itr] using h
    exact hi
  | m + 1, j, h => by
    obtain ⟨z, -, hz⟩ := Option.bind_eq_some_iff.1 h
    exact nearI_lt hz
theorem Pm.brk (h : Pm its its' s) {i : Nat} (hi : i < its'.length) : brkI its (s i) = brkI its' i := by
  rw [Bool.eq_iff_iff, brkI_iff (h.lt i hi), brkI_iff hi]
  have hit : ∀ m j, j < its'.length → (Y.itr (Y.nearI its) m (s i) = some (s j) ↔ Y.itr (Y.nearI its') m i = some j) := by
    intro m j hj
    rw [h.itr hi m]
    cases hx : Y.itr (Y.nearI its') m i with
    | none => simp
    | some x =>
      have hxl := itr_nlt hi hx
      simp only [Option.map_some, Option.some.injEq]
      exact ⟨h.inj hxl hj, fun e => by rw [e]⟩
  unfold Brk
  constructor
  · rintro ⟨⟨m, hm⟩, h2⟩
    refine ⟨⟨m, (hit _ _ hi).1 hm⟩, fun m j hj => ?_⟩
    have hjl := itr_nlt hi hj
    have := h2 m (s j) ((hit _ _ hjl).2 hj)
    rw [h.id hjl, h.id hi] at this
    exact this
  · rintro ⟨⟨m, hm⟩, h2⟩
    refine ⟨⟨m, (hit _ _ hi).2 hm⟩, fun m j hj => ?_⟩
    have hjl := itr_nlt (h.lt i hi) hj
    obtain ⟨x, hx, rfl⟩ := h.on j hjl
    have := h2 m x ((hit _ _ hx).1 hj)
    rw [h.id hx, h.id hi]
    exact this
theorem headsS_nodup (its : List It) (b : Bytes) : (headsS its b).Nodup := by
  unfold headsS
  rw [(isortB_ok (lt := befI its) (befI_irr its) befI_tr _).1.nodup_iff]
  unfold headsN
  exact List.Pairwise.filter _ List.nodup_range
theorem Pm.heads (h : Pm its its' s) (b : Bytes) : headsS its b = (headsS its' b).map s := by
  have hlt' : ∀ x ∈ headsS its' b, x < its'.length := fun x hx => (headsS_mem.1 hx).1
  have hlt : ∀ x ∈ headsS its b, x < its.length := fun x hx => (headsS_mem.1 hx).1
  have hn' : ((headsS its' b).map s).Nodup := by
    unfold List.Nodup
    rw [List.pairwise_map]
    exact (headsS_nodup its' b).imp_of_mem fun hx hy hne e => hne (h.inj (hlt' _ hx) (hlt' _ hy) e)
  refine sorted_unique (lt := befI its) ?_ ((List.perm_ext_iff_of_nodup (headsS_nodup its b) hn').2 fun j => ?_) (isortB_ok (lt := befI its) (befI_irr its) befI_tr _).2 ?_
  · intro x hx y hy h1 h2
    exact idAt_inj h.d (hlt x hx) (hlt y hy) (bef_tri h1 h2).2
  · rw [headsS_mem, List.mem_map]
    constructor
    · rintro ⟨hj, hh⟩
      obtain ⟨i, hi, rfl⟩ := h.on j hj
      refine ⟨i, headsS_mem.2 ⟨hi, ?_⟩, rfl⟩
      rw [← h.eq i hi hj]; exact hh
    · rintro ⟨i, hi, rfl⟩
      obtain ⟨hil, hh⟩ := headsS_mem.1 hi
      refine ⟨h.lt i hil, ?_⟩
      rw [h.eq i hil]; exact hh
  · unfold SortedB
    rw [List.pairwise_map]
    have hs := (isortB_ok (lt := befI its') (befI_irr its') befI_tr (headsN its' its'.length b)).2
    unfold SortedB at hs
    refine hs.imp_of_mem fun hx hy hb => ?_
    unfold befI at hb ⊢
    rw [h.date (hlt' _ hx), h.date (hlt' _ hy), h.id (hlt' _ hx), h.id (hlt' _ hy)]
    exact hb
theorem Pm.par (h : Pm its its' s) {i : Nat} (hi : i < its'.length) : parI its (s i) = ((parI its' i).1.map s, (parI its' i).2) := by
  unfold parI
  rw [h.at hi, List.getElem?_eq_getElem hi]
  simp only
  unfold parB
  rw [h.at hi, List.getElem?_eq_getElem hi]
  simp only
  rw [h.brk hi, h.nearI hi, h.heads]
  by_cases hb : brkI its' i = true
  · rw [if_pos hb, if_pos hb]; rfl
  · rw [if_neg hb, if_neg hb]
    cases hn : Y.nearI its' i with
    | some k => rfl
    | none =>
      simp only [Option.map_none]
      by_cases hl : 0 < its'[i].rf.length
      · rw [if_pos hl, if_pos hl]; rfl
      · rw [if_neg hl, if_neg hl]
        by_cases hr : its'[i].reply = false ∨ its'[i].base = []
        · rw [if_pos hr, if_pos hr]; rfl
        · rw [if_neg hr, if_neg hr]
          have : ∀ l : List Nat, (∀ y ∈ l, y < its'.length) → (l.map s).find? (ansB its its'[i]) = (l.find? (ansB its' its'[i])).map s := by
            intro l
            induction l with
            | nil => intro _; rfl
            | cons y l ih =>
              intro hl
              have e : ansB its its'[i] (s y) = ansB its' its'[i] y := by unfold ansB; rw [h.date (hl y (by simp))]
              rw [List.map_cons, List.find?_cons, List.find?_cons, e, ih fun z hz => hl z (by simp [hz])]
              cases ansB its' its'[i] y <;> rfl
          rw [this _ fun x hx => (headsS_mem.1 hx).1]
theorem Pm.gh (h : Pm its its' s) {i : Nat} (hi : i < its'.length) : gh its (s i) = gh its' i := by
  unfold Y.gh; rw [h.par hi]
theorem Pm.pid (h : Pm its its' s) {i : Nat} (hi : i < its'.length) : pid its (s i) = pid its' i := by
  have hu : upI its' i = (parI its' i).1 := by unfold upI; rw [if_pos hi]
  unfold Y.pid
  rw [h.par hi]
  cases hp : parI its' i with
  | mk o g =>
    rw [hp] at hu
    cases o with
    | none => rfl
    | some k => exact h.id (upI_lt hu).2
theorem Pm.itP (h : Pm its its' s) {i : Nat} (hi : i < its'.length) : itP its (s i) = itP its' i := by
  unfold Y.itP; rw [h.id hi, h.date hi]
theorem Pm.ghL (h : Pm its its' s) (g : Bytes) : g ∈ ghL its its.length ↔ g ∈ ghL its' its'.length := by
  rw [ghL_mem, ghL_mem]
  constructor
  · rintro ⟨h1, j, hj, h2⟩
    obtain ⟨i, hi, rfl⟩ := h.on j hj
    exact ⟨h1, i, hi, by rw [← h.gh hi]; exact h2⟩
  · rintro ⟨h1, i, hi, h2⟩
    exact ⟨h1, s i, h.lt i hi, by rw [h.gh hi]; exact h2⟩
theorem ghD_spec (its : List It) (g : Bytes) : ∀ n, (∀ v, ghD its n g = some v → (∃ i, i < n ∧ gh its i = g ∧ dateAt its i = v) ∧ ∀ i, i < n → gh its i = g → v ≤ dateAt its i) ∧ (ghD its n g = none → ∀ i, i < n → gh its i ≠ g)
  | 0 => ⟨fun v h => by simp [ghD] at h, fun _ i hi => by omega⟩
  | n + 1 => by
    obtain ⟨h1, h2⟩ := ghD_spec its g n
    unfold ghD
    by_cases e : gh its n = g
    · rw [if_pos e]
      refine ⟨fun v hv => ?_, fun h => by cases h⟩
      obtain rfl := Option.some.inj hv
      cases hd : ghD its n g with
      | none =>
        refine ⟨⟨n, by omega, e, rfl⟩, fun i hi he => ?_⟩
        by_cases hin : i = n
        · subst hin; exact Int.le_refl _
        · exact absurd he (h2 hd i (by omega))
      | some u =>
        obtain ⟨⟨i, hi, h3, h4⟩, h5⟩ := h1 u hd
        unfold minD
        by_cases hlt : dateAt its n < u
        · simp only [hlt, if_true]
          refine ⟨⟨n, by omega, e, rfl⟩, fun x hx he => ?_⟩
          by_cases hxn : x = n
          · subst hxn; omega
          · have := h5 x (by omega) he; omega
        · simp only [hlt, if_false]
          refine ⟨⟨i, by omega, h3, h4⟩, fun x hx he => ?_⟩
          by_cases hxn : x = n
          · subst hxn; omega
          · exact h5 x (by omega) he
    · rw [if_neg e]
      refine ⟨fun v hv => ?_, fun h i hi => ?_⟩
      · obtain ⟨⟨i, hi, h3⟩, h5⟩ := h1 v hv
        refine ⟨⟨i, by omega, h3⟩, fun x hx he => ?_⟩
        by_cases hxn : x = n
        · subst hxn; exact absurd he e
        · exact h5 x (by omega) he
      · by_cases hin : i = n
        · subst hin; exact e
        · exact h2 h i (by omega)
theorem Pm.ghP (h : Pm its its' s) {g : Bytes} (hg : g ∈ Y.ghL its' its'.length) : ghP its g = ghP its' g := by
  unfold Y.ghP
  obtain ⟨h1, i0, hi0, hg0⟩ := (ghL_mem its' _ g).1 hg
  have key : ghD its its.length g = ghD its' its'.length g := by
    cases h2 : ghD its' its'.length g with
    | none => exact absurd hg0 ((ghD_spec its' g _).2 h2 i0 hi0)
    | some v =>
      cases h3 : ghD its its.length g with
      | none => exact absurd (by rw [h.gh hi0]; exact hg0) ((ghD_spec its g _).2 h3 (s i0) (h.lt i0 hi0))
      | some u =>
        obtain ⟨⟨i, hi, a1, a2⟩, a3⟩ := (ghD_spec its' g _).1 v h2
        obtain ⟨⟨j, hj, b1, b2⟩, b3⟩ := (ghD_spec its g _).1 u h3
        obtain ⟨x, hx, rfl⟩ := h.on j hj
        rw [h.gh hx] at b1
        rw [h.date hx] at b2
        have c1 := a3 x hx b1
        have c2 := b3 (s i) (h.lt i hi) (by rw [h.gh hi]; exact a1)
        rw [h.date hi] at c2
        congr 1; omega
  rw [key]
theorem Pm.kids (h : Pm its its' s) (p : Bytes) : kids its p = kids its' p := by
  have hn : ∀ {l : List It}, dist l → (Y.kids l p).Nodup := by
    intro l hl
    have := kids_nodup hl p
    unfold List.Nodup at this
    rw [List.pairwise_map] at this
    exact this.imp fun h e => h (by rw [e])
  have hm : ∀ b, b ∈ Y.kids its p ↔ b ∈ Y.kids its' p := by
    intro b
    rw [kids_mem, kids_mem]
    constructor
    · rintro (⟨j, hj, h1, rfl⟩ | ⟨h1, g, hg, rfl⟩)
      · obtain ⟨i, hi, rfl⟩ := h.on j hj
        exact .inl ⟨i, hi, by rw [← h.pid hi]; exact h1, h.itP hi⟩
      · have hg' := (h.ghL g).1 hg
        exact .inr ⟨h1, g, hg', h.ghP hg'⟩
    · rintro (⟨i, hi, h1, rfl⟩ | ⟨h1, g, hg', rfl⟩)
      · exact .inl ⟨s i, h.lt i hi, by rw [h.pid hi]; exact h1, (h.itP hi).symm⟩
      · exact .inr ⟨h1, g, (h.ghL g).2 hg', (h.ghP hg').symm⟩
  refine sorted_unique (lt := befP) ?_ ((List.perm_ext_iff_of_nodup (hn h.d) (hn h.d')).2 hm) (isortB_ok befP_irr befP_tr _).2 (isortB_ok befP_irr befP_tr _).2
  intro x hx y hy h1 h2
  exact kids_alone h.d hx hy (bef_tri h1 h2).2
theorem Pm.forest (h : Pm its its' s) : forestB its = forestB its' := by
  unfold forestB
  rw [show Y.kids its = Y.kids its' from funext h.kids, h.len]
theorem Pm.rootI (h : Pm its its' s) : ∀ (f i : Nat), i < its'.length → rootI its f (s i) = rootI its' f i
  | 0, i, hi => h.id hi
  | f + 1, i, hi => by
    have hu : upI its' i = (parI its' i).1 := by unfold upI; rw [if_pos hi]
    unfold Y.rootI
    rw [h.gh hi, h.par hi]
    by_cases hg : Y.gh its' i ≠ []
    · rw [if_pos hg, if_pos hg]
    · rw [if_neg hg, if_neg hg]
      cases hp : (parI its' i).1 with
      | none => exact h.id hi
      | some k =>
        rw [hp] at hu
        exact h.rootI f k (upI_lt hu).2
theorem Pm.root (h : Pm its its' s) (c : Bytes) : rootB its c = rootB its' c := by
  unfold rootB
  rw [h.find c]
  cases hf : findI its' c with
  | some i =>
    obtain ⟨hi, -⟩ := findI_idAt hf
    show Y.rootI its its.length (s i) = Y.rootI its' its'.length i
    rw [h.rootI _ i hi, h.len]
  | none =>
    show (if c ∈ Y.ghL its its.length then c else []) = (if c ∈ Y.ghL its' its'.length then c else [])
    by_cases hg : c ∈ Y.ghL its' its'.length
    · rw [if_pos hg, if_pos ((h.ghL c).2 hg)]
    · rw [if_neg hg, if_neg fun h' => hg ((h.ghL c).1 h')]
end
end Go.Proofs.Y

/- TSs: parts of slices of records. -/
namespace Go.Proofs.Y
open Go Go.HL Go.Proofs
section
variable {w : World}
theorem Sl.takeN {sz : Nat} {oa : Option Addr} {n c m : Nat} {xs : List Value} (h : Sl w (.slice oa n c) sz n xs) (hm : m ≤ n) : Sl w (.slice oa m c) sz m (xs.take (m * sz)) := by
  obtain ⟨hl, a, c', e, hc, hcell⟩ := h
  simp only [Value.slice.injEq] at e
  obtain ⟨rfl, -, rfl⟩ := e
  have hms : m * sz ≤ n * sz := Nat.mul_le_mul_right sz hm
  refine ⟨by rw [List.length_take]; omega, oa, c, rfl, by omega, fun h => ?_⟩
  obtain ⟨b, o, e, h2⟩ := hcell (by omega)
  refine ⟨b, o, e, fun j hj => ?_⟩
  rw [h2 j (by omega), List.getElem?_take_of_lt (by omega)]
theorem Sl.dropN {sz : Nat} {oa : Option Addr} {n c m : Nat} {xs : List Value} (h : Sl w (.slice oa n c) sz n xs) (hm : m ≤ n) : Sl w (.slice (if c = m then oa else oa.map (·.add (m * sz))) (n - m) (c - m)) sz (n - m) (xs.drop (m * sz)) := by
  obtain ⟨hl, a, c', e, hc, hcell⟩ := h
  simp only [Value.slice.injEq] at e
  obtain ⟨rfl, -, rfl⟩ := e
  have hms : m * sz ≤ n * sz := Nat.mul_le_mul_right sz hm
  have hsub : (n - m) * sz = n * sz - m * sz := Nat.sub_mul n m sz
  refine ⟨by rw [List.length_drop]; omega, _, c - m, rfl, by omega, fun h => ?_⟩
  obtain ⟨b, o, rfl, h2⟩ := hcell (by omega)
  rw [if_neg (by omega)]
  refine ⟨b, o + m * sz, by simp [Addr.add], fun j hj => ?_⟩
  rw [Nat.add_assoc, h2 (m * sz + j) (by omega), List.getElem?_drop]
theorem rows_split {α : Type} {f : α → List Value} {sz : Nat} (hf : ∀ x, (f x).length = sz) : ∀ (m : Nat) (l : List α), (rows f l).take (m * sz) = rows f (l.take m) ∧ (rows f l).drop (m * sz) = rows f (l.drop m)
  | 0, l => by simp [rows]
  | m + 1, [] => by simp [rows]
  | m + 1, x :: l => by
    obtain ⟨h1, h2⟩ := rows_split hf m l
    have e : (m + 1) * sz = (f x).length + m * sz := by rw [hf, Nat.add_mul]; omega
    rw [rows_cons, e, List.take_length_add_append, List.drop_length_add_append, h1, h2, List.take_succ_cons, List.drop_succ_cons, rows_cons]
    exact ⟨rfl, rfl⟩
end
end Go.Proofs.Y

/- TNd: thread: the reference's insert. -/
namespace Go.Proofs.Y
open Go Go.HL Go.Proofs

theorem sl67 : SlTy Try.prog 67 81 4 48 (.agg #[str [], .bool false, .int .i64 0, str []]) := ⟨by kernel_rfl, by kernel_rfl, rfl, by decide⟩
theorem z81 : (Try.prog.info? 81).bind (·.zero) = some (.agg #[str [], .bool false, .int .i64 0, str []]) := by kernel_rfl
theorem sz81 : szOf Try.prog 81 = some 4 := by kernel_rfl
/-- a node of the reference, with the id of its parent -/
structure Tr where
  id : Bytes
  ghost : Bool
  date : Int
  par : Bytes
def Tr.cells (x : Tr) : List Value := [str x.id, .bool x.ghost, .int .i64 x.date, str x.par]
abbrev Tr.v (x : Tr) : Value := .agg #[str x.id, .bool x.ghost, .int .i64 x.date, str x.par]
theorem Tr.len (x : Tr) : x.cells.length = 4 := rfl
theorem Tr.one (l : List Tr) : ∀ u ∈ rows Tr.cells l, u.oneCell' = true := by
  intro u hu
  unfold rows at hu
  obtain ⟨p, -, hu⟩ := List.mem_flatMap.1 hu
  simp [Tr.cells] at hu
  rcases hu with rfl | rfl | rfl | rfl <;> rfl
def befT (a b : Tr) : Bool := bef a.date a.id b.date b.id
theorem befT_irr (a : Tr) : befT a a = false := bef_irr _ _
theorem befT_tr (a b c : Tr) (h : befT a b = true) (k : befT b c = true) : befT a c = true := bef_tr h k
theorem ins_sorted {t : Tr} {l : List Tr} {at_ : Nat} (hs : SortedB befT l) (hat : at_ ≤ l.length) (h1 : ∀ j (h : j < l.length), at_ ≤ j → befT t l[j] = true) (h2 : ∀ h : at_ - 1 < l.length, 0 < at_ → befT t l[at_ - 1] = false) :
    SortedB befT (l.take at_ ++ t :: l.drop at_) := by
  unfold SortedB at hs ⊢
  have hpg := List.pairwise_iff_getElem.1 hs
  refine List.pairwise_append.2 ⟨hs.sublist (List.take_sublist _ _), List.pairwise_cons.2 ⟨fun y hy => ?_, hs.sublist (List.drop_sublist _ _)⟩, fun x hx y hy => ?_⟩
  · obtain ⟨j, hj, rfl⟩ := List.getElem_of_mem hy
    rw [List.length_drop] at hj
    rw [List.getElem_drop]
    have := h1 (at_ + j) (by omega) (by omega)
    cases hb : befT l[at_ + j] t with
    | false => rfl
    | true =>
      have := befT_tr _ _ _ this hb
      rw [befT_irr] at this; cases this
  · obtain ⟨i, hi, rfl⟩ := List.getElem_of_mem hx
    rw [List.length_take] at hi
    rw [List.getElem_take]
    have hit : befT t (l[i]'(by omega)) = false := by
      have h3 := h2 (by omega) (by omega)
      by_cases e : i = at_ - 1
      · subst e; exact h3
      · have := hpg i (at_ - 1) (by omega) (by omega) (by omega)
        exact bef_ntr h3 this
    rcases List.mem_cons.1 hy with rfl | hy
    · exact hit
    · obtain ⟨j, hj, rfl⟩ := List.getElem_of_mem hy
      rw [List.length_drop] at hj
      rw [List.getElem_drop]
      exact hpg i (at_ + j) (by omega) (by omega) (by omega)
section
variable {w w' : World} {next : Value → World → Prop} {QP : List PanicEntry → World → Prop}
theorem insert_ {v : Value} {t : Tr} {l : List Tr} (hK : Sl w v 4 l.length (rows Tr.cells l)) (hs : SortedB befT l) (hn : l.length ≤ 1000000)
    (k : ∀ l' v' w', l'.Perm (t :: l) → SortedB befT l' → HL.Own w' v' 81 4 l'.length (rows Tr.cells l') → (∀ q, v'.ownBlock = some q → w.heap.size ≤ q) → Mod none' w w' → next v' w') : callvK Try.prog (.func (.func 49) #[] #[]) [v, t.v] w next QP := by
  refine r49 rfl ?_
  obtain ⟨va, vc, rfl, hvc, -⟩ := hK.form
  unfold h49
  try simp only [go_sem]
  refine box_ (cs := t.cells) rfl ?_
  intro b3 w1 hb3 bk1 m1 s1
  try simp only [go_sem]
  refine loopN l.length (fun n τ w' => τ 0 = .slice va l.length vc ∧ τ 3 = ptr b3 ∧ τ 5 = .int .i64 ((l.length - n : Nat) : Int) ∧ (∀ j (h : j < l.length), l.length - n ≤ j → befT t l[j] = true) ∧ Mod none' w1 w') ⟨0, by omega, rfl, rfl, rfl, fun j h h' => by omega, Mod.refl _ _⟩ ?_
  rintro n τ w2 hn2 ⟨t0, t3, t5, hall, m2⟩
  have hK2 := (hK.mod m1 fun _ _ h => h).mod m2 fun _ _ h => h
  have bk2 := bk1.mod m2 fun h => h
  obtain ⟨a, ha⟩ : ∃ a, a = l.length - n := ⟨_, rfl⟩
  rw [← ha] at t5 hall
  have e0 := bk2.cell 0
  have e2 := bk2.cell 2
  simp only [Tr.cells, List.getElem?_cons_zero, List.getElem?_cons_succ] at e0 e2
  have rest : ∀ (σ : Env) (u : World), σ 0 = .slice va l.length vc → σ 3 = ptr b3 → σ 5 = .int .i64 (a : Int) → Mod none' w1 u → (∀ h : a - 1 < l.length, 0 < a → befT t l[a - 1] = false) → hw Try.prog noPanic h49_3 (endV [.tmp 4] next) σ u := by
    intro σ u t0 t3 t5 mu h2
    have mwu := m1.trans' mu
    have hKu := hK.mod mwu fun _ _ h => h
    have ha' : a ≤ l.length := by omega
    have slt := Sl.takeN hKu ha'
    have sld := Sl.dropN hKu ha'
    rw [(rows_split Tr.len a l).1] at slt
    rw [(rows_split Tr.len a l).2] at sld
    unfold h49_3
    try simp only [go_sem, t0, t3, t5, Int.toNat_natCast]
    refine bsl0 sl67 ?_
    intro b32 w5 hb32 own5 m5 s5
    try simp only [go_sem, t0, t3, t5, Int.toNat_natCast]
    repeat refine ⟨⟨by omega, by omega⟩, ?_⟩
    refine append_ sl67 own5 (slt.mod m5 fun _ _ h => h) (Tr.one _) (by omega) (by unfold maxLen; omega) ?_
    intro v6 w6 own6 m6 hf6 _
    have hv6 : ∀ q, v6.ownBlock = some q → u.heap.size ≤ q := by
      intro q hq
      rcases hf6 q hq with h | h
      · have h : some b32 = some q := h
        injection h with h
        omega
      · omega
    have mu6 : Mod none' u w6 := m5.trans m6 fun x hx e => by
      have e : some b32 = some x := e
      injection e with e
      omega
    have bk6 := (bk1.mod mu fun h => h).mod mu6 fun h => h
    have y1 : loadN w6 ⟨b3, 0, none⟩ 4 = t.cells.toArray := loadN_of rfl fun j hj => by rw [e_add, Nat.zero_add]; exact bk6.cell j
    have y2 : (∀ j, j < 4 → (w6.cell? ⟨b3, j, none⟩).isSome = true) = True := eq_true fun j hj => by
      rw [bk6.cell j]; simp [Tr.cells, hj]
    try simp only [go_sem, t0, t3, t5, y1, y2]
    refine bsl1 (cs := t.cells) sl67 rfl rfl (by omega) ?_
    intro b39 w7 hb39 own7 bk7 m7 s7
    try simp only [go_sem, t0, t3, t5]
    refine append_ sl67 (own6.mod m7 fun _ _ h => h) own7.sl (by intro u hu; simp [Tr.cells] at hu; rcases hu with rfl | rfl | rfl | rfl <;> rfl) (by omega) (by unfold maxLen; omega) ?_
    intro v8 w8 own8 m8 hf8 _
    have hv8 : ∀ q, v8.ownBlock = some q → u.heap.size ≤ q := by
      intro q hq
      rcases hf8 q hq with h | h
      · exact hv6 q h
      · have := mu6.size; have := m7.size; omega
    have mu8 : Mod none' u w8 := (mu6.trans' m7).trans m8 fun x hx e => by
      have := hv6 x e
      omega
    unfold h49_4
    try simp only [go_sem, t0, t3, t5, Int.toNat_natCast]
    repeat refine ⟨⟨by omega, by omega⟩, ?_⟩
    refine append_ sl67 own8 (sld.mod mu8 fun _ _ h => h) (Tr.one _) (by omega) (by unfold maxLen; omega) ?_
    intro v9 w9 own9 m9 hf9 _
    have hv9 : ∀ q, v9.ownBlock = some q → u.heap.size ≤ q := by
      intro q hq
      rcases hf9 q hq with h | h
      · exact hv8 q h
      · have := mu8.size; omega
    have mu9 : Mod none' u w9 := mu8.trans m9 fun x hx e => by
      have := hv8 x e
      omega
    try simp only [go_sem]
    have hlen : (l.take a ++ t :: l.drop a).length = l.length + 1 := by
      rw [List.length_append, List.length_cons, List.length_take, List.length_drop]; omega
    refine k (l.take a ++ t :: l.drop a) v9 w9 ?_ (ins_sorted hs ha' hall h2) ?_ (fun q hq => by have := hv9 q hq; have := mwu.size; omega) (mwu.trans' mu9)
    · have : (l.take a ++ t :: l.drop a).Perm (t :: (l.take a ++ l.drop a)) := List.perm_middle
      rw [List.take_append_drop] at this
      exact this
    · rw [hlen]
      have e1 : 0 + a + 1 + (l.length - a) = l.length + 1 := by omega
      rw [e1, List.nil_append, List.append_assoc] at own9
      rw [rows_app, rows_cons]
      exact own9
  unfold h49_1
  by_cases ha0 : 0 < a
  · obtain ⟨ga, oa, ca, ea, -, hca⟩ := hK2.get Tr.len rfl (by omega)
    simp only [Value.slice.injEq] at ea
    obtain ⟨rfl, -, rfl⟩ := ea
    have hal : a - 1 < l.length := by omega
    have z0 := hca (a - 1) 0 hal (by omega)
    have z2 := hca (a - 1) 2 hal (by omega)
    simp only [Tr.cells, List.getElem?_cons_zero, List.getElem?_cons_succ, Nat.add_zero] at z0 z2
    have hws : IntKind.i64.wrap ((a : Int) - 1) = ((a - 1 : Nat) : Int) := by rw [w64 (by omega) (by omega)]; omega
    have c1 : decide ((0 : Int) < (a : Int)) = true := decide_eq_true (by omega)
    try simp only [go_sem, t0, t3, t5, e0, e2, hws, c1, z0, z2]
    repeat refine ⟨⟨by omega, by omega⟩, ?_⟩
    refine rbef_ _ _ _ _ ?_
    have hbe : bef t.date t.id l[a - 1].date l[a - 1].id = befT t l[a - 1] := rfl
    rw [hbe]
    have m2d := m2.trans' (Mod.drew none' w2)
    cases hb : befT t l[a - 1] with
    | true =>
      unfold h49_2
      try simp only [go_sem, t0, t3, t5, hws]
      have e1 : l.length - (n + 1) = a - 1 := by omega
      refine ⟨n + 1, by omega, by omega, by rw [e1], fun j h h' => ?_, m2d⟩
      rw [e1] at h'
      by_cases e : j = a - 1
      · subst e; exact hb
      · exact hall j h (by omega)
    | false =>
      try simp only [go_sem, t0, t3, t5]
      exact rest _ _ t0 t3 t5 m2d fun _ _ => hb
  · have c1 : decide ((0 : Int) < (a : Int)) = false := decide_eq_false (by omega)
    try simp only [go_sem, t0, t3, t5, c1]
    exact rest _ _ t0 t3 t5 (m2.trans' (Mod.drew _ _)) fun _ h => absurd h ha0
end
end Go.Proofs.Y

/- TNe: thread: the reference's trees. -/
namespace Go.Proofs.Y
open Go Go.HL Go.Proofs

def itT (its : List It) (i : Nat) : Tr := ⟨idAt its i, false, dateAt its i, pid its i⟩
def ghT (its : List It) (g : Bytes) : Tr := ⟨g, true, (ghD its its.length g).getD 0, []⟩
theorem sz9' : szOf Try.prog 9 = some 1 := by kernel_rfl
theorem ghD_min {its : List It} {i : Nat} (hi : i < its.length) {d : Int} (h1 : ∀ x, x < its.length → gh its x = gh its i → d ≤ dateAt its x) (h2 : ∃ x, x < its.length ∧ gh its x = gh its i ∧ d = dateAt its x) : (ghD its its.length (gh its i)).getD 0 = d := by
  cases h : ghD its its.length (gh its i) with
  | none => exact absurd rfl ((ghD_spec its (gh its i) _).2 h i hi)
  | some v =>
    obtain ⟨⟨x, hx, a1, a2⟩, a3⟩ := (ghD_spec its (gh its i) _).1 v h
    obtain ⟨y, hy, b1, b2⟩ := h2
    have c1 := h1 x hx a1
    have c2 := a3 y hy b1
    show v = d
    omega
section
variable {w w' : World} {its : List It} {rvs : List Value} {next : Value → World → Prop} {QP : List PanicEntry → World → Prop}
theorem trees_ {v : Value} (hd : dist its) (hK : Its w v its rvs) (hz : szI its) (hn : its.length ≤ 100000)
    (k : ∀ l v' w', l.Perm ((List.range its.length).map (itT its) ++ (ghL its its.length).map (ghT its)) → SortedB befT l → HL.Own w' v' 81 4 l.length (rows Tr.cells l) → (∀ q, v'.ownBlock = some q → w.heap.size ≤ q) → Mod none' w w' → next v' w') : callvK Try.prog (.func (.func 35) #[] #[]) [v] w next QP := by
  refine r35 rfl ?_
  obtain ⟨va, vc, rfl, -, -⟩ := hK.sl.form
  unfold h35
  try simp only [go_sem]
  refine rparents_ hd hK hz (by omega) ?_
  intro vl vg w1 sll slg m1
  obtain ⟨la, lc, rfl, -, hl⟩ := sll.form
  obtain ⟨ga, gc, rfl, -, hg⟩ := slg.form
  try simp only [go_sem]
  refine loopN its.length (fun i τ w' => τ 0 = .slice va its.length vc ∧ τ 3 = .slice la its.length lc ∧ τ 4 = .slice ga its.length gc ∧ τ 6 = .int .i64 i ∧ (∃ l vt, τ 5 = vt ∧ l.Perm ((List.range i).map (itT its)) ∧ SortedB befT l ∧ HL.Own w' vt 81 4 l.length (rows Tr.cells l) ∧ ∀ q, vt.ownBlock = some q → w.heap.size ≤ q) ∧ Mod none' w1 w') ⟨0, by omega, rfl, rfl, rfl, rfl, ⟨[], .slice none 0 0, rfl, List.Perm.refl _, List.Pairwise.nil, HL.Own.nil w1 81 4, fun q hq => by cases hq⟩, Mod.refl _ _⟩ ?_
  rintro i τ w2 hi ⟨t0, t3, t4, t6, ⟨l, vt, t5, hpl, hsl, ownl, hvl⟩, m2⟩
  have hll : l.length = i := by rw [hpl.length_eq, List.length_map, List.length_range]
  unfold h35_1
  try simp only [go_sem, t0, t3, t4, t5, t6]
  refine ⟨fun hlt => ?_, fun hge => ?_⟩
  · have hil : i < its.length := by
      have := of_decide_eq_true hlt
      omega
    obtain ⟨lb, lo, rfl, hlc⟩ := hl (by omega)
    obtain ⟨gb, go, rfl, hgc⟩ := hg (by omega)
    have cl := hlc i (by omega)
    have cg := hgc i (by omega)
    rw [PE_at hil] at cl
    rw [GE_at hil] at cg
    obtain ⟨g, o, rfl⟩ := hK.addr (by omega)
    obtain ⟨rv, -, ax⟩ := ((hK.up m1).up m2).at hil
    have x0 := ax.c0
    have x1 := ax.c1
    have cg2 := m2.cell cg fun h => h
    unfold h35_2
    try simp only [go_sem, t0, t3, t4, t5, t6, x0, x1, cg2]
    repeat refine ⟨⟨by omega, by omega⟩, ?_⟩
    refine ⟨by omega, by simp, by simp, ?_⟩
    refine alloc_ (cs := [str [], .bool false, .int .i64 0, str []]) z81 rfl ?_
    intro b7 w5 hb7 bk5 m5 s5
    have m2d := Mod.drew none' w2
    have m25 := m2d.trans' m5
    have x0' := m25.cell x0 fun h => h
    have x1' := m25.cell x1 fun h => h
    have cg5 := m25.cell cg2 fun h => h
    have hdz : w2.drew.heap.size = w2.heap.size := rfl
    try simp only [go_sem, t0, t3, t4, t5, t6, x0', x1', cg5]
    repeat refine ⟨⟨by omega, by omega⟩, ?_⟩
    refine storeN (vs := [str its[i].id, .bool false, .int .i64 its[i].date, str (gh its i)]) sz81 rfl bk5 (by simp) (by intro u hu; simp at hu; rcases hu with rfl | rfl | rfl | rfl <;> rfl) ?_
    intro w6 bk6 m6 s6
    have m26 : Mod none' w2 w6 := m25.trans m6 fun x hx e => by
      have e : x = b7 := e
      omega
    have bk6 : Blk w6 b7 81 [str its[i].id, .bool false, .int .i64 its[i].date, str (gh its i)] := by simpa using bk6
    have cl6 := (m2.trans' m26).cell cl fun h => h
    have fin : ∀ (Q : HX → Env → World → Prop) (σ : Env) (u : World), σ 0 = .slice (some ⟨g, o, none⟩) its.length vc → σ 3 = .slice (some ⟨lb, lo, none⟩) its.length lc → σ 4 = .slice (some ⟨gb, go, none⟩) its.length gc → σ 5 = vt → σ 6 = .int .i64 i → σ 7 = ptr b7 → Blk u b7 81 (itT its i).cells → Mod none' w2 u →
        (∀ σ u, σ 0 = .slice (some ⟨g, o, none⟩) its.length vc → σ 3 = .slice (some ⟨lb, lo, none⟩) its.length lc → σ 4 = .slice (some ⟨gb, go, none⟩) its.length gc → σ 6 = .int .i64 i → (∃ l vt, σ 5 = vt ∧ l.Perm ((List.range (i + 1)).map (itT its)) ∧ SortedB befT l ∧ HL.Own u vt 81 4 l.length (rows Tr.cells l) ∧ ∀ q, vt.ownBlock = some q → w.heap.size ≤ q) → Mod none' w1 u → Q .normal σ u) → hw Try.prog noPanic h35_3 Q σ u := by
      intro Q σ u t0 t3 t4 t5 t6 t7 bk mu hQ
      have y1 : loadN u ⟨b7, 0, none⟩ 4 = (itT its i).cells.toArray := loadN_of rfl fun j hj => by rw [e_add, Nat.zero_add]; exact bk.cell j
      have y2 : (∀ j, j < 4 → (u.cell? ⟨b7, j, none⟩).isSome = true) = True := eq_true fun j hj => by
        rw [bk.cell j]; simp [Tr.cells, hj]
      unfold h35_3
      try simp only [go_sem, t5, t7, y1, y2]
      refine insert_ (t := itT its i) ((ownl.sl.mod mu fun _ _ h => h)) hsl (by omega) ?_
      intro l' v' w' hp' hs' own' hv' m'
      try simp only [go_sem]
      refine hQ _ _ t0 t3 t4 t6 ⟨l', v', rfl, ?_, hs', own', fun q hq => ?_⟩ ((m2.trans' mu).trans' m')
      · rw [List.range_succ, List.map_append]
        exact hp'.trans ((hpl.cons _).trans (List.perm_append_singleton _ _).symm)
      · have := hv' q hq
        have := mu.size
        have := m2.size
        have := m1.size
        omega
    have last : ∀ (σ : Env) (u : World), σ 0 = .slice (some ⟨g, o, none⟩) its.length vc → σ 3 = .slice (some ⟨lb, lo, none⟩) its.length lc → σ 4 = .slice (some ⟨gb, go, none⟩) its.length gc → σ 6 = .int .i64 i → (∃ l vt, σ 5 = vt ∧ l.Perm ((List.range (i + 1)).map (itT its)) ∧ SortedB befT l ∧ HL.Own u vt 81 4 l.length (rows Tr.cells l) ∧ ∀ q, vt.ownBlock = some q → w.heap.size ≤ q) → Mod none' w1 u →
        hw Try.prog noPanic h35_4 (seqX (fun σ' w' => ∃ i', i < i' ∧ i' ≤ its.length ∧ σ' 0 = .slice (some ⟨g, o, none⟩) its.length vc ∧ σ' 3 = .slice (some ⟨lb, lo, none⟩) its.length lc ∧ σ' 4 = .slice (some ⟨gb, go, none⟩) its.length gc ∧ σ' 6 = .int .i64 i' ∧ (∃ l vt, σ' 5 = vt ∧ l.Perm ((List.range i').map (itT its)) ∧ SortedB befT l ∧ HL.Own w' vt 81 4 l.length (rows Tr.cells l) ∧ ∀ q, vt.ownBlock = some q → w.heap.size ≤ q) ∧ Mod none' w1 w') (blockX 0 (seqX (hw Try.prog noPanic h35_5 (endV [.tmp 2] next)) (endV [.tmp 2] next)))) σ u := by
      rintro σ u t0 t3 t4 t6 ⟨l, vt, t5, h1, h2, h3, h4⟩ mu
      unfold h35_4
      try simp only [go_sem, t0, t3, t4, t6]
      rw [w64 (by omega) (by omega)]
      exact ⟨i + 1, by omega, by omega, rfl, ⟨l, vt, t5, h1, h2, h3, h4⟩, mu⟩
    cases hp : (parI its i).1 with
    | none =>
      rw [hp] at cl6
      have c0 : decide (0 ≤ oi none) = false := rfl
      have hpid : pid its i = gh its i := by
        rcases pid_cases hil with ⟨q, h1, -⟩ | ⟨-, h2⟩
        · unfold upI at h1; rw [if_pos hil, hp] at h1; cases h1
        · exact h2
      try simp only [go_sem, t0, t3, t4, t5, t6, cl6, c0]
      repeat refine ⟨⟨by omega, by omega⟩, ?_⟩
      refine fin _ _ _ t0 t3 t4 t5 t6 rfl ?_ m26 fun σ u t0 t3 t4 t6 hx mu => ?_
      · unfold itT Tr.cells
        rw [idAt_at hil, dateAt_at hil, hpid]
        exact bk6
      · exact last σ u t0 t3 t4 t6 hx mu
    | some q =>
      rw [hp] at cl6
      have hu : upI its i = some q := by unfold upI; rw [if_pos hil, hp]
      have hq := (upI_lt hu).2
      have c0 : decide (0 ≤ (q : Int)) = true := decide_eq_true (by omega)
      have cl6 : w6.cell? ⟨lb, lo + i, none⟩ = some (.int .i64 (q : Int)) := cl6
      obtain ⟨rvq, -, aq⟩ := (((hK.up m1).up m2).up m26).at hq
      have q0 := aq.c0
      try simp only [go_sem, t0, t3, t4, t5, t6, cl6, c0, q0]
      repeat refine ⟨⟨by omega, by omega⟩, ?_⟩
      refine store1 (o := 3) sz9 bk6 (by simp) rfl ?_
      intro w7 bk7 m7 s7
      have m27 : Mod none' w2 w7 := m26.trans m7 fun x hx e => by
        have e : x = b7 := e
        omega
      try simp only [go_sem]
      refine fin _ _ _ t0 t3 t4 t5 t6 rfl ?_ m27 fun σ u t0 t3 t4 t6 hx mu => ?_
      · unfold itT Tr.cells
        rw [idAt_at hil, dateAt_at hil, (up_pid hu).1, idAt_at hq]
        exact bk7
      · exact last σ u t0 t3 t4 t6 hx mu
  · have hil : i = its.length := by
      have := of_decide_eq_false hge
      omega
    subst hil
    unfold h35_5
    try simp only [go_sem, t0, t3, t4, t5, t6]
    refine loopN its.length (fun i τ w' => τ 0 = .slice va its.length vc ∧ τ 4 = .slice ga its.length gc ∧ τ 8 = .int .i64 i ∧ (∃ l vt, τ 5 = vt ∧ l.Perm ((List.range its.length).map (itT its) ++ (ghL its i).map (ghT its)) ∧ SortedB befT l ∧ HL.Own w' vt 81 4 l.length (rows Tr.cells l) ∧ ∀ q, vt.ownBlock = some q → w.heap.size ≤ q) ∧ Mod none' w2 w') ⟨0, by omega, t0, t4, rfl, ⟨l, vt, t5, by simpa [ghL] using hpl, hsl, ownl, hvl⟩, Mod.refl _ _⟩ ?_
    clear hpl hsl ownl hvl t5 hll
    rintro i τ w3 hi ⟨t0, t4, t8, ⟨l, vt, t5, hpl, hsl, ownl, hvl⟩, m3⟩
    have hgl := ghL_len its i
    have hll : l.length = its.length + (ghL its i).length := by rw [hpl.length_eq, List.length_append, List.length_map, List.length_map, List.length_range]
    have mw3 := (m1.trans' m2).trans' m3
    unfold h35_6
    try simp only [go_sem, t0, t4, t5, t8]
    refine ⟨fun hlt => ?_, fun hge => ?_⟩
    · have hil : i < its.length := by
        have := of_decide_eq_true hlt
        omega
      obtain ⟨gb, go, rfl, hgc⟩ := hg (by omega)
      have cgA : ∀ x, x < its.length → w1.cell? ⟨gb, go + x, none⟩ = some (str (gh its x)) := fun x hx => by rw [hgc x (by omega), GE_at hx]
      have cg := (m2.trans' m3).cell (cgA i hil) fun h => h
      obtain ⟨g, o, rfl⟩ := hK.addr (by omega)
      obtain ⟨rv, -, ax⟩ := (hK.up mw3).at hil
      have x1 := ax.c1
      unfold h35_7
      try simp only [go_sem, t0, t4, t5, t8, cg, x1]
      repeat refine ⟨⟨by omega, by omega⟩, ?_⟩
      refine loopN its.length (fun q σ w' => σ 0 = .slice (some ⟨g, o, none⟩) its.length vc ∧ σ 4 = .slice (some ⟨gb, go, none⟩) its.length gc ∧ σ 5 = vt ∧ σ 8 = .int .i64 i ∧ σ 11 = .int .i64 q ∧ (∃ b : Bool, σ 9 = .bool b ∧ (b = true ↔ gh its i ≠ [] ∧ ∀ x, x < q → gh its x = gh its i → i ≤ x)) ∧ (∃ d, σ 10 = .int .i64 d ∧ (∀ x, x < q → gh its x = gh its i → d ≤ dateAt its x) ∧ ∃ x, x < its.length ∧ gh its x = gh its i ∧ d = dateAt its x) ∧ Mod none' w3 w') ⟨0, by omega, t0, t4, t5, t8, rfl, ⟨_, rfl, by simp⟩, ⟨_, rfl, fun x hx => by omega, i, hil, rfl, (dateAt_at hil).symm⟩, Mod.refl _ _⟩ ?_
      rintro q σ w4 hq ⟨t0, t4, t5, t8, t11, ⟨b, t9, hb⟩, ⟨d, t10, hd1, hd2⟩, m4⟩
      have mw4 := mw3.trans' m4
      unfold h35_8
      try simp only [go_sem, t0, t4, t5, t8, t9, t10, t11]
      refine ⟨fun hlt => ?_, fun hge => ?_⟩
      · have hql : q < its.length := by
          have := of_decide_eq_true hlt
          omega
        have m13 := (m2.trans' m3).trans' m4
        have cq := m13.cell (cgA q hql) fun h => h
        have ci := m13.cell (cgA i hil) fun h => h
        have m4d := m4.trans' (Mod.drew none' w4)
        obtain ⟨rvq, -, aq⟩ := (hK.up mw4).at hql
        have q1 := aq.c1
        have fin : ∀ (b : Bool) (d : Int) (σ : Env), σ 0 = .slice (some ⟨g, o, none⟩) its.length vc → σ 4 = .slice (some ⟨gb, go, none⟩) its.length gc → σ 5 = vt → σ 8 = .int .i64 i → σ 11 = .int .i64 q → σ 9 = .bool b → (b = true ↔ gh its i ≠ [] ∧ ∀ x, x < q + 1 → gh its x = gh its i → i ≤ x) → σ 10 = .int .i64 d → (∀ x, x < q + 1 → gh its x = gh its i → d ≤ dateAt its x) → (∃ x, x < its.length ∧ gh its x = gh its i ∧ d = dateAt its x) →
            ∀ Q : HX → Env → World → Prop, (∀ σ', σ' 0 = .slice (some ⟨g, o, none⟩) its.length vc → σ' 4 = .slice (some ⟨gb, go, none⟩) its.length gc → σ' 5 = vt → σ' 8 = .int .i64 i → σ' 11 = .int .i64 (q + 1 : Nat) → (∃ b : Bool, σ' 9 = .bool b ∧ (b = true ↔ gh its i ≠ [] ∧ ∀ x, x < q + 1 → gh its x = gh its i → i ≤ x)) → (∃ d, σ' 10 = .int .i64 d ∧ (∀ x, x < q + 1 → gh its x = gh its i → d ≤ dateAt its x) ∧ ∃ x, x < its.length ∧ gh its x = gh its i ∧ d = dateAt its x) → Q .normal σ' w4.drew) → hw Try.prog noPanic h35_10 Q σ w4.drew := by
          intro b d σ t0 t4 t5 t8 t11 t9 hb t10 hd1 hd2 Q hQ
          unfold h35_10
          try simp only [go_sem, t11]
          rw [w64 (by omega) (by omega)]
          exact hQ _ t0 t4 t5 t8 rfl ⟨b, t9, hb⟩ ⟨d, t10, hd1, hd2⟩
        unfold h35_9
        try simp only [go_sem, t0, t4, t5, t8, t9, t10, t11, cq, ci]
        repeat refine ⟨⟨by omega, by omega⟩, ?_⟩
        refine ⟨fun he => ?_, fun he => ?_⟩
        · have he : gh its q = gh its i := by simpa using he
          try simp only [go_sem, t0, t4, t5, t8, t9, t10, t11, q1]
          repeat refine ⟨⟨by omega, by omega⟩, ?_⟩
          obtain ⟨b', hb'⟩ : ∃ b', b' = (if b = true then decide ((i : Int) ≤ (q : Int)) else false) := ⟨_, rfl⟩
          obtain ⟨d', hd'⟩ : ∃ d', d' = (if its[q].date < d then its[q].date else d) := ⟨_, rfl⟩
          have hdq := dateAt_at hql
          refine fin b' d' _ (by exact t0) (by exact t4) (by exact t5) (by exact t8) (by exact t11) (by rw [hb']; rfl) ?_ (by rw [hd']; rfl) ?_ ?_ _ fun σ' t0 t4 t5 t8 t11 t9 t10 => ?_
          · rw [hb']
            cases b with
            | false =>
              refine ⟨fun h => by simp at h, fun h => ?_⟩
              have := hb.2 ⟨h.1, fun x hx hg => h.2 x (by omega) hg⟩
              simp at this
            | true =>
              obtain ⟨g1, g2⟩ := hb.1 rfl
              constructor
              · intro h
                have h : (i : Int) ≤ (q : Int) := by simpa using h
                refine ⟨g1, fun x hx hg => ?_⟩
                by_cases e : x = q
                · omega
                · exact g2 x (by omega) hg
              · rintro ⟨-, h2⟩
                have := h2 q (by omega) he
                simp; omega
          · intro x hx hg
            rw [hd']
            by_cases e : x = q
            · subst e
              rw [hdq]
              split <;> omega
            · have := hd1 x (by omega) hg
              split <;> omega
          · rw [hd']
            split
            · exact ⟨q, hql, he, hdq.symm⟩
            · exact hd2
          · refine ⟨q + 1, by omega, by omega, ?_⟩
            (repeat' first | assumption | rfl | omega | apply And.intro)
        · have he : gh its q ≠ gh its i := by simpa using he
          refine fin b d _ (by exact t0) (by exact t4) (by exact t5) (by exact t8) (by exact t11) (by exact t9) ?_ (by exact t10) ?_ hd2 _ fun σ' t0 t4 t5 t8 t11 t9 t10 => ?_
          · rw [hb]
            refine and_congr_right fun _ => ⟨fun h x hx hg => ?_, fun h x hx hg => h x (by omega) hg⟩
            by_cases e : x = q
            · subst e; exact absurd hg he
            · exact h x (by omega) hg
          · intro x hx hg
            by_cases e : x = q
            · subst e; exact absurd hg he
            · exact hd1 x (by omega) hg
          · refine ⟨q + 1, by omega, by omega, ?_⟩
            (repeat' first | assumption | rfl | omega | apply And.intro)
      · have hql : q = its.length := by
          have := of_decide_eq_false hge
          omega
        subst hql
        unfold h35_11
        have ci := (((m2.trans' m3).trans' m4)).cell (cgA i hil) fun h => h
        have hdd : (ghD its its.length (gh its i)).getD 0 = d := ghD_min hil hd1 hd2
        have last : ∀ (σ : Env) (u : World), σ 0 = .slice (some ⟨g, o, none⟩) its.length vc → σ 4 = .slice (some ⟨gb, go, none⟩) its.length gc → σ 8 = .int .i64 i → (∃ l vt, σ 5 = vt ∧ l.Perm ((List.range its.length).map (itT its) ++ (ghL its (i + 1)).map (ghT its)) ∧ SortedB befT l ∧ HL.Own u vt 81 4 l.length (rows Tr.cells l) ∧ ∀ q, vt.ownBlock = some q → w.heap.size ≤ q) → Mod none' w2 u →
            hw Try.prog noPanic h35_12 (seqX (fun σ' w' => ∃ i', i < i' ∧ i' ≤ its.length ∧ σ' 0 = .slice (some ⟨g, o, none⟩) its.length vc ∧ σ' 4 = .slice (some ⟨gb, go, none⟩) its.length gc ∧ σ' 8 = .int .i64 i' ∧ (∃ l vt, σ' 5 = vt ∧ l.Perm ((List.range its.length).map (itT its) ++ (ghL its i').map (ghT its)) ∧ SortedB befT l ∧ HL.Own w' vt 81 4 l.length (rows Tr.cells l) ∧ ∀ q, vt.ownBlock = some q → w.heap.size ≤ q) ∧ Mod none' w2 w') (blockX 2 (seqX (hw Try.prog noPanic h35_13 (endV [.tmp 2] next)) (endV [.tmp 2] next)))) σ u := by
          rintro σ u t0 t4 t8 ⟨l, vt, t5, h1, h2, h3, h4⟩ mu
          unfold h35_12
          try simp only [go_sem, t0, t4, t8]
          rw [w64 (by omega) (by omega)]
          exact ⟨i + 1, by omega, by omega, rfl, ⟨l, vt, t5, h1, h2, h3, h4⟩, mu⟩
        cases b with
        | true =>
          obtain ⟨g1, g2⟩ := hb.1 rfl
          have hnew : ghL its (i + 1) = ghL its i ++ [gh its i] := by
            show (if gh its i = [] ∨ gh its i ∈ ghL its i then ghL its i else ghL its i ++ [gh its i]) = _
            refine if_neg fun h => ?_
            rcases h with h | h
            · exact g1 h
            · obtain ⟨-, x, hx, hxg⟩ := (ghL_mem its i _).1 h
              have := g2 x (by omega) hxg
              omega
          have hgt : ghT its (gh its i) = ⟨gh its i, true, d, []⟩ := by unfold ghT; rw [hdd]
          try simp only [go_sem, t0, t4, t5, t8, t9, t10, ci]
          refine ⟨⟨by omega, by omega⟩, by omega, by simp, by simp, ?_⟩
          refine insert_ (t := ⟨gh its i, true, d, []⟩) (ownl.sl.mod m4 fun _ _ h => h) hsl (by omega) ?_
          intro l' v' w5 hp' hs' own' hv' m5
          refine last _ _ (by exact t0) (by exact t4) (by exact t8) ⟨l', v', rfl, ?_, hs', own', fun q hq => ?_⟩ ((m3.trans' m4).trans' m5)
          · rw [hnew, List.map_append, ← List.append_assoc]
            refine hp'.trans ((hpl.cons _).trans ?_)
            rw [← hgt]
            exact (List.perm_append_singleton _ _).symm
          · have := hv' q hq
            have := mw4.size
            omega
        | false =>
          have hold : ghL its (i + 1) = ghL its i := by
            show (if gh its i = [] ∨ gh its i ∈ ghL its i then ghL its i else ghL its i ++ [gh its i]) = _
            refine if_pos ?_
            by_cases g1 : gh its i = []
            · exact .inl g1
            · refine .inr ((ghL_mem its i _).2 ⟨g1, ?_⟩)
              by_cases h : ∃ x, x < i ∧ gh its x = gh its i
              · exact h
              · exact absurd (hb.2 ⟨g1, fun x hx hg => by
                  rcases Nat.lt_or_ge x i with h' | h'
                  · exact absurd ⟨x, h', hg⟩ h
                  · exact h'⟩) (by simp)
          try simp only [go_sem, t0, t4, t5, t8, t9, t10]
          refine last _ _ (by exact t0) (by exact t4) (by exact t8) ⟨l, vt, t5, by rw [hold]; exact hpl, hsl, ownl.mod m4 fun _ _ h => h, hvl⟩ (m3.trans' m4)
    · have hil : i = its.length := by
        have := of_decide_eq_false hge
        omega
      subst hil
      unfold h35_13
      try simp only [go_sem, t5]
      exact k l vt w3 hpl hsl ownl hvl mw3
end
end Go.Proofs.Y

/- TNg: thread: the reference's walk. -/
namespace Go.Proofs.Y
open Go Go.HL Go.Proofs

def Tr.pn (x : Tr) : Pn := ⟨x.id, x.ghost, x.date⟩
def chT (T : List Tr) (p : Bytes) : List Pn := (T.filter fun x => decide (x.par = p)).map Tr.pn
theorem chT_snoc (T : List Tr) (p : Bytes) (x : Tr) : chT (T ++ [x]) p = if x.par = p then chT T p ++ [x.pn] else chT T p := by
  unfold chT
  rw [List.filter_append, List.map_append]
  by_cases h : x.par = p <;> simp [h]
section
variable {w w' : World} {next : Value → World → Prop} {QP : List PanicEntry → World → Prop}
def RW (T : List Tr) (w0 : World) (ta : Option Addr) (tc : Nat) (f : Nat) : Prop := ∀ {w : World} {v : Value} {out : List Nd} {p : Bytes} {at_ d : Int} {next : Value → World → Prop} {QP : List PanicEntry → World → Prop},
  deepF (chT T) f (chT T p) → HL.Own w v 29 4 out.length (rows Nd.cells out) → (∀ q, v.ownBlock = some q → w0.heap.size ≤ q) → Mod none' w0 w → (walkF (chT T) f out (chT T p) at_ d).length ≤ 1000000 → 0 ≤ d → d + f ≤ 1000000 →
  (∀ v' w', HL.Own w' v' 29 4 (walkF (chT T) f out (chT T p) at_ d).length (rows Nd.cells (walkF (chT T) f out (chT T p) at_ d)) → (∀ q, v'.ownBlock = some q → w0.heap.size ≤ q) → Mod none' w0 w' → next v' w') →
  callvK Try.prog (.func (.func 36) #[] #[]) [v, .slice ta T.length tc, str p, .int .i64 at_, .int .i64 d] w next QP
theorem rw_step {T : List Tr} {w0 : World} {ta : Option Addr} {tc f : Nat} (hT : Sl w0 (.slice ta T.length tc) 4 T.length (rows Tr.cells T)) (hTl : T.length ≤ 1000000) (ih : ∀ f', f = f' + 1 → RW T w0 ta tc f') : RW T w0 ta tc f := by
  intro w v out p at_ d next QP hdeep own hv mw hN hd0 hdf kk
  have hf0 : f = 0 → chT T p = [] := by rintro rfl; exact hdeep
  have hfold := walkF_eq (chT T) f out (chT T p) at_ d hf0
  rw [hfold] at hN kk
  refine r36 rfl ?_
  unfold h36
  try simp only [go_sem]
  refine loopN T.length (fun i τ w' => τ 1 = .slice ta T.length tc ∧ τ 2 = str p ∧ τ 3 = .int .i64 at_ ∧ τ 4 = .int .i64 d ∧ τ 11 = .int .i64 i ∧ (∃ o, o = (chT (T.take i) p).foldl (stepW (chT T) (f - 1) at_ d) out ∧ ∃ v, τ 0 = v ∧ HL.Own w' v 29 4 o.length (rows Nd.cells o) ∧ ∀ q, v.ownBlock = some q → w0.heap.size ≤ q) ∧ Mod none' w0 w') ⟨0, by omega, rfl, rfl, rfl, rfl, rfl, ⟨_, rfl, v, rfl, by simpa [chT] using own, hv⟩, mw⟩ ?_
  rintro i τ w1 hi ⟨t1, t2, t3, t4, t11, ⟨o, ho, vo, t0, owno, hvo⟩, m1⟩
  have hTu := hT.mod m1 fun _ _ h => h
  unfold h36_1
  try simp only [go_sem, t0, t1, t2, t3, t4, t11]
  refine ⟨fun hlt => ?_, fun hge => ?_⟩
  · have hil : i < T.length := by
      have := of_decide_eq_true hlt
      omega
    have hsn := chT_snoc (T.take i) p T[i]
    rw [← List.take_succ_eq_append_getElem hil] at hsn
    obtain ⟨ga, oa, ca, ea, -, hca⟩ := hTu.get Tr.len rfl (by omega)
    simp only [Value.slice.injEq] at ea
    obtain ⟨rfl, -, rfl⟩ := ea
    have x0 := hca i 0 hil (by omega)
    have x1 := hca i 1 hil (by omega)
    have x3 := hca i 3 hil (by omega)
    simp only [Tr.cells, List.getElem?_cons_zero, List.getElem?_cons_succ, Nat.add_zero] at x0 x1 x3
    unfold h36_2
    try simp only [go_sem, t0, t1, t2, t3, t4, t11, x3]
    repeat refine ⟨⟨by omega, by omega⟩, ?_⟩
    refine ⟨fun he => ?_, fun he => ?_⟩
    · have he : T[i].par = p := by simpa using he
      rw [if_pos he] at hsn
      try simp only [go_sem, t0, t1, t2, t3, t4, t11, x0, x1]
      repeat refine ⟨⟨by omega, by omega⟩, ?_⟩
      refine ⟨by omega, by simp, by simp, by simp, ?_⟩
      have hmem : T[i].pn ∈ chT T p := List.mem_map.2 ⟨T[i], List.mem_filter.2 ⟨List.getElem_mem hil, by simpa using he⟩, rfl⟩
      obtain ⟨f', hff⟩ : ∃ f', f = f' + 1 := by
        cases f with
        | zero => rw [hf0 rfl] at hmem; cases hmem
        | succ f' => exact ⟨f', rfl⟩
      have hdeep' : deepF (chT T) f' (chT T T[i].id) := by
        rw [hff] at hdeep
        exact hdeep _ hmem
      have hf1 : f - 1 = f' := by omega
      have hsplit : chT T p = chT (T.take (i + 1)) p ++ chT (T.drop (i + 1)) p := by
        unfold chT
        rw [← List.map_append, ← List.filter_append, List.take_append_drop]
      have hstep : (chT (T.take (i + 1)) p).foldl (stepW (chT T) (f - 1) at_ d) out = walkF (chT T) f' (o ++ [(⟨T[i].id, T[i].ghost, at_, d⟩ : Nd)]) (chT T T[i].id) (o.length : Int) (d + 1) := by
        rw [hsn, List.foldl_append, ← ho, hf1]; rfl
      have hbound : ((chT (T.take (i + 1)) p).foldl (stepW (chT T) (f - 1) at_ d) out).length ≤ 1000000 := by
        have h1 := fold_len (chT T) (f - 1) at_ d (chT (T.drop (i + 1)) p) ((chT (T.take (i + 1)) p).foldl (stepW (chT T) (f - 1) at_ d) out)
        rw [← List.foldl_append, ← hsplit] at h1
        omega
      have holen : o.length + 1 ≤ 1000000 := by
        rw [hstep] at hbound
        have := walkF_len (chT T) f' (o ++ [(⟨T[i].id, T[i].ghost, at_, d⟩ : Nd)]) (chT T T[i].id) (o.length : Int) (d + 1)
        rw [List.length_append, List.length_singleton] at this
        omega
      have hdz : w1.drew.heap.size = w1.heap.size := rfl
      refine bsl1 (cs := [str T[i].id, .bool T[i].ghost, .int .i64 at_, .int .i64 d]) sl25 rfl rfl (by omega) ?_
      intro b2 w2 hb2 own2 bk2 m2 s2
      have m12 := (Mod.drew none' w1).trans' m2
      refine append_ sl25 (owno.mod m12 fun _ _ h => h) own2.sl (by intro u hu; simp at hu; rcases hu with rfl | rfl | rfl | rfl <;> rfl) (by omega) (by unfold maxLen; omega) ?_
      intro v3 w3 own3 m3 hf3 _
      have hv3 : ∀ q, v3.ownBlock = some q → w0.heap.size ≤ q := by
        intro q hq
        rcases hf3 q hq with h | h
        · exact hvo q h
        · have := m1.size; have := m12.size; omega
      have m13 : Mod none' w0 w3 := (m1.trans' m12).trans m3 fun x hx e => by
        have := hvo x e
        omega
      obtain ⟨a3, c3, rfl, -, -⟩ := own3.form
      have hx0 : w3.cell? ⟨ga, oa + i * 4, none⟩ = some (str T[i].id) := by
        obtain ⟨gb, ob, cb, eb, -, hcb⟩ := (hT.mod m13 fun _ _ h => h).get Tr.len rfl (by omega)
        simp only [Value.slice.injEq, Option.some.injEq, Addr.mk.injEq] at eb
        obtain ⟨⟨rfl, rfl, -⟩, -, -⟩ := eb
        have := hcb i 0 hil (by omega)
        simpa [Tr.cells] using this
      have ew1 : IntKind.i64.wrap (((o.length + 1 : Nat) : Int) - 1) = ((o.length : Nat) : Int) := by rw [w64 (by omega) (by omega)]; omega
      have ew2 : IntKind.i64.wrap (d + 1) = d + 1 := w64 (by omega) (by omega)
      try simp only [go_sem, hx0, ew1, ew2]
      repeat refine ⟨⟨by omega, by omega⟩, ?_⟩
      have own3' : HL.Own w3 (.slice a3 (o.length + 1) c3) 29 4 (o ++ [(⟨T[i].id, T[i].ghost, at_, d⟩ : Nd)]).length (rows Nd.cells (o ++ [(⟨T[i].id, T[i].ghost, at_, d⟩ : Nd)])) := by
        rw [List.length_append, List.length_singleton, rows_app, rows_cons, rows_nil, List.append_nil]
        exact own3
      refine ih f' hff hdeep' own3' hv3 m13 (by rw [← hstep]; exact hbound) (by omega) (by omega) ?_
      intro v4 w4 own4 hv4 m4
      rw [← hstep] at own4
      unfold h36_3
      try simp only [go_sem, t1, t2, t3, t4, t11]
      rw [w64 (by omega) (by omega)]
      refine ⟨i + 1, by omega, by omega, rfl, ⟨_, rfl, v4, rfl, own4, hv4⟩, m4⟩
    · have he : T[i].par ≠ p := by simpa using he
      rw [if_neg he] at hsn
      unfold h36_3
      try simp only [go_sem, t0, t1, t2, t3, t4, t11]
      rw [w64 (by omega) (by omega)]
      refine ⟨i + 1, by omega, by omega, rfl, ⟨o, by rw [hsn]; exact ho, vo, rfl, owno, hvo⟩, m1⟩
  · have hil : i = T.length := by
      have := of_decide_eq_false hge
      omega
    subst hil
    rw [List.take_length] at ho
    unfold h36_4
    try simp only [go_sem, t0]
    rw [← ho] at kk
    exact kk vo w1 owno hvo m1
theorem rwalk_ {T : List Tr} {w0 : World} {ta : Option Addr} {tc : Nat} (hT : Sl w0 (.slice ta T.length tc) 4 T.length (rows Tr.cells T)) (hTl : T.length ≤ 1000000) : ∀ f, RW T w0 ta tc f
  | 0 => rw_step hT hTl fun f' h => by omega
  | f + 1 => rw_step hT hTl fun f' h => by
    obtain rfl : f = f' := by omega
    exact rwalk_ hT hTl f
end
end Go.Proofs.Y

/- TNh: thread: the reference's Forest; ThreadTells. -/
namespace Go.Proofs.Y
open Go Go.HL Go.Proofs

theorem filter_map_range {its : List It} (p : Bytes) : (((List.range its.length).map (itT its)).filter fun x => decide (x.par = p)).map Tr.pn = (under its p).map (itP its) := by
  rw [List.filter_map, List.map_map]
  rfl
theorem filter_gh {its : List It} (p : Bytes) : (((ghL its its.length).map (ghT its)).filter fun x => decide (x.par = p)).map Tr.pn = if p = [] then (ghL its its.length).map (ghP its) else [] := by
  by_cases h : p = []
  · subst h
    rw [if_pos rfl, List.filter_eq_self.2 (by
      intro x hx
      obtain ⟨g, -, rfl⟩ := List.mem_map.1 hx
      simp [ghT]), List.map_map]
    rfl
  · rw [if_neg h, List.filter_eq_nil_iff.2 (by
      intro x hx
      obtain ⟨g, -, rfl⟩ := List.mem_map.1 hx
      intro e
      exact h (of_decide_eq_true e).symm)]
    rfl
theorem chT_kids {its : List It} (hd : dist its) {T : List Tr} (hp : T.Perm ((List.range its.length).map (itT its) ++ (ghL its its.length).map (ghT its))) (hs : SortedB befT T) (p : Bytes) : chT T p = kids its p := by
  have h1 : (chT T p).Perm (kids0 its p) := by
    unfold chT kids0
    have := (hp.filter fun x => decide (x.par = p)).map Tr.pn
    rw [List.filter_append, List.map_append, filter_map_range, filter_gh] at this
    exact this
  have h2 : (chT T p).Perm (kids its p) := h1.trans (isortB_ok befP_irr befP_tr _).1.symm
  refine sorted_unique (lt := befP) (fun x hx y hy a b => kids_alone hd (h2.mem_iff.1 hx) (h2.mem_iff.1 hy) (bef_tri a b).2) h2 ?_ (isortB_ok befP_irr befP_tr _).2
  unfold chT SortedB
  rw [List.pairwise_map]
  unfold SortedB at hs
  exact hs.sublist List.filter_sublist
section
variable {w w' : World} {its : List It} {rvs : List Value} {next : Value → World → Prop} {QP : List PanicEntry → World → Prop}
theorem rForest_ {v : Value} (hd : dist its) (hne : ne0 its) (hK : Its w v its rvs) (hz : szI its) (hn : its.length ≤ 100000)
    (k : ∀ v' w', HL.Own w' v' 29 4 (forestB its).length (rows Nd.cells (forestB its)) → Mod none' w w' → next v' w') : callvK Try.prog (.func (.func 25) #[] #[]) [v] w next QP := by
  refine r25 rfl ?_
  obtain ⟨va, vc, rfl, -, -⟩ := hK.sl.form
  unfold h25
  try simp only [go_sem]
  refine trees_ hd hK hz hn ?_
  intro T vt w1 hp hs ownT hvT m1
  obtain ⟨ta, tc, rfl, -, -⟩ := ownT.form
  have hch : chT T = kids its := funext fun p => chT_kids hd hp hs p
  have hTl : T.length = its.length + (ghL its its.length).length := by rw [hp.length_eq, List.length_append, List.length_map, List.length_map, List.length_range]
  have hgl := ghL_len its its.length
  have hlen := forest_len hd hne
  have hr : RW T w1 ta tc (its.length + 2) := rwalk_ (T := T) (w0 := w1) ownT.sl (by omega) (its.length + 2)
  unfold RW at hr
  rw [hch] at hr
  try simp only [go_sem]
  refine hr (out := []) (p := []) (at_ := -1) (d := 0) (forest_deep hd hne) (HL.Own.nil w1 29 4) (fun q hq => by cases hq) (Mod.refl _ _) (by
    show (forestB its).length ≤ _
    omega) (by omega) (by omega) ?_
  intro v2 w2 own2 hv2 m2
  try simp only [go_sem]
  exact k v2 w2 own2 (m1.trans' m2)

theorem tells_ {v : Value} {i : Int} {c : Bytes} (hK : Its w v its rvs) (hml : its.length ≤ 9223372036854775807) (k : ∀ w', Mod none' w w' → next (.bool true) w') : callK Try.prog 8 [v, .int .i64 i, str c] w next QP := by
  refine q8 rfl ?_
  obtain ⟨va, vc, rfl, -, -⟩ := hK.sl.form
  unfold h8
  try simp only [go_sem]
  refine small_ ?_
  intro w1 m1
  try simp only [go_sem]
  refine few_ (hK.up m1) hml ?_
  intro b w2 hb m2
  have m02 := m1.trans' m2
  cases b with
  | false =>
    try simp only [go_sem]
    exact k w2 m02
  | true =>
    have hP := hb rfl
    have hd := hP.d
    have hne := hP.e
    have hn40 := hP.n
    have hlen := forest_len hd hne
    try simp only [go_sem]
    unfold h8_1
    try simp only [go_sem]
    refine Parent_ hd (hK.up m02) hP.sz (by omega) ?_
    intro w3 m3
    have m03 := m02.trans' m3
    unfold parV
    try simp only [go_sem]
    refine rParent_ hd (hK.up m03) hP.sz (by omega) ?_
    intro w4 m4
    have m04 := m03.trans' m4
    unfold parV
    try simp only [go_sem]
    refine Root_ hd hne (hK.up m04) hP.sz (by omega) ?_
    intro w5 m5
    have m05 := m04.trans' m5
    unfold l8_6
    try simp only [go_sem]
    refine rRoot_ hd hne (hK.up m05) hP.sz (by omega) ?_
    intro w6 m6
    have m06 := m05.trans' m6
    unfold l8_5
    try simp only [go_sem]
    refine Forest_ hd hne (hK.up m06) hP.sz (by omega) ?_
    intro v7 w7 own7 hv7 m7
    have m07 := m06.trans' m7
    unfold l8_4
    try simp only [go_sem]
    refine rForest_ hd hne (hK.up m07) hP.sz (by omega) ?_
    intro v8 w8 own8 m8
    have m08 := m07.trans' m8
    unfold l8_3
    try simp only [go_sem]
    refine same_ (own7.sl.mod m8 fun _ _ h => h) own8.sl (by omega) ?_
    intro w9 m9
    unfold l8_2
    try simp only [go_sem]
    exact k w9 (m08.trans' m9)
end
end Go.Proofs.Y
