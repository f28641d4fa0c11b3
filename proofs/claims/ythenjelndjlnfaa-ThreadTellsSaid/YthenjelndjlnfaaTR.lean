/- TR: thread: Forest: its loop over the items. -/
import Derived.Test.YthenjelndjlnfaaTWB
import Derived.Test.YthenjelndjlnfaaTB
import Derived.Laws.StructEq
set_option linter.unusedSimpArgs false
set_option linter.unusedVariables false
set_option maxRecDepth 100000
namespace Go.Proofs.Y
open Go Go.HL Go.Proofs

theorem Its.at2 {w : World} {g o n vc : Nat} {its : List It} {rvs : List Value} (h : Its w (.slice (some ⟨g, o, none⟩) n vc) its rvs) {i : Nat} (hi : i < its.length) :
    ∃ ra rn rc, rvs[i]? = some (.slice ra rn rc) ∧ ItAt w g (o + i * 5) its[i] (.slice ra rn rc) := by
  have hz : (its.zip rvs).length = its.length := by rw [List.length_zip, h.len]; omega
  obtain ⟨b, o', c, e1, -, hc⟩ := h.sl.get cellsP_len hz (by omega)
  simp only [Value.slice.injEq, Option.some.injEq, Addr.mk.injEq] at e1
  obtain ⟨⟨rfl, rfl, -⟩, -, rfl⟩ := e1
  have hi2 : i < rvs.length := by rw [h.len]; exact hi
  obtain ⟨ra, rc, e, -⟩ := (h.refs i hi hi2).form
  refine ⟨ra, _, rc, by rw [List.getElem?_eq_getElem hi2, e], ItAt.of fun j hj => ?_⟩
  rw [hc i j (by omega) hj, List.getElem_zip, e]; rfl
def brOf (its : List It) (rvs : List Value) (i : Nat) : Br := match its[i]?, rvs[i]? with | some x, some (.slice a n c) => ⟨x, a, n, c, false⟩ | _, _ => default
theorem brOf_at {its : List It} {rvs : List Value} {i : Nat} {ra : Option Addr} {rn rc : Nat} (hi : i < its.length) (h : rvs[i]? = some (.slice ra rn rc)) : brOf its rvs i = ⟨its[i], ra, rn, rc, false⟩ := by
  unfold brOf; rw [List.getElem?_eq_getElem hi, h]
def undN (its : List It) (n : Nat) (p : Bytes) : List Nat := (List.range n).filter fun i => decide (pid its i = p)
def chF (its : List It) (rvs : List Value) (n : Nat) (c : Bytes) : List Br := if c = [] then [] else (undN its n c).map (brOf its rvs)
def rtL (its : List It) (rvs : List Value) (n : Nat) : List Br := (undN its n []).map (brOf its rvs)
theorem undN_succ (its : List It) (n : Nat) (p : Bytes) : undN its (n + 1) p = if pid its n = p then undN its n p ++ [n] else undN its n p := by
  unfold undN
  rw [List.range_succ, List.filter_append]
  by_cases h : pid its n = p <;> simp [h]
theorem undN_le (its : List It) (n : Nat) (p : Bytes) : (undN its n p).length ≤ n := Nat.le_trans (List.length_filter_le _ _) (by simp)
theorem chF_put {its : List It} {rvs : List Value} {n : Nat} {b : Bytes} (h : pid its n = b) (hb : b ≠ []) : chF its rvs (n + 1) = fun c => if c = b then chF its rvs n b ++ [brOf its rvs n] else chF its rvs n c := by
  funext c
  unfold chF
  rw [undN_succ]
  by_cases hc : c = b
  · rw [hc, if_neg hb, if_pos rfl, if_neg hb, if_pos h, List.map_append]; rfl
  · have : ¬ pid its n = c := fun e => hc (by rw [← e, h])
    by_cases h0 : c = [] <;> simp [hc, h0, this, hb]
theorem rtL_stay {its : List It} {rvs : List Value} {n : Nat} (h : pid its n ≠ []) : rtL its rvs (n + 1) = rtL its rvs n := by
  unfold rtL; rw [undN_succ, if_neg h]
theorem rtL_put {its : List It} {rvs : List Value} {n : Nat} (h : pid its n = []) : rtL its rvs (n + 1) = rtL its rvs n ++ [brOf its rvs n] := by
  unfold rtL; rw [undN_succ, if_pos h, List.map_append]; rfl
theorem chF_stay {its : List It} {rvs : List Value} {n : Nat} (h : pid its n = []) : chF its rvs (n + 1) = chF its rvs n := by
  funext c
  unfold chF
  rw [undN_succ]
  by_cases h0 : c = []
  · simp [h0]
  · have : ¬ pid its n = c := fun e => h0 (by rw [← e, h])
    simp [h0, this]

structure FW (w1 : World) (w : World) (cb b5 gb : Nat) (hs gs : List (Bytes × Value)) (rv : Value) (its : List It) (rvs : List Value) (i j : Nat) : Prop where
  hm : HM Br.cells 53 6 w w1.heap.size cb hs (chF its rvs i)
  bc : Blk w b5 48 [.map (some cb)]
  gm : Mp w gb gs
  gk : gs.map (·.1) = ghL its j
  gv : ∀ g, g ∈ ghL its j → getM g gs = (ghD its j g).map (Value.int .i64)
  rt : HL.Own w rv 53 6 (rtL its rvs i).length (HL.rows Br.cells (rtL its rvs i))
  rB : ∀ k, rv.ownBlock = some k → w1.heap.size ≤ k ∧ k ∉ [cb, b5, gb]
  rows : ∀ k, rowsOf hs k → k ∉ [cb, b5, gb] ∧ rv.ownBlock ≠ some k
  diff : [cb, b5, gb].Nodup
  hi : ∀ k ∈ [cb, b5, gb], w1.heap.size ≤ k
  st : Mod none' w1 w
section
variable {w1 w w' : World} {cb b5 gb : Nat} {hs gs : List (Bytes × Value)} {rv : Value} {va : Option Addr} {vc fb : Nat} {its : List It} {rvs : List Value} {i j : Nat} {next : Value → World → Prop} {QP : List PanicEntry → World → Prop}
theorem FW.up (h : FW w1 w cb b5 gb hs gs rv its rvs i j) (m : Mod none' w w') : FW w1 w' cb b5 gb hs gs rv its rvs i j :=
  ⟨h.hm.up m, h.bc.mod m fun h => h, h.gm.mod m fun h => h, h.gk, h.gv, h.rt.mod m fun _ _ h => h, h.rB, h.rows, h.diff, h.hi, h.st.trans' m⟩
/-- a branch more under a key -/
theorem FW.put {b : Bytes} {v' v'' : Value} {l : List Br} {wa wb : World} (h : FW w1 w cb b5 gb hs gs rv its rvs i j) (hp : pid its i = b) (hb : b ≠ []) (hv : v' = (getM b hs).getD (.slice none 0 0)) (hl : l.Perm (chF its rvs i b))
    (own : HL.Own wa v'' 53 6 (l.length + 1) (HL.rows Br.cells (l ++ [brOf its rvs i]))) (m1 : Mod (ownS v') w wa) (hf : ∀ k, v''.ownBlock = some k → v'.ownBlock = some k ∨ w.heap.size ≤ k) (mp : Mp wb cb (putM b v'' hs)) (m2 : Mod (fun k => k = cb) wa wb)
    : FW w1 wb cb b5 gb (putM b v'' hs) gs rv its rvs (i + 1) j := by
  have hd := h.diff
  simp only [List.nodup_cons, List.mem_cons, List.not_mem_nil, or_false, not_or] at hd
  obtain ⟨⟨d1, d2⟩, d3, -⟩ := hd
  have hbase := h.st.size
  have hhm := h.hm.put (x := brOf its rvs i) h.hm.mp.lt hv hl hbase own m1 hf mp m2
  rw [← chF_put hp hb] at hhm
  have hrow0 : ∀ k, v'.ownBlock = some k → rowsOf hs k := by
    intro k hk
    cases hgm : getM b hs with
    | none => rw [hv, hgm] at hk; cases hk
    | some u => rw [hv, hgm] at hk; exact ⟨_, getM_mem hgm, hk⟩
  have m12 : Mod (fun k => rowsOf hs k ∨ k = cb) w wb := (m1.mono fun k _ h => .inl (hrow0 k h)).trans' (m2.mono fun _ _ h => .inr h)
  have h5 : ¬ (rowsOf hs b5 ∨ b5 = cb) := by
    rintro (hr | e)
    · exact (h.rows _ hr).1 (by simp)
    · exact d1 e.symm
  have hgb : ¬ (rowsOf hs gb ∨ gb = cb) := by
    rintro (hr | e)
    · exact (h.rows _ hr).1 (by simp)
    · exact d2 e.symm
  refine ⟨hhm, h.bc.mod m12 h5, h.gm.mod m12 hgb, h.gk, h.gv, ?_, h.rB, fun k hk => ?_, h.diff, h.hi, ?_⟩
  · rw [rtL_stay (by rw [hp]; exact hb)]
    refine h.rt.mod m12 fun k hk hor => ?_
    rcases hor with hr | e
    · exact (h.rows k hr).2 hk
    · exact (h.rB k hk).2 (by simp [e])
  · obtain ⟨p, hpm, hpk⟩ := hk
    have hgt := mem_get hhm.keys hpm
    rw [getM_put] at hgt
    by_cases e : b = p.1
    · rw [if_pos e] at hgt
      obtain rfl := Option.some.inj hgt
      rcases hf k hpk with h1 | h1
      · exact h.rows k (hrow0 k h1)
      · refine ⟨fun hm => ?_, fun hrk => ?_⟩
        · simp only [List.mem_cons, List.not_mem_nil, or_false] at hm
          rcases hm with rfl | rfl | rfl
          · have := h.hm.mp.lt; omega
          · have := h.bc.lt; omega
          · have := h.gm.lt; omega
        · have := h.rt.lt k hrk; omega
    · rw [if_neg e] at hgt
      exact h.rows k ⟨_, getM_mem hgt, hpk⟩
  · refine h.st.trans m12 fun k hk hor => ?_
    rcases hor with ⟨p, hp', hpk⟩ | e
    · have := (h.hm.fresh p hp' k hpk).1
      omega
    · have := h.hi cb (by simp)
      omega
/-- a root more -/
theorem FW.root {v'' : Value} {wa : World} (h : FW w1 w cb b5 gb hs gs rv its rvs i j) (hp : pid its i = [])
    (own : HL.Own wa v'' 53 6 ((rtL its rvs i).length + 1) (HL.rows Br.cells (rtL its rvs i ++ [brOf its rvs i]))) (m1 : Mod (ownS rv) w wa) (hf : ∀ k, v''.ownBlock = some k → rv.ownBlock = some k ∨ w.heap.size ≤ k) :
    FW w1 wa cb b5 gb hs gs v'' its rvs (i + 1) j := by
  have hbase := h.st.size
  have hno : ∀ k ∈ [cb, b5, gb], ¬ ownS rv k := fun k hk ho => (h.rB k ho).2 hk
  refine ⟨by rw [chF_stay hp]; exact h.hm.mod m1 (hno _ (by simp)) fun p hpm k hk ho => (h.rows k ⟨p, hpm, hk⟩).2 ho, h.bc.mod m1 (hno _ (by simp)), h.gm.mod m1 (hno _ (by simp)), h.gk, h.gv, ?_, fun k hk => ?_, fun k hk => ⟨(h.rows k hk).1, fun hvk => ?_⟩, h.diff, h.hi, ?_⟩
  · rw [rtL_put hp, List.length_append]; exact own
  · rcases hf k hk with h1 | h1
    · exact h.rB k h1
    · refine ⟨by omega, fun hm => ?_⟩
      simp only [List.mem_cons, List.not_mem_nil, or_false] at hm
      rcases hm with rfl | rfl | rfl
      · have := h.hm.mp.lt; omega
      · have := h.bc.lt; omega
      · have := h.gm.lt; omega
  · rcases hf k hvk with h1 | h1
    · exact (h.rows k hk).2 h1
    · obtain ⟨p, hpm, hpk⟩ := hk
      obtain ⟨l, -, -, own⟩ := h.hm.val p hpm
      have := own.lt k hpk
      omega
  · refine h.st.trans m1 fun k hk ho => ?_
    have := (h.rB k ho).1
    omega

theorem getM_keys {k : Bytes} : ∀ {l : List (Bytes × Value)}, k ∉ l.map (·.1) → getM k l = none
  | [], _ => rfl
  | p :: l, h => by
    simp only [List.map_cons, List.mem_cons, not_or] at h
    unfold getM
    rw [if_neg (Ne.symm h.1)]
    exact getM_keys h.2
theorem putM_new (k : Bytes) (v : Value) : ∀ {l : List (Bytes × Value)}, k ∉ l.map (·.1) → putM k v l = l ++ [(k, v)]
  | [], _ => rfl
  | p :: l, h => by
    simp only [List.map_cons, List.mem_cons, not_or] at h
    unfold putM
    rw [if_neg (Ne.symm h.1), putM_new k v h.2]; rfl
theorem putM_old (k : Bytes) (v : Value) : ∀ {l : List (Bytes × Value)}, k ∈ l.map (·.1) → (putM k v l).map (·.1) = l.map (·.1)
  | p :: l, h => by
    unfold putM
    by_cases e : p.1 = k
    · rw [if_pos e]; simp [e]
    · rw [if_neg e]
      simp only [List.map_cons, List.mem_cons] at h ⊢
      rw [putM_old k v (h.resolve_left (Ne.symm e))]
/-- no ghost more -/
theorem FW.gstay {a : Nat} (h : FW w1 w cb b5 gb hs gs rv its rvs a i) (hg : gh its i = []) : FW w1 w cb b5 gb hs gs rv its rvs a (i + 1) := by
  have hghL : ghL its (i + 1) = ghL its i := by
    show (if gh its i = [] ∨ gh its i ∈ ghL its i then ghL its i else ghL its i ++ [gh its i]) = _
    rw [if_pos (.inl hg)]
  refine ⟨h.hm, h.bc, h.gm, by rw [hghL]; exact h.gk, fun g hgm => ?_, h.rt, h.rB, h.rows, h.diff, h.hi, h.st⟩
  rw [hghL] at hgm
  rw [h.gv g hgm]
  have hg0 := ((ghL_mem its i g).1 hgm).1
  show _ = Option.map _ (if gh its i = g then _ else ghD its i g)
  rw [if_neg (by rw [hg]; exact fun e => hg0 e.symm)]
/-- a ghost's date that stays -/
theorem FW.gkeep {a : Nat} {d : Int} (h : FW w1 w cb b5 gb hs gs rv its rvs a i) (hg : gh its i ∈ ghL its i) (hd : ghD its i (gh its i) = some d) (hle : ¬ dateAt its i < d) : FW w1 w cb b5 gb hs gs rv its rvs a (i + 1) := by
  have hghL : ghL its (i + 1) = ghL its i := by
    show (if gh its i = [] ∨ gh its i ∈ ghL its i then ghL its i else ghL its i ++ [gh its i]) = _
    rw [if_pos (.inr hg)]
  refine ⟨h.hm, h.bc, h.gm, by rw [hghL]; exact h.gk, fun g hgm => ?_, h.rt, h.rB, h.rows, h.diff, h.hi, h.st⟩
  rw [hghL] at hgm
  rw [h.gv g hgm]
  show _ = Option.map _ (if gh its i = g then some (minD (ghD its i g) (dateAt its i)) else ghD its i g)
  by_cases e : gh its i = g
  · rw [if_pos e, ← e, hd]
    show _ = some (Value.int .i64 (if dateAt its i < d then dateAt its i else d))
    rw [if_neg hle]; rfl
  · rw [if_neg e]
theorem ghD_some (its : List It) : ∀ (n : Nat) (g : Bytes), (ghD its n g).isSome = true ↔ ∃ i, i < n ∧ gh its i = g
  | 0, g => by simp [ghD]
  | n + 1, g => by
    unfold ghD
    by_cases e : gh its n = g
    · rw [if_pos e]
      simp only [Option.isSome_some, true_iff]
      exact ⟨n, by omega, e⟩
    · rw [if_neg e, ghD_some its n g]
      constructor
      · rintro ⟨i, h1, h2⟩; exact ⟨i, by omega, h2⟩
      · rintro ⟨i, h1, h2⟩
        have : i ≠ n := fun e2 => e (e2 ▸ h2)
        exact ⟨i, by omega, h2⟩
/-- a ghost's date that is put -/
theorem FW.gput {a : Nat} (h : FW w1 w cb b5 gb hs gs rv its rvs a i) (hg : gh its i ≠ []) (hle : gh its i ∉ ghL its i ∨ ∃ d, ghD its i (gh its i) = some d ∧ dateAt its i < d)
    (mp : Mp w' gb (putM (gh its i) (.int .i64 (dateAt its i)) gs)) (m : Mod (fun k => k = gb) w w') : FW w1 w' cb b5 gb hs (putM (gh its i) (.int .i64 (dateAt its i)) gs) rv its rvs a (i + 1) := by
  have hd := h.diff
  simp only [List.nodup_cons, List.mem_cons, List.not_mem_nil, or_false, not_or] at hd
  obtain ⟨⟨d1, d2⟩, d3, -⟩ := hd
  have hmin : ghD its (i + 1) (gh its i) = some (dateAt its i) := by
    show (if gh its i = gh its i then some (minD (ghD its i (gh its i)) (dateAt its i)) else _) = _
    rw [if_pos rfl]
    rcases hle with h1 | ⟨d, h1, h2⟩
    · have : ghD its i (gh its i) = none := by
        cases hn : ghD its i (gh its i) with
        | none => rfl
        | some d =>
          have := (ghD_some its i (gh its i)).1 (by rw [hn]; rfl)
          exact absurd ((ghL_mem its i _).2 ⟨hg, this⟩) h1
      rw [this]; rfl
    · rw [h1]
      show some (if dateAt its i < d then dateAt its i else d) = _
      rw [if_pos h2]
  refine ⟨h.hm.mod m (fun e => d2 e) fun p hp k hk e => ?_, h.bc.mod m (fun e => d3 e), mp, ?_, fun g hgm => ?_, h.rt.mod m fun k hk e => (h.rB k hk).2 (by have e : k = gb := e; simp [e]), h.rB, h.rows, h.diff, h.hi, h.st.trans m fun k hk e => by
    have e : k = gb := e
    have := h.hi gb (by simp)
    omega⟩
  · have e : k = gb := e
    exact (h.rows k ⟨p, hp, hk⟩).1 (by simp [e])
  · show _ = (if gh its i = [] ∨ gh its i ∈ ghL its i then ghL its i else ghL its i ++ [gh its i])
    by_cases hm : gh its i ∈ ghL its i
    · rw [if_pos (.inr hm), putM_old _ _ (by rw [h.gk]; exact hm), h.gk]
    · rw [if_neg (by simp [hg, hm]), putM_new _ _ (by rw [h.gk]; exact hm), List.map_append, h.gk]; rfl
  · rw [getM_put]
    by_cases e : gh its i = g
    · rw [if_pos e, ← e, hmin]; rfl
    · rw [if_neg e]
      have hgm' : g ∈ ghL its i := by
        have := (ghL_mem its (i + 1) g).1 hgm
        obtain ⟨h1, q, h2, h3⟩ := this
        have : q ≠ i := fun e2 => e (e2 ▸ h3)
        exact (ghL_mem its i g).2 ⟨h1, q, by omega, h3⟩
      rw [h.gv g hgm']
      show _ = Option.map _ (if gh its i = g then _ else ghD its i g)
      rw [if_neg e]
end
end Go.Proofs.Y

/- TT: thread: Forest: a round of its loop. -/
namespace Go.Proofs.Y
open Go Go.HL Go.Proofs

theorem ItAt.all {w : World} {g o : Nat} {x : It} {rv : Value} (h : ItAt w g o x rv) : ∀ j, j < 5 → w.cell? ⟨g, o + j, none⟩ = (x.cells rv)[j]?
  | 0, _ => h.c0
  | 1, _ => h.c1
  | 2, _ => h.c2
  | 3, _ => h.c3
  | 4, _ => h.c4
  | n + 5, h => by omega
theorem ItAt.up {w w' : World} {g o : Nat} {x : It} {rv : Value} (h : ItAt w g o x rv) (m : Mod none' w w') : ItAt w' g o x rv :=
  ItAt.of fun j hj => by
    have h1 := h.all j hj
    rw [List.getElem?_eq_getElem (show j < (x.cells rv).length from hj)] at h1 ⊢
    exact m.cell h1 fun h => h

theorem put5 (a b c d e z1 z2 z3 z4 z5 z6 : Value) : v2 (.put 0 5) (.agg #[z1, z2, z3, z4, z5, z6]) (.agg #[a, b, c, d, e]) = .agg #[a, b, c, d, e, z6] := by
  simp [v2, putCells, Array.zipIdx, Value.cells]
theorem cput5 (a b c d e z1 z2 z3 z4 z5 z6 : Value) : c2 (.put 0 5) (.agg #[z1, z2, z3, z4, z5, z6]) (.agg #[a, b, c, d, e]) = True := by
  simp [c2, Value.cells]
section
variable {w1 w w' : World} {cb b5 gb : Nat} {hs gs : List (Bytes × Value)} {rv : Value} {va : Option Addr} {vc fb : Nat} {its : List It} {rvs : List Value} {i j : Nat} {next : Value → World → Prop} {QP : List PanicEntry → World → Prop}
/-- append of one branch, and back into the map -/
theorem chput_ {b : Bytes} {l : List Br} {x : Br} (hF : FW w1 w cb b5 gb hs gs rv its rvs i j) (hp : pid its i = b) (hb : b ≠ []) (hl : l.Perm (chF its rvs i b)) (hx : x = brOf its rvs i) (hln : l.length ≤ 1000000)
    (own : HL.Own w ((getM b hs).getD (.slice none 0 0)) 53 6 l.length (rows Br.cells l)) {xv : Value} (hxv : Sl w xv 6 1 x.cells)
    (k : ∀ v'' wa, Mod (fun k => rowsOf hs k) w wa → (∀ nx : Value → World → Prop, (∀ hs' wb, FW w1 wb cb b5 gb hs' gs rv its rvs (i + 1) j → Mod (fun k => rowsOf hs k ∨ k = cb) w wb → nx undef wb) → mapupdK Try.prog 48 (.map (some cb)) (str b) v'' wa nx QP) → next v'' wa) :
    appK Try.prog #[50, 50] 50 ((getM b hs).getD (.slice none 0 0)) xv w next QP := by
  refine append_ sl50 own hxv (Br.one _) (by omega) (by unfold maxLen; omega) ?_
  intro v'' wa own' m1 hf _
  have hrows : rows Br.cells l ++ x.cells = rows Br.cells (l ++ [brOf its rvs i]) := by
    rw [rows_app, rows_cons, rows_nil, List.append_nil, hx]
  rw [hrows] at own'
  have m1' : Mod (fun k => rowsOf hs k) w wa := m1.mono fun k _ hk => by
    cases hgm : getM b hs with
    | none => rw [hgm] at hk; cases hk
    | some u => rw [hgm] at hk; exact ⟨_, getM_mem hgm, hk⟩
  refine k v'' wa m1' fun nx kk => ?_
  refine mapupd_ u48 u9 (hF.hm.mp.mod m1 fun hk => ?_) ?_
  · obtain ⟨l0, -, -, hfr⟩ := hF.hm.look b
    exact (hfr cb hk).2.1 rfl
  · intro wb mp m2 _
    exact kk _ wb (hF.put hp hb rfl hl own' m1 hf mp m2) ((m1'.mono fun _ _ h => .inl h).trans' (m2.mono fun _ _ h => .inr h))

theorem lpF_ {τ : Env} {Q : HX → Env → World → Prop} (hd : dist its) (hne : ne0 its) (hS : St w1 va vc its rvs fb) (hz : szI its) (hn : its.length ≤ 100000)
    (hF : FW w1 w cb b5 gb hs gs rv its rvs 0 0)
    (t0 : τ 0 = .slice va its.length vc) (t3 : τ 3 = ptr fb) (t4 : τ 4 = ptr b5) (t5 : τ 5 = .map (some gb)) (t6 : τ 6 = rv) (t21 : τ 21 = .slice va its.length vc) (t22 : τ 22 = .int .i64 its.length) (t23 : τ 23 = .int .i64 0)
    (k : ∀ σ w' hs' gs' rv', FW w1 w' cb b5 gb hs' gs' rv' its rvs its.length its.length → σ 0 = .slice va its.length vc → σ 3 = ptr fb → σ 4 = ptr b5 → σ 5 = .map (some gb) → σ 6 = rv' → Q (.exit 0) σ w') : hloop (hw Try.prog noPanic h11_2) Q τ w := by
  refine loopN its.length (fun i τ w' => ∃ hs' gs' rv', τ 0 = .slice va its.length vc ∧ τ 3 = ptr fb ∧ τ 4 = ptr b5 ∧ τ 5 = .map (some gb) ∧ τ 6 = rv' ∧ τ 21 = .slice va its.length vc ∧ τ 22 = .int .i64 its.length ∧ τ 23 = .int .i64 i ∧ FW w1 w' cb b5 gb hs' gs' rv' its rvs i i) ⟨0, by omega, hs, gs, rv, t0, t3, t4, t5, t6, t21, t22, t23, hF⟩ ?_
  rintro i τ w2 hi ⟨hs', gs', rv', t0, t3, t4, t5, t6, t21, t22, t23, hF2⟩
  unfold h11_2
  try simp only [go_sem, t0, t3, t4, t5, t6, t21, t22, t23]
  refine ⟨fun hlt => ?_, fun hge => ?_⟩
  · have hil : i < its.length := by
      have := of_decide_eq_true hlt
      omega
    have hS2 := hS.up hF2.st
    have hI2 := hS2.items
    obtain ⟨g, o, rfl⟩ := hI2.addr (by omega)
    obtain ⟨ra, rn, rc, hrv, ax⟩ := hI2.at2 hil
    have x1 := ax.ln
    have x2 := ax.sm
    unfold h11_3
    try simp only [go_sem, t0, t3, t4, t5, t6, t21, t22, t23, x1, x2]
    repeat refine ⟨⟨by omega, by omega⟩, ?_⟩
    refine alloc_ (cs := [str [], .int .i64 0, .slice none 0 0, str [], .bool false]) z34 rfl ?_
    intro b8 w3 hb8 bk3 m3 s3
    try simp only [go_sem, t0, t3, t4, t5, t6, t21, t22, t23]
    refine storeN (vs := its[i].cells (.slice ra rn rc)) sz34 rfl bk3 (by simp) (by intro u hu; simp [It.cells] at hu; rcases hu with rfl | rfl | rfl | rfl | rfl <;> rfl) ?_
    intro w4 bk4 m4 s4
    have m24 : Mod none' w2 w4 := m3.trans m4 fun x hx e => by
      have e : x = b8 := e
      omega
    have bk4 : Blk w4 b8 34 (its[i].cells (.slice ra rn rc)) := by simpa [It.cells] using bk4
    have a4 := ItAt.blk bk4
    have hF4 := hF2.up m24
    try simp only [go_sem, t0, t3, t4, t5, t6, t21, t22, t23]
    refine par_ hd (hS2.up m24) hil hz (by omega) ?_
    intro w5 m5
    have a5 := a4.up m5
    have hF5 := hF4.up m5
    have hI5 := (hS2.up (m24.trans' m5)).items
    have y1 := a5.ln
    have y2 := a5.sm0
    have y3 := a5.c1
    have hbr : brOf its rvs i = ⟨its[i], ra, rn, rc, false⟩ := brOf_at hil hrv
    have c4 := hF5.bc.cell 0
    simp only [List.getElem?_cons_zero] at c4
    unfold parV
    try simp only [go_sem, t0, t3, t4, t5, t6, t21, t22, t23]
    cases hu : upI its i with
    | some q =>
      obtain ⟨hp, hg⟩ := up_pid hu
      have hql := (upI_lt hu).2
      have hp1 : (parI its i).1 = some q := by unfold upI at hu; rw [if_pos hil] at hu; exact hu
      have hp2 : (parI its i).2 = [] := hg
      have eg : decide ((0 : Int) ≤ (q : Int)) = true := by simp
      have eoi : oi (parI its i).1 = (q : Int) := by rw [hp1]; rfl
      obtain ⟨rq, -, aq⟩ := hI5.at hql
      have z0 := aq.c0
      have hkey : idAt its q = its[q].id := idAt_at hql
      try simp only [go_sem, eoi, eg, t0, t3, t4, t5, t6, t21, t22, t23, c4, z0, y1, y2, put5, cput5]
      repeat refine ⟨⟨by omega, by omega⟩, ?_⟩
      have hidn : its[q].id ≠ [] := by rw [← hkey]; exact idAt_ne hne hql
      rw [hkey] at hp
      have hF5 := hF5.up (Mod.drew none' _)
      have a5 := a5.up (Mod.drew none' _)
      have c4d : w5.drew.cell? ⟨b5, 0, none⟩ = some (.map (some cb)) := c4
      have z0d : w5.drew.cell? ⟨g, o + q * 5, none⟩ = some (str its[q].id) := z0
      obtain ⟨l, hl, ownl, -⟩ := hF5.hm.look its[q].id
      have hln : l.length ≤ 1000000 := by
        rw [hl.length_eq]
        unfold chF
        split
        · simp
        · rw [List.length_map]
          have := undN_le its i its[q].id
          omega
      -- what is read stays
      have st4 : ∀ u, Mod (fun k => rowsOf hs' k) w5.drew u → u.cell? ⟨b5, 0, none⟩ = some (.map (some cb)) := fun u m => m.cell c4d fun h => (hF5.rows _ h).1 (by simp)
      have st0 : ∀ u, Mod (fun k => rowsOf hs' k) w5.drew u → u.cell? ⟨g, o + q * 5, none⟩ = some (str its[q].id) := fun u m => m.cell z0d fun h => by
        obtain ⟨p, hp', hpk⟩ := h
        have h1 := (hF5.hm.fresh p hp' _ hpk).1
        obtain ⟨-, a, c, e1, -, hcc⟩ := (hS.items).sl
        have hlt := (hS.items).sl.lt (by omega) (by omega) g rfl
        have h1 : w1.heap.size ≤ g := h1
        omega
      refine ⟨?_, ?_⟩
      · unfold t11_4
        try simp only [go_sem, t0, t3, t4, t5, t6, t21, t22, t23, c4, z0, y1, y2, put5, cput5]
        refine lookup1_ u48 u9 zs50 hF5.hm.mp ?_
        try simp only [go_sem, t0, t3, t4, t5, t6, t21, t22, t23, c4, z0, y1, y2, put5, cput5]
        refine bsl1 (cs := Br.cells ⟨its[i], ra, rn, rc, false⟩) sl50 rfl rfl (by omega) ?_
        intro b6 w6 hb6 own6 bk6 m6 s6
        have c6 := st4 w6 m6.up
        have z6 := st0 w6 m6.up
        try simp only [go_sem, t0, t3, t4, t5, t6, t21, t22, t23, c6, z6]
        refine chput_ (hF5.up m6) hp hidn hl hbr.symm hln (ownl.mod m6 fun _ _ h => h) own6.sl ?_
        intro v7 w7 m7 hmu
        have m57 := (m6.up (S := fun k => rowsOf hs' k)).trans' m7
        have c7 := st4 w7 m57
        have z7 := st0 w7 m57
        try simp only [go_sem, t0, t3, t4, t5, t6, t21, t22, t23, c7, z7]
        refine hmu _ ?_
        intro hs8 w8 hF8 _
        have hF9 := hF8.gstay hg
        try simp only [go_sem]
        unfold h11_9
        try simp only [go_sem, t0, t3, t4, t5, t6, t21, t22, t23]
        rw [w64 (by omega) (by omega)]
        refine ⟨i + 1, by omega, by omega, hs8, gs', rv', ?_⟩
        (repeat' first | assumption | rfl | omega | apply And.intro)
      · unfold t11_5
        try simp only [go_sem, t0, t3, t4, t5, t6, t21, t22, t23, c4, z0, y1, y2, put5, cput5]
        refine bsl1 (cs := Br.cells ⟨its[i], ra, rn, rc, false⟩) sl50 rfl rfl (by omega) ?_
        intro b6 w6 hb6 own6 bk6 m6 s6
        have c6 := st4 w6 m6.up
        have z6 := st0 w6 m6.up
        have a6 := a5.up m6
        have y61 := a6.ln
        have y62 := a6.sm0
        try simp only [go_sem, t0, t3, t4, t5, t6, t21, t22, t23, c6, z6, y61, y62]
        refine lookup1_ u48 u9 zs50 (hF5.up m6).hm.mp ?_
        try simp only [go_sem, t0, t3, t4, t5, t6, t21, t22, t23, c6, z6, y61, y62]
        refine chput_ (hF5.up m6) hp hidn hl hbr.symm hln (ownl.mod m6 fun _ _ h => h) own6.sl ?_
        intro v7 w7 m7 hmu
        have m57 := (m6.up (S := fun k => rowsOf hs' k)).trans' m7
        have c7 := st4 w7 m57
        have z7 := st0 w7 m57
        try simp only [go_sem, t0, t3, t4, t5, t6, t21, t22, t23, c7, z7]
        refine hmu _ ?_
        intro hs8 w8 hF8 _
        have hF9 := hF8.gstay hg
        try simp only [go_sem]
        unfold h11_9
        try simp only [go_sem, t0, t3, t4, t5, t6, t21, t22, t23]
        rw [w64 (by omega) (by omega)]
        refine ⟨i + 1, by omega, by omega, hs8, gs', rv', ?_⟩
        (repeat' first | assumption | rfl | omega | apply And.intro)
    | none =>
      have hp1 : (parI its i).1 = none := by unfold upI at hu; rw [if_pos hil] at hu; exact hu
      have eg : decide ((0 : Int) ≤ -1) = false := rfl
      have eoi : oi (parI its i).1 = -1 := by rw [hp1]; rfl
      have hpg : pid its i = gh its i := by
        rcases pid_cases hil with ⟨q, h1, -⟩ | ⟨-, h2⟩
        · rw [hu] at h1; cases h1
        · exact h2
      have egh : (parI its i).2 = gh its i := rfl
      rw [egh]
      by_cases hg : gh its i = []
      · have eg2 : (!decide (gh its i = [])) = false := by simp [hg]
        try simp only [go_sem, eoi, eg, eg2, t0, t3, t4, t5, t6, t21, t22, t23, c4, y1, y2, put5, cput5]
        refine bsl1 (cs := Br.cells ⟨its[i], ra, rn, rc, false⟩) sl50 rfl rfl (by omega) ?_
        intro b6 w6 hb6 own6 bk6 m6 s6
        have hF6 := hF5.up m6
        try simp only [go_sem, t0, t3, t4, t5, t6, t21, t22, t23]
        have hrl : (rtL its rvs i).length ≤ i := by
          unfold rtL
          rw [List.length_map]; exact undN_le its i []
        refine append_ sl50 hF6.rt own6.sl (Br.one _) (by omega) (by unfold maxLen; omega) ?_
        intro v7 w7 own7 m7 hf7 _
        have hrows : rows Br.cells (rtL its rvs i) ++ Br.cells ⟨its[i], ra, rn, rc, false⟩ = rows Br.cells (rtL its rvs i ++ [brOf its rvs i]) := by
          rw [rows_app, rows_cons, rows_nil, List.append_nil, hbr]
        rw [hrows] at own7
        have hF9 := (hF6.root (by rw [hpg, hg]) own7 m7 hf7).gstay hg
        try simp only [go_sem]
        unfold h11_9
        try simp only [go_sem, t0, t3, t4, t5, t6, t21, t22, t23]
        rw [w64 (by omega) (by omega)]
        refine ⟨i + 1, by omega, by omega, hs', gs', v7, ?_⟩
        (repeat' first | assumption | rfl | omega | apply And.intro)
      · have eg2 : (!decide (gh its i = [])) = true := by simp [hg]
        try simp only [go_sem, eoi, eg, eg2, t0, t3, t4, t5, t6, t21, t22, t23, c4, y1, y2, put5, cput5]
        have hF5 := hF5.up (Mod.drew none' _)
        have a5 := a5.up (Mod.drew none' _)
        have c4d : w5.drew.cell? ⟨b5, 0, none⟩ = some (.map (some cb)) := c4
        obtain ⟨l, hl, ownl, -⟩ := hF5.hm.look (gh its i)
        have hln : l.length ≤ 1000000 := by
          rw [hl.length_eq]
          unfold chF
          split
          · simp
          · rw [List.length_map]
            have := undN_le its i (gh its i)
            omega
        have st4 : ∀ u, Mod (fun k => rowsOf hs' k) w5.drew u → u.cell? ⟨b5, 0, none⟩ = some (.map (some cb)) := fun u m => m.cell c4d fun h => (hF5.rows _ h).1 (by simp)
        have hb8r : ¬ (rowsOf hs' b8 ∨ b8 = cb) := by
          rintro (⟨p, hp', hpk⟩ | e)
          · obtain ⟨lp, -, -, own⟩ := hF2.hm.val p hp'
            have := own.lt b8 hpk
            omega
          · have := hF2.hm.mp.lt
            omega
        -- behind the append: the ghost's date
        have fin : ∀ (σ : Env) (w8 : World) (hs8 : List (Bytes × Value)) (X : HX → Env → World → Prop), FW w1 w8 cb b5 gb hs8 gs' rv' its rvs (i + 1) i → Mod (fun k => rowsOf hs' k ∨ k = cb) w5.drew w8 → σ 0 = .slice (some ⟨g, o, none⟩) its.length vc → σ 3 = ptr fb → σ 4 = ptr b5 → σ 5 = .map (some gb) → σ 6 = rv' → σ 8 = ptr b8 → σ 10 = str (gh its i) → σ 21 = .slice (some ⟨g, o, none⟩) its.length vc → σ 22 = .int .i64 its.length → σ 23 = .int .i64 i →
            (∀ σ' w' gs'', FW w1 w' cb b5 gb hs8 gs'' rv' its rvs (i + 1) (i + 1) → σ' 0 = .slice (some ⟨g, o, none⟩) its.length vc → σ' 3 = ptr fb → σ' 4 = ptr b5 → σ' 5 = .map (some gb) → σ' 6 = rv' → σ' 21 = .slice (some ⟨g, o, none⟩) its.length vc → σ' 22 = .int .i64 its.length → σ' 23 = .int .i64 i → X .normal σ' w') → hw Try.prog noPanic h11_8 X σ w8 := by
          intro σ w8 hs8 X hF8 m8 s0 s3 s4 s5 s6 s8 s10 s21 s22 s23 kX
          have d1 : w8.cell? ⟨b8, 1, none⟩ = some (.int .i64 its[i].date) := m8.cell a5.c1 hb8r
          have hdt : dateAt its i = its[i].date := dateAt_at hil
          unfold h11_8
          try simp only [go_sem, s0, s3, s4, s5, s6, s8, s10, s21, s22, s23, d1]
          refine lookup_ u49 u9 zi hF8.gm ?_
          cases hgm : getM (gh its i) gs' with
          | none =>
            have hnm : gh its i ∉ ghL its i := fun h => by
              have h1 := hF8.gv _ h
              rw [hgm] at h1
              have h2 := (ghD_some its i (gh its i)).2 ((ghL_mem its i _).1 h).2
              cases hd : ghD its i (gh its i) with
              | none => rw [hd] at h2; cases h2
              | some d => rw [hd] at h1; cases h1
            have eok : (if (!(Option.none : Option Value).isSome) = true then true else decide (its[i].date < 0)) = true := rfl
            try simp only [go_sem, s0, s3, s4, s5, s6, s8, s10, s21, s22, s23, d1, Option.isSome_none, Option.getD_none]
            refine mapupd_ u49 u9 hF8.gm ?_
            intro w9 mp9 m9 _
            rw [← hdt] at mp9
            have hF9 := hF8.gput hg (.inl hnm) mp9 m9
            try simp only [go_sem]
            exact kX _ w9 _ hF9 s0 s3 s4 s5 s6 s21 s22 s23
          | some u =>
            have hmem : gh its i ∈ ghL its i := by
              rw [← hF8.gk]
              exact List.mem_map.2 ⟨_, getM_mem hgm, rfl⟩
            have h1 := hF8.gv _ hmem
            rw [hgm] at h1
            obtain ⟨d, hd, hu2⟩ : ∃ d, ghD its i (gh its i) = some d ∧ u = .int .i64 d := by
              cases hd : ghD its i (gh its i) with
              | none => rw [hd] at h1; cases h1
              | some d => rw [hd] at h1; exact ⟨d, rfl, Option.some.inj h1⟩
            subst hu2
            try simp only [go_sem, s0, s3, s4, s5, s6, s8, s10, s21, s22, s23, d1]
            refine ⟨fun hlt2 => ?_, fun hlt2 => ?_⟩
            · have hlt2 := of_decide_eq_true hlt2
              try simp only [go_sem, s0, s3, s4, s5, s6, s8, s10, s21, s22, s23, d1]
              refine mapupd_ u49 u9 hF8.gm ?_
              intro w9 mp9 m9 _
              rw [← hdt] at mp9
              have hF9 := hF8.gput hg (.inr ⟨d, hd, by rw [hdt]; exact hlt2⟩) mp9 m9
              try simp only [go_sem]
              exact kX _ w9 _ hF9 s0 s3 s4 s5 s6 s21 s22 s23
            · have hlt2 := of_decide_eq_false hlt2
              try simp only [go_sem]
              exact kX _ w8 _ (hF8.gkeep hmem hd (by rw [hdt]; exact hlt2)) s0 s3 s4 s5 s6 s21 s22 s23
        refine ⟨?_, ?_⟩
        · unfold t11_6
          try simp only [go_sem, t0, t3, t4, t5, t6, t21, t22, t23, c4, y1, y2, put5, cput5]
          refine lookup1_ u48 u9 zs50 hF5.hm.mp ?_
          try simp only [go_sem, t0, t3, t4, t5, t6, t21, t22, t23, c4, y1, y2, put5, cput5]
          refine bsl1 (cs := Br.cells ⟨its[i], ra, rn, rc, false⟩) sl50 rfl rfl (by omega) ?_
          intro b6 w6 hb6 own6 bk6 m6 s6
          have c6 := st4 w6 m6.up
          try simp only [go_sem, t0, t3, t4, t5, t6, t21, t22, t23, c6]
          refine chput_ (hF5.up m6) hpg hg hl hbr.symm hln (ownl.mod m6 fun _ _ h => h) own6.sl ?_
          intro v7 w7 m7 hmu
          have m57 := (m6.up (S := fun k => rowsOf hs' k)).trans' m7
          have c7 := st4 w7 m57
          try simp only [go_sem, t0, t3, t4, t5, t6, t21, t22, t23, c7]
          refine hmu _ ?_
          intro hs8 w8 hF8 m8
          try simp only [go_sem]
          refine fin _ w8 hs8 _ hF8 (m6.up.trans' m8) t0 t3 t4 t5 t6 rfl rfl t21 t22 t23 ?_
          intro σ' w9 gs9 hF9 t0 t3 t4 t5 t6 t21 t22 t23
          try simp only [go_sem]
          unfold h11_9
          try simp only [go_sem, t0, t3, t4, t5, t6, t21, t22, t23]
          rw [w64 (by omega) (by omega)]
          refine ⟨i + 1, by omega, by omega, hs8, gs9, rv', ?_⟩
          (repeat' first | assumption | rfl | omega | apply And.intro)
        · unfold t11_7
          try simp only [go_sem, t0, t3, t4, t5, t6, t21, t22, t23, c4, y1, y2, put5, cput5]
          refine bsl1 (cs := Br.cells ⟨its[i], ra, rn, rc, false⟩) sl50 rfl rfl (by omega) ?_
          intro b6 w6 hb6 own6 bk6 m6 s6
          have c6 := st4 w6 m6.up
          have a6 := a5.up m6
          have y61 := a6.ln
          have y62 := a6.sm0
          try simp only [go_sem, t0, t3, t4, t5, t6, t21, t22, t23, c6, y61, y62]
          refine lookup1_ u48 u9 zs50 (hF5.up m6).hm.mp ?_
          try simp only [go_sem, t0, t3, t4, t5, t6, t21, t22, t23, c6, y61, y62]
          refine chput_ (hF5.up m6) hpg hg hl hbr.symm hln (ownl.mod m6 fun _ _ h => h) own6.sl ?_
          intro v7 w7 m7 hmu
          have m57 := (m6.up (S := fun k => rowsOf hs' k)).trans' m7
          have c7 := st4 w7 m57
          try simp only [go_sem, t0, t3, t4, t5, t6, t21, t22, t23, c7]
          refine hmu _ ?_
          intro hs8 w8 hF8 m8
          try simp only [go_sem]
          refine fin _ w8 hs8 _ hF8 (m6.up.trans' m8) t0 t3 t4 t5 t6 rfl rfl t21 t22 t23 ?_
          intro σ' w9 gs9 hF9 t0 t3 t4 t5 t6 t21 t22 t23
          try simp only [go_sem]
          unfold h11_9
          try simp only [go_sem, t0, t3, t4, t5, t6, t21, t22, t23]
          rw [w64 (by omega) (by omega)]
          refine ⟨i + 1, by omega, by omega, hs8, gs9, rv', ?_⟩
          (repeat' first | assumption | rfl | omega | apply And.intro)
  · have hil : i = its.length := by
      have := of_decide_eq_false hge
      omega
    subst hil
    try simp only [go_sem]
    exact k _ w2 hs' gs' rv' hF2 t0 t3 t4 t5 t6
end
end Go.Proofs.Y

/- TV: thread: the forest's ids are different; plain. -/
namespace Go.Proofs.Y
open Go Go.HL

theorem nodup_sub {α : Type} [BEq α] [LawfulBEq α] : ∀ {l m : List α}, l.Nodup → (∀ x ∈ l, x ∈ m) → l.length ≤ m.length
  | [], m, _, _ => Nat.zero_le _
  | x :: l, m, h, hs => by
    have hx := hs x (by simp)
    have h1 := List.nodup_cons.1 h
    have := nodup_sub (l := l) (m := m.erase x) h1.2 fun y hy => by
      have : y ≠ x := fun e => h1.1 (e ▸ hy)
      exact (List.mem_erase_of_ne this).2 (hs y (by simp [hy]))
    rw [List.length_erase_of_mem hx] at this
    have hp := List.length_pos_of_mem hx
    simp only [List.length_cons]; omega

def upid (its : List It) (c : Bytes) : Option Bytes := match findI its c with | some i => if pid its i = [] then none else some (pid its i) | none => none
theorem upid_item {its : List It} (hd : dist its) {i : Nat} (hi : i < its.length) : upid its (idAt its i) = if pid its i = [] then none else some (pid its i) := by
  unfold upid; rw [find_idAt hd hi]
theorem upid_none {its : List It} {c : Bytes} (h : findI its c = none) : upid its c = none := by unfold upid; rw [h]
theorem findI_idAt {its : List It} {c : Bytes} {i : Nat} (h : findI its c = some i) : i < its.length ∧ idAt its i = c := by
  obtain ⟨h1, h2⟩ := findI_some h
  exact ⟨h1, by rw [idAt_at h1, h2]⟩
/-- going up by ids is going up by items, but for a ghost at the end -/
theorem upid_up {its : List It} (hd : dist its) (hn : ne0 its) {i : Nat} (hi : i < its.length) : ∀ (m : Nat) (c : Bytes), itr (upid its) m (idAt its i) = some c → (∃ j, j < its.length ∧ c = idAt its j ∧ itr (upI its) m i = some j) ∨ findI its c = none
  | 0, c, h => by
    simp [itr] at h
    exact .inl ⟨i, hi, h.symm, rfl⟩
  | m + 1, c, h => by
    obtain ⟨b, hb, hc⟩ := Option.bind_eq_some_iff.1 h
    rcases upid_up hd hn hi m b hb with ⟨j, hj, rfl, hji⟩ | h0
    · rw [upid_item hd hj] at hc
      by_cases hp : pid its j = []
      · rw [if_pos hp] at hc; cases hc
      · rw [if_neg hp] at hc
        obtain rfl := Option.some.inj hc
        rcases pid_cases hj with ⟨k, h1, h2⟩ | ⟨h1, h2⟩
        · refine .inl ⟨k, (upI_lt h1).2, h2, ?_⟩
          show (itr (upI its) m i).bind _ = _
          rw [hji]; exact h1
        · rw [h2] at hp ⊢
          exact .inr (gh_ok hj hp).2.2.1
    · rw [upid_none h0] at hc; cases hc
theorem upid_free {its : List It} (hd : dist its) (hn : ne0 its) (c : Bytes) (m : Nat) : itr (upid its) (m + 1) c ≠ some c := by
  intro h
  obtain ⟨b, hb⟩ := itr_some h (show 1 ≤ m + 1 by omega)
  have hb' : upid its c = some b := hb
  cases hf : findI its c with
  | none => rw [upid_none hf] at hb'; cases hb'
  | some i =>
    obtain ⟨hi, rfl⟩ := findI_idAt hf
    rcases upid_up hd hn hi _ _ h with ⟨j, hj, e, hji⟩ | h0
    · rw [idAt_inj hd hi hj e] at hji
      rw [idAt_inj hd hi hj e] at hi
      exact up_free hd j hj ⟨m, hji⟩
    · rw [hf] at h0; cases h0

theorem kids_id {its : List It} (hn : ne0 its) {p : Bytes} {b : Pn} (h : b ∈ kids its p) : b.id ≠ [] := by
  rcases kids_mem.1 h with ⟨i, hi, -, rfl⟩ | ⟨-, g, hg, rfl⟩
  · exact idAt_ne hn hi
  · exact ((ghL_mem its _ g).1 hg).1
theorem ghL_none {its : List It} {g : Bytes} (hg : g ∈ ghL its its.length) : findI its g = none := by
  obtain ⟨h1, i, h2, rfl⟩ := (ghL_mem its _ g).1 hg
  exact (gh_ok h2 h1).2.2.1
theorem kids_up {its : List It} (hd : dist its) {p : Bytes} {b : Pn} (h : b ∈ kids its p) : upid its b.id = if p = [] then none else some p := by
  rcases kids_mem.1 h with ⟨i, hi, hp, rfl⟩ | ⟨hp, g, hg, rfl⟩
  · show upid its (idAt its i) = _
    rw [upid_item hd hi, hp]
  · show upid its g = _
    rw [upid_none (ghL_none hg), if_pos hp]
/-- in a place no two have the same id -/
theorem kids_alone {its : List It} (hd : dist its) {p : Bytes} {x y : Pn} (hx : x ∈ kids its p) (hy : y ∈ kids its p) (e : x.id = y.id) : x = y := by
  rcases kids_mem.1 hx with ⟨i, hi, hp, rfl⟩ | ⟨hp, g, hg, rfl⟩ <;> rcases kids_mem.1 hy with ⟨j, hj, hq, rfl⟩ | ⟨hq, g', hg', rfl⟩
  · rw [idAt_inj hd hi hj e]
  · have e : idAt its i = g' := e
    have := ghL_none hg'
    rw [← e, find_idAt hd hi] at this; cases this
  · have e : g = idAt its j := e
    have := ghL_none hg
    rw [e, find_idAt hd hj] at this; cases this
  · have e : g = g' := e
    rw [e]
theorem kids_nodup {its : List It} (hd : dist its) (p : Bytes) : ((kids its p).map (·.id)).Nodup := by
  have h0 : ((kids0 its p).map (·.id)).Nodup := by
    unfold kids0 under
    rw [List.map_append, List.map_map]
    have h1 : (((List.range its.length).filter fun i => decide (pid its i = p)).map ((·.id) ∘ itP its)).Nodup := by
      unfold List.Nodup
      rw [List.pairwise_map]
      have : ((List.range its.length).filter fun i => decide (pid its i = p)).Pairwise (fun a b => a < b ∧ a < its.length ∧ b < its.length) := by
        refine List.Pairwise.filter _ ?_
        rw [List.pairwise_iff_getElem]
        intro i j hi hj hij
        simp at hi hj ⊢
        exact ⟨hij, hi, hj⟩
      exact this.imp fun ⟨h1, h2, h3⟩ e => by
        have := idAt_inj hd h2 h3 e
        omega
    refine List.nodup_append.2 ⟨h1, ?_, ?_⟩
    · split
      · rw [List.map_map]
        have : ((·.id) ∘ ghP its) = id := rfl
        rw [this, List.map_id]
        exact ghL_nodup its _
      · simp
    · intro a ha b hb e
      obtain ⟨i, hi, rfl⟩ := List.mem_map.1 ha
      have hil : i < its.length := by simpa using (List.mem_filter.1 hi).1
      split at hb
      · rw [List.map_map] at hb
        obtain ⟨g, hg, rfl⟩ := List.mem_map.1 hb
        have e : idAt its i = g := e
        have := ghL_none hg
        rw [← e, find_idAt hd hil] at this; cases this
      · cases hb
  exact (((isortB_ok befP_irr befP_tr (kids0 its p)).1.map (·.id)).nodup_iff).2 h0

def idsF (ch : Bytes → List Pn) : Nat → List Pn → List Bytes
  | 0, _ => []
  | f + 1, l => l.flatMap fun b => b.id :: idsF ch f (ch b.id)
theorem walkF_ids (ch : Bytes → List Pn) : ∀ (f : Nat) (out : List Nd) (l : List Pn) (p d : Int), (walkF ch f out l p d).map (·.id) = out.map (·.id) ++ idsF ch f l
  | 0, out, l, p, d => by simp [walkF, idsF]
  | f + 1, out, l, p, d => by
    show (l.foldl (stepW ch f p d) out).map (·.id) = out.map (·.id) ++ l.flatMap fun b => b.id :: idsF ch f (ch b.id)
    induction l generalizing out with
    | nil => simp
    | cons b l ih =>
      rw [List.foldl_cons, ih]
      unfold stepW
      rw [walkF_ids ch f]
      simp
theorem idsF_mem {its : List It} (hd : dist its) (hn : ne0 its) : ∀ (f : Nat) (l : List Pn) (c : Bytes), (∀ b ∈ l, b.id ≠ []) → c ∈ idsF (kids its) f l → ∃ b ∈ l, ∃ m, itr (upid its) m c = some b.id
  | 0, l, c, _, h => by simp [idsF] at h
  | f + 1, l, c, hl, h => by
    unfold idsF at h
    obtain ⟨b, hb, hc⟩ := List.mem_flatMap.1 h
    rcases List.mem_cons.1 hc with rfl | hc
    · exact ⟨b, hb, 0, rfl⟩
    · obtain ⟨b', hb', m, hm⟩ := idsF_mem hd hn f _ c (fun b' h => kids_id hn h) hc
      have hup := kids_up hd hb'
      rw [if_neg (hl b hb)] at hup
      refine ⟨b, hb, m + 1, ?_⟩
      show (itr (upid its) m c).bind _ = _
      rw [hm]; exact hup
theorem itr_between {α : Type} {f : α → Option α} {a b : Nat} {c x y : α} (h1 : itr f a c = some x) (h2 : itr f b c = some y) (hab : a ≤ b) : itr f (b - a) x = some y := by
  obtain ⟨d, rfl⟩ : ∃ d, b = a + d := ⟨b - a, by omega⟩
  rw [itr_add, h1] at h2
  rw [Nat.add_sub_cancel_left]; exact h2
/-- two that hang at one place are not above each other -/
theorem sib_apart {its : List It} (hd : dist its) (hn : ne0 its) {x y : Bytes} {P : Option Bytes} (hx : upid its x = P) (hy : upid its y = P) (k : Nat) : itr (upid its) (k + 1) x ≠ some y := by
  intro h
  rw [itr_succ, hx] at h
  cases P with
  | none => cases h
  | some q =>
    have h : itr (upid its) k q = some y := h
    have : itr (upid its) (k + 1) q = some q := by
      show (itr (upid its) k q).bind _ = _
      rw [h]; exact hy
    exact upid_free hd hn q k this
theorem idsF_nodup {its : List It} (hd : dist its) (hn : ne0 its) : ∀ (f : Nat) (l : List Pn) (P : Option Bytes), (l.map (·.id)).Nodup → (∀ b ∈ l, b.id ≠ []) → (∀ b ∈ l, upid its b.id = P) → (idsF (kids its) f l).Nodup
  | 0, l, _, _, _, _ => by simp [idsF]
  | f + 1, l, P, h1, h2, h3 => by
    unfold idsF
    induction l with
    | nil => simp
    | cons b l ih =>
      rw [List.flatMap_cons]
      simp only [List.map_cons, List.nodup_cons] at h1
      have hb0 := h2 b (by simp)
      have hsub := idsF_nodup hd hn f (kids its b.id) (some b.id) (kids_nodup hd _) (fun b' h => kids_id hn h) (fun b' h => by rw [kids_up hd h, if_neg hb0])
      have hbelow : ∀ c ∈ idsF (kids its) f (kids its b.id), ∃ m, itr (upid its) (m + 1) c = some b.id := by
        intro c hc
        obtain ⟨b', hb', m, hm⟩ := idsF_mem hd hn f _ c (fun b' h => kids_id hn h) hc
        refine ⟨m, ?_⟩
        show (itr (upid its) m c).bind _ = _
        rw [hm]
        show upid its b'.id = _
        rw [kids_up hd hb', if_neg hb0]
      refine List.nodup_append.2 ⟨List.nodup_cons.2 ⟨fun hc => ?_, hsub⟩, ih h1.2 (fun b hb => h2 b (by simp [hb])) (fun b hb => h3 b (by simp [hb])), fun x hx y hy e => ?_⟩
      · obtain ⟨m, hm⟩ := hbelow _ hc
        exact upid_free hd hn _ m hm
      · subst e
        have hx' : ∃ m, itr (upid its) m x = some b.id := by
          rcases List.mem_cons.1 hx with rfl | hx
          · exact ⟨0, rfl⟩
          · obtain ⟨m, hm⟩ := hbelow _ hx; exact ⟨m + 1, hm⟩
        obtain ⟨m, hm⟩ := hx'
        have hy' : x ∈ idsF (kids its) (f + 1) l := by unfold idsF; exact hy
        obtain ⟨b', hb', m', hm'⟩ := idsF_mem hd hn (f + 1) l x (fun b hb => h2 b (by simp [hb])) hy'
        have e1 := h3 b (by simp)
        have e2 := h3 b' (by simp [hb'])
        rcases Nat.lt_trichotomy m m' with h | h | h
        · have := itr_between hm hm' (by omega)
          obtain ⟨q, hq⟩ : ∃ q, m' - m = q + 1 := ⟨m' - m - 1, by omega⟩
          rw [hq] at this
          exact sib_apart hd hn e1 e2 q this
        · subst h
          rw [hm] at hm'
          have : b.id = b'.id := Option.some.inj hm'
          exact h1.1 (this ▸ List.mem_map.2 ⟨b', hb', rfl⟩)
        · have := itr_between hm' hm (by omega)
          obtain ⟨q, hq⟩ : ∃ q, m - m' = q + 1 := ⟨m - m' - 1, by omega⟩
          rw [hq] at this
          exact sib_apart hd hn e2 e1 q this
theorem idsF_all {its : List It} : ∀ (f : Nat) (p : Bytes) (c : Bytes), c ∈ idsF (kids its) f (kids its p) → c ∈ its.map (·.id) ∨ c ∈ ghL its its.length
  | 0, p, c, h => by simp [idsF] at h
  | f + 1, p, c, h => by
    unfold idsF at h
    obtain ⟨b, hb, hc⟩ := List.mem_flatMap.1 h
    rcases List.mem_cons.1 hc with rfl | hc
    · rcases kids_mem.1 hb with ⟨i, hi, -, rfl⟩ | ⟨-, g, hg, rfl⟩
      · left
        show idAt its i ∈ _
        rw [idAt_at hi]
        exact List.mem_map.2 ⟨_, List.getElem_mem hi, rfl⟩
      · exact .inr hg
    · exact idsF_all f b.id c hc
theorem ghL_len (its : List It) : ∀ n, (ghL its n).length ≤ n
  | 0 => by simp [ghL]
  | n + 1 => by
    have := ghL_len its n
    unfold ghL
    split
    · omega
    · simp; omega
theorem forest_ids (its : List It) : (forestB its).map (·.id) = idsF (kids its) (its.length + 2) (kids its []) := by
  unfold forestB
  rw [walkF_ids]; rfl
theorem forest_nodup {its : List It} (hd : dist its) (hn : ne0 its) : ((forestB its).map (·.id)).Nodup := by
  rw [forest_ids]
  exact idsF_nodup hd hn _ _ none (kids_nodup hd _) (fun b h => kids_id hn h) (fun b h => by rw [kids_up hd h, if_pos rfl])
theorem forest_len {its : List It} (hd : dist its) (hn : ne0 its) : (forestB its).length ≤ 2 * its.length := by
  have h1 := nodup_sub (m := its.map (·.id) ++ ghL its its.length) (forest_nodup hd hn) fun c hc => by
    rw [forest_ids] at hc
    exact List.mem_append.2 (idsF_all _ _ c hc)
  rw [List.length_map, List.length_append, List.length_map] at h1
  have := ghL_len its its.length
  omega
/-- names of places without children do not matter -/
def chK (its : List It) (c : Bytes) : List Pn := if c = [] then [] else kids its c
theorem walkF_chK {its : List It} (hn : ne0 its) : ∀ (f : Nat) (out : List Nd) (l : List Pn) (p d : Int), (∀ b ∈ l, b.id ≠ []) → walkF (chK its) f out l p d = walkF (kids its) f out l p d
  | 0, out, l, p, d, _ => rfl
  | f + 1, out, l, p, d, h => by
    show l.foldl (stepW (chK its) f p d) out = l.foldl (stepW (kids its) f p d) out
    induction l generalizing out with
    | nil => rfl
    | cons b l ih =>
      rw [List.foldl_cons, List.foldl_cons]
      have hb := h b (by simp)
      have : stepW (chK its) f p d out b = stepW (kids its) f p d out b := by
        unfold stepW
        have hc : chK its b.id = kids its b.id := if_neg hb
        rw [hc]
        exact walkF_chK hn f _ _ _ _ fun b' hb' => kids_id hn hb'
      rw [this]
      exact ih _ fun b hb => h b (by simp [hb])
theorem deepF_chK {its : List It} (hn : ne0 its) : ∀ (f : Nat) (l : List Pn), (∀ b ∈ l, b.id ≠ []) → deepF (kids its) f l → deepF (chK its) f l
  | 0, l, _, h => h
  | f + 1, l, hl, h => fun b hb => by
    have hc : chK its b.id = kids its b.id := if_neg (hl b hb)
    rw [hc]
    exact deepF_chK hn f _ (fun b' hb' => kids_id hn hb') (h b hb)
end Go.Proofs.Y

/- TOa: thread: the shape of a forest; plain. -/
namespace Go.Proofs.Y
open Go Go.HL

/-- a node with its place -/
structure En where
  b : Pn
  p : Int
  d : Int
  x : Nat
def En.nd (e : En) : Nd := ⟨e.b.id, e.b.ghost, e.p, e.d⟩
def wl (sub : Nat → Pn → List En) (p d : Int) : Nat → List Pn → List En
  | _, [] => []
  | n, b :: l => ⟨b, p, d, n⟩ :: (sub n b ++ wl sub p d (n + 1 + (sub n b).length) l)
def wz (ch : Bytes → List Pn) : Nat → Nat → List Pn → Int → Int → List En
  | 0, _, _, _, _ => []
  | f + 1, n, l, p, d => wl (fun m b => wz ch f (m + 1) (ch b.id) (m : Int) (d + 1)) p d n l
theorem wl_cons (sub : Nat → Pn → List En) (p d : Int) (n : Nat) (b : Pn) (l : List Pn) : wl sub p d n (b :: l) = ⟨b, p, d, n⟩ :: (sub n b ++ wl sub p d (n + 1 + (sub n b).length) l) := rfl
section
variable {ch : Bytes → List Pn}
theorem wz_ind {P : Nat → Nat → List Pn → Int → Int → List En → Prop} (h0 : ∀ n l p d, P 0 n l p d []) (h1 : ∀ f n p d, P (f + 1) n [] p d [])
    (h2 : ∀ f n b l p d S R, S = wz ch f (n + 1) (ch b.id) (n : Int) (d + 1) → R = wz ch (f + 1) (n + 1 + S.length) l p d → P f (n + 1) (ch b.id) (n : Int) (d + 1) S → P (f + 1) (n + 1 + S.length) l p d R → P (f + 1) n (b :: l) p d (⟨b, p, d, n⟩ :: (S ++ R))) :
    ∀ f n l p d, P f n l p d (wz ch f n l p d) := by
  intro f
  induction f with
  | zero => intro n l p d; exact h0 n l p d
  | succ f ih =>
    intro n l
    induction l generalizing n with
    | nil => intro p d; exact h1 f n p d
    | cons b l ihl =>
      intro p d
      exact h2 f n b l p d _ _ rfl rfl (ih _ _ _ _) (ihl _ p d)
theorem walk_wz : ∀ (f : Nat) (l : List Pn) (out : List Nd) (p d : Int), walkF ch f out l p d = out ++ (wz ch f out.length l p d).map En.nd
  | 0, l, out, p, d => by simp [walkF, wz]
  | f + 1, l, out, p, d => by
    unfold walkF wz
    induction l generalizing out with
    | nil => simp [wl]
    | cons b l ih =>
      rw [List.foldl_cons, walk_wz f, ih, wl_cons]
      simp only [List.map_cons, List.map_append, List.append_assoc, List.length_append, List.length_singleton, List.length_map, List.singleton_append]
      simp [En.nd, Nat.add_assoc, Nat.add_comm]
theorem wz_sh : ∀ f n l p d, ∀ e ∈ wz ch f n l p d, n ≤ e.x ∧ e.x < n + (wz ch f n l p d).length ∧ d ≤ e.d ∧ ((e.p = p ∧ e.d = d ∧ e.b ∈ l) ∨ ∃ e' ∈ wz ch f n l p d, e.p = e'.x ∧ e.d = e'.d + 1 ∧ e.b ∈ ch e'.b.id ∧ e'.x < e.x) := by
  refine wz_ind (P := fun f n l p d W => ∀ e ∈ W, n ≤ e.x ∧ e.x < n + W.length ∧ d ≤ e.d ∧ ((e.p = p ∧ e.d = d ∧ e.b ∈ l) ∨ ∃ e' ∈ W, e.p = e'.x ∧ e.d = e'.d + 1 ∧ e.b ∈ ch e'.b.id ∧ e'.x < e.x)) ?_ ?_ ?_
  · intro n l p d e h; cases h
  · intro f n p d e h; cases h
  · intro f n b l p d S R _ _ hS hR e he
    simp only [List.length_cons, List.length_append]
    rcases List.mem_cons.1 he with rfl | he
    · exact ⟨Nat.le_refl _, by show n < _; omega, Int.le_refl _, .inl ⟨rfl, rfl, by simp⟩⟩
    · rcases List.mem_append.1 he with he | he
      · obtain ⟨h1, h2, h3, h4⟩ := hS e he
        refine ⟨by omega, by omega, by omega, .inr ?_⟩
        rcases h4 with ⟨h5, h6, h7⟩ | ⟨e', m, h5, h6, h7, h8⟩
        · exact ⟨⟨b, p, d, n⟩, by simp, h5, h6, h7, by simp; omega⟩
        · exact ⟨e', by simp [m], h5, h6, h7, h8⟩
      · obtain ⟨h1, h2, h3, h4⟩ := hR e he
        refine ⟨by omega, by omega, h3, ?_⟩
        rcases h4 with ⟨h5, h6, h7⟩ | ⟨e', m, h5, h6, h7, h8⟩
        · exact .inl ⟨h5, h6, by simp [h7]⟩
        · exact .inr ⟨e', by simp [m], h5, h6, h7, h8⟩
theorem wz_ix : ∀ f n l p d, (wz ch f n l p d).map (·.x) = List.range' n (wz ch f n l p d).length := by
  refine wz_ind (P := fun f n l p d W => W.map (·.x) = List.range' n W.length) ?_ ?_ ?_
  · intro n l p d; rfl
  · intro f n p d; rfl
  · intro f n b l p d S R _ _ hS hR
    simp only [List.map_cons, List.map_append, hS, hR, List.length_cons, List.length_append]
    rw [List.range'_succ, ← List.range'_append]
    simp
theorem wz_btw : ∀ (f n : Nat) (l : List Pn) (p d : Int), p < n → ∀ e ∈ wz ch f n l p d, ∀ e' ∈ wz ch f n l p d, e.p < e'.x → e'.x < e.x → e.d ≤ e'.d := by
  refine wz_ind (P := fun f n l p d W => p < n → ∀ e ∈ W, ∀ e' ∈ W, e.p < e'.x → e'.x < e.x → e.d ≤ e'.d) ?_ ?_ ?_
  · intro n l p d _ e h; cases h
  · intro f n p d _ e h; cases h
  · intro f n b l p d S R eS eR hS hR hp e he e' he' h1 h2
    have sS := fun e (h : e ∈ S) => by rw [eS] at h; exact (wz_sh _ _ _ _ _ e h)
    have sR := fun e (h : e ∈ R) => by rw [eR] at h; exact (wz_sh _ _ _ _ _ e h)
    rw [← eS] at sS
    rw [← eR] at sR
    have he'd : d ≤ e'.d := by
      rcases List.mem_cons.1 he' with rfl | he'
      · exact Int.le_refl _
      · rcases List.mem_append.1 he' with he' | he'
        · have := (sS e' he').2.2.1; omega
        · exact (sR e' he').2.2.1
    rcases List.mem_cons.1 he with rfl | he
    · rcases List.mem_cons.1 he' with rfl | he'
      · simp at h2
      · have h2 : e'.x < n := h2
        rcases List.mem_append.1 he' with he' | he'
        · have := (sS e' he').1; omega
        · have := (sR e' he').1; omega
    · rcases List.mem_append.1 he with he | he
      · obtain ⟨a1, a2, a3, a4⟩ := sS e he
        have hpe : (n : Int) ≤ e.p := by
          rcases a4 with ⟨h, -, -⟩ | ⟨e0, m, h, -⟩
          · omega
          · have := (sS e0 m).1; omega
        rcases List.mem_cons.1 he' with rfl | he'
        · have h1 : e.p < (n : Int) := h1
          omega
        · rcases List.mem_append.1 he' with he' | he'
          · exact hS (by omega) e he e' he' h1 h2
          · have := (sR e' he').1; omega
      · obtain ⟨a1, a2, a3, a4⟩ := sR e he
        rcases a4 with ⟨h5, h6, -⟩ | ⟨e0, m, h5, -⟩
        · omega
        · have hm := (sR e0 m).1
          rcases List.mem_cons.1 he' with rfl | he'
          · have h1 : e.p < (n : Int) := h1
            omega
          · rcases List.mem_append.1 he' with he' | he'
            · have := (sS e' he').2.1; omega
            · exact hR (by omega) e he e' he' h1 h2
theorem wz_ord {R' : Pn → Pn → Prop} (hch : ∀ q, (ch q).Pairwise R') : ∀ (f n : Nat) (l : List Pn) (p d : Int), l.Pairwise R' → p < n → ∀ e ∈ wz ch f n l p d, ∀ e' ∈ wz ch f n l p d, e'.p = e.p → e'.x < e.x → R' e'.b e.b := by
  refine wz_ind (P := fun f n l p d W => l.Pairwise R' → p < n → ∀ e ∈ W, ∀ e' ∈ W, e'.p = e.p → e'.x < e.x → R' e'.b e.b) ?_ ?_ ?_
  · intro n l p d _ _ e h; cases h
  · intro f n p d _ _ e h; cases h
  · intro f n b l p d S R eS eR hS hR hl hp e he e' he' h1 h2
    have sS := fun e (h : e ∈ S) => by rw [eS] at h; exact (wz_sh _ _ _ _ _ e h)
    have sR := fun e (h : e ∈ R) => by rw [eR] at h; exact (wz_sh _ _ _ _ _ e h)
    rw [← eS] at sS
    rw [← eR] at sR
    have inS : ∀ e ∈ S, (n : Int) ≤ e.p ∧ e.p < n + 1 + S.length := by
      intro e he
      obtain ⟨a1, a2, a3, a4⟩ := sS e he
      rcases a4 with ⟨h, -, -⟩ | ⟨e0, m, h, -⟩
      · omega
      · have := (sS e0 m); omega
    rcases List.mem_cons.1 he with rfl | he
    · rcases List.mem_cons.1 he' with rfl | he'
      · simp at h2
      · have h2 : e'.x < n := h2
        rcases List.mem_append.1 he' with he' | he'
        · have := (sS e' he').1; omega
        · have := (sR e' he').1; omega
    · rcases List.mem_append.1 he with he | he
      · have hpe := inS e he
        rcases List.mem_cons.1 he' with rfl | he'
        · have h1 : p = e.p := h1
          omega
        · rcases List.mem_append.1 he' with he' | he'
          · exact hS (hch _) (by omega) e he e' he' h1 h2
          · have := (sR e' he').1; have := (sS e he).2.1; omega
      · obtain ⟨a1, a2, a3, a4⟩ := sR e he
        rcases List.mem_cons.1 he' with rfl | he'
        · have h1 : p = e.p := h1
          rcases a4 with ⟨h5, h6, h7⟩ | ⟨e0, m, h5, -⟩
          · exact (List.pairwise_cons.1 hl).1 _ h7
          · have hm := (sR e0 m).1; omega
        · rcases List.mem_append.1 he' with he' | he'
          · have := inS e' he'
            rcases a4 with ⟨h5, h6, -⟩ | ⟨e0, m, h5, -⟩
            · omega
            · have hm := (sR e0 m).1; omega
          · exact hR (List.pairwise_cons.1 hl).2 (by omega) e he e' he' h1 h2
theorem deep_nil : ∀ (f : Nat), deepF ch f []
  | 0 => rfl
  | f + 1 => fun b h => by cases h
theorem wz_first : ∀ f n l p d, deepF ch f l → ∀ e ∈ wz ch f n l p d, ch e.b.id ≠ [] → ∃ e' ∈ wz ch f n l p d, e'.x = e.x + 1 ∧ e'.p = e.x := by
  refine wz_ind (P := fun f n l p d W => deepF ch f l → ∀ e ∈ W, ch e.b.id ≠ [] → ∃ e' ∈ W, e'.x = e.x + 1 ∧ e'.p = e.x) ?_ ?_ ?_
  · intro n l p d _ e h; cases h
  · intro f n p d _ e h; cases h
  · intro f n b l p d S R eS eR hS hR hdp e he hne
    have hdb : deepF ch f (ch b.id) := hdp b (by simp)
    rcases List.mem_cons.1 he with rfl | he
    · have hne : ch b.id ≠ [] := hne
      cases f with
      | zero => exact absurd hdb hne
      | succ f =>
        cases hc : ch b.id with
        | nil => exact absurd hc hne
        | cons c l2 =>
          refine ⟨⟨c, n, d + 1, n + 1⟩, ?_, rfl, rfl⟩
          rw [eS, hc]
          show _ ∈ _ :: (wl _ _ _ _ (c :: l2) ++ R)
          unfold wl
          simp
    · rcases List.mem_append.1 he with he | he
      · obtain ⟨e', m, h1, h2⟩ := hS hdb e he hne
        exact ⟨e', by simp [m], h1, h2⟩
      · obtain ⟨e', m, h1, h2⟩ := hR (fun b hb => hdp b (by simp [hb])) e he hne
        exact ⟨e', by simp [m], h1, h2⟩
theorem wz_all : ∀ f n l p d, deepF ch f l → (∀ b ∈ l, ∃ e ∈ wz ch f n l p d, e.b = b ∧ e.p = p) ∧ (∀ e ∈ wz ch f n l p d, ∀ b ∈ ch e.b.id, ∃ e' ∈ wz ch f n l p d, e'.b = b ∧ e'.p = e.x) := by
  refine wz_ind (P := fun f n l p d W => deepF ch f l → (∀ b ∈ l, ∃ e ∈ W, e.b = b ∧ e.p = p) ∧ (∀ e ∈ W, ∀ b ∈ ch e.b.id, ∃ e' ∈ W, e'.b = b ∧ e'.p = e.x)) ?_ ?_ ?_
  · intro n l p d h
    have h : l = [] := h
    subst h
    exact ⟨(fun b h => nomatch h), (fun e h => nomatch h)⟩
  · intro f n p d _
    exact ⟨(fun b h => nomatch h), (fun e h => nomatch h)⟩
  · intro f n b l p d S R eS eR hS hR hdp
    have hdb : deepF ch f (ch b.id) := hdp b (by simp)
    obtain ⟨s1, s2⟩ := hS hdb
    obtain ⟨r1, r2⟩ := hR (fun b hb => hdp b (by simp [hb]))
    refine ⟨fun b' hb => ?_, fun e he b' hb => ?_⟩
    · rcases List.mem_cons.1 hb with rfl | hb
      · exact ⟨⟨b', p, d, n⟩, by simp, rfl, rfl⟩
      · obtain ⟨e, m, h⟩ := r1 b' hb
        exact ⟨e, by simp [m], h⟩
    · rcases List.mem_cons.1 he with rfl | he
      · obtain ⟨e, m, h⟩ := s1 b' hb
        exact ⟨e, by simp [m], h⟩
      · rcases List.mem_append.1 he with he | he
        · obtain ⟨e', m, h⟩ := s2 e he b' hb
          exact ⟨e', by simp [m], h⟩
        · obtain ⟨e', m, h⟩ := r2 e he b' hb
          exact ⟨e', by simp [m], h⟩
end

/-! ### a forest -/
def enF (its : List It) : List En := wz (kids its) (its.length + 2) 0 (kids its []) (-1) 0
theorem forest_en (its : List It) : forestB its = (enF its).map En.nd := by
  unfold forestB enF
  rw [walk_wz]; rfl
theorem en_ix (its : List It) : (enF its).map (·.x) = List.range (enF its).length := by
  rw [List.range_eq_range']; exact wz_ix _ _ _ _ _
theorem en_at {its : List It} {i : Nat} (h : i < (enF its).length) : (enF its)[i].x = i := by
  have := congrArg (fun l => l[i]?) (en_ix its)
  simp only [List.getElem?_map, List.getElem?_eq_getElem h, Option.map_some, List.getElem?_range h] at this
  exact Option.some.inj this
theorem en_mem {its : List It} {e : En} (h : e ∈ enF its) : ∃ hx : e.x < (enF its).length, (enF its)[e.x] = e := by
  obtain ⟨i, hi, rfl⟩ := List.getElem_of_mem h
  refine ⟨by rw [en_at hi]; exact hi, ?_⟩
  have := en_at hi
  congr 1
theorem kids_ord {its : List It} (hd : dist its) (q : Bytes) : (kids its q).Pairwise fun a b => a.id ≠ b.id ∧ befP b a = false := by
  have h1 : (kids its q).Pairwise fun a b => a.id ≠ b.id := by
    have := kids_nodup hd q
    unfold List.Nodup at this
    rw [List.pairwise_map] at this
    exact this
  have h2 : (kids its q).Pairwise fun a b => befP b a = false := by
    have := (isortB_ok (lt := befP) befP_irr befP_tr (kids0 its q)).2
    exact this.imp fun h => by simpa using h
  exact List.pairwise_and_iff.2 ⟨h1, h2⟩
end Go.Proofs.Y

/- TOb: thread: facts of a forest; roots; plain. -/
namespace Go.Proofs.Y
open Go Go.HL

section
variable {its : List It}
theorem en_up {e : En} (h : e ∈ enF its) : (e.p = -1 ∧ e.d = 0 ∧ e.b ∈ kids its []) ∨ ∃ e' ∈ enF its, e.p = e'.x ∧ e.d = e'.d + 1 ∧ e.b ∈ kids its e'.b.id ∧ e'.x < e.x :=
  (wz_sh _ _ _ _ _ e h).2.2.2
theorem en_in {e : En} (h : e ∈ enF its) : ∃ q, e.b ∈ kids its q := by
  rcases en_up h with ⟨-, -, h⟩ | ⟨e', -, -, -, h, -⟩
  · exact ⟨_, h⟩
  · exact ⟨_, h⟩
theorem en_ne (hne : ne0 its) {e : En} (h : e ∈ enF its) : e.b.id ≠ [] := by
  obtain ⟨q, h⟩ := en_in h
  exact kids_id hne h
theorem en_pid (hd : dist its) (hne : ne0 its) {e : En} (h : e ∈ enF its) : (e.p = -1 ∧ upid its e.b.id = none) ∨ ∃ e' ∈ enF its, e.p = e'.x ∧ e'.x < e.x ∧ upid its e.b.id = some e'.b.id := by
  rcases en_up h with ⟨h1, -, h2⟩ | ⟨e', h1, h2, -, h3, h4⟩
  · left
    have := kids_up hd h2
    rw [if_pos rfl] at this
    exact ⟨h1, this⟩
  · right
    have := kids_up hd h3
    rw [if_neg (en_ne hne h1)] at this
    exact ⟨e', h1, h2, h4, this⟩
theorem en_kind (hd : dist its) (hne : ne0 its) {e : En} (h : e ∈ enF its) : (∃ i, i < its.length ∧ e.b = itP its i ∧ findI its e.b.id = some i) ∨ (∃ g ∈ ghL its its.length, e.b = ghP its g ∧ findI its e.b.id = none ∧ e.p = -1) := by
  rcases en_up h with ⟨h1, -, h2⟩ | ⟨e', h1, h2, -, h3, h4⟩
  · rcases kids_mem.1 h2 with ⟨i, hi, -, e1⟩ | ⟨-, g, hg, e1⟩
    · exact .inl ⟨i, hi, e1, by rw [e1]; exact find_idAt hd hi⟩
    · exact .inr ⟨g, hg, e1, by rw [e1]; exact ghL_none hg, h1⟩
  · rcases kids_mem.1 h3 with ⟨i, hi, -, e1⟩ | ⟨h, -⟩
    · exact .inl ⟨i, hi, e1, by rw [e1]; exact find_idAt hd hi⟩
    · exact absurd h (en_ne hne h1)
theorem en_ids : (forestB its).map (·.id) = (enF its).map (·.b.id) := by
  rw [forest_en, List.map_map]; rfl
theorem en_uniq (hd : dist its) (hne : ne0 its) {e e' : En} (h : e ∈ enF its) (h' : e' ∈ enF its) (he : e.b.id = e'.b.id) : e = e' := by
  have hn := forest_nodup hd hne
  rw [en_ids] at hn
  obtain ⟨i, hi, rfl⟩ := List.getElem_of_mem h
  obtain ⟨j, hj, rfl⟩ := List.getElem_of_mem h'
  have : i = j := nodup_at hn (x := (enF its)[i].b.id) (by simp [hi]) (by simp [hj, he])
  subst this; rfl
theorem en_top {b : Pn} (hd : dist its) (hne : ne0 its) (h : b ∈ kids its []) : ∃ e ∈ enF its, e.b = b ∧ e.p = -1 := (wz_all _ _ _ _ _ (forest_deep hd hne)).1 b h
theorem en_kid {b : Pn} (hd : dist its) (hne : ne0 its) {e : En} (he : e ∈ enF its) (h : b ∈ kids its e.b.id) : ∃ e' ∈ enF its, e'.b = b ∧ e'.p = e.x := (wz_all _ _ _ _ _ (forest_deep hd hne)).2 e he b h
theorem en_ghost (hd : dist its) (hne : ne0 its) {g : Bytes} (hg : g ∈ ghL its its.length) : ∃ e ∈ enF its, e.b = ghP its g ∧ e.p = -1 := en_top hd hne (kids_mem.2 (.inr ⟨rfl, g, hg, rfl⟩))
theorem en_item (hd : dist its) (hne : ne0 its) {i : Nat} (hi : i < its.length) : ∃ e ∈ enF its, e.b = itP its i := by
  have key : ∀ m i, i < its.length → itr (upI its) m i = none → ∃ e ∈ enF its, e.b = itP its i := by
    intro m
    induction m with
    | zero => intro i _ h; simp [itr] at h
    | succ m ih =>
      intro i hi h
      rw [itr_succ] at h
      rcases pid_cases hi with ⟨k, h1, h2⟩ | ⟨h1, h2⟩
      · rw [h1] at h
        obtain ⟨e, he, eb⟩ := ih k (upI_lt h1).2 h
        have hm : itP its i ∈ kids its e.b.id := kids_mem.2 (.inl ⟨i, hi, by rw [eb]; exact h2, rfl⟩)
        obtain ⟨e', he', eb', -⟩ := en_kid hd hne he hm
        exact ⟨e', he', eb'⟩
      · by_cases hg : gh its i = []
        · obtain ⟨e, he, eb, -⟩ := en_top hd hne (kids_mem.2 (.inl ⟨i, hi, by rw [h2, hg], rfl⟩))
          exact ⟨e, he, eb⟩
        · obtain ⟨e, he, eb, -⟩ := en_ghost hd hne ((ghL_mem its _ _).2 ⟨hg, i, hi, rfl⟩)
          have hm : itP its i ∈ kids its e.b.id := kids_mem.2 (.inl ⟨i, hi, by rw [eb]; exact h2, rfl⟩)
          obtain ⟨e', he', eb', -⟩ := en_kid hd hne he hm
          exact ⟨e', he', eb'⟩
  exact key its.length i hi (up_ends hd hi)
theorem forest_at {i : Nat} (h : i < (forestB its).length) : ∃ e ∈ enF its, e.x = i ∧ (forestB its)[i] = e.nd := by
  have hl : i < (enF its).length := by rw [forest_en, List.length_map] at h; exact h
  refine ⟨(enF its)[i], List.getElem_mem hl, en_at hl, ?_⟩
  simp [forest_en]
theorem forest_x {e : En} (h : e ∈ enF its) : ∃ hx : e.x < (forestB its).length, (forestB its)[e.x] = e.nd := by
  obtain ⟨hx, e1⟩ := en_mem h
  refine ⟨by rw [forest_en, List.length_map]; exact hx, ?_⟩
  simp [forest_en, e1]
/-- the node with an id -/
def findN (l : List Nd) (c : Bytes) : Option Nat := l.findIdx? fun x => decide (x.id = c)
theorem findN_en (hd : dist its) (hne : ne0 its) {e : En} (h : e ∈ enF its) : findN (forestB its) e.b.id = some e.x := by
  obtain ⟨hx, e1⟩ := forest_x h
  unfold findN
  rw [List.findIdx?_eq_some_iff_getElem]
  refine ⟨hx, by rw [e1]; simp [En.nd], fun j hj => ?_⟩
  obtain ⟨e', he', ex, e2⟩ := forest_at (its := its) (i := j) (by omega)
  rw [e2]
  simp only [decide_eq_true_eq]
  intro h2
  have := en_uniq hd hne he' h h2
  subst this
  omega

/-! ### roots -/
def rootI (its : List It) : Nat → Nat → Bytes
  | 0, i => idAt its i
  | f + 1, i => if gh its i ≠ [] then gh its i else match (parI its i).1 with
    | none => idAt its i
    | some k => rootI its f k
def rootB (its : List It) (c : Bytes) : Bytes := match findI its c with
  | some i => rootI its its.length i
  | none => if c ∈ ghL its its.length then c else []
theorem rootI_mono : ∀ (f i : Nat), i < its.length → itr (upI its) f i = none → rootI its (f + 1) i = rootI its f i
  | 0, i, _, h => by simp [itr] at h
  | f + 1, i, hi, h => by
    rw [itr_succ] at h
    have hu : upI its i = (parI its i).1 := by unfold upI; rw [if_pos hi]
    rw [hu] at h
    unfold rootI
    by_cases hg : gh its i ≠ []
    · rw [if_pos hg, if_pos hg]
    · rw [if_neg hg, if_neg hg]
      cases hp : (parI its i).1 with
      | none => rfl
      | some k =>
        rw [hp] at h hu
        exact rootI_mono f k (upI_lt hu).2 h
theorem root_item (hd : dist its) (hne : ne0 its) {i : Nat} (hi : i < its.length) : rootB its (idAt its i) = if pid its i = [] then idAt its i else rootB its (pid its i) := by
  have h0 : ∀ k, k < its.length → rootB its (idAt its k) = rootI its its.length k := by
    intro k hk
    unfold rootB
    rw [find_idAt hd hk]
  rw [h0 i hi, ← rootI_mono _ i hi (up_ends hd hi)]
  unfold rootI
  by_cases hg : gh its i ≠ []
  · obtain ⟨h1, h2, h3, -⟩ := gh_ok hi hg
    rw [if_pos hg, h2, if_neg hg]
    unfold rootB
    rw [h3]
    exact (if_pos ((ghL_mem its _ _).2 ⟨hg, i, hi, rfl⟩)).symm
  · rw [if_neg hg]
    have hg : gh its i = [] := by simpa using hg
    have hu : upI its i = (parI its i).1 := by unfold upI; rw [if_pos hi]
    cases hp : (parI its i).1 with
    | none =>
      rw [hp] at hu
      rcases pid_cases hi with ⟨k, h1, -⟩ | ⟨-, h2⟩
      · rw [hu] at h1; cases h1
      · rw [h2, hg, if_pos rfl]
    | some k =>
      rw [hp] at hu
      rcases pid_cases hi with ⟨k', h1, h2⟩ | ⟨h1, -⟩
      · rw [hu] at h1
        obtain rfl := Option.some.inj h1
        have hk := (upI_lt hu).2
        rw [h2, if_neg (idAt_ne hne hk), h0 k hk]
      · rw [hu] at h1; cases h1
theorem root_en (hd : dist its) (hne : ne0 its) {e : En} (h : e ∈ enF its) : rootB its e.b.id = match upid its e.b.id with | none => e.b.id | some c => rootB its c := by
  rcases en_kind hd hne h with ⟨i, hi, eb, hf⟩ | ⟨g, hg, eb, hf, -⟩
  · have e1 : e.b.id = idAt its i := by rw [eb]; rfl
    rw [e1, upid_item hd hi, root_item hd hne hi]
    by_cases hp : pid its i = []
    · rw [if_pos hp, if_pos hp]
    · rw [if_neg hp, if_neg hp]
  · have e1 : e.b.id = g := by rw [eb]; rfl
    rw [e1, upid_none (ghL_none hg)]
    unfold rootB
    rw [ghL_none hg]
    exact if_pos hg
theorem root_none (hd : dist its) (hne : ne0 its) {c : Bytes} (h : findN (forestB its) c = none) : rootB its c = [] := by
  have hno : ∀ e ∈ enF its, e.b.id ≠ c := by
    rintro e he rfl
    rw [findN_en hd hne he] at h; cases h
  unfold rootB
  cases hf : findI its c with
  | some i =>
    obtain ⟨hi, e1⟩ := findI_idAt hf
    obtain ⟨e, he, eb⟩ := en_item hd hne hi
    exact absurd (by rw [eb]; exact e1) (hno e he)
  | none =>
    have : c ∉ ghL its its.length := fun hg => by
      obtain ⟨e, he, eb, -⟩ := en_ghost hd hne hg
      exact hno e he (by rw [eb]; rfl)
    exact if_neg this
end
end Go.Proofs.Y

/- TFo: thread: Forest, whole. -/
namespace Go.Proofs.Y
open Go Go.HL Go.Proofs

def ghB (its : List It) (g : Bytes) : Br := ⟨⟨g, (ghD its its.length g).getD 0, [], [], false⟩, none, 0, 0, true⟩
theorem ghB_pn (its : List It) (g : Bytes) : (ghB its g).pn = ghP its g := rfl
theorem put5b (a b : Value) : v2 (.put 0 5) (.agg #[str [], .int .i64 0, .slice none 0 0, str [], .bool false, .bool false]) (.agg (([str [], Value.int .i64 0, Value.slice none 0 0, str [], Value.bool false].set 0 a).set 1 b).toArray) = .agg [a, b, .slice none 0 0, str [], .bool false, .bool false].toArray := by
  simp [v2, putCells, Array.zipIdx, Value.cells]
theorem cput5b (a b : Value) : c2 (.put 0 5) (.agg #[str [], .int .i64 0, .slice none 0 0, str [], .bool false, .bool false]) (.agg (([str [], Value.int .i64 0, Value.slice none 0 0, str [], Value.bool false].set 0 a).set 1 b).toArray) = True := by
  simp [c2, Value.cells]
theorem sl22 : SlTy Try.prog 22 34 5 72 (.agg #[str [], .int .i64 0, .slice none 0 0, str [], .bool false]) := ⟨by kernel_rfl, by kernel_rfl, rfl, by decide⟩
theorem z25 : (Try.prog.info? 25).bind (·.zero) = some (.slice none 0 0) := by kernel_rfl
theorem z55 : (Try.prog.info? 55).bind (·.zero) = some .nilFunc := by kernel_rfl
theorem z48 : (Try.prog.info? 48).bind (·.zero) = some (.map none) := by kernel_rfl
theorem sz55 : szOf Try.prog 55 = some 1 := by kernel_rfl
theorem sz48 : szOf Try.prog 48 = some 1 := by kernel_rfl

section
variable {w1 w w' : World} {cb b5 gb : Nat} {hs gs : List (Bytes × Value)} {rv : Value} {va : Option Addr} {vc fb : Nat} {its : List It} {rvs : List Value} {next : Value → World → Prop} {QP : List PanicEntry → World → Prop}

/-- what the roots' list and the map of children are, while the ghosts come -/
structure GW (w1 : World) (w : World) (cb b5 : Nat) (hs : List (Bytes × Value)) (rv : Value) (its : List It) (rvs : List Value) (ds : List Bytes) : Prop where
  hm : HM Br.cells 53 6 w w1.heap.size cb hs (chF its rvs its.length)
  bc : Blk w b5 48 [.map (some cb)]
  rt : HL.Own w rv 53 6 (rtL its rvs its.length ++ ds.map (ghB its)).length (HL.rows Br.cells (rtL its rvs its.length ++ ds.map (ghB its)))
  rB : ∀ k, rv.ownBlock = some k → w1.heap.size ≤ k ∧ k ≠ cb ∧ k ≠ b5 ∧ ¬ rowsOf hs k
  rows : ∀ k, rowsOf hs k → k ≠ cb ∧ k ≠ b5
  st : Mod none' w1 w
theorem GW.up {ds : List Bytes} (h : GW w1 w cb b5 hs rv its rvs ds) (m : Mod none' w w') : GW w1 w' cb b5 hs rv its rvs ds :=
  ⟨h.hm.up m, h.bc.mod m fun h => h, h.rt.mod m fun _ _ h => h, h.rB, h.rows, h.st.trans' m⟩
theorem GW.add {ds : List Bytes} {g : Bytes} {v'' : Value} {wa : World} (h : GW w1 w cb b5 hs rv its rvs ds)
    (own : HL.Own wa v'' 53 6 ((rtL its rvs its.length ++ ds.map (ghB its)).length + 1) (HL.rows Br.cells ((rtL its rvs its.length ++ ds.map (ghB its)) ++ [ghB its g]))) (m1 : Mod (ownS rv) w wa) (hf : ∀ k, v''.ownBlock = some k → rv.ownBlock = some k ∨ w.heap.size ≤ k) :
    GW w1 wa cb b5 hs v'' its rvs (ds ++ [g]) := by
  have hbase := h.st.size
  have hcl := h.hm.mp.lt
  have h5l := h.bc.lt
  refine ⟨h.hm.mod m1 (fun ho => (h.rB _ ho).2.1 rfl) fun p hp k hk ho => (h.rB k ho).2.2.2 ⟨p, hp, hk⟩, h.bc.mod m1 (fun ho => (h.rB _ ho).2.2.1 rfl), ?_, fun k hk => ?_, h.rows, h.st.trans m1 fun k hk ho => by have := (h.rB k ho).1; omega⟩
  · rw [List.map_append, ← List.append_assoc, List.length_append]; exact own
  · rcases hf k hk with h1 | h1
    · exact h.rB k h1
    · refine ⟨by omega, by omega, by omega, fun ⟨p, hp, hpk⟩ => ?_⟩
      obtain ⟨l, -, -, ow⟩ := h.hm.val p hp
      have := ow.lt k hpk
      omega

theorem lpG_ {τ : Env} {Q : HX → Env → World → Prop} {r : Nat} (hW : GW w1 w cb b5 hs rv its rvs []) (hn : its.length ≤ 100000) (hr : MI w r gb gs gs none) (hrn : ∀ k, rv.ownBlock = some k → k ≠ r ∧ k ≠ gb) (hr5 : r ≠ b5 ∧ r ≠ cb ∧ ¬ rowsOf hs r) (hr1 : w1.heap.size ≤ r)
    (hgk : gs.map (·.1) = ghL its its.length) (hgv : ∀ g, g ∈ ghL its its.length → getM g gs = (ghD its its.length g).map (Value.int .i64))
    (t4 : τ 4 = ptr b5) (t6 : τ 6 = rv) (t91 : τ 91 = ptr r)
    (k : ∀ σ w' rv' ds, ds.Perm (ghL its its.length) → GW w1 w' cb b5 hs rv' its rvs ds → σ 4 = ptr b5 → σ 6 = rv' → Q (.exit 3) σ w') : hloop (hw Try.prog noPanic h11_11) Q τ w := by
  refine ⟨fun m τ w' => ∃ rem ds cur rv', rem.length = m ∧ τ 4 = ptr b5 ∧ τ 6 = rv' ∧ τ 91 = ptr r ∧ MI w' r gb gs rem cur ∧ (ds ++ rem.map (·.1)).Perm (gs.map (·.1)) ∧ GW w1 w' cb b5 hs rv' its rvs ds ∧ (∀ k, rv'.ownBlock = some k → k ≠ r ∧ k ≠ gb), gs.length, ⟨gs, [], none, rv, rfl, t4, t6, t91, hr, by simp, hW, hrn⟩, ?_⟩
  rintro m τ w2 ⟨rem, ds, cur, rv', rfl, t4, t6, t91, hm2, hper, hW2, hrn2⟩
  unfold h11_11
  try simp only [go_sem, t4, t6, t91]
  refine nextm_ hm2 (fun h0 => ?_) ?_
  · subst h0
    try simp only [go_sem]
    simp only [List.map_nil, List.append_nil] at hper
    rw [hgk] at hper
    exact k _ w2 rv' ds hper hW2 t4 t6
  · intro x rem' w3 hpr hm3 m3 s3
    have hds : ds.length ≤ its.length := by
      have := hper.length_eq
      rw [hgk] at this
      have h2 := ghL_len its its.length
      rw [List.length_append] at this
      omega
    have hxm : x.1 ∈ ghL its its.length := by
      rw [← hgk]
      exact hper.mem_iff.1 (List.mem_append.2 (.inr (List.mem_map.2 ⟨x, hpr.mem_iff.2 (by simp), rfl⟩)))
    have hx2 : x.2 = .int .i64 ((ghD its its.length x.1).getD 0) := by
      have h1 := hgv x.1 hxm
      have hk : (gs.map (·.1)).Nodup := by rw [hgk]; exact ghL_nodup its _
      -- the entry is the map's own
      have hmem : x ∈ gs := by
        obtain ⟨es, clock, seen, -, hes, -, -, -, hlf, -, hc⟩ := hm3
        obtain ⟨e, he, s0, -, hxe⟩ := hc x rfl
        have : pr e ∈ gs.map kv := by rw [← hes]; exact List.mem_map.2 ⟨e, he, rfl⟩
        obtain ⟨z, hz, hze⟩ := List.mem_map.1 this
        rw [hxe] at hze
        rw [← kv_inj hze]; exact hz
      rw [mem_get hk hmem] at h1
      cases hd : ghD its its.length x.1 with
      | none => rw [hd] at h1; cases h1
      | some d => rw [hd] at h1; exact Option.some.inj h1
    have hW3 : GW w1 w3 cb b5 hs rv' its rvs ds := by
      refine ⟨hW2.hm.mod m3 (fun e => hr5.2.1 e.symm) fun p hp k hk e => hr5.2.2 ⟨p, hp, by have e : k = r := e; rw [← e]; exact hk⟩, hW2.bc.mod m3 (fun e => hr5.1 e.symm), hW2.rt.mod m3 fun k hk e => (hrn2 k hk).1 e, hW2.rB, hW2.rows, hW2.st.trans m3 fun k hk e => ?_⟩
      have e : k = r := e
      omega
    try simp only [go_sem]
    unfold h11_12
    try simp only [go_sem, t4, t6, t91]
    refine entry_ hm3 ?_
    try simp only [go_sem, t4, t6, t91, hx2, put5b, cput5b]
    refine ⟨by omega, by simp, by omega, ?_⟩
    refine bsl1 (cs := Br.cells (ghB its x.1)) sl50 rfl rfl (by omega) ?_
    intro b6 w6 hb6 own6 bk6 m6 s6
    have hW6 := hW3.up m6
    have hm6 := hm3.mod m6 (fun h => h) (fun h => h)
    try simp only [go_sem, t4, t6, t91]
    have hrl : (rtL its rvs its.length).length ≤ its.length := by
      unfold rtL
      rw [List.length_map]; exact undN_le its _ []
    refine append_ sl50 hW6.rt own6.sl (Br.one _) (by simp only [List.length_append, List.length_map]; omega) (by simp only [List.length_append, List.length_map]; unfold maxLen; omega) ?_
    intro v7 w7 own7 m7 hf7 _
    have hrows : rows Br.cells (rtL its rvs its.length ++ ds.map (ghB its)) ++ Br.cells (ghB its x.1) = rows Br.cells ((rtL its rvs its.length ++ ds.map (ghB its)) ++ [ghB its x.1]) := by
      rw [rows_app (l := rtL its rvs its.length ++ ds.map (ghB its)), rows_cons, rows_nil, List.append_nil]
    rw [hrows] at own7
    have hW7 := hW6.add own7 m7 hf7
    have hm7 := hm6.mod m7 (fun ho => (hrn2 _ ho).1 rfl) (fun ho => (hrn2 _ ho).2 rfl)
    have hrn7 : ∀ k, v7.ownBlock = some k → k ≠ r ∧ k ≠ gb := fun k hk => by
      rcases hf7 k hk with h | h
      · exact hrn2 k h
      · have := hm6.lt; omega
    have hper7 : ((ds ++ [x.1]) ++ rem'.map (·.1)).Perm (gs.map (·.1)) := by
      refine List.Perm.trans ?_ hper
      rw [List.append_assoc]
      refine List.Perm.append_left ds ?_
      exact (hpr.map (·.1)).symm
    have hlen : rem'.length < rem.length := by rw [hpr.length_eq]; simp
    try simp only [go_sem, t4, t6, t91]
    refine ⟨rem'.length, hlen, rem', ds ++ [x.1], some x, v7, ?_⟩
    (repeat' first | assumption | rfl | omega | apply And.intro)

/-! ### the whole -/
def slcs (its : List It) (rvs : List Value) : Prop := ∀ i, i < its.length → ∃ a b c, rvs[i]? = some (.slice a b c)
theorem Its.slcs {v : Value} (h : Its w v its rvs) : slcs its rvs := fun i hi => by
  have hi2 : i < rvs.length := by rw [h.len]; exact hi
  obtain ⟨ra, rc, e, -⟩ := (h.refs i hi hi2).form
  exact ⟨ra, _, rc, by rw [List.getElem?_eq_getElem hi2, e]⟩
theorem brOf_pn (hs : slcs its rvs) {i : Nat} (hi : i < its.length) : (brOf its rvs i).pn = itP its i := by
  obtain ⟨a, b, c, h⟩ := hs i hi
  rw [brOf_at hi h]
  unfold Br.pn itP
  rw [idAt_at hi, dateAt_at hi]
theorem undN_lt {n : Nat} {p : Bytes} {i : Nat} (h : i ∈ undN its n p) : i < n := by
  unfold undN at h
  simpa using (List.mem_filter.1 h).1
theorem map_pn (hs : slcs its rvs) (p : Bytes) : ((undN its its.length p).map (brOf its rvs)).map Br.pn = (under its p).map (itP its) := by
  rw [List.map_map]
  refine List.map_congr_left fun i hi => ?_
  exact brOf_pn hs (undN_lt hi)
theorem chF_alone (hd : dist its) (hs : slcs its rvs) : Alone (chF its rvs its.length) := by
  intro c x hx y hy e
  unfold chF at hx hy
  by_cases hc : c = []
  · rw [if_pos hc] at hx; cases hx
  · rw [if_neg hc] at hx hy
    obtain ⟨i, hi, rfl⟩ := List.mem_map.1 hx
    obtain ⟨j, hj, rfl⟩ := List.mem_map.1 hy
    have h1 := brOf_pn hs (undN_lt hi)
    have h2 := brOf_pn hs (undN_lt hj)
    have e1 : (brOf its rvs i).pn.id = idAt its i := by rw [h1]; rfl
    have e2 : (brOf its rvs j).pn.id = idAt its j := by rw [h2]; rfl
    have e3 : (brOf its rvs i).pn.id = (brOf its rvs j).pn.id := e
    rw [e1, e2] at e3
    rw [idAt_inj hd (undN_lt hi) (undN_lt hj) e3]
/-- sorted, these are the places under a name -/
theorem sorted_kids (hd : dist its) {p : Bytes} {l : List Br} (h : (l.map Br.pn).Perm (kids0 its p)) (hs : SortedB (fun x y => ltc brC x y) l) : l.map Br.pn = kids its p := by
  obtain ⟨h1, h2⟩ := isortB_ok (lt := befP) befP_irr befP_tr (kids0 its p)
  have hp : (l.map Br.pn).Perm (kids its p) := h.trans h1.symm
  refine sorted_unique (lt := befP) (fun x hx y hy a b => ?_) hp ?_ h2
  · exact kids_alone hd (hp.mem_iff.1 hx) (hp.mem_iff.1 hy) (bef_tri a b).2
  · unfold SortedB
    rw [List.pairwise_map]
    refine hs.imp fun {a b} h => ?_
    rw [← ltc_pn]; exact h
theorem chF_kids (hd : dist its) (hs : slcs its rvs) (c : Bytes) (l : List Br) (h : l.Perm (chF its rvs its.length c)) (hso : SortedB (fun x y => ltc brC x y) l) : l.map Br.pn = chK its c := by
  unfold chF at h
  unfold chK
  by_cases hc : c = []
  · rw [if_pos hc] at h ⊢
    rw [List.Perm.eq_nil h]; rfl
  · rw [if_neg hc] at h ⊢
    refine sorted_kids hd ?_ hso
    unfold kids0
    rw [if_neg hc, List.append_nil, ← map_pn hs]
    exact h.map _

theorem Forest_ {v : Value} (hd : dist its) (hne : ne0 its) (hK : Its w v its rvs) (hz : szI its) (hn : its.length ≤ 100000)
    (k : ∀ v' w', HL.Own w' v' 29 4 (forestB its).length (rows Nd.cells (forestB its)) → (∀ k, v'.ownBlock = some k → w.heap.size ≤ k) → Mod none' w w' → next v' w') : callvK Try.prog (.func (.func 11) #[] #[]) [v] w next QP := by
  refine r11 rfl ?_
  obtain ⟨va, vc, rfl, -, -⟩ := hK.sl.form
  have hsl := hK.slcs
  unfold h11
  try simp only [go_sem]
  refine study_ hd hK hz (by omega) ?_
  intro fb w1 hS m1
  try simp only [go_sem]
  refine mk_ ?_
  intro cb w2 hcb mp2 m2 s2
  try simp only [go_sem]
  refine alloc_ (cs := [.map none]) z48 rfl ?_
  intro b5 w3 hb5 bk3 m3 s3
  try simp only [go_sem]
  refine store1 sz48 bk3 (by simp) rfl ?_
  intro w4 bk4 m4 s4
  have m14 : Mod none' w1 w4 := (m2.trans' m3).trans m4 fun x hx e => by
    have e : x = b5 := e
    omega
  unfold h11_1
  try simp only [go_sem]
  refine mk_ ?_
  intro gb w5 hgb mp5 m5 s5
  have mp2' : Mp w5 cb [] := ((mp2.mod m3 fun h => h).mod m4 fun e => by have e : cb = b5 := e; omega).mod m5 fun h => h
  have bk5 : Blk w5 b5 48 [.map (some cb)] := by simpa using bk4.mod m5 fun h => h
  have hF5 : FW w1 w5 cb b5 gb [] [] (.slice none 0 0) its rvs 0 0 := by
    have e1 : chF its rvs 0 = fun _ => [] := by funext c; unfold chF undN; split <;> simp
    refine ⟨by rw [e1]; exact HM.nil mp2', bk5, mp5, rfl, fun g hg => (by simp [ghL] at hg), ?_, fun k hk => (by cases hk), fun k hk => (by obtain ⟨p, hp, -⟩ := hk; cases hp), ?_, ?_, m14.trans' m5⟩
    · have e2 : rtL its rvs 0 = [] := by unfold rtL undN; simp
      rw [e2]; exact Own.nil _ _ _
    · simp only [List.nodup_cons, List.mem_cons, List.not_mem_nil, or_false, not_or, List.nodup_nil, not_false_eq_true, and_true]; omega
    · simp only [List.mem_cons, List.not_mem_nil, or_false]
      intro k hk
      omega
  try simp only [go_sem]
  refine lpF_ hd hne hS hz hn hF5 rfl rfl rfl rfl rfl rfl rfl rfl ?_
  intro σ w6 hs gs rv hF6 t0 t3 t4 t5 t6
  have hdf := hF6.diff
  simp only [List.nodup_cons, List.mem_cons, List.not_mem_nil, or_false, not_or] at hdf
  obtain ⟨⟨d1, d2⟩, d3, -⟩ := hdf
  try simp only [go_sem]
  unfold h11_10
  try simp only [go_sem, t0, t3, t4, t5, t6]
  refine rangem_ u49 hF6.gm ?_
  intro r w7 hr mi7 m7 s7
  have hF7 := hF6.up m7
  have hW7 : GW w1 w7 cb b5 hs rv its rvs [] := ⟨hF7.hm, hF7.bc, by simpa using hF7.rt, fun k hk => by
    obtain ⟨h1, h2⟩ := hF7.rB k hk
    simp only [List.mem_cons, List.not_mem_nil, or_false, not_or] at h2
    exact ⟨h1, h2.1, h2.2.1, fun hr => (hF7.rows k hr).2 hk⟩, fun k hk => by
    have := (hF7.rows k hk).1
    simp only [List.mem_cons, List.not_mem_nil, or_false, not_or] at this
    exact ⟨this.1, this.2.1⟩, hF7.st⟩
  have hrsz := hF6.st.size
  try simp only [go_sem, t0, t3, t4, t5, t6]
  refine lpG_ (gs := gs) (gb := gb) hW7 hn mi7 (fun k hk => ⟨fun e => by have := hF6.rt.lt k hk; omega, fun e => (hF6.rB k hk).2 (by simp [e])⟩) ⟨by have := hF6.bc.lt; omega, by have := hF6.hm.mp.lt; omega, fun ⟨p, hp, hpk⟩ => by
    obtain ⟨l, -, -, ow⟩ := hF6.hm.val p hp
    have := ow.lt r hpk
    omega⟩ (by omega) hF6.gk hF6.gv t4 t6 rfl ?_
  intro σ w8 rv8 ds hds hW8 t4 t6
  try simp only [go_sem]
  unfold h11_13
  try simp only [go_sem, t4, t6]
  refine alloc_ (cs := [.slice none 0 0]) z25 rfl ?_
  intro b15 w9 hb15 bk9 m9 s9
  try simp only [go_sem, t4, t6]
  refine alloc_ (cs := [.nilFunc]) z55 rfl ?_
  intro b16 w10 hb16 bk10 m10 s10
  try simp only [go_sem, t4, t6]
  refine store1 sz55 bk10 (by simp) rfl ?_
  intro w11 bk11 m11 s11
  have m811 : Mod none' w8 w11 := (m9.trans' m10).trans m11 fun x hx e => by
    have e : x = b16 := e
    omega
  have hW11 := hW8.up m811
  have bk9' : Blk w11 b15 25 [.slice none 0 0] := (bk9.mod m10 fun h => h).mod m11 fun e => by have e : b15 = b16 := e; omega
  let K : WK := ⟨b15, b16, b5, cb, w11.heap.size⟩
  have bk11' : Blk w11 b16 55 [K.f] := by simpa using bk11
  have hcl := hW8.hm.mp.lt
  have h5l := hW8.bc.lt
  have hrl : ∀ k, rowsOf hs k → k < w8.heap.size := fun k ⟨p, hp, hpk⟩ => by
    obtain ⟨l, -, -, ow⟩ := hW8.hm.val p hp
    exact ow.lt k hpk
  have hWS : WS K w11 w1.heap.size hs (chF its rvs its.length) [] := by
    refine ⟨⟨.slice none 0 0, bk9', Own.nil _ _ _, fun k hk => (by cases hk)⟩, bk11', hW11.bc, hW11.hm, ?_, ?_, fun k hk => ⟨?_, ?_⟩, Nat.le_refl _⟩
    · simp only [List.mem_cons, List.not_mem_nil, or_false]
      intro k hk
      show k < w11.heap.size
      rcases hk with h | h | h | h
      · have h : k = b15 := h
        omega
      · have h : k = b16 := h
        omega
      · have h : k = b5 := h
        omega
      · have h : k = cb := h
        omega
    · show [b15, b16, b5, cb].Nodup
      simp only [List.nodup_cons, List.mem_cons, List.not_mem_nil, or_false, not_or, List.nodup_nil, not_false_eq_true, and_true]
      have : b5 ≠ cb := fun e => d1 e.symm
      omega
    · show k < w11.heap.size
      have := hrl k hk
      omega
    · show k ∉ [b15, b16, b5, cb]
      have h1 := hrl k hk
      have h2 := hW8.rows k hk
      simp only [List.mem_cons, List.not_mem_nil, or_false, not_or]
      omega
  have hG : Given K w11 hs (chF its rvs its.length) rv8 (rtL its rvs its.length ++ ds.map (ghB its)) := by
    refine ⟨hW11.rt, .inr fun k hk => ⟨?_, ?_, (hW8.rB k hk).2.2.2⟩⟩
    · show k < w11.heap.size
      have := hW8.rt.lt k hk
      omega
    · show k ∉ [b15, b16, b5, cb]
      have h1 := hW8.rt.lt k hk
      have h2 := hW8.rB k hk
      simp only [List.mem_cons, List.not_mem_nil, or_false, not_or]
      omega
  have hfor : walkF (chK its) (its.length + 2) [] (kids its []) (-1) 0 = forestB its := by
    unfold forestB
    exact walkF_chK hne _ _ _ _ _ fun b hb => kids_id hne hb
  have d11 := bk11'.cell 0
  simp only [List.getElem?_cons_zero] at d11
  try simp only [go_sem, t4, t6, d11]
  refine walk_ (K := K) (ch := chK its) (chF_alone hd hsl) (chF_kids hd hsl) (its.length + 2) (L := kids its []) (out := []) (p := -1) (d := 0) (deepF_chK hne _ _ (fun b hb => kids_id hne hb) (forest_deep hd hne)) ?_ hWS hG ?_ (by omega) (by omega) ?_
  · intro l hl hso
    refine sorted_kids hd ?_ hso
    refine (hl.map _).trans ?_
    rw [List.map_append]
    unfold kids0
    rw [if_pos rfl]
    have e1 : (rtL its rvs its.length).map Br.pn = (under its []).map (itP its) := map_pn hsl []
    have e2 : (ds.map (ghB its)).map Br.pn = ds.map (ghP its) := by rw [List.map_map]; rfl
    rw [e1, e2]
    exact List.Perm.append_left _ (hds.map _)
  · rw [hfor]
    have := forest_len hd hne
    omega
  intro w12 hW12 _ m12
  rw [hfor] at hW12
  obtain ⟨ov, o1, o2, o3⟩ := hW12.ex
  have c12 : w12.cell? ⟨b15, 0, none⟩ = some ov := o1.cell 0
  try simp only [go_sem]
  unfold h11_14
  try simp only [go_sem, c12]
  have hw1 := hW8.st.size
  have hm1 := m1.size
  have m1_11 := hW11.st
  refine k ov w12 o2 (fun k hk => by have : w11.heap.size ≤ k := o3 k hk; have := m1_11.size; omega) ?_
  refine (m1.trans' m1_11).trans m12 fun x hx hS => ?_
  have hx1 : x < w1.heap.size := by omega
  rcases hS with (hS | hS | hS) | hS
  · have hS : x = b15 := hS
    omega
  · have hS : w11.heap.size ≤ x := hS
    have := m1_11.size
    omega
  · obtain ⟨p, hp, hpk⟩ := hS
    have := (hW8.hm.fresh p hp x hpk).1
    omega
  · have := (hW8.rB x hS).1
    omega
end
end Go.Proofs.Y

/- TLa: thread: nodes compared; few; finding. -/
namespace Go.Proofs.Y
open Go Go.HL Go.Proofs

section
variable {w w' : World} {its : List It} {rvs : List Value} {next : Value → World → Prop} {QP : List PanicEntry → World → Prop}
/-! ### nodes compared -/
def nneqK (op : BinOp) (t : TypeId) (x y : Operand) (a b : Value) (w : World) (next : Value → World → Prop) (QP : List PanicEntry → World → Prop) : Prop := effUpon Try.prog next QP ((runV (do eqGuard op t x y a b; binOp op t a b)).run Try.prog w)
theorem f_nneq {op : BinOp} {t d ty : TypeId} {x y : Operand} {ρ : Operand → Value} : heff Try.prog (.binOp op t x y d) ty ρ w next QP = nneqK op t x y (ρ x) (ρ y) w next QP := rfl
attribute [local go_sem] f_nneq
theorem u29 : Try.prog.underlying 29 = some (.struct (Try.prog.fieldsOf 29)) := by kernel_rfl
theorem fields29 : (Try.prog.fieldsOf 29).toList.map (fun f => (f.name != "_", f.type, f.offset)) = [(true, 9, 0), (true, 4, 1), (true, 3, 2), (true, 3, 3)] := by kernel_rfl
theorem held29 : Try.prog.stoodInHeld 29 = false := by kernel_rfl
theorem guard29 : Try.prog.eqGuardType Try.prog.depth 29 = false := by kernel_rfl
theorem part1 {t off : Nat} {cs : Array Value} {v : Value} (ht : ∀ w, (isAgg t).run Try.prog w = .ok false w) (h : cs[off]? = some v) : (part t cs off).run Try.prog w = .ok v w := by
  simp [part, ht, h]
theorem ag9 : ∀ w : World, (isAgg 9).run Try.prog w = .ok false w := fun w => by unfold isAgg; simp [run_underlying u9]
theorem u4 : Try.prog.underlying 4 = some .bool := by kernel_rfl
theorem ag4 : ∀ w : World, (isAgg 4).run Try.prog w = .ok false w := fun w => by unfold isAgg; simp [run_underlying u4]
theorem ag3 : ∀ w : World, (isAgg 3).run Try.prog w = .ok false w := fun w => by unfold isAgg; simp [run_underlying u3]
theorem strEq (a b : Bytes) : ((ByteArray.mk a.toArray).toList == (ByteArray.mk b.toArray).toList) = decide (a = b) := by
  rw [ByteArray.toList_eq, ByteArray.toList_eq]
  show (a == b) = decide (a = b)
  cases h : a == b
  · have : a ≠ b := by simpa using h
    simp [this]
  · have : a = b := by simpa using h
    simp [this]
theorem nneq_ {x y : Operand} (a b : Nd) (k : next (.bool (!decide (a = b))) w) : nneqK .neq 29 x y (.agg a.cells.toArray) (.agg b.cells.toArray) w next QP := by
  refine eff_value (v := .bool (!decide (a = b))) (w' := w) ?_ k
  rw [Sem.run_bind, run_eqGuard_agg w _ _ _ _ _ _ guard29]
  simp only [Result.andThen_ok]
  rw [run_neq_struct, run_equalIn_struct w 9999 29 _ _ u29 held29]
  have hf := fields29
  generalize (Try.prog.fieldsOf 29).toList = fs at hf
  have hl := congrArg List.length hf
  rcases fs with _ | ⟨f1, _ | ⟨f2, _ | ⟨f3, _ | ⟨f4, _ | ⟨f5, r⟩⟩⟩⟩⟩ <;> first | (exfalso; simp at hl; done) | skip
  · skip
    simp only [List.map_cons, List.map_nil, List.cons.injEq, Prod.mk.injEq, and_true, bne_iff_ne, ne_eq] at hf
    obtain ⟨⟨n1, t1, o1⟩, ⟨n2, t2, o2⟩, ⟨n3, t3, o3⟩, n4, t4, o4⟩ := hf
    have e1 : ∀ w : World, (Op.eqFields 9999 a.cells.toArray b.cells.toArray [f1, f2, f3, f4]).run Try.prog w = .ok (decide (a = b)) w := by
      intro w
      simp only [Op.eqFields, ne_eq, n1, n2, n3, n4, not_false_eq_true, if_true, Sem.run_bind, t1, t2, t3, t4, o1, o2, o3, o4]
      rw [part1 ag9 (show a.cells.toArray[0]? = some (str a.id) from rfl)]
      simp only [Result.andThen_ok]
      rw [part1 ag9 (show b.cells.toArray[0]? = some (str b.id) from rfl)]
      simp only [Result.andThen_ok, str]
      rw [run_equalIn_string w 9998 9 _ _ u9, strEq]
      simp only [Result.andThen_ok]
      obtain ⟨i1, g1, p1, d1⟩ := a
      obtain ⟨i2, g2, p2, d2⟩ := b
      by_cases hi : i1 = i2
      · subst hi
        simp only [decide_true, Bool.not_true, Bool.false_eq_true, if_false, Sem.run_bind]
        rw [part1 ag4 (show _ = some (Value.bool g1) from rfl)]
        simp only [Result.andThen_ok]
        rw [part1 ag4 (show _ = some (Value.bool g2) from rfl)]
        simp only [Result.andThen_ok]
        rw [run_equalIn_bool' w 9998 4 _ _ u4]
        simp only [Result.andThen_ok]
        by_cases hg : g1 = g2
        · subst hg
          simp only [beq_self_eq_true, Bool.not_true, Bool.false_eq_true, if_false, Sem.run_bind]
          rw [part1 ag3 (show _ = some (Value.int .i64 p1) from rfl)]
          simp only [Result.andThen_ok]
          rw [part1 ag3 (show _ = some (Value.int .i64 p2) from rfl)]
          simp only [Result.andThen_ok]
          rw [run_equalIn_int w 9998 3 .i64 .i64 _ _ u3]
          simp only [Result.andThen_ok]
          by_cases hp : p1 = p2
          · subst hp
            simp only [beq_self_eq_true, Bool.not_true, Bool.false_eq_true, if_false, Sem.run_bind]
            rw [part1 ag3 (show _ = some (Value.int .i64 d1) from rfl)]
            simp only [Result.andThen_ok]
            rw [part1 ag3 (show _ = some (Value.int .i64 d2) from rfl)]
            simp only [Result.andThen_ok]
            rw [run_equalIn_int w 9998 3 .i64 .i64 _ _ u3]
            simp only [Result.andThen_ok]
            by_cases hdd : d1 = d2
            · subst hdd; simp
            · simp [hdd]
          · simp [hp]
        · have : (g1 == g2) = false := by simpa using hg
          simp [this, hg]
      · simp [hi]
    rw [e1 w]
    simp
/-- lists of nodes compared -/
theorem same_ {va vb : Value} {a b : List Nd} (ha : Sl w va 4 a.length (rows Nd.cells a)) (hb : Sl w vb 4 b.length (rows Nd.cells b)) (hn : a.length ≤ 1000000) (k : ∀ w', Mod none' w w' → next (.bool (decide (a = b))) w') :
    callvK Try.prog (.func (.func 21) #[] #[]) [va, vb] w next QP := by
  refine r21 rfl ?_
  obtain ⟨aa, ac, rfl, -, -⟩ := ha.form
  obtain ⟨ba, bc, rfl, -, -⟩ := hb.form
  unfold h21
  try simp only [go_sem]
  by_cases hl : a.length = b.length
  · have e1 : (!decide ((a.length : Int) = (b.length : Int))) = false := by simp [hl]
    try simp only [go_sem, e1]
    unfold h21_1
    try simp only [go_sem]
    refine loopN a.length (fun i τ w' => τ 0 = .slice aa a.length ac ∧ τ 1 = .slice ba b.length bc ∧ τ 5 = .int .i64 i ∧ (∀ j, j < i → a[j]? = b[j]?) ∧ Mod none' w w') ⟨0, by omega, rfl, rfl, rfl, fun j hj => by omega, Mod.refl _ _⟩ ?_
    rintro i τ w1 hi ⟨t0, t1, t5, hsm, m1⟩
    unfold h21_2
    try simp only [go_sem, t0, t1, t5]
    refine ⟨fun hlt => ?_, fun hge => ?_⟩
    · have hil : i < a.length := by
        have := of_decide_eq_true hlt
        omega
      obtain ⟨ga, oa, ca, ea, -, hca⟩ := (ha.mod m1 fun _ _ h => h).get Nd.len rfl (by omega)
      obtain ⟨gb, ob, cb, eb, -, hcb⟩ := (hb.mod m1 fun _ _ h => h).get Nd.len rfl (by omega)
      simp only [Value.slice.injEq] at ea eb
      obtain ⟨rfl, -, rfl⟩ := ea
      obtain ⟨rfl, -, rfl⟩ := eb
      have y1 : loadN w1 ⟨ga, oa + i * 4, none⟩ 4 = a[i].cells.toArray := loadN_of rfl fun j hj => by rw [e_add]; exact hca i j hil hj
      have y2 : (∀ j, j < 4 → (w1.cell? ⟨ga, oa + i * 4 + j, none⟩).isSome = true) = True := eq_true fun j hj => by rw [hca i j hil hj]; simp [Nd.cells, hj]
      have z1 : loadN w1 ⟨gb, ob + i * 4, none⟩ 4 = b[i].cells.toArray := loadN_of rfl fun j hj => by rw [e_add]; exact hcb i j (by omega) hj
      have z2 : (∀ j, j < 4 → (w1.cell? ⟨gb, ob + i * 4 + j, none⟩).isSome = true) = True := eq_true fun j hj => by rw [hcb i j (by omega) hj]; simp [Nd.cells, hj]
      unfold h21_3
      try simp only [go_sem, t0, t1, t5, y1, y2, z1, z2]
      repeat refine ⟨⟨by omega, by omega⟩, ?_⟩
      refine nneq_ a[i] b[i] ?_
      try simp only [go_sem, t0, t1, t5]
      refine ⟨fun hne => ?_, fun heq => ?_⟩
      · have hne : a[i] ≠ b[i] := by simpa using hne
        have := k w1.drew (m1.trans' (Mod.drew _ _))
        rw [show decide (a = b) = false from decide_eq_false fun e => hne (by simp [e])] at this
        exact this
      · have heq : a[i] = b[i] := by simpa using heq
        unfold h21_4
        try simp only [go_sem, t0, t1, t5]
        rw [w64 (by omega) (by omega)]
        have m2 := m1.trans' (Mod.drew none' w1)
        have hsm2 : ∀ j, j < i + 1 → a[j]? = b[j]? := by
          intro j hj
          by_cases e : j = i
          · subst e
            rw [List.getElem?_eq_getElem hil, List.getElem?_eq_getElem (by omega), heq]
          · exact hsm j (by omega)
        refine ⟨i + 1, by omega, by omega, ?_⟩
        (repeat' first | assumption | rfl | omega | apply And.intro)
    · have hil : i = a.length := by
        have := of_decide_eq_false hge
        omega
      subst hil
      have e : a = b := by
        apply List.ext_getElem?
        intro j
        by_cases hj : j < a.length
        · exact hsm j hj
        · rw [List.getElem?_eq_none (by omega), List.getElem?_eq_none (by omega)]
      have := k w1 m1
      rw [show decide (a = b) = true from decide_eq_true e] at this
      unfold h21_5
      try simp only [go_sem]
      exact this
  · have e1 : (!decide ((a.length : Int) = (b.length : Int))) = true := by
      have : ¬ ((a.length : Int) = (b.length : Int)) := by omega
      simp [this]
    try simp only [go_sem, e1]
    have := k w (Mod.refl _ _)
    rw [show decide (a = b) = false from decide_eq_false fun e => hl (by rw [e])] at this
    exact this
end
end Go.Proofs.Y

/- TLb: thread: slices of records spelt out; few; finding. -/
namespace Go.Proofs.Y
open Go Go.HL Go.Proofs

theorem fill_rec {place : Nat → Option (Nat × Nat)} {cells : Array Value} {i o n : Nat} {v : Value} {cs : List Value} {rest : List (Nat × Value)} (hp : place i = some (o, n)) (hv : v.cells = cs.toArray) (hl : cs.length = n) (ho : o + n ≤ cells.size) :
    Instr.fill place cells ((i, v) :: rest) = Instr.fill place (cells.toList.take o ++ cs ++ cells.toList.drop (o + n)).toArray rest := by
  rw [Instr.fill, hp]
  simp only [hv, List.size_toArray, hl]
  rw [if_neg (by simp; omega)]
  congr 1
  rw [← Array.foldl_toList]
  simp only [Array.toList_zipIdx, List.toList_toArray]
  have key : ∀ (l : List Value) (k : Nat) (Z : Array Value), o + k + l.length ≤ Z.size → (l.zipIdx k).foldl (fun cs (x : Value × Nat) => cs.setIfInBounds (o + x.2) x.1) Z = (Z.toList.take (o + k) ++ l ++ Z.toList.drop (o + k + l.length)).toArray := by
    intro l
    induction l with
    | nil => intro k Z hk; simp
    | cons x r ih =>
      intro k Z hk
      rw [List.zipIdx_cons, List.foldl_cons, ih _ _ (by simp at hk ⊢; omega)]
      apply Array.toList_inj.1
      apply List.ext_getElem?
      intro j
      simp only [List.length_cons] at hk
      simp only [Array.toList_setIfInBounds, List.append_assoc, List.getElem?_append, List.length_take, List.length_set, Array.length_toList, List.getElem?_take, List.getElem?_set, List.getElem?_drop, List.length_cons, List.getElem?_cons]
      repeat' split
      all_goals first
        | rfl
        | (exfalso; omega)
        | (congr 1; omega)
        | (exfalso; simp_all; omega)
  have := key cs 0 cells (by omega)
  simpa [hl] using this


theorem fill_all {sz : Nat} (h0 : 0 < sz) : ∀ (ls : List (Value × List Value)) (k : Nat) (cells : Array Value), (∀ p ∈ ls, p.1.cells = p.2.toArray ∧ p.2.length = sz) → cells.size = (k + ls.length) * sz →
    Instr.fill (fun i => some (i * sz, sz)) cells ((ls.zipIdx k).map fun p => (p.2, p.1.1)) = some (cells.toList.take (k * sz) ++ ls.flatMap (·.2)).toArray
  | [], k, cells, _, hs => by
    simp only [List.zipIdx_nil, List.map_nil, Instr.fill, List.flatMap_nil, List.append_nil]
    rw [List.take_of_length_le (by simp [hs])]
  | p :: ls, k, cells, h, hs => by
    obtain ⟨h1, h2⟩ := h p (by simp)
    simp only [List.length_cons] at hs
    have hle : k * sz + sz ≤ cells.size := by
      rw [hs, show k + (ls.length + 1) = (k + 1) + ls.length by omega, Nat.add_mul, Nat.add_mul]; omega
    rw [List.zipIdx_cons, List.map_cons, fill_rec (o := k * sz) (n := sz) (cs := p.2) rfl h1 h2 hle]
    have hsz : ((cells.toList.take (k * sz) ++ p.2 ++ cells.toList.drop (k * sz + sz)).toArray).size = cells.size := by
      simp only [List.size_toArray, List.length_append, List.length_take, List.length_drop, Array.length_toList, h2]; omega
    rw [fill_all h0 ls (k + 1) _ (fun q hq => h q (by simp [hq])) (by rw [hsz, hs]; congr 1; omega)]
    congr 1
    have e : (k + 1) * sz = (cells.toList.take (k * sz) ++ p.2).length := by
      simp only [List.length_append, List.length_take, Array.length_toList, h2]
      rw [Nat.add_mul, Nat.min_eq_left (by omega)]; omega
    rw [e, List.take_left, List.flatMap_cons, List.append_assoc]
section
variable {P : Program} {w : World} {next : Value → World → Prop} {QP : List PanicEntry → World → Prop}
theorem bslR {t e sz by_ n : Nat} {z : Value} (ht : SlTy P t e sz by_ z) {parts : List (Nat × Value)} (ls : List (Value × List Value)) (h : ∀ p ∈ ls, p.1.cells = p.2.toArray ∧ p.2.length = sz) (hn : ls.length = n) (hp : parts = ls.zipIdx.map fun p => (p.2, p.1.1)) (hb : n * sz ≤ 16777216)
    (k : ∀ b w', w.heap.size = b → HL.Own w' (.slice (some ⟨b, 0, none⟩) n n) e sz n (ls.flatMap (·.2)) → Mod none' w w' → w'.heap.size = b + 1 → next (.slice (some ⟨b, 0, none⟩) n n) w') : bslK P t n parts w next QP := by
  subst hp hn
  have hl : ∀ ls : List (Value × List Value), (∀ p ∈ ls, p.1.cells = p.2.toArray ∧ p.2.length = sz) → (ls.flatMap (·.2)).length = ls.length * sz := by
    intro ls
    induction ls with
    | nil => intro _; simp
    | cons p ls ih =>
      intro h
      rw [List.flatMap_cons, List.length_append, ih fun q hq => h q (by simp [hq]), (h p (by simp)).2, List.length_cons, Nat.add_mul]; omega
  refine bsl_ ht (cs := ls.flatMap (·.2)) (hl ls h) hb ?_ (fun b w' h1 h2 _ h3 h4 => k b w' h1 h2 h3 h4)
  rw [fill_all ht.pos ls 0 _ h (by simp)]
  simp
end
section
variable {w w' : World} {its : List It} {rvs : List Value} {next : Value → World → Prop} {QP : List PanicEntry → World → Prop}
/-- a slice of items, spelt out -/
theorem bslI {ps : List (It × Value)} {n : Nat} {parts : List (Nat × Value)} (hps : ps.length = n) (hn : n ≤ 1000) (hp : parts = (ps.map fun p => (p.1.v p.2, p.1.cells p.2)).zipIdx.map fun p => (p.2, p.1.1)) (hr : ∀ i (h : i < ps.length), Sl w ps[i].2 1 ps[i].1.refs.length (ps[i].1.refs.map str))
    (k : ∀ v w', Its w' v (ps.map (·.1)) (ps.map (·.2)) → Mod none' w w' → next v w') : bslK Try.prog 22 n parts w next QP := by
  subst hps
  refine bslR sl22 (ps.map fun p => (p.1.v p.2, p.1.cells p.2)) ?_ (by simp) hp (by omega) ?_
  · intro p hp
    obtain ⟨q, hq, rfl⟩ := List.mem_map.1 hp
    exact ⟨rfl, rfl⟩
  intro b w1 hb own m _
  refine k _ w1 ⟨by simp, ?_, fun i h1 h2 => ?_⟩ m
  · have e : (List.map (·.1) ps).zip (List.map (·.2) ps) = ps := by
      clear hr k own hp hn
      induction ps with
      | nil => rfl
      | cons p ps ih => simp only [List.map_cons, List.zip_cons_cons]; rw [ih]
    rw [e, List.length_map]
    have e2 : (ps.map fun p => (p.1.v p.2, p.1.cells p.2)).flatMap (·.2) = rows cellsP ps := by
      rw [List.flatMap_map]; rfl
    rw [← e2]; exact own.sl
  · have h3 : i < ps.length := by simpa using h1
    have := (hr i h3).mod m fun _ _ h => h
    simpa using this
/-- a slice of nodes, spelt out -/
theorem bslN {ns : List Nd} {n : Nat} {parts : List (Nat × Value)} (hns : ns.length = n) (hn : n ≤ 1000) (hp : parts = (ns.map fun q => (Value.agg q.cells.toArray, q.cells)).zipIdx.map fun p => (p.2, p.1.1))
    (k : ∀ v w', Sl w' v 4 ns.length (rows Nd.cells ns) → Mod none' w w' → next v w') : bslK Try.prog 25 n parts w next QP := by
  subst hns
  refine bslR sl25 (ns.map fun q => (Value.agg q.cells.toArray, q.cells)) ?_ (by simp) hp (by omega) ?_
  · intro p hp
    obtain ⟨q, hq, rfl⟩ := List.mem_map.1 hp
    exact ⟨rfl, rfl⟩
  intro b w1 hb own m _
  refine k _ w1 ?_ m
  have e2 : (ns.map fun q => (Value.agg q.cells.toArray, q.cells)).flatMap (·.2) = rows Nd.cells ns := by
    rw [List.flatMap_map]; rfl
  rw [← e2]; exact own.sl
/-- a slice of texts, spelt out -/
theorem bslT {l : List Bytes} {n : Nat} {parts : List (Nat × Value)} (hl : l.length = n) (hn : n ≤ 1000) (hp : parts = (l.map fun q => (str q, [str q])).zipIdx.map fun p => (p.2, p.1.1))
    (k : ∀ b w', Sl w' (.slice (some ⟨b, 0, none⟩) n n) 1 l.length (l.map str) → Mod none' w w' → next (.slice (some ⟨b, 0, none⟩) n n) w') : bslK Try.prog 32 n parts w next QP := by
  subst hl
  refine bslR sl32 (l.map fun q => (str q, [str q])) ?_ (by simp) hp (by omega) ?_
  · intro p hp
    obtain ⟨q, hq, rfl⟩ := List.mem_map.1 hp
    exact ⟨rfl, rfl⟩
  intro b w1 hb own m _
  refine k _ w1 ?_ m
  have e2 : (l.map fun q => (str q, [str q])).flatMap (·.2) = l.map str := by
    rw [List.flatMap_map]; exact rows_one l
  rw [← e2]; exact own.sl

/-! ### few -/
structure fewP (its : List It) : Prop where
  n : its.length ≤ 40
  d : dist its
  e : ne0 its
  z : ∀ x ∈ its, x.refs.length ≤ 20 ∧ x.base.length ≤ 200
theorem fewP.sz (h : fewP its) : szI its := fun x hx => by
  have := h.z x hx
  omega
theorem distinct_ {v : Value} (hK : Its w v its rvs) (hn : its.length ≤ 40) (k : ∀ b w', (b = true → dist its ∧ ne0 its) → Mod none' w w' → next (.bool b) w') : callvK Try.prog (.func (.func 26) #[] #[]) [v] w next QP := by
  refine r26 rfl ?_
  obtain ⟨va, vc, rfl, -, -⟩ := hK.sl.form
  unfold h26
  try simp only [go_sem]
  refine loopN its.length (fun i τ w' => τ 0 = .slice va its.length vc ∧ τ 3 = .int .i64 i ∧ (∀ x, x < i → ∃ h : x < its.length, its[x].id ≠ []) ∧ (∀ x y (hx : x < its.length) (hy : y < its.length), x < i → y < x → its[y].id ≠ its[x].id) ∧ Mod none' w w') ⟨0, by omega, rfl, rfl, fun x hx => by omega, fun x y _ _ hx => by omega, Mod.refl _ _⟩ ?_
  rintro i τ w1 hi ⟨t0, t3, h1, h2, m1⟩
  unfold h26_1
  try simp only [go_sem, t0, t3]
  refine ⟨fun hlt => ?_, fun hge => ?_⟩
  · have hil : i < its.length := by
      have := of_decide_eq_true hlt
      omega
    obtain ⟨g, o, rfl⟩ := hK.addr (by omega)
    have at' : ∀ w', Mod none' w w' → ∀ j (hj : j < its.length), w'.cell? ⟨g, o + j * 5, none⟩ = some (str its[j].id) := fun w' m j hj => by
      obtain ⟨rv, -, ax⟩ := hK.at hj
      exact m.cell ax.c0 fun h => h
    have xi := at' w1 m1 i hil
    unfold h26_2
    try simp only [go_sem, t0, t3, xi]
    repeat refine ⟨⟨by omega, by omega⟩, ?_⟩
    refine ⟨fun he => ?_, fun hne => ?_⟩
    · try simp only [go_sem]
      exact k false w1 (fun h => by cases h) m1
    · have hne : its[i].id ≠ [] := by simpa using hne
      unfold h26_3
      try simp only [go_sem, t0, t3]
      refine loopN i (fun q τ w' => τ 0 = .slice (some ⟨g, o, none⟩) its.length vc ∧ τ 3 = .int .i64 i ∧ τ 4 = .int .i64 q ∧ (∀ y (hy : y < its.length), y < q → its[y].id ≠ its[i].id) ∧ Mod none' w w') ⟨0, by omega, t0, t3, rfl, fun y _ hy => by omega, m1⟩ ?_
      rintro q τ w2 hq ⟨t0, t3, t4, h3, m2⟩
      unfold h26_4
      try simp only [go_sem, t0, t3, t4]
      refine ⟨fun hlt2 => ?_, fun hge2 => ?_⟩
      · have hqi : q < i := by
          have := of_decide_eq_true hlt2
          omega
        have xi := at' w2 m2 i hil
        have xq := at' w2 m2 q (by omega)
        unfold h26_5
        try simp only [go_sem, t0, t3, t4, xi, xq]
        repeat refine ⟨⟨by omega, by omega⟩, ?_⟩
        refine ⟨fun he => ?_, fun hne2 => ?_⟩
        · try simp only [go_sem]
          exact k false w2.drew (fun h => by cases h) (m2.trans' (Mod.drew _ _))
        · have hne2 : its[q].id ≠ its[i].id := by simpa using hne2
          unfold h26_6
          try simp only [go_sem, t0, t3, t4]
          rw [w64 (by omega) (by omega)]
          have m3 := m2.trans' (Mod.drew none' w2)
          have h4 : ∀ y (hy : y < its.length), y < q + 1 → its[y].id ≠ its[i].id := by
            intro y hy hyq
            by_cases e : y = q
            · subst e; exact hne2
            · exact h3 y hy (by omega)
          refine ⟨q + 1, by omega, by omega, ?_⟩
          (repeat' first | assumption | rfl | omega | apply And.intro)
      · have hqi : q = i := by
          have := of_decide_eq_false hge2
          omega
        subst hqi
        try simp only [go_sem]
        unfold h26_7
        try simp only [go_sem, t0, t3]
        rw [w64 (by omega) (by omega)]
        have h5 : ∀ x, x < q + 1 → ∃ h : x < its.length, its[x].id ≠ [] := by
          intro x hx
          by_cases e : x = q
          · subst e; exact ⟨hil, hne⟩
          · exact h1 x (by omega)
        have h6 : ∀ x y (hx : x < its.length) (hy : y < its.length), x < q + 1 → y < x → its[y].id ≠ its[x].id := by
          intro x y hx hy hxq hyx
          by_cases e : x = q
          · subst e; exact h3 y hy hyx
          · exact h2 x y hx hy (by omega) hyx
        refine ⟨q + 1, by omega, by omega, ?_⟩
        (repeat' first | assumption | rfl | omega | apply And.intro)
  · have hil : i = its.length := by
      have := of_decide_eq_false hge
      omega
    subst hil
    unfold h26_8
    try simp only [go_sem]
    refine k true w1 (fun _ => ⟨?_, fun x hx => ?_⟩) m1
    · unfold dist List.Nodup
      rw [List.pairwise_map, List.pairwise_iff_getElem]
      intro x y hx hy hxy
      exact h2 y x hy hx hy hxy
    · obtain ⟨i, hi, rfl⟩ := List.getElem_of_mem hx
      exact (h1 i hi).2
theorem few_ {v : Value} (hK : Its w v its rvs) (hml : its.length ≤ 9223372036854775807) (k : ∀ b w', (b = true → fewP its) → Mod none' w w' → next (.bool b) w') : callvK Try.prog (.func (.func 10) #[] #[]) [v] w next QP := by
  refine r10 rfl ?_
  obtain ⟨va, vc, rfl, -, -⟩ := hK.sl.form
  unfold h10
  by_cases hn : its.length ≤ 40
  · have e1 : decide ((40 : Int) < (its.length : Int)) = false := by simp; omega
    try simp only [go_sem, e1]
    refine distinct_ hK hn ?_
    intro b w1 hb m1
    try simp only [go_sem]
    cases b with
    | false =>
      try simp only [go_sem]
      exact k false w1 (fun h => by cases h) m1
    | true =>
      obtain ⟨hd, he⟩ := hb rfl
      try simp only [go_sem]
      unfold h10_1
      try simp only [go_sem]
      refine loopN its.length (fun i τ w' => τ 0 = .slice va its.length vc ∧ τ 3 = .int .i64 i ∧ (∀ x (hx : x < its.length), x < i → its[x].refs.length ≤ 20 ∧ its[x].base.length ≤ 200) ∧ Mod none' w w') ⟨0, by omega, rfl, rfl, fun x _ hx => by omega, m1⟩ ?_
      rintro i τ w2 hi ⟨t0, t3, h1, m2⟩
      unfold h10_2
      try simp only [go_sem, t0, t3]
      refine ⟨fun hlt => ?_, fun hge => ?_⟩
      · have hil : i < its.length := by
          have := of_decide_eq_true hlt
          omega
        obtain ⟨g, o, rfl⟩ := hK.addr (by omega)
        obtain ⟨rv, hrv, ax⟩ := (Its.mk hK.len (hK.sl.mod m2 fun _ _ h => h) (fun i h h2 => (hK.refs i h h2).mod m2 fun _ _ h => h) : Its w2 _ its rvs).at hil
        have x2 := ax.c2
        have x3 := ax.c3
        obtain ⟨ra, rc, rfl, -, -⟩ := hrv.form
        unfold h10_3
        try simp only [go_sem, t0, t3, x2, x3]
        repeat refine ⟨⟨by omega, by omega⟩, ?_⟩
        refine ⟨fun _ => ⟨by omega, by omega⟩, fun hb => ?_, fun hb => ?_⟩
        · exact k false w2 (fun h => by cases h) m2
        · have hb2 : its[i].refs.length ≤ 20 ∧ its[i].base.length ≤ 200 := by
            by_cases h20 : (20 : Int) < its[i].refs.length
            · simp [h20] at hb
            · simp only [h20, decide_false, Bool.false_eq_true, if_false] at hb
              have := of_decide_eq_false hb
              omega
          unfold h10_4
          try simp only [go_sem, t0, t3]
          rw [w64 (by omega) (by omega)]
          have h4 : ∀ x (hx : x < its.length), x < i + 1 → its[x].refs.length ≤ 20 ∧ its[x].base.length ≤ 200 := by
            intro x hx hxi
            by_cases e : x = i
            · subst e; exact hb2
            · exact h1 x hx (by omega)
          refine ⟨i + 1, by omega, by omega, ?_⟩
          (repeat' first | assumption | rfl | omega | apply And.intro)
      · have hil : i = its.length := by
          have := of_decide_eq_false hge
          omega
        subst hil
        unfold h10_5
        try simp only [go_sem]
        refine k true w2 (fun _ => ⟨hn, hd, he, fun x hx => ?_⟩) m2
        obtain ⟨i, hi, rfl⟩ := List.getElem_of_mem hx
        exact h1 i hi hi
  · have e1 : decide ((40 : Int) < (its.length : Int)) = true := by simp; omega
    try simp only [go_sem, e1]
    exact k false w (fun h => by cases h) (Mod.refl _ _)

/-! ### the examples -/
def sI1 : List It := [⟨[99], 3, [[97], [98]], [120], true⟩, ⟨[97], 1, [], [120], false⟩, ⟨[98], 2, [[97]], [120], true⟩]
def sI2 : List It := [⟨[98], 2, [[97]], [120], true⟩, ⟨[99], 3, [[97]], [120], true⟩, ⟨[100], 1, [], [121], false⟩]
def sI3 : List It := [⟨[97], 1, [[98]], [120], false⟩, ⟨[98], 2, [[97]], [120], false⟩]
def sI4 : List It := [⟨[97], 1, [], [88], false⟩, ⟨[98], 2, [], [120], true⟩, ⟨[99], 0, [], [120], true⟩]
def sN1 : List Nd := [⟨[97], false, -1, 0⟩, ⟨[98], false, 0, 1⟩, ⟨[99], false, 1, 2⟩]
def sN2 : List Nd := [⟨[100], false, -1, 0⟩, ⟨[97], true, -1, 0⟩, ⟨[98], false, 1, 1⟩, ⟨[99], false, 1, 1⟩]
def sN3 : List Nd := [⟨[97], false, -1, 0⟩, ⟨[98], false, 0, 1⟩]
def sN4 : List Nd := [⟨[99], false, -1, 0⟩, ⟨[97], false, -1, 0⟩, ⟨[98], false, 1, 1⟩]
theorem sF1 : forestB sI1 = sN1 := by decide +kernel
theorem sF2 : forestB sI2 = sN2 := by decide +kernel
theorem sF3 : forestB sI3 = sN3 := by decide +kernel
theorem sF4 : forestB sI4 = sN4 := by decide +kernel
instance (l : List It) : Decidable (dist l) := by unfold dist; infer_instance
instance (l : List It) : Decidable (ne0 l) := by unfold ne0; infer_instance
theorem sl_nil (w : World) : Sl w (.slice none 0 0) 1 0 ([].map str) := (Own.nil w 9 1).sl
attribute [local go_sem] List.set_cons_zero List.set_cons_succ Nat.reduceLeDiff Nat.le_refl
/-- a forest of few items, spelt out -/
theorem small1_ {v : Value} {ns : List Nd} {its : List It} {rvs : List Value} (hK : Its w v its rvs) (h : decide (dist its) && decide (ne0 its) = true) (hz : (its.all fun x => decide (x.refs.length ≤ 20) && decide (x.base.length ≤ 200)) = true) (hl : its.length ≤ 40) (hf : forestB its = ns)
    (k : ∀ v' w', Sl w' v' 4 ns.length (rows Nd.cells ns) → Mod none' w w' → next v' w') : callvK Try.prog (.func (.func 11) #[] #[]) [v] w next QP := by
  simp only [Bool.and_eq_true, decide_eq_true_eq] at h
  refine Forest_ h.1 h.2 hK (fun x hx => ?_) (by omega) fun v' w' own _ m => k v' w' (by rw [← hf]; exact own.sl) m
  have := List.all_eq_true.1 hz x hx
  simp only [Bool.and_eq_true, decide_eq_true_eq] at this
  omega
theorem small_ (k : ∀ w', Mod none' w w' → next (.bool true) w') : callvK Try.prog (.func (.func 9) #[] #[]) [] w next QP := by
  refine r9 rfl ?_
  unfold h9
  try simp only [go_sem]
  refine bslT (l := [[97], [98]]) rfl (by omega) rfl ?_
  intro b1 w1 t1 m1
  try simp only [go_sem]
  refine bslT (l := [[97]]) rfl (by omega) rfl ?_
  intro b2 w2 t2 m2
  try simp only [go_sem]
  refine bslI (ps := [(⟨[99], 3, [[97], [98]], [120], true⟩, .slice (some ⟨b1, 0, none⟩) 2 2), (⟨[97], 1, [], [120], false⟩, .slice none 0 0), (⟨[98], 2, [[97]], [120], true⟩, .slice (some ⟨b2, 0, none⟩) 1 1)]) rfl (by omega) rfl ?_ ?_
  · intro i h
    match i, h with
    | 0, _ => exact t1.mod m2 fun _ _ h => h
    | 1, _ => exact sl_nil _
    | 2, _ => exact t2
  intro v3 w3 i3 m3
  try simp only [go_sem]
  refine small1_ (its := sI1) (ns := sN1) i3 (by decide +kernel) (by decide +kernel) (by decide) sF1 ?_
  intro v4 w4 f4 m4
  have M4 := ((m1.trans' m2).trans' m3).trans' m4
  try simp only [go_sem]
  unfold h9_1
  try simp only [go_sem]
  refine bslT (l := [[97]]) rfl (by omega) rfl ?_
  intro b5 w5 t5 m5
  try simp only [go_sem]
  refine bslT (l := [[97]]) rfl (by omega) rfl ?_
  intro b6 w6 t6 m6
  try simp only [go_sem]
  refine bslI (ps := [(⟨[98], 2, [[97]], [120], true⟩, .slice (some ⟨b5, 0, none⟩) 1 1), (⟨[99], 3, [[97]], [120], true⟩, .slice (some ⟨b6, 0, none⟩) 1 1), (⟨[100], 1, [], [121], false⟩, .slice none 0 0)]) rfl (by omega) rfl ?_ ?_
  · intro i h
    match i, h with
    | 0, _ => exact t5.mod m6 fun _ _ h => h
    | 1, _ => exact t6
    | 2, _ => exact sl_nil _
  intro v7 w7 i7 m7
  try simp only [go_sem]
  refine small1_ (its := sI2) (ns := sN2) i7 (by decide +kernel) (by decide +kernel) (by decide) sF2 ?_
  intro v8 w8 f8 m8
  have M8 := ((m5.trans' m6).trans' m7).trans' m8
  try simp only [go_sem]
  unfold h9_2
  try simp only [go_sem]
  refine bslT (l := [[98]]) rfl (by omega) rfl ?_
  intro b9 w9 t9 m9
  try simp only [go_sem]
  refine bslT (l := [[97]]) rfl (by omega) rfl ?_
  intro b10 w10 t10 m10
  try simp only [go_sem]
  refine bslI (ps := [(⟨[97], 1, [[98]], [120], false⟩, .slice (some ⟨b9, 0, none⟩) 1 1), (⟨[98], 2, [[97]], [120], false⟩, .slice (some ⟨b10, 0, none⟩) 1 1)]) rfl (by omega) rfl ?_ ?_
  · intro i h
    match i, h with
    | 0, _ => exact t9.mod m10 fun _ _ h => h
    | 1, _ => exact t10
  intro v11 w11 i11 m11
  try simp only [go_sem]
  refine small1_ (its := sI3) (ns := sN3) i11 (by decide +kernel) (by decide +kernel) (by decide) sF3 ?_
  intro v12 w12 f12 m12
  have M12 := ((m9.trans' m10).trans' m11).trans' m12
  try simp only [go_sem]
  unfold h9_3
  try simp only [go_sem]
  refine bslI (ps := [(⟨[97], 1, [], [88], false⟩, .slice none 0 0), (⟨[98], 2, [], [120], true⟩, .slice none 0 0), (⟨[99], 0, [], [120], true⟩, .slice none 0 0)]) rfl (by omega) rfl ?_ ?_
  · intro i h
    match i, h with
    | 0, _ => exact sl_nil _
    | 1, _ => exact sl_nil _
    | 2, _ => exact sl_nil _
  intro v13 w13 i13 m13
  try simp only [go_sem]
  refine small1_ (its := sI4) (ns := sN4) i13 (by decide +kernel) (by decide +kernel) (by decide) sF4 ?_
  intro v14 w14 f14 m14
  have M14 := m13.trans' m14
  try simp only [go_sem]
  refine bslN (ns := sN1) rfl (by omega) rfl ?_
  intro v15 w15 f15 m15
  try simp only [go_sem]
  have g4 := f4.mod (((M8.trans' M12).trans' M14).trans' m15) fun _ _ h => h
  refine same_ g4 f15 (by decide) ?_
  intro w16 m16
  try simp only [go_sem]
  refine bslN (ns := sN2) rfl (by omega) rfl ?_
  intro v17 w17 f17 m17
  have M17 := (m15.trans' m16).trans' m17
  try simp only [go_sem]
  unfold l9_5
  try simp only [go_sem]
  have g8 := f8.mod ((M12.trans' M14).trans' M17) fun _ _ h => h
  refine same_ g8 f17 (by decide) ?_
  intro w18 m18
  try simp only [go_sem]
  unfold l9_4
  try simp only [go_sem]
  unfold h9_6
  try simp only [go_sem]
  refine bslN (ns := sN3) rfl (by omega) rfl ?_
  intro v19 w19 f19 m19
  try simp only [go_sem]
  unfold l9_10
  try simp only [go_sem]
  have M19 := (M17.trans' m18).trans' m19
  have g12 := f12.mod (M14.trans' M19) fun _ _ h => h
  refine same_ g12 f19 (by decide) ?_
  intro w20 m20
  try simp only [go_sem]
  unfold l9_9
  try simp only [go_sem]
  refine bslN (ns := sN4) rfl (by omega) rfl ?_
  intro v21 w21 f21 m21
  try simp only [go_sem]
  unfold l9_8
  try simp only [go_sem]
  have M21 := (M19.trans' m20).trans' m21
  have g14 := f14.mod M21 fun _ _ h => h
  refine same_ g14 f21 (by decide) ?_
  intro w22 m22
  try simp only [go_sem]
  unfold l9_7
  try simp only [go_sem]
  exact k w22 (((((M4.trans' M8).trans' M12).trans' M14).trans' M21).trans' m22)
end
end Go.Proofs.Y

/- TMa: thread: the reference's references, finding, nearest; circles. -/
namespace Go.Proofs.Y
open Go Go.HL Go.Proofs

section
variable {w w' : World} {its : List It} {rvs : List Value} {next : Value → World → Prop} {QP : List PanicEntry → World → Prop}
theorem Its.up {v : Value} (h : Its w v its rvs) (m : Mod none' w w') : Its w' v its rvs := ⟨h.len, h.sl.mod m fun _ _ h => h, fun i h1 h2 => (h.refs i h1 h2).mod m fun _ _ h => h⟩
theorem rrefs_ {x : It} {rx : Value} (hv : Sl w rx 1 x.refs.length (x.refs.map str)) (hn : x.refs.length ≤ 1000000)
    (k : ∀ v' w', Sl w' v' 1 x.rf.length (x.rf.map str) → Mod none' w w' → next v' w') : callvK Try.prog (.func (.func 16) #[] #[]) [x.v rx] w next QP := by
  refine r16 rfl ?_
  obtain ⟨ra, rc, rfl, -, hcell⟩ := hv.form
  unfold h16
  try simp only [go_sem]
  refine box_ (cs := x.cells (.slice ra x.refs.length rc)) rfl ?_
  intro b w1 hb bk m1 s1
  try simp only [go_sem]
  refine loopN x.refs.length (fun i τ w' => ∃ v', τ 1 = ptr b ∧ τ 3 = v' ∧ τ 4 = .int .i64 i ∧ HL.Own w' v' 9 1 ((x.refs.take i).filter fun r => !delB x r).length (((x.refs.take i).filter fun r => !delB x r).map str) ∧ (∀ k, v'.ownBlock = some k → w1.heap.size ≤ k) ∧ Blk w' b 34 (x.cells (.slice ra x.refs.length rc)) ∧ Mod none' w w') ⟨0, by omega, .slice none 0 0, rfl, rfl, rfl, Own.nil _ _ _, fun k hk => (by cases hk), bk, m1⟩ ?_
  rintro i τ w2 hi ⟨v', t1, t3, t4, own2, hf2, bk2, m2⟩
  have a2 := ItAt.blk bk2
  have z0 := a2.c0
  have z2 := a2.c2
  unfold h16_1
  try simp only [go_sem, t1, t3, t4, z2]
  refine ⟨fun hlt => ?_, fun hge => ?_⟩
  · have hil : i < x.refs.length := by
      have := of_decide_eq_true hlt
      omega
    obtain ⟨g, o, rfl, hce⟩ := hcell (by omega)
    have hc : w2.cell? ⟨g, o + i, none⟩ = some (str x.refs[i]) := by
      refine m2.cell ?_ (fun h => h)
      rw [hce i (by omega)]; simp [hil]
    have hfil : (x.refs.take (i + 1)).filter (fun r => !delB x r) = (x.refs.take i).filter (fun r => !delB x r) ++ (if delB x x.refs[i] = true then [] else [x.refs[i]]) := by
      rw [List.take_succ_eq_append_getElem hil, List.filter_append]
      cases h : delB x x.refs[i] <;> simp [h]
    have hlen : ((x.refs.take i).filter fun r => !delB x r).length ≤ 1000000 := Nat.le_trans (List.length_filter_le _ _) (by simp; omega)
    unfold h16_2
    try simp only [go_sem, t1, t3, t4, z0, z2, hc]
    refine ⟨⟨by omega, by omega⟩, fun _ => ⟨by omega, by omega⟩, ?_⟩
    have hif : (if (!decide (x.refs[i] = x.id)) = true then !decide (x.refs[i] = []) else false) = !delB x x.refs[i] := by
      unfold delB
      by_cases h1 : x.refs[i] = x.id <;> simp [h1]
    rw [hif]
    refine ⟨fun hd => ?_, fun hd => ?_⟩
    · have hd : delB x x.refs[i] = false := by simpa using hd
      rw [hd] at hfil
      refine ⟨⟨by omega, by omega⟩, ?_⟩
      refine bsl1 (cs := [str x.refs[i]]) sl32 rfl rfl (by omega) ?_
      intro b3 w3 hb3 own3 bk3 m3 s3
      have m23 := (Mod.drew none' w2).trans' m3
      try simp only [go_sem, t1, t3, t4]
      refine append_ sl32 (own2.mod m23 fun _ _ h => h) own3.sl (by intro u hu; rw [List.mem_singleton.1 hu]; rfl) (by omega) (by unfold maxLen; omega) ?_
      intro v4 w4 own4 m4 hf4 _
      have hb1 : b < w1.heap.size := bk.lt
      have bk4 : Blk w4 b 34 (x.cells (.slice (some ⟨g, o, none⟩) x.refs.length rc)) := (bk2.mod m23 fun h => h).mod m4 fun h => by
        have := hf2 b h
        omega
      have own4' : HL.Own w4 v4 9 1 ((x.refs.take (i + 1)).filter fun r => !delB x r).length (((x.refs.take (i + 1)).filter fun r => !delB x r).map str) := by
        rw [hfil]
        simp only [Bool.false_eq_true, if_false, List.length_append, List.length_singleton, List.map_append, List.map_cons, List.map_nil]
        exact own4
      have hw1 : w1.heap.size = b + 1 := s1
      have hf4' : ∀ k, v4.ownBlock = some k → w1.heap.size ≤ k := fun k hk => by
        rcases hf4 k hk with h | h
        · exact hf2 k h
        · have hbl := (bk2.mod m23 fun h => h).lt
          have := m3.size
          have h2 : w1.heap.size ≤ w2.heap.size := by
            have := bk2.lt
            omega
          have h3 : w2.drew.heap.size = w2.heap.size := rfl
          omega
      have m04 : Mod none' w w4 := (m2.trans' m23).trans m4 fun j hj h => by
        have := hf2 j h
        have := m1.size
        omega
      unfold h16_3
      try simp only [go_sem, t1, t3, t4]
      rw [w64 (by omega) (by omega)]
      refine ⟨i + 1, by omega, by omega, v4, ?_⟩
      (repeat' first | assumption | rfl | omega | apply And.intro)
    · have hd : delB x x.refs[i] = true := by simpa using hd
      rw [hd] at hfil
      simp only [if_true, List.append_nil] at hfil
      rw [← hfil] at own2
      have m5 := m2.trans' (Mod.drew none' w2)
      have own5 := own2.mod (Mod.drew none' w2) fun _ _ h => h
      have bk5 := bk2.mod (Mod.drew none' w2) fun h => h
      unfold h16_3
      try simp only [go_sem, t1, t3, t4]
      rw [w64 (by omega) (by omega)]
      refine ⟨i + 1, by omega, by omega, v', ?_⟩
      (repeat' first | assumption | rfl | omega | apply And.intro)
  · have hil : i = x.refs.length := by
      have := of_decide_eq_false hge
      omega
    subst hil
    rw [List.take_length] at own2
    unfold h16_4
    try simp only [go_sem, t1, t3, t4]
    exact k v' w2 own2.sl m2
theorem rfind_ {v : Value} {id : Bytes} (hK : Its w v its rvs) (hn : its.length ≤ 1000000) (k : next (.int .i64 (oi (findI its id))) w) : callvK Try.prog (.func (.func 12) #[] #[]) [v, str id] w next QP := by
  refine r12 rfl ?_
  obtain ⟨va, vc, rfl, -, -⟩ := hK.sl.form
  unfold h12
  try simp only [go_sem]
  refine loopN its.length (fun i τ w' => τ 0 = .slice va its.length vc ∧ τ 1 = str id ∧ τ 5 = .int .i64 i ∧ (∀ x (hx : x < its.length), x < i → its[x].id ≠ id) ∧ w' = w) ⟨0, by omega, rfl, rfl, rfl, fun x _ hx => by omega, rfl⟩ ?_
  rintro i τ w1 hi ⟨t0, t1, t5, hno, rfl⟩
  unfold h12_1
  try simp only [go_sem, t0, t1, t5]
  refine ⟨fun hlt => ?_, fun hge => ?_⟩
  · have hil : i < its.length := by
      have := of_decide_eq_true hlt
      omega
    obtain ⟨g, o, rfl⟩ := hK.addr (by omega)
    obtain ⟨rv, -, ax⟩ := hK.at hil
    have x0 := ax.c0
    unfold h12_2
    try simp only [go_sem, t0, t1, t5, x0]
    repeat refine ⟨⟨by omega, by omega⟩, ?_⟩
    refine ⟨fun he => ?_, fun hne => ?_⟩
    · have he : its[i].id = id := by simpa using he
      have : findI its id = some i := by
        unfold findI
        rw [List.findIdx?_eq_some_iff_getElem]
        exact ⟨hil, by simpa using he, fun j hj => by simpa using hno j (by omega) hj⟩
      rw [this] at k
      try simp only [go_sem, t0, t1, t5]
      exact k
    · have hne : its[i].id ≠ id := by simpa using hne
      unfold h12_3
      try simp only [go_sem, t0, t1, t5]
      rw [w64 (by omega) (by omega)]
      have h4 : ∀ x (hx : x < its.length), x < i + 1 → its[x].id ≠ id := by
        intro x hx hxi
        by_cases e : x = i
        · subst e; exact hne
        · exact hno x hx (by omega)
      refine ⟨i + 1, by omega, by omega, ?_⟩
      (repeat' first | assumption | rfl | omega | apply And.intro)
  · have hil : i = its.length := by
      have := of_decide_eq_false hge
      omega
    subst hil
    have : findI its id = none := by
      unfold findI
      rw [List.findIdx?_eq_none_iff]
      intro x hx
      obtain ⟨i, hi, rfl⟩ := List.getElem_of_mem hx
      simpa using hno i hi hi
    rw [this] at k
    unfold h12_4
    try simp only [go_sem]
    exact k
theorem near_ {v : Value} {i : Nat} (hK : Its w v its rvs) (hi : i < its.length) (hn : its.length ≤ 1000000) (hr : its[i].refs.length ≤ 1000000) (k : ∀ w', Mod none' w w' → next (.int .i64 (oi (nearI its i))) w') : callvK Try.prog (.func (.func 17) #[] #[]) [v, .int .i64 i] w next QP := by
  refine r17 rfl ?_
  obtain ⟨va, vc, rfl, -, -⟩ := hK.sl.form
  obtain ⟨g, o, rfl⟩ := hK.addr (by omega)
  obtain ⟨rv, hrv, ax⟩ := hK.at hi
  have x1 := ax.ln
  have x2 := ax.sm
  have hrl : its[i].rf.length ≤ 1000000 := by
    have := List.length_filter_le (fun r => !delB its[i] r) its[i].refs
    unfold It.rf
    omega
  rw [near_rf hi] at k
  unfold h17
  try simp only [go_sem, x1, x2]
  repeat refine ⟨⟨by omega, by omega⟩, ?_⟩
  refine rrefs_ hrv hr ?_
  intro v1 w1 sl1 m1
  obtain ⟨ra, rc, rfl, -, hcell⟩ := sl1.form
  try simp only [go_sem]
  rw [w64 (by omega) (by omega)]
  refine ⟨fun q τ w' => q ≤ its[i].rf.length ∧ τ 0 = .slice (some ⟨g, o, none⟩) its.length vc ∧ τ 5 = .slice ra its[i].rf.length rc ∧ τ 6 = .int .i64 ((q : Int) - 1) ∧ nearL its (its[i].rf.drop q) = none ∧ Mod none' w w' ∧ w' = w1, its[i].rf.length, ⟨Nat.le_refl _, rfl, rfl, by simp [upd], by rw [List.drop_length]; rfl, m1, rfl⟩, ?_⟩
  rintro q τ w2 ⟨hq, t0, t5, t6, hno, m2, rfl⟩
  unfold h17_1
  cases q with
  | zero =>
    have eg : decide ((0 : Int) ≤ 0 - 1) = false := rfl
    try simp only [go_sem, t0, t5, t6, eg]
    rw [List.drop_zero] at hno
    rw [hno] at k
    unfold h17_4
    try simp only [go_sem]
    exact k w2 m2
  | succ q =>
    have e1 : ((q + 1 : Nat) : Int) - 1 = (q : Int) := by omega
    rw [e1] at t6
    have eg : decide ((0 : Int) ≤ (q : Int)) = true := by simp
    obtain ⟨gr, ro, rfl, hce⟩ := hcell (by omega)
    have hc : w2.cell? ⟨gr, ro + q, none⟩ = some (str its[i].rf[q]) := by
      rw [hce q (by omega), List.getElem?_map, List.getElem?_eq_getElem (by omega)]; rfl
    have hdrop : nearL its (its[i].rf.drop q) = (findI its its[i].rf[q]).or none ∨ nearL its (its[i].rf.drop q) = findI its its[i].rf[q] := by
      right
      rw [List.drop_eq_getElem_cons (by omega)]
      unfold nearL at hno ⊢
      rw [List.reverse_cons, List.findSome?_append, hno]
      simp
    have hdrop : nearL its (its[i].rf.drop q) = findI its its[i].rf[q] := by
      rcases hdrop with h | h
      · rw [h]; cases findI its its[i].rf[q] <;> rfl
      · exact h
    try simp only [go_sem, t0, t5, t6, eg]
    unfold h17_2
    try simp only [go_sem, t0, t5, t6, hc]
    repeat refine ⟨⟨by omega, by omega⟩, ?_⟩
    refine rfind_ (hK.up m1) hn ?_
    try simp only [go_sem, t0, t5, t6]
    cases hf : findI its its[i].rf[q] with
    | some z =>
      have eg2 : decide ((0 : Int) ≤ oi (some z)) = true := by simp [oi]
      have hall : nearL its its[i].rf = some z := by
        have e := List.take_append_drop q its[i].rf
        rw [← e]
        unfold nearL at hdrop ⊢
        rw [List.reverse_append, List.findSome?_append, hdrop, hf]; rfl
      rw [hall] at k
      try simp only [go_sem, eg2]
      exact k w2 m2
    | none =>
      have eg2 : decide ((0 : Int) ≤ oi none) = false := rfl
      try simp only [go_sem, eg2]
      unfold h17_3
      try simp only [go_sem, t0, t5, t6]
      rw [w64 (by omega) (by omega)]
      rw [hf] at hdrop
      refine ⟨q, by omega, ?_⟩
      (repeat' first | assumption | rfl | omega | apply And.intro)
theorem circ_ {v : Value} (hK : Its w v its rvs) (hz : szI its) (hn : its.length ≤ 1000000) (k : ∀ b w', (b = false → ∀ i, i < its.length → ¬ OnC (nearI its) i) → Mod none' w w' → next (.bool b) w') : callvK Try.prog (.func (.func 20) #[] #[]) [v] w next QP := by
  refine r20 rfl ?_
  obtain ⟨va, vc, rfl, -, -⟩ := hK.sl.form
  unfold h20
  try simp only [go_sem]
  refine loopN its.length (fun i τ w' => τ 0 = .slice va its.length vc ∧ τ 3 = .int .i64 i ∧ (∀ x, x < i → ¬ OnC (nearI its) x) ∧ Mod none' w w') ⟨0, by omega, rfl, rfl, fun x hx => by omega, Mod.refl _ _⟩ ?_
  rintro i τ w1 hi ⟨t0, t3, hno, m1⟩
  unfold h20_1
  try simp only [go_sem, t0, t3]
  refine ⟨fun hlt => ?_, fun hge => ?_⟩
  · have hil : i < its.length := by
      have := of_decide_eq_true hlt
      omega
    have hsz : ∀ j (h : j < its.length), its[j].refs.length ≤ 1000000 := fun j h => (hz _ (List.getElem_mem h)).1
    unfold h20_2
    try simp only [go_sem, t0, t3]
    refine near_ (hK.up m1) hil hn (hsz i hil) ?_
    intro w2 m2
    try simp only [go_sem, t0, t3]
    refine loopN its.length (fun q τ w' => τ 0 = .slice va its.length vc ∧ τ 3 = .int .i64 i ∧ τ 4 = .int .i64 (oi (itr (nearI its) (q + 1) i)) ∧ τ 5 = .int .i64 q ∧ (∀ m, m < q → itr (nearI its) (m + 1) i ≠ some i) ∧ Mod none' w w') ⟨0, by omega, t0, t3, rfl, rfl, fun m hm => by omega, m1.trans' m2⟩ ?_
    rintro q τ w3 hq ⟨t0, t3, t4, t5, hm, m3⟩
    -- the round's end
    have fin : (∀ m, m + 1 ≤ its.length → itr (nearI its) (m + 1) i ≠ some i) → ∀ x, x < i + 1 → ¬ OnC (nearI its) x := by
      intro h x hx hc
      by_cases e : x = i
      · subst e
        obtain ⟨m, h1, h2⟩ := back_short (n := its.length) (fun i j h => nearI_lt h) hil hc
        exact h m h1 h2
      · exact hno x (by omega) hc
    unfold h20_3
    by_cases hql : q < its.length
    · have eq : decide ((q : Int) < (its.length : Int)) = true := by simpa using hql
      cases hk : itr (nearI its) (q + 1) i with
      | none =>
        rw [hk] at t4
        have eg : decide ((0 : Int) ≤ oi none) = false := rfl
        try simp only [go_sem, t0, t3, t4, t5, eq, eg]
        unfold h20_7
        try simp only [go_sem, t0, t3]
        rw [w64 (by omega) (by omega)]
        have h9 := fin fun m hml => by
          by_cases hmq : m < q
          · exact hm m hmq
          · rw [itr_none hk (m + 1) (by omega)]; simp
        refine ⟨i + 1, by omega, by omega, ?_⟩
        (repeat' first | assumption | rfl | omega | apply And.intro)
      | some j =>
        rw [hk] at t4
        have hj : j < its.length := by
          obtain ⟨z, -, hz⟩ := Option.bind_eq_some_iff.1 hk
          exact nearI_lt hz
        have t4 : τ 4 = .int .i64 (j : Int) := t4
        have eg : decide ((0 : Int) ≤ (j : Int)) = true := by simp
        try simp only [go_sem, t0, t3, t4, t5, eq, eg]
        unfold h20_4
        try simp only [go_sem, t0, t3, t4, t5]
        refine ⟨fun he => ?_, fun hne => ?_⟩
        · try simp only [go_sem]
          exact k true w3 (fun h => by cases h) m3
        · have hne : j ≠ i := by
            have := of_decide_eq_false hne
            omega
          unfold h20_5
          try simp only [go_sem, t0, t3, t4, t5]
          refine near_ (hK.up m3) hj hn (hsz j hj) ?_
          intro w4 m4
          unfold h20_6
          try simp only [go_sem, t0, t3, t4, t5]
          rw [w64 (by omega) (by omega)]
          have e4 : nearI its j = itr (nearI its) (q + 1 + 1) i := by
            show _ = (itr (nearI its) (q + 1) i).bind _
            rw [hk]; rfl
          rw [e4]
          have h9 : ∀ m, m < q + 1 → itr (nearI its) (m + 1) i ≠ some i := by
            intro m hmq
            by_cases e : m = q
            · subst e
              rw [hk]
              exact fun e => hne (Option.some.inj e)
            · exact hm m (by omega)
          have m5 := m3.trans' m4
          refine ⟨q + 1, by omega, by omega, ?_⟩
          (repeat' first | assumption | rfl | omega | apply And.intro)
    · have eq : decide ((q : Int) < (its.length : Int)) = false := by simp; omega
      try simp only [go_sem, t0, t3, t4, t5, eq]
      unfold h20_7
      try simp only [go_sem, t0, t3]
      rw [w64 (by omega) (by omega)]
      have h9 := fin fun m hml => hm m (by omega)
      refine ⟨i + 1, by omega, by omega, ?_⟩
      (repeat' first | assumption | rfl | omega | apply And.intro)
  · have hil : i = its.length := by
      have := of_decide_eq_false hge
      omega
    subst hil
    unfold h20_8
    try simp only [go_sem]
    exact k false w1 (fun _ => hno) m1
end
end Go.Proofs.Y
