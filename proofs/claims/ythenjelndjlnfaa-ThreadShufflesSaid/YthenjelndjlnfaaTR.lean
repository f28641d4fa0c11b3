/- TR: thread: Forest: its loop over the items. -/
import Derived.Test.YthenjelndjlnfaaTWB
import Derived.Test.YthenjelndjlnfaaTCode
import Derived.Laws.StructEq
set_option linter.unusedSimpArgs false
set_option linter.unusedVariables false
set_option maxRecDepth 100000
namespace Go.Proofs.Y
open Go Go.HL Go.Proofs

theorem Its.at2 {w : World} {g o n vc : Nat} {its : List It} {rvs : List Value} (h : Its w (.slice (some ⟨g, o, none⟩) n vc) its rvs) {i : Nat} (hi : i < its.length) :
    ∃ ra rn rc, rvs[i]? = some (.slice ra rn rc) ∧ ItAt w g (o + i * 5) its[i] (.slice ra rn rc) := by
  have hz : (its.zip rvs).length = its.length := by rw [List.length_zip, h.len]; omega
  obtain ⟨b, o', c, e1, -, hc⟩ := h.sl.get cellsP_len hz (by omega)
  simp only [Value.slice.injEq, Option.some.injEq, Addr.mk.injEq] at e1
  obtain ⟨⟨rfl, rfl, -⟩, -, rfl⟩ := e1
  have hi2 : i < rvs.length := by rw [h.len]; exact hi
  obtain ⟨ra, rc, e, -⟩ := (h.refs i hi hi2).form
  refine ⟨ra, _, rc, by rw [List.getElem?_eq_getElem hi2, e], ItAt.of fun j hj => ?_⟩
  rw [hc i j (by omega) hj, List.getElem_zip, e]; rfl
def brOf (its : List It) (rvs : List Value) (i : Nat) : Br := match its[i]?, rvs[i]? with | some x, some (.slice a n c) => ⟨x, a, n, c, false⟩ | _, _ => default
theorem brOf_at {its : List It} {rvs : List Value} {i : Nat} {ra : Option Addr} {rn rc : Nat} (hi : i < its.length) (h : rvs[i]? = some (.slice ra rn rc)) : brOf its rvs i = ⟨its[i], ra, rn, rc, false⟩ := by
  unfold brOf; rw [List.getElem?_eq_getElem hi, h]
def undN (its : List It) (n : Nat) (p : Bytes) : List Nat := (List.range n).filter fun i => decide (pid its i = p)
def chF (its : List It) (rvs : List Value) (n : Nat) (c : Bytes) : List Br := if c = [] then [] else (undN its n c).map (brOf its rvs)
def rtL (its : List It) (rvs : List Value) (n : Nat) : List Br := (undN its n []).map (brOf its rvs)
theorem undN_succ (its : List It) (n : Nat) (p : Bytes) : undN its (n + 1) p = if pid its n = p then undN its n p ++ [n] else undN its n p := by
  unfold undN
  rw [List.range_succ, List.filter_append]
  by_cases h : pid its n = p <;> simp [h]
theorem undN_le (its : List It) (n : Nat) (p : Bytes) : (undN its n p).length ≤ n := Nat.le_trans (List.length_filter_le _ _) (by simp)
theorem chF_put {its : List It} {rvs : List Value} {n : Nat} {b : Bytes} (h : pid its n = b) (hb : b ≠ []) : chF its rvs (n + 1) = fun c => if c = b then chF its rvs n b ++ [brOf its rvs n] else chF its rvs n c := by
  funext c
  unfold chF
  rw [undN_succ]
  by_cases hc : c = b
  · rw [hc, if_neg hb, if_pos rfl, if_neg hb, if_pos h, List.map_append]; rfl
  · have : ¬ pid its n = c := fun e => hc (by rw [← e, h])
    by_cases h0 : c = [] <;> simp [hc, h0, this, hb]
theorem rtL_stay {its : List It} {rvs : List Value} {n : Nat} (h : pid its n ≠ []) : rtL its rvs (n + 1) = rtL its rvs n := by
  unfold rtL; rw [undN_succ, if_neg h]
theorem rtL_put {its : List It} {rvs : List Value} {n : Nat} (h : pid its n = []) : rtL its rvs (n + 1) = rtL its rvs n ++ [brOf its rvs n] := by
  unfold rtL; rw [undN_succ, if_pos h, List.map_append]; rfl
theorem chF_stay {its : List It} {rvs : List Value} {n : Nat} (h : pid its n = []) : chF its rvs (n + 1) = chF its rvs n := by
  funext c
  unfold chF
  rw [undN_succ]
  by_cases h0 : c = []
  · simp [h0]
  · have : ¬ pid its n = c := fun e => h0 (by rw [← e, h])
    simp [h0, this]

structure FW (w1 : World) (w : World) (cb b5 gb : Nat) (hs gs : List (Bytes × Value)) (rv : Value) (its : List It) (rvs : List Value) (i j : Nat) : Prop where
  hm : HM Br.cells 53 6 w w1.heap.size cb hs (chF its rvs i)
  bc : Blk w b5 48 [.map (some cb)]
  gm : Mp w gb gs
  gk : gs.map (·.1) = ghL its j
  gv : ∀ g, g ∈ ghL its j → getM g gs = (ghD its j g).map (Value.int .i64)
  rt : HL.Own w rv 53 6 (rtL its rvs i).length (HL.rows Br.cells (rtL its rvs i))
  rB : ∀ k, rv.ownBlock = some k → w1.heap.size ≤ k ∧ k ∉ [cb, b5, gb]
  rows : ∀ k, rowsOf hs k → k ∉ [cb, b5, gb] ∧ rv.ownBlock ≠ some k
  diff : [cb, b5, gb].Nodup
  hi : ∀ k ∈ [cb, b5, gb], w1.heap.size ≤ k
  st : Mod none' w1 w
section
variable {w1 w w' : World} {cb b5 gb : Nat} {hs gs : List (Bytes × Value)} {rv : Value} {va : Option Addr} {vc fb : Nat} {its : List It} {rvs : List Value} {i j : Nat} {next : Value → World → Prop} {QP : List PanicEntry → World → Prop}
theorem FW.up (h : FW w1 w cb b5 gb hs gs rv its rvs i j) (m : Mod none' w w') : FW w1 w' cb b5 gb hs gs rv its rvs i j :=
  ⟨h.hm.up m, h.bc.mod m fun h => h, h.gm.mod m fun h => h, h.gk, h.gv, h.rt.mod m fun _ _ h => h, h.rB, h.rows, h.diff, h.hi, h.st.trans' m⟩
/-- a branch more under a key -/
theorem FW.put {b : Bytes} {v' v'' : Value} {l : List Br} {wa wb : World} (h : FW w1 w cb b5 gb hs gs rv its rvs i j) (hp : pid its i = b) (hb : b ≠ []) (hv : v' = (getM b hs).getD (.slice none 0 0)) (hl : l.Perm (chF its rvs i b))
    (own : HL.Own wa v'' 53 6 (l.length + 1) (HL.rows Br.cells (l ++ [brOf its rvs i]))) (m1 : Mod (ownS v') w wa) (hf : ∀ k, v''.ownBlock = some k → v'.ownBlock = some k ∨ w.heap.size ≤ k) (mp : Mp wb cb (putM b v'' hs)) (m2 : Mod (fun k => k = cb) wa wb)
    : FW w1 wb cb b5 gb (putM b v'' hs) gs rv its rvs (i + 1) j := by
  have hd := h.diff
  simp only [List.nodup_cons, List.mem_cons, List.not_mem_nil, or_false, not_or] at hd
  obtain ⟨⟨d1, d2⟩, d3, -⟩ := hd
  have hbase := h.st.size
  have hhm := h.hm.put (x := brOf its rvs i) h.hm.mp.lt hv hl hbase own m1 hf mp m2
  rw [← chF_put hp hb] at hhm
  have hrow0 : ∀ k, v'.ownBlock = some k → rowsOf hs k := by
    intro k hk
    cases hgm : getM b hs with
    | none => rw [hv, hgm] at hk; cases hk
    | some u => rw [hv, hgm] at hk; exact ⟨_, getM_mem hgm, hk⟩
  have m12 : Mod (fun k => rowsOf hs k ∨ k = cb) w wb := (m1.mono fun k _ h => .inl (hrow0 k h)).trans' (m2.mono fun _ _ h => .inr h)
  have h5 : ¬ (rowsOf hs b5 ∨ b5 = cb) := by
    rintro (hr | e)
    · exact (h.rows _ hr).1 (by simp)
    · exact d1 e.symm
  have hgb : ¬ (rowsOf hs gb ∨ gb = cb) := by
    rintro (hr | e)
    · exact (h.rows _ hr).1 (by simp)
    · exact d2 e.symm
  refine ⟨hhm, h.bc.mod m12 h5, h.gm.mod m12 hgb, h.gk, h.gv, ?_, h.rB, fun k hk => ?_, h.diff, h.hi, ?_⟩
  · rw [rtL_stay (by rw [hp]; exact hb)]
    refine h.rt.mod m12 fun k hk hor => ?_
    rcases hor with hr | e
    · exact (h.rows k hr).2 hk
    · exact (h.rB k hk).2 (by simp [e])
  · obtain ⟨p, hpm, hpk⟩ := hk
    have hgt := mem_get hhm.keys hpm
    rw [getM_put] at hgt
    by_cases e : b = p.1
    · rw [if_pos e] at hgt
      obtain rfl := Option.some.inj hgt
      rcases hf k hpk with h1 | h1
      · exact h.rows k (hrow0 k h1)
      · refine ⟨fun hm => ?_, fun hrk => ?_⟩
        · simp only [List.mem_cons, List.not_mem_nil, or_false] at hm
          rcases hm with rfl | rfl | rfl
          · have := h.hm.mp.lt; omega
          · have := h.bc.lt; omega
          · have := h.gm.lt; omega
        · have := h.rt.lt k hrk; omega
    · rw [if_neg e] at hgt
      exact h.rows k ⟨_, getM_mem hgt, hpk⟩
  · refine h.st.trans m12 fun k hk hor => ?_
    rcases hor with ⟨p, hp', hpk⟩ | e
    · have := (h.hm.fresh p hp' k hpk).1
      omega
    · have := h.hi cb (by simp)
      omega
/-- a root more -/
theorem FW.root {v'' : Value} {wa : World} (h : FW w1 w cb b5 gb hs gs rv its rvs i j) (hp : pid its i = [])
    (own : HL.Own wa v'' 53 6 ((rtL its rvs i).length + 1) (HL.rows Br.cells (rtL its rvs i ++ [brOf its rvs i]))) (m1 : Mod (ownS rv) w wa) (hf : ∀ k, v''.ownBlock = some k → rv.ownBlock = some k ∨ w.heap.size ≤ k) :
    FW w1 wa cb b5 gb hs gs v'' its rvs (i + 1) j := by
  have hbase := h.st.size
  have hno : ∀ k ∈ [cb, b5, gb], ¬ ownS rv k := fun k hk ho => (h.rB k ho).2 hk
  refine ⟨by rw [chF_stay hp]; exact h.hm.mod m1 (hno _ (by simp)) fun p hpm k hk ho => (h.rows k ⟨p, hpm, hk⟩).2 ho, h.bc.mod m1 (hno _ (by simp)), h.gm.mod m1 (hno _ (by simp)), h.gk, h.gv, ?_, fun k hk => ?_, fun k hk => ⟨(h.rows k hk).1, fun hvk => ?_⟩, h.diff, h.hi, ?_⟩
  · rw [rtL_put hp, List.length_append]; exact own
  · rcases hf k hk with h1 | h1
    · exact h.rB k h1
    · refine ⟨by omega, fun hm => ?_⟩
      simp only [List.mem_cons, List.not_mem_nil, or_false] at hm
      rcases hm with rfl | rfl | rfl
      · have := h.hm.mp.lt; omega
      · have := h.bc.lt; omega
      · have := h.gm.lt; omega
  · rcases hf k hvk with h1 | h1
    · exact (h.rows k hk).2 h1
    · obtain ⟨p, hpm, hpk⟩ := hk
      obtain ⟨l, -, -, own⟩ := h.hm.val p hpm
      have := own.lt k hpk
      omega
  · refine h.st.trans m1 fun k hk ho => ?_
    have := (h.rB k ho).1
    omega

theorem getM_keys {k : Bytes} : ∀ {l : List (Bytes × Value)}, k ∉ l.map (·.1) → getM k l = none
  | [], _ => rfl
  | p :: l, h => by
    simp only [List.map_cons, List.mem_cons, not_or] at h
    unfold getM
    rw [if_neg (Ne.symm h.1)]
    exact getM_keys h.2
theorem putM_new (k : Bytes) (v : Value) : ∀ {l : List (Bytes × Value)}, k ∉ l.map (·.1) → putM k v l = l ++ [(k, v)]
  | [], _ => rfl
  | p :: l, h => by
    simp only [List.map_cons, List.mem_cons, not_or] at h
    unfold putM
    rw [if_neg (Ne.symm h.1), putM_new k v h.2]; rfl
theorem putM_old (k : Bytes) (v : Value) : ∀ {l : List (Bytes × Value)}, k ∈ l.map (·.1) → (putM k v l).map (·.1) = l.map (·.1)
  | p :: l, h => by
    unfold putM
    by_cases e : p.1 = k
    · rw [if_pos e]; simp [e]
    · rw [if_neg e]
      simp only [List.map_cons, List.mem_cons] at h ⊢
      rw [putM_old k v (h.resolve_left (Ne.symm e))]
/-- no ghost more -/
theorem FW.gstay {a : Nat} (h : FW w1 w cb b5 gb hs gs rv its rvs a i) (hg : gh its i = []) : FW w1 w cb b5 gb hs gs rv its rvs a (i + 1) := by
  have hghL : ghL its (i + 1) = ghL its i := by
    show (if gh its i = [] ∨ gh its i ∈ ghL its i then ghL its i else ghL its i ++ [gh its i]) = _
    rw [if_pos (.inl hg)]
  refine ⟨h.hm, h.bc, h.gm, by rw [hghL]; exact h.gk, fun g hgm => ?_, h.rt, h.rB, h.rows, h.diff, h.hi, h.st⟩
  rw [hghL] at hgm
  rw [h.gv g hgm]
  have hg0 := ((ghL_mem its i g).1 hgm).1
  show _ = Option.map _ (if gh its i = g then _ else ghD its i g)
  rw [if_neg (by rw [hg]; exact fun e => hg0 e.symm)]
/-- a ghost's date that stays -/
theorem FW.gkeep {a : Nat} {d : Int} (h : FW w1 w cb b5 gb hs gs rv its rvs a i) (hg : gh its i ∈ ghL its i) (hd : ghD its i (gh its i) = some d) (hle : ¬ dateAt its i < d) : FW w1 w cb b5 gb hs gs rv its rvs a (i + 1) := by
  have hghL : ghL its (i + 1) = ghL its i := by
    show (if gh its i = [] ∨ gh its i ∈ ghL its i then ghL its i else ghL its i ++ [gh its i]) = _
    rw [if_pos (.inr hg)]
  refine ⟨h.hm, h.bc, h.gm, by rw [hghL]; exact h.gk, fun g hgm => ?_, h.rt, h.rB, h.rows, h.diff, h.hi, h.st⟩
  rw [hghL] at hgm
  rw [h.gv g hgm]
  show _ = Option.map _ (if gh its i = g then some (minD (ghD its i g) (dateAt its i)) else ghD its i g)
  by_cases e : gh its i = g
  · rw [if_pos e, ← e, hd]
    show _ = some (Value.int .i64 (if dateAt its i < d then dateAt its i else d))
    rw [if_neg hle]; rfl
  · rw [if_neg e]
theorem ghD_some (its : List It) : ∀ (n : Nat) (g : Bytes), (ghD its n g).isSome = true ↔ ∃ i, i < n ∧ gh its i = g
  | 0, g => by simp [ghD]
  | n + 1, g => by
    unfold ghD
    by_cases e : gh its n = g
    · rw [if_pos e]
      simp only [Option.isSome_some, true_iff]
      exact ⟨n, by omega, e⟩
    · rw [if_neg e, ghD_some its n g]
      constructor
      · rintro ⟨i, h1, h2⟩; exact ⟨i, by omega, h2⟩
      · rintro ⟨i, h1, h2⟩
        have : i ≠ n := fun e2 => e (e2 ▸ h2)
        exact ⟨i, by omega, h2⟩
/-- a ghost's date that is put -/
theorem FW.gput {a : Nat} (h : FW w1 w cb b5 gb hs gs rv its rvs a i) (hg : gh its i ≠ []) (hle : gh its i ∉ ghL its i ∨ ∃ d, ghD its i (gh its i) = some d ∧ dateAt its i < d)
    (mp : Mp w' gb (putM (gh its i) (.int .i64 (dateAt its i)) gs)) (m : Mod (fun k => k = gb) w w') : FW w1 w' cb b5 gb hs (putM (gh its i) (.int .i64 (dateAt its i)) gs) rv its rvs a (i + 1) := by
  have hd := h.diff
  simp only [List.nodup_cons, List.mem_cons, List.not_mem_nil, or_false, not_or] at hd
  obtain ⟨⟨d1, d2⟩, d3, -⟩ := hd
  have hmin : ghD its (i + 1) (gh its i) = some (dateAt its i) := by
    show (if gh its i = gh its i then some (minD (ghD its i (gh its i)) (dateAt its i)) else _) = _
    rw [if_pos rfl]
    rcases hle with h1 | ⟨d, h1, h2⟩
    · have : ghD its i (gh its i) = none := by
        cases hn : ghD its i (gh its i) with
        | none => rfl
        | some d =>
          have := (ghD_some its i (gh its i)).1 (by rw [hn]; rfl)
          exact absurd ((ghL_mem its i _).2 ⟨hg, this⟩) h1
      rw [this]; rfl
    · rw [h1]
      show some (if dateAt its i < d then dateAt its i else d) = _
      rw [if_pos h2]
  refine ⟨h.hm.mod m (fun e => d2 e) fun p hp k hk e => ?_, h.bc.mod m (fun e => d3 e), mp, ?_, fun g hgm => ?_, h.rt.mod m fun k hk e => (h.rB k hk).2 (by have e : k = gb := e; simp [e]), h.rB, h.rows, h.diff, h.hi, h.st.trans m fun k hk e => by
    have e : k = gb := e
    have := h.hi gb (by simp)
    omega⟩
  · have e : k = gb := e
    exact (h.rows k ⟨p, hp, hk⟩).1 (by simp [e])
  · show _ = (if gh its i = [] ∨ gh its i ∈ ghL its i then ghL its i else ghL its i ++ [gh its i])
    by_cases hm : gh its i ∈ ghL its i
    · rw [if_pos (.inr hm), putM_old _ _ (by rw [h.gk]; exact hm), h.gk]
    · rw [if_neg (by simp [hg, hm]), putM_new _ _ (by rw [h.gk]; exact hm), List.map_append, h.gk]; rfl
  · rw [getM_put]
    by_cases e : gh its i = g
    · rw [if_pos e, ← e, hmin]; rfl
    · rw [if_neg e]
      have hgm' : g ∈ ghL its i := by
        have := (ghL_mem its (i + 1) g).1 hgm
        obtain ⟨h1, q, h2, h3⟩ := this
        have : q ≠ i := fun e2 => e (e2 ▸ h3)
        exact (ghL_mem its i g).2 ⟨h1, q, by omega, h3⟩
      rw [h.gv g hgm']
      show _ = Option.map _ (if gh its i = g then _ else ghD its i g)
      rw [if_neg e]
end
end Go.Proofs.Y

/- TT: thread: Forest: a round of its loop. -/
namespace Go.Proofs.Y
open Go Go.HL Go.Proofs

theorem ItAt.all {w : World} {g o : Nat} {x : It} {rv : Value} (h : ItAt w g o x rv) : ∀ j, j < 5 → w.cell? ⟨g, o + j, none⟩ = (x.cells rv)[j]?
  | 0, _ => h.c0
  | 1, _ => h.c1
  | 2, _ => h.c2
  | 3, _ => h.c3
  | 4, _ => h.c4
  | n + 5, h => by omega
theorem ItAt.up {w w' : World} {g o : Nat} {x : It} {rv : Value} (h : ItAt w g o x rv) (m : Mod none' w w') : ItAt w' g o x rv :=
  ItAt.of fun j hj => by
    have h1 := h.all j hj
    rw [List.getElem?_eq_getElem (show j < (x.cells rv).length from hj)] at h1 ⊢
    exact m.cell h1 fun h => h

theorem put5 (a b c d e z1 z2 z3 z4 z5 z6 : Value) : v2 (.put 0 5) (.agg #[z1, z2, z3, z4, z5, z6]) (.agg #[a, b, c, d, e]) = .agg #[a, b, c, d, e, z6] := by
  simp [v2, putCells, Array.zipIdx, Value.cells]
theorem cput5 (a b c d e z1 z2 z3 z4 z5 z6 : Value) : c2 (.put 0 5) (.agg #[z1, z2, z3, z4, z5, z6]) (.agg #[a, b, c, d, e]) = True := by
  simp [c2, Value.cells]
section
variable {w1 w w' : World} {cb b5 gb : Nat} {hs gs : List (Bytes × Value)} {rv : Value} {va : Option Addr} {vc fb : Nat} {its : List It} {rvs : List Value} {i j : Nat} {next : Value → World → Prop} {QP : List PanicEntry → World → Prop}
/-- append of one branch, and back into the map -/
theorem chput_ {b : Bytes} {l : List Br} {x : Br} (hF : FW w1 w cb b5 gb hs gs rv its rvs i j) (hp : pid its i = b) (hb : b ≠ []) (hl : l.Perm (chF its rvs i b)) (hx : x = brOf its rvs i) (hln : l.length ≤ 1000000)
    (own : HL.Own w ((getM b hs).getD (.slice none 0 0)) 53 6 l.length (rows Br.cells l)) {xv : Value} (hxv : Sl w xv 6 1 x.cells)
    (k : ∀ v'' wa, Mod (fun k => rowsOf hs k) w wa → (∀ nx : Value → World → Prop, (∀ hs' wb, FW w1 wb cb b5 gb hs' gs rv its rvs (i + 1) j → Mod (fun k => rowsOf hs k ∨ k = cb) w wb → nx undef wb) → mapupdK Try.prog 48 (.map (some cb)) (str b) v'' wa nx QP) → next v'' wa) :
    appK Try.prog #[50, 50] 50 ((getM b hs).getD (.slice none 0 0)) xv w next QP := by
  refine append_ sl50 own hxv (Br.one _) (by omega) (by unfold maxLen; omega) ?_
  intro v'' wa own' m1 hf _
  have hrows : rows Br.cells l ++ x.cells = rows Br.cells (l ++ [brOf its rvs i]) := by
    rw [rows_app, rows_cons, rows_nil, List.append_nil, hx]
  rw [hrows] at own'
  have m1' : Mod (fun k => rowsOf hs k) w wa := m1.mono fun k _ hk => by
    cases hgm : getM b hs with
    | none => rw [hgm] at hk; cases hk
    | some u => rw [hgm] at hk; exact ⟨_, getM_mem hgm, hk⟩
  refine k v'' wa m1' fun nx kk => ?_
  refine mapupd_ u48 u9 (hF.hm.mp.mod m1 fun hk => ?_) ?_
  · obtain ⟨l0, -, -, hfr⟩ := hF.hm.look b
    exact (hfr cb hk).2.1 rfl
  · intro wb mp m2 _
    exact kk _ wb (hF.put hp hb rfl hl own' m1 hf mp m2) ((m1'.mono fun _ _ h => .inl h).trans' (m2.mono fun _ _ h => .inr h))

theorem lpF_ {τ : Env} {Q : HX → Env → World → Prop} (hd : dist its) (hne : ne0 its) (hS : St w1 va vc its rvs fb) (hz : szI its) (hn : its.length ≤ 100000)
    (hF : FW w1 w cb b5 gb hs gs rv its rvs 0 0)
    (t0 : τ 0 = .slice va its.length vc) (t3 : τ 3 = ptr fb) (t4 : τ 4 = ptr b5) (t5 : τ 5 = .map (some gb)) (t6 : τ 6 = rv) (t21 : τ 21 = .slice va its.length vc) (t22 : τ 22 = .int .i64 its.length) (t23 : τ 23 = .int .i64 0)
    (k : ∀ σ w' hs' gs' rv', FW w1 w' cb b5 gb hs' gs' rv' its rvs its.length its.length → σ 0 = .slice va its.length vc → σ 3 = ptr fb → σ 4 = ptr b5 → σ 5 = .map (some gb) → σ 6 = rv' → Q (.exit 0) σ w') : hloop (hw Try.prog noPanic h11_2) Q τ w := by
  refine loopN its.length (fun i τ w' => ∃ hs' gs' rv', τ 0 = .slice va its.length vc ∧ τ 3 = ptr fb ∧ τ 4 = ptr b5 ∧ τ 5 = .map (some gb) ∧ τ 6 = rv' ∧ τ 21 = .slice va its.length vc ∧ τ 22 = .int .i64 its.length ∧ τ 23 = .int .i64 i ∧ FW w1 w' cb b5 gb hs' gs' rv' its rvs i i) ⟨0, by omega, hs, gs, rv, t0, t3, t4, t5, t6, t21, t22, t23, hF⟩ ?_
  rintro i τ w2 hi ⟨hs', gs', rv', t0, t3, t4, t5, t6, t21, t22, t23, hF2⟩
  unfold h11_2
  try simp only [go_sem, t0, t3, t4, t5, t6, t21, t22, t23]
  refine ⟨fun hlt => ?_, fun hge => ?_⟩
  · have hil : i < its.length := by
      have := of_decide_eq_true hlt
      omega
    have hS2 := hS.up hF2.st
    have hI2 := hS2.items
    obtain ⟨g, o, rfl⟩ := hI2.addr (by omega)
    obtain ⟨ra, rn, rc, hrv, ax⟩ := hI2.at2 hil
    have x1 := ax.ln
    have x2 := ax.sm
    unfold h11_3
    try simp only [go_sem, t0, t3, t4, t5, t6, t21, t22, t23, x1, x2]
    repeat refine ⟨⟨by omega, by omega⟩, ?_⟩
    refine alloc_ (cs := [str [], .int .i64 0, .slice none 0 0, str [], .bool false]) z34 rfl ?_
    intro b8 w3 hb8 bk3 m3 s3
    try simp only [go_sem, t0, t3, t4, t5, t6, t21, t22, t23]
    refine storeN (vs := its[i].cells (.slice ra rn rc)) sz34 rfl bk3 (by simp) (by intro u hu; simp [It.cells] at hu; rcases hu with rfl | rfl | rfl | rfl | rfl <;> rfl) ?_
    intro w4 bk4 m4 s4
    have m24 : Mod none' w2 w4 := m3.trans m4 fun x hx e => by
      have e : x = b8 := e
      omega
    have bk4 : Blk w4 b8 34 (its[i].cells (.slice ra rn rc)) := by simpa [It.cells] using bk4
    have a4 := ItAt.blk bk4
    have hF4 := hF2.up m24
    try simp only [go_sem, t0, t3, t4, t5, t6, t21, t22, t23]
    refine par_ hd (hS2.up m24) hil hz (by omega) ?_
    intro w5 m5
    have a5 := a4.up m5
    have hF5 := hF4.up m5
    have hI5 := (hS2.up (m24.trans' m5)).items
    have y1 := a5.ln
    have y2 := a5.sm0
    have y3 := a5.c1
    have hbr : brOf its rvs i = ⟨its[i], ra, rn, rc, false⟩ := brOf_at hil hrv
    have c4 := hF5.bc.cell 0
    simp only [List.getElem?_cons_zero] at c4
    unfold parV
    try simp only [go_sem, t0, t3, t4, t5, t6, t21, t22, t23]
    cases hu : upI its i with
    | some q =>
      obtain ⟨hp, hg⟩ := up_pid hu
      have hql := (upI_lt hu).2
      have hp1 : (parI its i).1 = some q := by unfold upI at hu; rw [if_pos hil] at hu; exact hu
      have hp2 : (parI its i).2 = [] := hg
      have eg : decide ((0 : Int) ≤ (q : Int)) = true := by simp
      have eoi : oi (parI its i).1 = (q : Int) := by rw [hp1]; rfl
      obtain ⟨rq, -, aq⟩ := hI5.at hql
      have z0 := aq.c0
      have hkey : idAt its q = its[q].id := idAt_at hql
      try simp only [go_sem, eoi, eg, t0, t3, t4, t5, t6, t21, t22, t23, c4, z0, y1, y2, put5, cput5]
      repeat refine ⟨⟨by omega, by omega⟩, ?_⟩
      have hidn : its[q].id ≠ [] := by rw [← hkey]; exact idAt_ne hne hql
      rw [hkey] at hp
      have hF5 := hF5.up (Mod.drew none' _)
      have a5 := a5.up (Mod.drew none' _)
      have c4d : w5.drew.cell? ⟨b5, 0, none⟩ = some (.map (some cb)) := c4
      have z0d : w5.drew.cell? ⟨g, o + q * 5, none⟩ = some (str its[q].id) := z0
      obtain ⟨l, hl, ownl, -⟩ := hF5.hm.look its[q].id
      have hln : l.length ≤ 1000000 := by
        rw [hl.length_eq]
        unfold chF
        split
        · simp
        · rw [List.length_map]
          have := undN_le its i its[q].id
          omega
      -- what is read stays
      have st4 : ∀ u, Mod (fun k => rowsOf hs' k) w5.drew u → u.cell? ⟨b5, 0, none⟩ = some (.map (some cb)) := fun u m => m.cell c4d fun h => (hF5.rows _ h).1 (by simp)
      have st0 : ∀ u, Mod (fun k => rowsOf hs' k) w5.drew u → u.cell? ⟨g, o + q * 5, none⟩ = some (str its[q].id) := fun u m => m.cell z0d fun h => by
        obtain ⟨p, hp', hpk⟩ := h
        have h1 := (hF5.hm.fresh p hp' _ hpk).1
        obtain ⟨-, a, c, e1, -, hcc⟩ := (hS.items).sl
        have hlt := (hS.items).sl.lt (by omega) (by omega) g rfl
        have h1 : w1.heap.size ≤ g := h1
        omega
      refine ⟨?_, ?_⟩
      · unfold t11_4
        try simp only [go_sem, t0, t3, t4, t5, t6, t21, t22, t23, c4, z0, y1, y2, put5, cput5]
        refine lookup1_ u48 u9 zs50 hF5.hm.mp ?_
        try simp only [go_sem, t0, t3, t4, t5, t6, t21, t22, t23, c4, z0, y1, y2, put5, cput5]
        refine bsl1 (cs := Br.cells ⟨its[i], ra, rn, rc, false⟩) sl50 rfl rfl (by omega) ?_
        intro b6 w6 hb6 own6 bk6 m6 s6
        have c6 := st4 w6 m6.up
        have z6 := st0 w6 m6.up
        try simp only [go_sem, t0, t3, t4, t5, t6, t21, t22, t23, c6, z6]
        refine chput_ (hF5.up m6) hp hidn hl hbr.symm hln (ownl.mod m6 fun _ _ h => h) own6.sl ?_
        intro v7 w7 m7 hmu
        have m57 := (m6.up (S := fun k => rowsOf hs' k)).trans' m7
        have c7 := st4 w7 m57
        have z7 := st0 w7 m57
        try simp only [go_sem, t0, t3, t4, t5, t6, t21, t22, t23, c7, z7]
        refine hmu _ ?_
        intro hs8 w8 hF8 _
        have hF9 := hF8.gstay hg
        try simp only [go_sem]
        unfold h11_9
        try simp only [go_sem, t0, t3, t4, t5, t6, t21, t22, t23]
        rw [w64 (by omega) (by omega)]
        refine ⟨i + 1, by omega, by omega, hs8, gs', rv', ?_⟩
        (repeat' first | assumption | rfl | omega | apply And.intro)
      · unfold t11_5
        try simp only [go_sem, t0, t3, t4, t5, t6, t21, t22, t23, c4, z0, y1, y2, put5, cput5]
        refine bsl1 (cs := Br.cells ⟨its[i], ra, rn, rc, false⟩) sl50 rfl rfl (by omega) ?_
        intro b6 w6 hb6 own6 bk6 m6 s6
        have c6 := st4 w6 m6.up
        have z6 := st0 w6 m6.up
        have a6 := a5.up m6
        have y61 := a6.ln
        have y62 := a6.sm0
        try simp only [go_sem, t0, t3, t4, t5, t6, t21, t22, t23, c6, z6, y61, y62]
        refine lookup1_ u48 u9 zs50 (hF5.up m6).hm.mp ?_
        try simp only [go_sem, t0, t3, t4, t5, t6, t21, t22, t23, c6, z6, y61, y62]
        refine chput_ (hF5.up m6) hp hidn hl hbr.symm hln (ownl.mod m6 fun _ _ h => h) own6.sl ?_
        intro v7 w7 m7 hmu
        have m57 := (m6.up (S := fun k => rowsOf hs' k)).trans' m7
        have c7 := st4 w7 m57
        have z7 := st0 w7 m57
        try simp only [go_sem, t0, t3, t4, t5, t6, t21, t22, t23, c7, z7]
        refine hmu _ ?_
        intro hs8 w8 hF8 _
        have hF9 := hF8.gstay hg
        try simp only [go_sem]
        unfold h11_9
        try simp only [go_sem, t0, t3, t4, t5, t6, t21, t22, t23]
        rw [w64 (by omega) (by omega)]
        refine ⟨i + 1, by omega, by omega, hs8, gs', rv', ?_⟩
        (repeat' first | assumption | rfl | omega | apply And.intro)
    | none =>
      have hp1 : (parI its i).1 = none := by unfold upI at hu; rw [if_pos hil] at hu; exact hu
      have eg : decide ((0 : Int) ≤ -1) = false := rfl
      have eoi : oi (parI its i).1 = -1 := by rw [hp1]; rfl
      have hpg : pid its i = gh its i := by
        rcases pid_cases hil with ⟨q, h1, -⟩ | ⟨-, h2⟩
        · rw [hu] at h1; cases h1
        · exact h2
      have egh : (parI its i).2 = gh its i := rfl
      rw [egh]
      by_cases hg : gh its i = []
      · have eg2 : (!decide (gh its i = [])) = false := by simp [hg]
        try simp only [go_sem, eoi, eg, eg2, t0, t3, t4, t5, t6, t21, t22, t23, c4, y1, y2, put5, cput5]
        refine bsl1 (cs := Br.cells ⟨its[i], ra, rn, rc, false⟩) sl50 rfl rfl (by omega) ?_
        intro b6 w6 hb6 own6 bk6 m6 s6
        have hF6 := hF5.up m6
        try simp only [go_sem, t0, t3, t4, t5, t6, t21, t22, t23]
        have hrl : (rtL its rvs i).length ≤ i := by
          unfold rtL
          rw [List.length_map]; exact undN_le its i []
        refine append_ sl50 hF6.rt own6.sl (Br.one _) (by omega) (by unfold maxLen; omega) ?_
        intro v7 w7 own7 m7 hf7 _
        have hrows : rows Br.cells (rtL its rvs i) ++ Br.cells ⟨its[i], ra, rn, rc, false⟩ = rows Br.cells (rtL its rvs i ++ [brOf its rvs i]) := by
          rw [rows_app, rows_cons, rows_nil, List.append_nil, hbr]
        rw [hrows] at own7
        have hF9 := (hF6.root (by rw [hpg, hg]) own7 m7 hf7).gstay hg
        try simp only [go_sem]
        unfold h11_9
        try simp only [go_sem, t0, t3, t4, t5, t6, t21, t22, t23]
        rw [w64 (by omega) (by omega)]
        refine ⟨i + 1, by omega, by omega, hs', gs', v7, ?_⟩
        (repeat' first | assumption | rfl | omega | apply And.intro)
      · have eg2 : (!decide (gh its i = [])) = true := by simp [hg]
        try simp only [go_sem, eoi, eg, eg2, t0, t3, t4, t5, t6, t21, t22, t23, c4, y1, y2, put5, cput5]
        have hF5 := hF5.up (Mod.drew none' _)
        have a5 := a5.up (Mod.drew none' _)
        have c4d : w5.drew.cell? ⟨b5, 0, none⟩ = some (.map (some cb)) := c4
        obtain ⟨l, hl, ownl, -⟩ := hF5.hm.look (gh its i)
        have hln : l.length ≤ 1000000 := by
          rw [hl.length_eq]
          unfold chF
          split
          · simp
          · rw [List.length_map]
            have := undN_le its i (gh its i)
            omega
        have st4 : ∀ u, Mod (fun k => rowsOf hs' k) w5.drew u → u.cell? ⟨b5, 0, none⟩ = some (.map (some cb)) := fun u m => m.cell c4d fun h => (hF5.rows _ h).1 (by simp)
        have hb8r : ¬ (rowsOf hs' b8 ∨ b8 = cb) := by
          rintro (⟨p, hp', hpk⟩ | e)
          · obtain ⟨lp, -, -, own⟩ := hF2.hm.val p hp'
            have := own.lt b8 hpk
            omega
          · have := hF2.hm.mp.lt
            omega
        -- behind the append: the ghost's date
        have fin : ∀ (σ : Env) (w8 : World) (hs8 : List (Bytes × Value)) (X : HX → Env → World → Prop), FW w1 w8 cb b5 gb hs8 gs' rv' its rvs (i + 1) i → Mod (fun k => rowsOf hs' k ∨ k = cb) w5.drew w8 → σ 0 = .slice (some ⟨g, o, none⟩) its.length vc → σ 3 = ptr fb → σ 4 = ptr b5 → σ 5 = .map (some gb) → σ 6 = rv' → σ 8 = ptr b8 → σ 10 = str (gh its i) → σ 21 = .slice (some ⟨g, o, none⟩) its.length vc → σ 22 = .int .i64 its.length → σ 23 = .int .i64 i →
            (∀ σ' w' gs'', FW w1 w' cb b5 gb hs8 gs'' rv' its rvs (i + 1) (i + 1) → σ' 0 = .slice (some ⟨g, o, none⟩) its.length vc → σ' 3 = ptr fb → σ' 4 = ptr b5 → σ' 5 = .map (some gb) → σ' 6 = rv' → σ' 21 = .slice (some ⟨g, o, none⟩) its.length vc → σ' 22 = .int .i64 its.length → σ' 23 = .int .i64 i → X .normal σ' w') → hw Try.prog noPanic h11_8 X σ w8 := by
          intro σ w8 hs8 X hF8 m8 s0 s3 s4 s5 s6 s8 s10 s21 s22 s23 kX
          have d1 : w8.cell? ⟨b8, 1, none⟩ = some (.int .i64 its[i].date) := m8.cell a5.c1 hb8r
          have hdt : dateAt its i = its[i].date := dateAt_at hil
          unfold h11_8
          try simp only [go_sem, s0, s3, s4, s5, s6, s8, s10, s21, s22, s23, d1]
          refine lookup_ u49 u9 zi hF8.gm ?_
          cases hgm : getM (gh its i) gs' with
          | none =>
            have hnm : gh its i ∉ ghL its i := fun h => by
              have h1 := hF8.gv _ h
              rw [hgm] at h1
              have h2 := (ghD_some its i (gh its i)).2 ((ghL_mem its i _).1 h).2
              cases hd : ghD its i (gh its i) with
              | none => rw [hd] at h2; cases h2
              | some d => rw [hd] at h1; cases h1
            have eok : (if (!(Option.none : Option Value).isSome) = true then true else decide (its[i].date < 0)) = true := rfl
            try simp only [go_sem, s0, s3, s4, s5, s6, s8, s10, s21, s22, s23, d1, Option.isSome_none, Option.getD_none]
            refine mapupd_ u49 u9 hF8.gm ?_
            intro w9 mp9 m9 _
            rw [← hdt] at mp9
            have hF9 := hF8.gput hg (.inl hnm) mp9 m9
            try simp only [go_sem]
            exact kX _ w9 _ hF9 s0 s3 s4 s5 s6 s21 s22 s23
          | some u =>
            have hmem : gh its i ∈ ghL its i := by
              rw [← hF8.gk]
              exact List.mem_map.2 ⟨_, getM_mem hgm, rfl⟩
            have h1 := hF8.gv _ hmem
            rw [hgm] at h1
            obtain ⟨d, hd, hu2⟩ : ∃ d, ghD its i (gh its i) = some d ∧ u = .int .i64 d := by
              cases hd : ghD its i (gh its i) with
              | none => rw [hd] at h1; cases h1
              | some d => rw [hd] at h1; exact ⟨d, rfl, Option.some.inj h1⟩
            subst hu2
            try simp only [go_sem, s0, s3, s4, s5, s6, s8, s10, s21, s22, s23, d1]
            refine ⟨fun hlt2 => ?_, fun hlt2 => ?_⟩
            · have hlt2 := of_decide_eq_true hlt2
              try simp only [go_sem, s0, s3, s4, s5, s6, s8, s10, s21, s22, s23, d1]
              refine mapupd_ u49 u9 hF8.gm ?_
              intro w9 mp9 m9 _
              rw [← hdt] at mp9
              have hF9 := hF8.gput hg (.inr ⟨d, hd, by rw [hdt]; exact hlt2⟩) mp9 m9
              try simp only [go_sem]
              exact kX _ w9 _ hF9 s0 s3 s4 s5 s6 s21 s22 s23
            · have hlt2 := of_decide_eq_false hlt2
              try simp only [go_sem]
              exact kX _ w8 _ (hF8.gkeep hmem hd (by rw [hdt]; exact hlt2)) s0 s3 s4 s5 s6 s21 s22 s23
        refine ⟨?_, ?_⟩
        · unfold t11_6
          try simp only [go_sem, t0, t3, t4, t5, t6, t21, t22, t23, c4, y1, y2, put5, cput5]
          refine lookup1_ u48 u9 zs50 hF5.hm.mp ?_
          try simp only [go_sem, t0, t3, t4, t5, t6, t21, t22, t23, c4, y1, y2, put5, cput5]
          refine bsl1 (cs := Br.cells ⟨its[i], ra, rn, rc, false⟩) sl50 rfl rfl (by omega) ?_
          intro b6 w6 hb6 own6 bk6 m6 s6
          have c6 := st4 w6 m6.up
          try simp only [go_sem, t0, t3, t4, t5, t6, t21, t22, t23, c6]
          refine chput_ (hF5.up m6) hpg hg hl hbr.symm hln (ownl.mod m6 fun _ _ h => h) own6.sl ?_
          intro v7 w7 m7 hmu
          have m57 := (m6.up (S := fun k => rowsOf hs' k)).trans' m7
          have c7 := st4 w7 m57
          try simp only [go_sem, t0, t3, t4, t5, t6, t21, t22, t23, c7]
          refine hmu _ ?_
          intro hs8 w8 hF8 m8
          try simp only [go_sem]
          refine fin _ w8 hs8 _ hF8 (m6.up.trans' m8) t0 t3 t4 t5 t6 rfl rfl t21 t22 t23 ?_
          intro σ' w9 gs9 hF9 t0 t3 t4 t5 t6 t21 t22 t23
          try simp only [go_sem]
          unfold h11_9
          try simp only [go_sem, t0, t3, t4, t5, t6, t21, t22, t23]
          rw [w64 (by omega) (by omega)]
          refine ⟨i + 1, by omega, by omega, hs8, gs9, rv', ?_⟩
          (repeat' first | assumption | rfl | omega | apply And.intro)
        · unfold t11_7
          try simp only [go_sem, t0, t3, t4, t5, t6, t21, t22, t23, c4, y1, y2, put5, cput5]
          refine bsl1 (cs := Br.cells ⟨its[i], ra, rn, rc, false⟩) sl50 rfl rfl (by omega) ?_
          intro b6 w6 hb6 own6 bk6 m6 s6
          have c6 := st4 w6 m6.up
          have a6 := a5.up m6
          have y61 := a6.ln
          have y62 := a6.sm0
          try simp only [go_sem, t0, t3, t4, t5, t6, t21, t22, t23, c6, y61, y62]
          refine lookup1_ u48 u9 zs50 (hF5.up m6).hm.mp ?_
          try simp only [go_sem, t0, t3, t4, t5, t6, t21, t22, t23, c6, y61, y62]
          refine chput_ (hF5.up m6) hpg hg hl hbr.symm hln (ownl.mod m6 fun _ _ h => h) own6.sl ?_
          intro v7 w7 m7 hmu
          have m57 := (m6.up (S := fun k => rowsOf hs' k)).trans' m7
          have c7 := st4 w7 m57
          try simp only [go_sem, t0, t3, t4, t5, t6, t21, t22, t23, c7]
          refine hmu _ ?_
          intro hs8 w8 hF8 m8
          try simp only [go_sem]
          refine fin _ w8 hs8 _ hF8 (m6.up.trans' m8) t0 t3 t4 t5 t6 rfl rfl t21 t22 t23 ?_
          intro σ' w9 gs9 hF9 t0 t3 t4 t5 t6 t21 t22 t23
          try simp only [go_sem]
          unfold h11_9
          try simp only [go_sem, t0, t3, t4, t5, t6, t21, t22, t23]
          rw [w64 (by omega) (by omega)]
          refine ⟨i + 1, by omega, by omega, hs8, gs9, rv', ?_⟩
          (repeat' first | assumption | rfl | omega | apply And.intro)
  · have hil : i = its.length := by
      have := of_decide_eq_false hge
      omega
    subst hil
    try simp only [go_sem]
    exact k _ w2 hs' gs' rv' hF2 t0 t3 t4 t5 t6
end
end Go.Proofs.Y

/- TV: thread: the forest's ids are different; plain. -/
namespace Go.Proofs.Y
open Go Go.HL

theorem nodup_sub {α : Type} [BEq α] [LawfulBEq α] : ∀ {l m : List α}, l.Nodup → (∀ x ∈ l, x ∈ m) → l.length ≤ m.length
  | [], m, _, _ => Nat.zero_le _
  | x :: l, m, h, hs => by
    have hx := hs x (by simp)
    have h1 := List.nodup_cons.1 h
    have := nodup_sub (l := l) (m := m.erase x) h1.2 fun y hy => by
      have : y ≠ x := fun e => h1.1 (e ▸ hy)
      exact (List.mem_erase_of_ne this).2 (hs y (by simp [hy]))
    rw [List.length_erase_of_mem hx] at this
    have hp := List.length_pos_of_mem hx
    simp only [List.length_cons]; omega

def upid (its : List It) (c : Bytes) : Option Bytes := match findI its c with | some i => if pid its i = [] then none else some (pid its i) | none => none
theorem upid_item {its : List It} (hd : dist its) {i : Nat} (hi : i < its.length) : upid its (idAt its i) = if pid its i = [] then none else some (pid its i) := by
  unfold upid; rw [find_idAt hd hi]
theorem upid_none {its : List It} {c : Bytes} (h : findI its c = none) : upid its c = none := by unfold upid; rw [h]
theorem findI_idAt {its : List It} {c : Bytes} {i : Nat} (h : findI its c = some i) : i < its.length ∧ idAt its i = c := by
  obtain ⟨h1, h2⟩ := findI_some h
  exact ⟨h1, by rw [idAt_at h1, h2]⟩
/-- going up by ids is going up by items, but for a ghost at the end -/
theorem upid_up {its : List It} (hd : dist its) (hn : ne0 its) {i : Nat} (hi : i < its.length) : ∀ (m : Nat) (c : Bytes), itr (upid its) m (idAt its i) = some c → (∃ j, j < its.length ∧ c = idAt its j ∧ itr (upI its) m i = some j) ∨ findI its c = none
  | 0, c, h => by
    simp [itr] at h
    exact .inl ⟨i, hi, h.symm, rfl⟩
  | m + 1, c, h => by
    obtain ⟨b, hb, hc⟩ := Option.bind_eq_some_iff.1 h
    rcases upid_up hd hn hi m b hb with ⟨j, hj, rfl, hji⟩ | h0
    · rw [upid_item hd hj] at hc
      by_cases hp : pid its j = []
      · rw [if_pos hp] at hc; cases hc
      · rw [if_neg hp] at hc
        obtain rfl := Option.some.inj hc
        rcases pid_cases hj with ⟨k, h1, h2⟩ | ⟨h1, h2⟩
        · refine .inl ⟨k, (upI_lt h1).2, h2, ?_⟩
          show (itr (upI its) m i).bind _ = _
          rw [hji]; exact h1
        · rw [h2] at hp ⊢
          exact .inr (gh_ok hj hp).2.2.1
    · rw [upid_none h0] at hc; cases hc
theorem upid_free {its : List It} (hd : dist its) (hn : ne0 its) (c : Bytes) (m : Nat) : itr (upid its) (m + 1) c ≠ some c := by
  intro h
  obtain ⟨b, hb⟩ := itr_some h (show 1 ≤ m + 1 by omega)
  have hb' : upid its c = some b := hb
  cases hf : findI its c with
  | none => rw [upid_none hf] at hb'; cases hb'
  | some i =>
    obtain ⟨hi, rfl⟩ := findI_idAt hf
    rcases upid_up hd hn hi _ _ h with ⟨j, hj, e, hji⟩ | h0
    · rw [idAt_inj hd hi hj e] at hji
      rw [idAt_inj hd hi hj e] at hi
      exact up_free hd j hj ⟨m, hji⟩
    · rw [hf] at h0; cases h0

theorem kids_id {its : List It} (hn : ne0 its) {p : Bytes} {b : Pn} (h : b ∈ kids its p) : b.id ≠ [] := by
  rcases kids_mem.1 h with ⟨i, hi, -, rfl⟩ | ⟨-, g, hg, rfl⟩
  · exact idAt_ne hn hi
  · exact ((ghL_mem its _ g).1 hg).1
theorem ghL_none {its : List It} {g : Bytes} (hg : g ∈ ghL its its.length) : findI its g = none := by
  obtain ⟨h1, i, h2, rfl⟩ := (ghL_mem its _ g).1 hg
  exact (gh_ok h2 h1).2.2.1
theorem kids_up {its : List It} (hd : dist its) {p : Bytes} {b : Pn} (h : b ∈ kids its p) : upid its b.id = if p = [] then none else some p := by
  rcases kids_mem.1 h with ⟨i, hi, hp, rfl⟩ | ⟨hp, g, hg, rfl⟩
  · show upid its (idAt its i) = _
    rw [upid_item hd hi, hp]
  · show upid its g = _
    rw [upid_none (ghL_none hg), if_pos hp]
/-- in a place no two have the same id -/
theorem kids_alone {its : List It} (hd : dist its) {p : Bytes} {x y : Pn} (hx : x ∈ kids its p) (hy : y ∈ kids its p) (e : x.id = y.id) : x = y := by
  rcases kids_mem.1 hx with ⟨i, hi, hp, rfl⟩ | ⟨hp, g, hg, rfl⟩ <;> rcases kids_mem.1 hy with ⟨j, hj, hq, rfl⟩ | ⟨hq, g', hg', rfl⟩
  · rw [idAt_inj hd hi hj e]
  · have e : idAt its i = g' := e
    have := ghL_none hg'
    rw [← e, find_idAt hd hi] at this; cases this
  · have e : g = idAt its j := e
    have := ghL_none hg
    rw [e, find_idAt hd hj] at this; cases this
  · have e : g = g' := e
    rw [e]
theorem kids_nodup {its : List It} (hd : dist its) (p : Bytes) : ((kids its p).map (·.id)).Nodup := by
  have h0 : ((kids0 its p).map (·.id)).Nodup := by
    unfold kids0 under
    rw [List.map_append, List.map_map]
    have h1 : (((List.range its.length).filter fun i => decide (pid its i = p)).map ((·.id) ∘ itP its)).Nodup := by
      unfold List.Nodup
      rw [List.pairwise_map]
      have : ((List.range its.length).filter fun i => decide (pid its i = p)).Pairwise (fun a b => a < b ∧ a < its.length ∧ b < its.length) := by
        refine List.Pairwise.filter _ ?_
        rw [List.pairwise_iff_getElem]
        intro i j hi hj hij
        simp at hi hj ⊢
        exact ⟨hij, hi, hj⟩
      exact this.imp fun ⟨h1, h2, h3⟩ e => by
        have := idAt_inj hd h2 h3 e
        omega
    refine List.nodup_append.2 ⟨h1, ?_, ?_⟩
    · split
      · rw [List.map_map]
        have : ((·.id) ∘ ghP its) = id := rfl
        rw [this, List.map_id]
        exact ghL_nodup its _
      · simp
    · intro a ha b hb e
      obtain ⟨i, hi, rfl⟩ := List.mem_map.1 ha
      have hil : i < its.length := by simpa using (List.mem_filter.1 hi).1
      split at hb
      · rw [List.map_map] at hb
        obtain ⟨g, hg, rfl⟩ := List.mem_map.1 hb
        have e : idAt its i = g := e
        have := ghL_none hg
        rw [← e, find_idAt hd hil] at this; cases this
      · cases hb
  exact (((isortB_ok befP_irr befP_tr (kids0 its p)).1.map (·.id)).nodup_iff).2 h0

def idsF (ch : Bytes → List Pn) : Nat → List Pn → List Bytes
  | 0, _ => []
  | f + 1, l => l.flatMap fun b => b.id :: idsF ch f (ch b.id)
theorem walkF_ids (ch : Bytes → List Pn) : ∀ (f : Nat) (out : List Nd) (l : List Pn) (p d : Int), (walkF ch f out l p d).map (·.id) = out.map (·.id) ++ idsF ch f l
  | 0, out, l, p, d => by simp [walkF, idsF]
  | f + 1, out, l, p, d => by
    show (l.foldl (stepW ch f p d) out).map (·.id) = out.map (·.id) ++ l.flatMap fun b => b.id :: idsF ch f (ch b.id)
    induction l generalizing out with
    | nil => simp
    | cons b l ih =>
      rw [List.foldl_cons, ih]
      unfold stepW
      rw [walkF_ids ch f]
      simp
theorem idsF_mem {its : List It} (hd : dist its) (hn : ne0 its) : ∀ (f : Nat) (l : List Pn) (c : Bytes), (∀ b ∈ l, b.id ≠ []) → c ∈ idsF (kids its) f l → ∃ b ∈ l, ∃ m, itr (upid its) m c = some b.id
  | 0, l, c, _, h => by simp [idsF] at h
  | f + 1, l, c, hl, h => by
    unfold idsF at h
    obtain ⟨b, hb, hc⟩ := List.mem_flatMap.1 h
    rcases List.mem_cons.1 hc with rfl | hc
    · exact ⟨b, hb, 0, rfl⟩
    · obtain ⟨b', hb', m, hm⟩ := idsF_mem hd hn f _ c (fun b' h => kids_id hn h) hc
      have hup := kids_up hd hb'
      rw [if_neg (hl b hb)] at hup
      refine ⟨b, hb, m + 1, ?_⟩
      show (itr (upid its) m c).bind _ = _
      rw [hm]; exact hup
theorem itr_between {α : Type} {f : α → Option α} {a b : Nat} {c x y : α} (h1 : itr f a c = some x) (h2 : itr f b c = some y) (hab : a ≤ b) : itr f (b - a) x = some y := by
  obtain ⟨d, rfl⟩ : ∃ d, b = a + d := ⟨b - a, by omega⟩
  rw [itr_add, h1] at h2
  rw [Nat.add_sub_cancel_left]; exact h2
/-- two that hang at one place are not above each other -/
theorem sib_apart {its : List It} (hd : dist its) (hn : ne0 its) {x y : Bytes} {P : Option Bytes} (hx : upid its x = P) (hy : upid its y = P) (k : Nat) : itr (upid its) (k + 1) x ≠ some y := by
  intro h
  rw [itr_succ, hx] at h
  cases P with
  | none => cases h
  | some q =>
    have h : itr (upid its) k q = some y := h
    have : itr (upid its) (k + 1) q = some q := by
      show (itr (upid its) k q).bind _ = _
      rw [h]; exact hy
    exact upid_free hd hn q k this
theorem idsF_nodup {its : List It} (hd : dist its) (hn : ne0 its) : ∀ (f : Nat) (l : List Pn) (P : Option Bytes), (l.map (·.id)).Nodup → (∀ b ∈ l, b.id ≠ []) → (∀ b ∈ l, upid its b.id = P) → (idsF (kids its) f l).Nodup
  | 0, l, _, _, _, _ => by simp [idsF]
  | f + 1, l, P, h1, h2, h3 => by
    unfold idsF
    induction l with
    | nil => simp
    | cons b l ih =>
      rw [List.flatMap_cons]
      simp only [List.map_cons, List.nodup_cons] at h1
      have hb0 := h2 b (by simp)
      have hsub := idsF_nodup hd hn f (kids its b.id) (some b.id) (kids_nodup hd _) (fun b' h => kids_id hn h) (fun b' h => by rw [kids_up hd h, if_neg hb0])
      have hbelow : ∀ c ∈ idsF (kids its) f (kids its b.id), ∃ m, itr (upid its) (m + 1) c = some b.id := by
        intro c hc
        obtain ⟨b', hb', m, hm⟩ := idsF_mem hd hn f _ c (fun b' h => kids_id hn h) hc
        refine ⟨m, ?_⟩
        show (itr (upid its) m c).bind _ = _
        rw [hm]
        show upid its b'.id = _
        rw [kids_up hd hb', if_neg hb0]
      refine List.nodup_append.2 ⟨List.nodup_cons.2 ⟨fun hc => ?_, hsub⟩, ih h1.2 (fun b hb => h2 b (by simp [hb])) (fun b hb => h3 b (by simp [hb])), fun x hx y hy e => ?_⟩
      · obtain ⟨m, hm⟩ := hbelow _ hc
        exact upid_free hd hn _ m hm
      · subst e
        have hx' : ∃ m, itr (upid its) m x = some b.id := by
          rcases List.mem_cons.1 hx with rfl | hx
          · exact ⟨0, rfl⟩
          · obtain ⟨m, hm⟩ := hbelow _ hx; exact ⟨m + 1, hm⟩
        obtain ⟨m, hm⟩ := hx'
        have hy' : x ∈ idsF (kids its) (f + 1) l := by unfold idsF; exact hy
        obtain ⟨b', hb', m', hm'⟩ := idsF_mem hd hn (f + 1) l x (fun b hb => h2 b (by simp [hb])) hy'
        have e1 := h3 b (by simp)
        have e2 := h3 b' (by simp [hb'])
        rcases Nat.lt_trichotomy m m' with h | h | h
        · have := itr_between hm hm' (by omega)
          obtain ⟨q, hq⟩ : ∃ q, m' - m = q + 1 := ⟨m' - m - 1, by omega⟩
          rw [hq] at this
          exact sib_apart hd hn e1 e2 q this
        · subst h
          rw [hm] at hm'
          have : b.id = b'.id := Option.some.inj hm'
          exact h1.1 (this ▸ List.mem_map.2 ⟨b', hb', rfl⟩)
        · have := itr_between hm' hm (by omega)
          obtain ⟨q, hq⟩ : ∃ q, m - m' = q + 1 := ⟨m - m' - 1, by omega⟩
          rw [hq] at this
          exact sib_apart hd hn e2 e1 q this
theorem idsF_all {its : List It} : ∀ (f : Nat) (p : Bytes) (c : Bytes), c ∈ idsF (kids its) f (kids its p) → c ∈ its.map (·.id) ∨ c ∈ ghL its its.length
  | 0, p, c, h => by simp [idsF] at h
  | f + 1, p, c, h => by
    unfold idsF at h
    obtain ⟨b, hb, hc⟩ := List.mem_flatMap.1 h
    rcases List.mem_cons.1 hc with rfl | hc
    · rcases kids_mem.1 hb with ⟨i, hi, -, rfl⟩ | ⟨-, g, hg, rfl⟩
      · left
        show idAt its i ∈ _
        rw [idAt_at hi]
        exact List.mem_map.2 ⟨_, List.getElem_mem hi, rfl⟩
      · exact .inr hg
    · exact idsF_all f b.id c hc
theorem ghL_len (its : List It) : ∀ n, (ghL its n).length ≤ n
  | 0 => by simp [ghL]
  | n + 1 => by
    have := ghL_len its n
    unfold ghL
    split
    · omega
    · simp; omega
theorem forest_ids (its : List It) : (forestB its).map (·.id) = idsF (kids its) (its.length + 2) (kids its []) := by
  unfold forestB
  rw [walkF_ids]; rfl
theorem forest_nodup {its : List It} (hd : dist its) (hn : ne0 its) : ((forestB its).map (·.id)).Nodup := by
  rw [forest_ids]
  exact idsF_nodup hd hn _ _ none (kids_nodup hd _) (fun b h => kids_id hn h) (fun b h => by rw [kids_up hd h, if_pos rfl])
theorem forest_len {its : List It} (hd : dist its) (hn : ne0 its) : (forestB its).length ≤ 2 * its.length := by
  have h1 := nodup_sub (m := its.map (·.id) ++ ghL its its.length) (forest_nodup hd hn) fun c hc => by
    rw [forest_ids] at hc
    exact List.mem_append.2 (idsF_all _ _ c hc)
  rw [List.length_map, List.length_append, List.length_map] at h1
  have := ghL_len its its.length
  omega
/-- names of places without children do not matter -/
def chK (its : List It) (c : Bytes) : List Pn := if c = [] then [] else kids its c
theorem walkF_chK {its : List It} (hn : ne0 its) : ∀ (f : Nat) (out : List Nd) (l : List Pn) (p d : Int), (∀ b ∈ l, b.id ≠ []) → walkF (chK its) f out l p d = walkF (kids its) f out l p d
  | 0, out, l, p, d, _ => rfl
  | f + 1, out, l, p, d, h => by
    show l.foldl (stepW (chK its) f p d) out = l.foldl (stepW (kids its) f p d) out
    induction l generalizing out with
    | nil => rfl
    | cons b l ih =>
      rw [List.foldl_cons, List.foldl_cons]
      have hb := h b (by simp)
      have : stepW (chK its) f p d out b = stepW (kids its) f p d out b := by
        unfold stepW
        have hc : chK its b.id = kids its b.id := if_neg hb
        rw [hc]
        exact walkF_chK hn f _ _ _ _ fun b' hb' => kids_id hn hb'
      rw [this]
      exact ih _ fun b hb => h b (by simp [hb])
theorem deepF_chK {its : List It} (hn : ne0 its) : ∀ (f : Nat) (l : List Pn), (∀ b ∈ l, b.id ≠ []) → deepF (kids its) f l → deepF (chK its) f l
  | 0, l, _, h => h
  | f + 1, l, hl, h => fun b hb => by
    have hc : chK its b.id = kids its b.id := if_neg (hl b hb)
    rw [hc]
    exact deepF_chK hn f _ (fun b' hb' => kids_id hn hb') (h b hb)
end Go.Proofs.Y

/- TOa: thread: the shape of a forest; plain. -/
namespace Go.Proofs.Y
open Go Go.HL

/-- a node with its place -/
structure En where
  b : Pn
  p : Int
  d : Int
  x : Nat
def En.nd (e : En) : Nd := ⟨e.b.id, e.b.ghost, e.p, e.d⟩
def wl (sub : Nat → Pn → List En) (p d : Int) : Nat → List Pn → List En
  | _, [] => []
  | n, b :: l => ⟨b, p, d, n⟩ :: (sub n b ++ wl sub p d (n + 1 + (sub n b).length) l)
def wz (ch : Bytes → List Pn) : Nat → Nat → List Pn → Int → Int → List En
  | 0, _, _, _, _ => []
  | f + 1, n, l, p, d => wl (fun m b => wz ch f (m + 1) (ch b.id) (m : Int) (d + 1)) p d n l
theorem wl_cons (sub : Nat → Pn → List En) (p d : Int) (n : Nat) (b : Pn) (l : List Pn) : wl sub p d n (b :: l) = ⟨b, p, d, n⟩ :: (sub n b ++ wl sub p d (n + 1 + (sub n b).length) l) := rfl
section
variable {ch : Bytes → List Pn}
theorem wz_ind {P : Nat → Nat → List Pn → Int → Int → List En → Prop} (h0 : ∀ n l p d, P 0 n l p d []) (h1 : ∀ f n p d, P (f + 1) n [] p d [])
    (h2 : ∀ f n b l p d S R, S = wz ch f (n + 1) (ch b.id) (n : Int) (d + 1) → R = wz ch (f + 1) (n + 1 + S.length) l p d → P f (n + 1) (ch b.id) (n : Int) (d + 1) S → P (f + 1) (n + 1 + S.length) l p d R → P (f + 1) n (b :: l) p d (⟨b, p, d, n⟩ :: (S ++ R))) :
    ∀ f n l p d, P f n l p d (wz ch f n l p d) := by
  intro f
  induction f with
  | zero => intro n l p d; exact h0 n l p d
  | succ f ih =>
    intro n l
    induction l generalizing n with
    | nil => intro p d; exact h1 f n p d
    | cons b l ihl =>
      intro p d
      exact h2 f n b l p d _ _ rfl rfl (ih _ _ _ _) (ihl _ p d)
theorem walk_wz : ∀ (f : Nat) (l : List Pn) (out : List Nd) (p d : Int), walkF ch f out l p d = out ++ (wz ch f out.length l p d).map En.nd
  | 0, l, out, p, d => by simp [walkF, wz]
  | f + 1, l, out, p, d => by
    unfold walkF wz
    induction l generalizing out with
    | nil => simp [wl]
    | cons b l ih =>
      rw [List.foldl_cons, walk_wz f, ih, wl_cons]
      simp only [List.map_cons, List.map_append, List.append_assoc, List.length_append, List.length_singleton, List.length_map, List.singleton_append]
      simp [En.nd, Nat.add_assoc, Nat.add_comm]
theorem wz_sh : ∀ f n l p d, ∀ e ∈ wz ch f n l p d, n ≤ e.x ∧ e.x < n + (wz ch f n l p d).length ∧ d ≤ e.d ∧ ((e.p = p ∧ e.d = d ∧ e.b ∈ l) ∨ ∃ e' ∈ wz ch f n l p d, e.p = e'.x ∧ e.d = e'.d + 1 ∧ e.b ∈ ch e'.b.id ∧ e'.x < e.x) := by
  refine wz_ind (P := fun f n l p d W => ∀ e ∈ W, n ≤ e.x ∧ e.x < n + W.length ∧ d ≤ e.d ∧ ((e.p = p ∧ e.d = d ∧ e.b ∈ l) ∨ ∃ e' ∈ W, e.p = e'.x ∧ e.d = e'.d + 1 ∧ e.b ∈ ch e'.b.id ∧ e'.x < e.x)) ?_ ?_ ?_
  · intro n l p d e h; cases h
  · intro f n p d e h; cases h
  · intro f n b l p d S R _ _ hS hR e he
    simp only [List.length_cons, List.length_append]
    rcases List.mem_cons.1 he with rfl | he
    · exact ⟨Nat.le_refl _, by show n < _; omega, Int.le_refl _, .inl ⟨rfl, rfl, by simp⟩⟩
    · rcases List.mem_append.1 he with he | he
      · obtain ⟨h1, h2, h3, h4⟩ := hS e he
        refine ⟨by omega, by omega, by omega, .inr ?_⟩
        rcases h4 with ⟨h5, h6, h7⟩ | ⟨e', m, h5, h6, h7, h8⟩
        · exact ⟨⟨b, p, d, n⟩, by simp, h5, h6, h7, by simp; omega⟩
        · exact ⟨e', by simp [m], h5, h6, h7, h8⟩
      · obtain ⟨h1, h2, h3, h4⟩ := hR e he
        refine ⟨by omega, by omega, h3, ?_⟩
        rcases h4 with ⟨h5, h6, h7⟩ | ⟨e', m, h5, h6, h7, h8⟩
        · exact .inl ⟨h5, h6, by simp [h7]⟩
        · exact .inr ⟨e', by simp [m], h5, h6, h7, h8⟩
theorem wz_ix : ∀ f n l p d, (wz ch f n l p d).map (·.x) = List.range' n (wz ch f n l p d).length := by
  refine wz_ind (P := fun f n l p d W => W.map (·.x) = List.range' n W.length) ?_ ?_ ?_
  · intro n l p d; rfl
  · intro f n p d; rfl
  · intro f n b l p d S R _ _ hS hR
    simp only [List.map_cons, List.map_append, hS, hR, List.length_cons, List.length_append]
    rw [List.range'_succ, ← List.range'_append]
    simp
theorem wz_btw : ∀ (f n : Nat) (l : List Pn) (p d : Int), p < n → ∀ e ∈ wz ch f n l p d, ∀ e' ∈ wz ch f n l p d, e.p < e'.x → e'.x < e.x → e.d ≤ e'.d := by
  refine wz_ind (P := fun f n l p d W => p < n → ∀ e ∈ W, ∀ e' ∈ W, e.p < e'.x → e'.x < e.x → e.d ≤ e'.d) ?_ ?_ ?_
  · intro n l p d _ e h; cases h
  · intro f n p d _ e h; cases h
  · intro f n b l p d S R eS eR hS hR hp e he e' he' h1 h2
    have sS := fun e (h : e ∈ S) => by rw [eS] at h; exact (wz_sh _ _ _ _ _ e h)
    have sR := fun e (h : e ∈ R) => by rw [eR] at h; exact (wz_sh _ _ _ _ _ e h)
    rw [← eS] at sS
    rw [← eR] at sR
    have he'd : d ≤ e'.d := by
      rcases List.mem_cons.1 he' with rfl | he'
      · exact Int.le_refl _
      · rcases List.mem_append.1 he' with he' | he'
        · have := (sS e' he').2.2.1; omega
        · exact (sR e' he').2.2.1
    rcases List.mem_cons.1 he with rfl | he
    · rcases List.mem_cons.1 he' with rfl | he'
      · simp at h2
      · have h2 : e'.x < n := h2
        rcases List.mem_append.1 he' with he' | he'
        · have := (sS e' he').1; omega
        · have := (sR e' he').1; omega
    · rcases List.mem_append.1 he with he | he
      · obtain ⟨a1, a2, a3, a4⟩ := sS e he
        have hpe : (n : Int) ≤ e.p := by
          rcases a4 with ⟨h, -, -⟩ | ⟨e0, m, h, -⟩
          · omega
          · have := (sS e0 m).1; omega
        rcases List.mem_cons.1 he' with rfl | he'
        · have h1 : e.p < (n : Int) := h1
          omega
        · rcases List.mem_append.1 he' with he' | he'
          · exact hS (by omega) e he e' he' h1 h2
          · have := (sR e' he').1; omega
      · obtain ⟨a1, a2, a3, a4⟩ := sR e he
        rcases a4 with ⟨h5, h6, -⟩ | ⟨e0, m, h5, -⟩
        · omega
        · have hm := (sR e0 m).1
          rcases List.mem_cons.1 he' with rfl | he'
          · have h1 : e.p < (n : Int) := h1
            omega
          · rcases List.mem_append.1 he' with he' | he'
            · have := (sS e' he').2.1; omega
            · exact hR (by omega) e he e' he' h1 h2
theorem wz_ord {R' : Pn → Pn → Prop} (hch : ∀ q, (ch q).Pairwise R') : ∀ (f n : Nat) (l : List Pn) (p d : Int), l.Pairwise R' → p < n → ∀ e ∈ wz ch f n l p d, ∀ e' ∈ wz ch f n l p d, e'.p = e.p → e'.x < e.x → R' e'.b e.b := by
  refine wz_ind (P := fun f n l p d W => l.Pairwise R' → p < n → ∀ e ∈ W, ∀ e' ∈ W, e'.p = e.p → e'.x < e.x → R' e'.b e.b) ?_ ?_ ?_
  · intro n l p d _ _ e h; cases h
  · intro f n p d _ _ e h; cases h
  · intro f n b l p d S R eS eR hS hR hl hp e he e' he' h1 h2
    have sS := fun e (h : e ∈ S) => by rw [eS] at h; exact (wz_sh _ _ _ _ _ e h)
    have sR := fun e (h : e ∈ R) => by rw [eR] at h; exact (wz_sh _ _ _ _ _ e h)
    rw [← eS] at sS
    rw [← eR] at sR
    have inS : ∀ e ∈ S, (n : Int) ≤ e.p ∧ e.p < n + 1 + S.length := by
      intro e he
      obtain ⟨a1, a2, a3, a4⟩ := sS e he
      rcases a4 with ⟨h, -, -⟩ | ⟨e0, m, h, -⟩
      · omega
      · have := (sS e0 m); omega
    rcases List.mem_cons.1 he with rfl | he
    · rcases List.mem_cons.1 he' with rfl | he'
      · simp at h2
      · have h2 : e'.x < n := h2
        rcases List.mem_append.1 he' with he' | he'
        · have := (sS e' he').1; omega
        · have := (sR e' he').1; omega
    · rcases List.mem_append.1 he with he | he
      · have hpe := inS e he
        rcases List.mem_cons.1 he' with rfl | he'
        · have h1 : p = e.p := h1
          omega
        · rcases List.mem_append.1 he' with he' | he'
          · exact hS (hch _) (by omega) e he e' he' h1 h2
          · have := (sR e' he').1; have := (sS e he).2.1; omega
      · obtain ⟨a1, a2, a3, a4⟩ := sR e he
        rcases List.mem_cons.1 he' with rfl | he'
        · have h1 : p = e.p := h1
          rcases a4 with ⟨h5, h6, h7⟩ | ⟨e0, m, h5, -⟩
          · exact (List.pairwise_cons.1 hl).1 _ h7
          · have hm := (sR e0 m).1; omega
        · rcases List.mem_append.1 he' with he' | he'
          · have := inS e' he'
            rcases a4 with ⟨h5, h6, -⟩ | ⟨e0, m, h5, -⟩
            · omega
            · have hm := (sR e0 m).1; omega
          · exact hR (List.pairwise_cons.1 hl).2 (by omega) e he e' he' h1 h2
theorem deep_nil : ∀ (f : Nat), deepF ch f []
  | 0 => rfl
  | f + 1 => fun b h => by cases h
theorem wz_first : ∀ f n l p d, deepF ch f l → ∀ e ∈ wz ch f n l p d, ch e.b.id ≠ [] → ∃ e' ∈ wz ch f n l p d, e'.x = e.x + 1 ∧ e'.p = e.x := by
  refine wz_ind (P := fun f n l p d W => deepF ch f l → ∀ e ∈ W, ch e.b.id ≠ [] → ∃ e' ∈ W, e'.x = e.x + 1 ∧ e'.p = e.x) ?_ ?_ ?_
  · intro n l p d _ e h; cases h
  · intro f n p d _ e h; cases h
  · intro f n b l p d S R eS eR hS hR hdp e he hne
    have hdb : deepF ch f (ch b.id) := hdp b (by simp)
    rcases List.mem_cons.1 he with rfl | he
    · have hne : ch b.id ≠ [] := hne
      cases f with
      | zero => exact absurd hdb hne
      | succ f =>
        cases hc : ch b.id with
        | nil => exact absurd hc hne
        | cons c l2 =>
          refine ⟨⟨c, n, d + 1, n + 1⟩, ?_, rfl, rfl⟩
          rw [eS, hc]
          show _ ∈ _ :: (wl _ _ _ _ (c :: l2) ++ R)
          unfold wl
          simp
    · rcases List.mem_append.1 he with he | he
      · obtain ⟨e', m, h1, h2⟩ := hS hdb e he hne
        exact ⟨e', by simp [m], h1, h2⟩
      · obtain ⟨e', m, h1, h2⟩ := hR (fun b hb => hdp b (by simp [hb])) e he hne
        exact ⟨e', by simp [m], h1, h2⟩
theorem wz_all : ∀ f n l p d, deepF ch f l → (∀ b ∈ l, ∃ e ∈ wz ch f n l p d, e.b = b ∧ e.p = p) ∧ (∀ e ∈ wz ch f n l p d, ∀ b ∈ ch e.b.id, ∃ e' ∈ wz ch f n l p d, e'.b = b ∧ e'.p = e.x) := by
  refine wz_ind (P := fun f n l p d W => deepF ch f l → (∀ b ∈ l, ∃ e ∈ W, e.b = b ∧ e.p = p) ∧ (∀ e ∈ W, ∀ b ∈ ch e.b.id, ∃ e' ∈ W, e'.b = b ∧ e'.p = e.x)) ?_ ?_ ?_
  · intro n l p d h
    have h : l = [] := h
    subst h
    exact ⟨(fun b h => nomatch h), (fun e h => nomatch h)⟩
  · intro f n p d _
    exact ⟨(fun b h => nomatch h), (fun e h => nomatch h)⟩
  · intro f n b l p d S R eS eR hS hR hdp
    have hdb : deepF ch f (ch b.id) := hdp b (by simp)
    obtain ⟨s1, s2⟩ := hS hdb
    obtain ⟨r1, r2⟩ := hR (fun b hb => hdp b (by simp [hb]))
    refine ⟨fun b' hb => ?_, fun e he b' hb => ?_⟩
    · rcases List.mem_cons.1 hb with rfl | hb
      · exact ⟨⟨b', p, d, n⟩, by simp, rfl, rfl⟩
      · obtain ⟨e, m, h⟩ := r1 b' hb
        exact ⟨e, by simp [m], h⟩
    · rcases List.mem_cons.1 he with rfl | he
      · obtain ⟨e, m, h⟩ := s1 b' hb
        exact ⟨e, by simp [m], h⟩
      · rcases List.mem_append.1 he with he | he
        · obtain ⟨e', m, h⟩ := s2 e he b' hb
          exact ⟨e', by simp [m], h⟩
        · obtain ⟨e', m, h⟩ := r2 e he b' hb
          exact ⟨e', by simp [m], h⟩
end

/-! ### a forest -/
def enF (its : List It) : List En := wz (kids its) (its.length + 2) 0 (kids its []) (-1) 0
theorem forest_en (its : List It) : forestB its = (enF its).map En.nd := by
  unfold forestB enF
  rw [walk_wz]; rfl
theorem en_ix (its : List It) : (enF its).map (·.x) = List.range (enF its).length := by
  rw [List.range_eq_range']; exact wz_ix _ _ _ _ _
theorem en_at {its : List It} {i : Nat} (h : i < (enF its).length) : (enF its)[i].x = i := by
  have := congrArg (fun l => l[i]?) (en_ix its)
  simp only [List.getElem?_map, List.getElem?_eq_getElem h, Option.map_some, List.getElem?_range h] at this
  exact Option.some.inj this
theorem en_mem {its : List It} {e : En} (h : e ∈ enF its) : ∃ hx : e.x < (enF its).length, (enF its)[e.x] = e := by
  obtain ⟨i, hi, rfl⟩ := List.getElem_of_mem h
  refine ⟨by rw [en_at hi]; exact hi, ?_⟩
  have := en_at hi
  congr 1
theorem kids_ord {its : List It} (hd : dist its) (q : Bytes) : (kids its q).Pairwise fun a b => a.id ≠ b.id ∧ befP b a = false := by
  have h1 : (kids its q).Pairwise fun a b => a.id ≠ b.id := by
    have := kids_nodup hd q
    unfold List.Nodup at this
    rw [List.pairwise_map] at this
    exact this
  have h2 : (kids its q).Pairwise fun a b => befP b a = false := by
    have := (isortB_ok (lt := befP) befP_irr befP_tr (kids0 its q)).2
    exact this.imp fun h => by simpa using h
  exact List.pairwise_and_iff.2 ⟨h1, h2⟩
end Go.Proofs.Y

/- TOb: thread: facts of a forest; roots; plain. -/
namespace Go.Proofs.Y
open Go Go.HL

section
variable {its : List It}
theorem en_up {e : En} (h : e ∈ enF its) : (e.p = -1 ∧ e.d = 0 ∧ e.b ∈ kids its []) ∨ ∃ e' ∈ enF its, e.p = e'.x ∧ e.d = e'.d + 1 ∧ e.b ∈ kids its e'.b.id ∧ e'.x < e.x :=
  (wz_sh _ _ _ _ _ e h).2.2.2
theorem en_in {e : En} (h : e ∈ enF its) : ∃ q, e.b ∈ kids its q := by
  rcases en_up h with ⟨-, -, h⟩ | ⟨e', -, -, -, h, -⟩
  · exact ⟨_, h⟩
  · exact ⟨_, h⟩
theorem en_ne (hne : ne0 its) {e : En} (h : e ∈ enF its) : e.b.id ≠ [] := by
  obtain ⟨q, h⟩ := en_in h
  exact kids_id hne h
theorem en_pid (hd : dist its) (hne : ne0 its) {e : En} (h : e ∈ enF its) : (e.p = -1 ∧ upid its e.b.id = none) ∨ ∃ e' ∈ enF its, e.p = e'.x ∧ e'.x < e.x ∧ upid its e.b.id = some e'.b.id := by
  rcases en_up h with ⟨h1, -, h2⟩ | ⟨e', h1, h2, -, h3, h4⟩
  · left
    have := kids_up hd h2
    rw [if_pos rfl] at this
    exact ⟨h1, this⟩
  · right
    have := kids_up hd h3
    rw [if_neg (en_ne hne h1)] at this
    exact ⟨e', h1, h2, h4, this⟩
theorem en_kind (hd : dist its) (hne : ne0 its) {e : En} (h : e ∈ enF its) : (∃ i, i < its.length ∧ e.b = itP its i ∧ findI its e.b.id = some i) ∨ (∃ g ∈ ghL its its.length, e.b = ghP its g ∧ findI its e.b.id = none ∧ e.p = -1) := by
  rcases en_up h with ⟨h1, -, h2⟩ | ⟨e', h1, h2, -, h3, h4⟩
  · rcases kids_mem.1 h2 with ⟨i, hi, -, e1⟩ | ⟨-, g, hg, e1⟩
    · exact .inl ⟨i, hi, e1, by rw [e1]; exact find_idAt hd hi⟩
    · exact .inr ⟨g, hg, e1, by rw [e1]; exact ghL_none hg, h1⟩
  · rcases kids_mem.1 h3 with ⟨i, hi, -, e1⟩ | ⟨h, -⟩
    · exact .inl ⟨i, hi, e1, by rw [e1]; exact find_idAt hd hi⟩
    · exact absurd h (en_ne hne h1)
theorem en_ids : (forestB its).map (·.id) = (enF its).map (·.b.id) := by
  rw [forest_en, List.map_map]; rfl
theorem en_uniq (hd : dist its) (hne : ne0 its) {e e' : En} (h : e ∈ enF its) (h' : e' ∈ enF its) (he : e.b.id = e'.b.id) : e = e' := by
  have hn := forest_nodup hd hne
  rw [en_ids] at hn
  obtain ⟨i, hi, rfl⟩ := List.getElem_of_mem h
  obtain ⟨j, hj, rfl⟩ := List.getElem_of_mem h'
  have : i = j := nodup_at hn (x := (enF its)[i].b.id) (by simp [hi]) (by simp [hj, he])
  subst this; rfl
theorem en_top {b : Pn} (hd : dist its) (hne : ne0 its) (h : b ∈ kids its []) : ∃ e ∈ enF its, e.b = b ∧ e.p = -1 := (wz_all _ _ _ _ _ (forest_deep hd hne)).1 b h
theorem en_kid {b : Pn} (hd : dist its) (hne : ne0 its) {e : En} (he : e ∈ enF its) (h : b ∈ kids its e.b.id) : ∃ e' ∈ enF its, e'.b = b ∧ e'.p = e.x := (wz_all _ _ _ _ _ (forest_deep hd hne)).2 e he b h
theorem en_ghost (hd : dist its) (hne : ne0 its) {g : Bytes} (hg : g ∈ ghL its its.length) : ∃ e ∈ enF its, e.b = ghP its g ∧ e.p = -1 := en_top hd hne (kids_mem.2 (.inr ⟨rfl, g, hg, rfl⟩))
theorem en_item (hd : dist its) (hne : ne0 its) {i : Nat} (hi : i < its.length) : ∃ e ∈ enF its, e.b = itP its i := by
  have key : ∀ m i, i < its.length → itr (upI its) m i = none → ∃ e ∈ enF its, e.b = itP its i := by
    intro m
    induction m with
    | zero => intro i _ h; simp [itr] at h
    | succ m ih =>
      intro i hi h
      rw [itr_succ] at h
      rcases pid_cases hi with ⟨k, h1, h2⟩ | ⟨h1, h2⟩
      · rw [h1] at h
        obtain ⟨e, he, eb⟩ := ih k (upI_lt h1).2 h
        have hm : itP its i ∈ kids its e.b.id := kids_mem.2 (.inl ⟨i, hi, by rw [eb]; exact h2, rfl⟩)
        obtain ⟨e', he', eb', -⟩ := en_kid hd hne he hm
        exact ⟨e', he', eb'⟩
      · by_cases hg : gh its i = []
        · obtain ⟨e, he, eb, -⟩ := en_top hd hne (kids_mem.2 (.inl ⟨i, hi, by rw [h2, hg], rfl⟩))
          exact ⟨e, he, eb⟩
        · obtain ⟨e, he, eb, -⟩ := en_ghost hd hne ((ghL_mem its _ _).2 ⟨hg, i, hi, rfl⟩)
          have hm : itP its i ∈ kids its e.b.id := kids_mem.2 (.inl ⟨i, hi, by rw [eb]; exact h2, rfl⟩)
          obtain ⟨e', he', eb', -⟩ := en_kid hd hne he hm
          exact ⟨e', he', eb'⟩
  exact key its.length i hi (up_ends hd hi)
theorem forest_at {i : Nat} (h : i < (forestB its).length) : ∃ e ∈ enF its, e.x = i ∧ (forestB its)[i] = e.nd := by
  have hl : i < (enF its).length := by rw [forest_en, List.length_map] at h; exact h
  refine ⟨(enF its)[i], List.getElem_mem hl, en_at hl, ?_⟩
  simp [forest_en]
theorem forest_x {e : En} (h : e ∈ enF its) : ∃ hx : e.x < (forestB its).length, (forestB its)[e.x] = e.nd := by
  obtain ⟨hx, e1⟩ := en_mem h
  refine ⟨by rw [forest_en, List.length_map]; exact hx, ?_⟩
  simp [forest_en, e1]
/-- the node with an id -/
def findN (l : List Nd) (c : Bytes) : Option Nat := l.findIdx? fun x => decide (x.id = c)
theorem findN_en (hd : dist its) (hne : ne0 its) {e : En} (h : e ∈ enF its) : findN (forestB its) e.b.id = some e.x := by
  obtain ⟨hx, e1⟩ := forest_x h
  unfold findN
  rw [List.findIdx?_eq_some_iff_getElem]
  refine ⟨hx, by rw [e1]; simp [En.nd], fun j hj => ?_⟩
  obtain ⟨e', he', ex, e2⟩ := forest_at (its := its) (i := j) (by omega)
  rw [e2]
  simp only [decide_eq_true_eq]
  intro h2
  have := en_uniq hd hne he' h h2
  subst this
  omega

/-! ### roots -/
def rootI (its : List It) : Nat → Nat → Bytes
  | 0, i => idAt its i
  | f + 1, i => if gh its i ≠ [] then gh its i else match (parI its i).1 with
    | none => idAt its i
    | some k => rootI its f k
def rootB (its : List It) (c : Bytes) : Bytes := match findI its c with
  | some i => rootI its its.length i
  | none => if c ∈ ghL its its.length then c else []
theorem rootI_mono : ∀ (f i : Nat), i < its.length → itr (upI its) f i = none → rootI its (f + 1) i = rootI its f i
  | 0, i, _, h => by simp [itr] at h
  | f + 1, i, hi, h => by
    rw [itr_succ] at h
    have hu : upI its i = (parI its i).1 := by unfold upI; rw [if_pos hi]
    rw [hu] at h
    unfold rootI
    by_cases hg : gh its i ≠ []
    · rw [if_pos hg, if_pos hg]
    · rw [if_neg hg, if_neg hg]
      cases hp : (parI its i).1 with
      | none => rfl
      | some k =>
        rw [hp] at h hu
        exact rootI_mono f k (upI_lt hu).2 h
theorem root_item (hd : dist its) (hne : ne0 its) {i : Nat} (hi : i < its.length) : rootB its (idAt its i) = if pid its i = [] then idAt its i else rootB its (pid its i) := by
  have h0 : ∀ k, k < its.length → rootB its (idAt its k) = rootI its its.length k := by
    intro k hk
    unfold rootB
    rw [find_idAt hd hk]
  rw [h0 i hi, ← rootI_mono _ i hi (up_ends hd hi)]
  unfold rootI
  by_cases hg : gh its i ≠ []
  · obtain ⟨h1, h2, h3, -⟩ := gh_ok hi hg
    rw [if_pos hg, h2, if_neg hg]
    unfold rootB
    rw [h3]
    exact (if_pos ((ghL_mem its _ _).2 ⟨hg, i, hi, rfl⟩)).symm
  · rw [if_neg hg]
    have hg : gh its i = [] := by simpa using hg
    have hu : upI its i = (parI its i).1 := by unfold upI; rw [if_pos hi]
    cases hp : (parI its i).1 with
    | none =>
      rw [hp] at hu
      rcases pid_cases hi with ⟨k, h1, -⟩ | ⟨-, h2⟩
      · rw [hu] at h1; cases h1
      · rw [h2, hg, if_pos rfl]
    | some k =>
      rw [hp] at hu
      rcases pid_cases hi with ⟨k', h1, h2⟩ | ⟨h1, -⟩
      · rw [hu] at h1
        obtain rfl := Option.some.inj h1
        have hk := (upI_lt hu).2
        rw [h2, if_neg (idAt_ne hne hk), h0 k hk]
      · rw [hu] at h1; cases h1
theorem root_en (hd : dist its) (hne : ne0 its) {e : En} (h : e ∈ enF its) : rootB its e.b.id = match upid its e.b.id with | none => e.b.id | some c => rootB its c := by
  rcases en_kind hd hne h with ⟨i, hi, eb, hf⟩ | ⟨g, hg, eb, hf, -⟩
  · have e1 : e.b.id = idAt its i := by rw [eb]; rfl
    rw [e1, upid_item hd hi, root_item hd hne hi]
    by_cases hp : pid its i = []
    · rw [if_pos hp, if_pos hp]
    · rw [if_neg hp, if_neg hp]
  · have e1 : e.b.id = g := by rw [eb]; rfl
    rw [e1, upid_none (ghL_none hg)]
    unfold rootB
    rw [ghL_none hg]
    exact if_pos hg
theorem root_none (hd : dist its) (hne : ne0 its) {c : Bytes} (h : findN (forestB its) c = none) : rootB its c = [] := by
  have hno : ∀ e ∈ enF its, e.b.id ≠ c := by
    rintro e he rfl
    rw [findN_en hd hne he] at h; cases h
  unfold rootB
  cases hf : findI its c with
  | some i =>
    obtain ⟨hi, e1⟩ := findI_idAt hf
    obtain ⟨e, he, eb⟩ := en_item hd hne hi
    exact absurd (by rw [eb]; exact e1) (hno e he)
  | none =>
    have : c ∉ ghL its its.length := fun hg => by
      obtain ⟨e, he, eb, -⟩ := en_ghost hd hne hg
      exact hno e he (by rw [eb]; rfl)
    exact if_neg this
end
end Go.Proofs.Y

/- TFo: thread: Forest, whole. -/
namespace Go.Proofs.Y
open Go Go.HL Go.Proofs

def ghB (its : List It) (g : Bytes) : Br := ⟨⟨g, (ghD its its.length g).getD 0, [], [], false⟩, none, 0, 0, true⟩
theorem ghB_pn (its : List It) (g : Bytes) : (ghB its g).pn = ghP its g := rfl
theorem put5b (a b : Value) : v2 (.put 0 5) (.agg #[str [], .int .i64 0, .slice none 0 0, str [], .bool false, .bool false]) (.agg (([str [], Value.int .i64 0, Value.slice none 0 0, str [], Value.bool false].set 0 a).set 1 b).toArray) = .agg [a, b, .slice none 0 0, str [], .bool false, .bool false].toArray := by
  simp [v2, putCells, Array.zipIdx, Value.cells]
theorem cput5b (a b : Value) : c2 (.put 0 5) (.agg #[str [], .int .i64 0, .slice none 0 0, str [], .bool false, .bool false]) (.agg (([str [], Value.int .i64 0, Value.slice none 0 0, str [], Value.bool false].set 0 a).set 1 b).toArray) = True := by
  simp [c2, Value.cells]
theorem sl22 : SlTy Try.prog 22 34 5 72 (.agg #[str [], .int .i64 0, .slice none 0 0, str [], .bool false]) := ⟨by kernel_rfl, by kernel_rfl, rfl, by decide⟩
theorem z25 : (Try.prog.info? 25).bind (·.zero) = some (.slice none 0 0) := by kernel_rfl
theorem z55 : (Try.prog.info? 55).bind (·.zero) = some .nilFunc := by kernel_rfl
theorem z48 : (Try.prog.info? 48).bind (·.zero) = some (.map none) := by kernel_rfl
theorem sz55 : szOf Try.prog 55 = some 1 := by kernel_rfl
theorem sz48 : szOf Try.prog 48 = some 1 := by kernel_rfl

section
variable {w1 w w' : World} {cb b5 gb : Nat} {hs gs : List (Bytes × Value)} {rv : Value} {va : Option Addr} {vc fb : Nat} {its : List It} {rvs : List Value} {next : Value → World → Prop} {QP : List PanicEntry → World → Prop}

/-- what the roots' list and the map of children are, while the ghosts come -/
structure GW (w1 : World) (w : World) (cb b5 : Nat) (hs : List (Bytes × Value)) (rv : Value) (its : List It) (rvs : List Value) (ds : List Bytes) : Prop where
  hm : HM Br.cells 53 6 w w1.heap.size cb hs (chF its rvs its.length)
  bc : Blk w b5 48 [.map (some cb)]
  rt : HL.Own w rv 53 6 (rtL its rvs its.length ++ ds.map (ghB its)).length (HL.rows Br.cells (rtL its rvs its.length ++ ds.map (ghB its)))
  rB : ∀ k, rv.ownBlock = some k → w1.heap.size ≤ k ∧ k ≠ cb ∧ k ≠ b5 ∧ ¬ rowsOf hs k
  rows : ∀ k, rowsOf hs k → k ≠ cb ∧ k ≠ b5
  st : Mod none' w1 w
theorem GW.up {ds : List Bytes} (h : GW w1 w cb b5 hs rv its rvs ds) (m : Mod none' w w') : GW w1 w' cb b5 hs rv its rvs ds :=
  ⟨h.hm.up m, h.bc.mod m fun h => h, h.rt.mod m fun _ _ h => h, h.rB, h.rows, h.st.trans' m⟩
theorem GW.add {ds : List Bytes} {g : Bytes} {v'' : Value} {wa : World} (h : GW w1 w cb b5 hs rv its rvs ds)
    (own : HL.Own wa v'' 53 6 ((rtL its rvs its.length ++ ds.map (ghB its)).length + 1) (HL.rows Br.cells ((rtL its rvs its.length ++ ds.map (ghB its)) ++ [ghB its g]))) (m1 : Mod (ownS rv) w wa) (hf : ∀ k, v''.ownBlock = some k → rv.ownBlock = some k ∨ w.heap.size ≤ k) :
    GW w1 wa cb b5 hs v'' its rvs (ds ++ [g]) := by
  have hbase := h.st.size
  have hcl := h.hm.mp.lt
  have h5l := h.bc.lt
  refine ⟨h.hm.mod m1 (fun ho => (h.rB _ ho).2.1 rfl) fun p hp k hk ho => (h.rB k ho).2.2.2 ⟨p, hp, hk⟩, h.bc.mod m1 (fun ho => (h.rB _ ho).2.2.1 rfl), ?_, fun k hk => ?_, h.rows, h.st.trans m1 fun k hk ho => by have := (h.rB k ho).1; omega⟩
  · rw [List.map_append, ← List.append_assoc, List.length_append]; exact own
  · rcases hf k hk with h1 | h1
    · exact h.rB k h1
    · refine ⟨by omega, by omega, by omega, fun ⟨p, hp, hpk⟩ => ?_⟩
      obtain ⟨l, -, -, ow⟩ := h.hm.val p hp
      have := ow.lt k hpk
      omega

theorem lpG_ {τ : Env} {Q : HX → Env → World → Prop} {r : Nat} (hW : GW w1 w cb b5 hs rv its rvs []) (hn : its.length ≤ 100000) (hr : MI w r gb gs gs none) (hrn : ∀ k, rv.ownBlock = some k → k ≠ r ∧ k ≠ gb) (hr5 : r ≠ b5 ∧ r ≠ cb ∧ ¬ rowsOf hs r) (hr1 : w1.heap.size ≤ r)
    (hgk : gs.map (·.1) = ghL its its.length) (hgv : ∀ g, g ∈ ghL its its.length → getM g gs = (ghD its its.length g).map (Value.int .i64))
    (t4 : τ 4 = ptr b5) (t6 : τ 6 = rv) (t91 : τ 91 = ptr r)
    (k : ∀ σ w' rv' ds, ds.Perm (ghL its its.length) → GW w1 w' cb b5 hs rv' its rvs ds → σ 4 = ptr b5 → σ 6 = rv' → Q (.exit 3) σ w') : hloop (hw Try.prog noPanic h11_11) Q τ w := by
  refine ⟨fun m τ w' => ∃ rem ds cur rv', rem.length = m ∧ τ 4 = ptr b5 ∧ τ 6 = rv' ∧ τ 91 = ptr r ∧ MI w' r gb gs rem cur ∧ (ds ++ rem.map (·.1)).Perm (gs.map (·.1)) ∧ GW w1 w' cb b5 hs rv' its rvs ds ∧ (∀ k, rv'.ownBlock = some k → k ≠ r ∧ k ≠ gb), gs.length, ⟨gs, [], none, rv, rfl, t4, t6, t91, hr, by simp, hW, hrn⟩, ?_⟩
  rintro m τ w2 ⟨rem, ds, cur, rv', rfl, t4, t6, t91, hm2, hper, hW2, hrn2⟩
  unfold h11_11
  try simp only [go_sem, t4, t6, t91]
  refine nextm_ hm2 (fun h0 => ?_) ?_
  · subst h0
    try simp only [go_sem]
    simp only [List.map_nil, List.append_nil] at hper
    rw [hgk] at hper
    exact k _ w2 rv' ds hper hW2 t4 t6
  · intro x rem' w3 hpr hm3 m3 s3
    have hds : ds.length ≤ its.length := by
      have := hper.length_eq
      rw [hgk] at this
      have h2 := ghL_len its its.length
      rw [List.length_append] at this
      omega
    have hxm : x.1 ∈ ghL its its.length := by
      rw [← hgk]
      exact hper.mem_iff.1 (List.mem_append.2 (.inr (List.mem_map.2 ⟨x, hpr.mem_iff.2 (by simp), rfl⟩)))
    have hx2 : x.2 = .int .i64 ((ghD its its.length x.1).getD 0) := by
      have h1 := hgv x.1 hxm
      have hk : (gs.map (·.1)).Nodup := by rw [hgk]; exact ghL_nodup its _
      -- the entry is the map's own
      have hmem : x ∈ gs := by
        obtain ⟨es, clock, seen, -, hes, -, -, -, hlf, -, hc⟩ := hm3
        obtain ⟨e, he, s0, -, hxe⟩ := hc x rfl
        have : pr e ∈ gs.map kv := by rw [← hes]; exact List.mem_map.2 ⟨e, he, rfl⟩
        obtain ⟨z, hz, hze⟩ := List.mem_map.1 this
        rw [hxe] at hze
        rw [← kv_inj hze]; exact hz
      rw [mem_get hk hmem] at h1
      cases hd : ghD its its.length x.1 with
      | none => rw [hd] at h1; cases h1
      | some d => rw [hd] at h1; exact Option.some.inj h1
    have hW3 : GW w1 w3 cb b5 hs rv' its rvs ds := by
      refine ⟨hW2.hm.mod m3 (fun e => hr5.2.1 e.symm) fun p hp k hk e => hr5.2.2 ⟨p, hp, by have e : k = r := e; rw [← e]; exact hk⟩, hW2.bc.mod m3 (fun e => hr5.1 e.symm), hW2.rt.mod m3 fun k hk e => (hrn2 k hk).1 e, hW2.rB, hW2.rows, hW2.st.trans m3 fun k hk e => ?_⟩
      have e : k = r := e
      omega
    try simp only [go_sem]
    unfold h11_12
    try simp only [go_sem, t4, t6, t91]
    refine entry_ hm3 ?_
    try simp only [go_sem, t4, t6, t91, hx2, put5b, cput5b]
    refine ⟨by omega, by simp, by omega, ?_⟩
    refine bsl1 (cs := Br.cells (ghB its x.1)) sl50 rfl rfl (by omega) ?_
    intro b6 w6 hb6 own6 bk6 m6 s6
    have hW6 := hW3.up m6
    have hm6 := hm3.mod m6 (fun h => h) (fun h => h)
    try simp only [go_sem, t4, t6, t91]
    have hrl : (rtL its rvs its.length).length ≤ its.length := by
      unfold rtL
      rw [List.length_map]; exact undN_le its _ []
    refine append_ sl50 hW6.rt own6.sl (Br.one _) (by simp only [List.length_append, List.length_map]; omega) (by simp only [List.length_append, List.length_map]; unfold maxLen; omega) ?_
    intro v7 w7 own7 m7 hf7 _
    have hrows : rows Br.cells (rtL its rvs its.length ++ ds.map (ghB its)) ++ Br.cells (ghB its x.1) = rows Br.cells ((rtL its rvs its.length ++ ds.map (ghB its)) ++ [ghB its x.1]) := by
      rw [rows_app (l := rtL its rvs its.length ++ ds.map (ghB its)), rows_cons, rows_nil, List.append_nil]
    rw [hrows] at own7
    have hW7 := hW6.add own7 m7 hf7
    have hm7 := hm6.mod m7 (fun ho => (hrn2 _ ho).1 rfl) (fun ho => (hrn2 _ ho).2 rfl)
    have hrn7 : ∀ k, v7.ownBlock = some k → k ≠ r ∧ k ≠ gb := fun k hk => by
      rcases hf7 k hk with h | h
      · exact hrn2 k h
      · have := hm6.lt; omega
    have hper7 : ((ds ++ [x.1]) ++ rem'.map (·.1)).Perm (gs.map (·.1)) := by
      refine List.Perm.trans ?_ hper
      rw [List.append_assoc]
      refine List.Perm.append_left ds ?_
      exact (hpr.map (·.1)).symm
    have hlen : rem'.length < rem.length := by rw [hpr.length_eq]; simp
    try simp only [go_sem, t4, t6, t91]
    refine ⟨rem'.length, hlen, rem', ds ++ [x.1], some x, v7, ?_⟩
    (repeat' first | assumption | rfl | omega | apply And.intro)

/-! ### the whole -/
def slcs (its : List It) (rvs : List Value) : Prop := ∀ i, i < its.length → ∃ a b c, rvs[i]? = some (.slice a b c)
theorem Its.slcs {v : Value} (h : Its w v its rvs) : slcs its rvs := fun i hi => by
  have hi2 : i < rvs.length := by rw [h.len]; exact hi
  obtain ⟨ra, rc, e, -⟩ := (h.refs i hi hi2).form
  exact ⟨ra, _, rc, by rw [List.getElem?_eq_getElem hi2, e]⟩
theorem brOf_pn (hs : slcs its rvs) {i : Nat} (hi : i < its.length) : (brOf its rvs i).pn = itP its i := by
  obtain ⟨a, b, c, h⟩ := hs i hi
  rw [brOf_at hi h]
  unfold Br.pn itP
  rw [idAt_at hi, dateAt_at hi]
theorem undN_lt {n : Nat} {p : Bytes} {i : Nat} (h : i ∈ undN its n p) : i < n := by
  unfold undN at h
  simpa using (List.mem_filter.1 h).1
theorem map_pn (hs : slcs its rvs) (p : Bytes) : ((undN its its.length p).map (brOf its rvs)).map Br.pn = (under its p).map (itP its) := by
  rw [List.map_map]
  refine List.map_congr_left fun i hi => ?_
  exact brOf_pn hs (undN_lt hi)
theorem chF_alone (hd : dist its) (hs : slcs its rvs) : Alone (chF its rvs its.length) := by
  intro c x hx y hy e
  unfold chF at hx hy
  by_cases hc : c = []
  · rw [if_pos hc] at hx; cases hx
  · rw [if_neg hc] at hx hy
    obtain ⟨i, hi, rfl⟩ := List.mem_map.1 hx
    obtain ⟨j, hj, rfl⟩ := List.mem_map.1 hy
    have h1 := brOf_pn hs (undN_lt hi)
    have h2 := brOf_pn hs (undN_lt hj)
    have e1 : (brOf its rvs i).pn.id = idAt its i := by rw [h1]; rfl
    have e2 : (brOf its rvs j).pn.id = idAt its j := by rw [h2]; rfl
    have e3 : (brOf its rvs i).pn.id = (brOf its rvs j).pn.id := e
    rw [e1, e2] at e3
    rw [idAt_inj hd (undN_lt hi) (undN_lt hj) e3]
/-- sorted, these are the places under a name -/
theorem sorted_kids (hd : dist its) {p : Bytes} {l : List Br} (h : (l.map Br.pn).Perm (kids0 its p)) (hs : SortedB (fun x y => ltc brC x y) l) : l.map Br.pn = kids its p := by
  obtain ⟨h1, h2⟩ := isortB_ok (lt := befP) befP_irr befP_tr (kids0 its p)
  have hp : (l.map Br.pn).Perm (kids its p) := h.trans h1.symm
  refine sorted_unique (lt := befP) (fun x hx y hy a b => ?_) hp ?_ h2
  · exact kids_alone hd (hp.mem_iff.1 hx) (hp.mem_iff.1 hy) (bef_tri a b).2
  · unfold SortedB
    rw [List.pairwise_map]
    refine hs.imp fun {a b} h => ?_
    rw [← ltc_pn]; exact h
theorem chF_kids (hd : dist its) (hs : slcs its rvs) (c : Bytes) (l : List Br) (h : l.Perm (chF its rvs its.length c)) (hso : SortedB (fun x y => ltc brC x y) l) : l.map Br.pn = chK its c := by
  unfold chF at h
  unfold chK
  by_cases hc : c = []
  · rw [if_pos hc] at h ⊢
    rw [List.Perm.eq_nil h]; rfl
  · rw [if_neg hc] at h ⊢
    refine sorted_kids hd ?_ hso
    unfold kids0
    rw [if_neg hc, List.append_nil, ← map_pn hs]
    exact h.map _

theorem Forest_ {v : Value} (hd : dist its) (hne : ne0 its) (hK : Its w v its rvs) (hz : szI its) (hn : its.length ≤ 100000)
    (k : ∀ v' w', HL.Own w' v' 29 4 (forestB its).length (rows Nd.cells (forestB its)) → (∀ k, v'.ownBlock = some k → w.heap.size ≤ k) → Mod none' w w' → next v' w') : callvK Try.prog (.func (.func 11) #[] #[]) [v] w next QP := by
  refine r11 rfl ?_
  obtain ⟨va, vc, rfl, -, -⟩ := hK.sl.form
  have hsl := hK.slcs
  unfold h11
  try simp only [go_sem]
  refine study_ hd hK hz (by omega) ?_
  intro fb w1 hS m1
  try simp only [go_sem]
  refine mk_ ?_
  intro cb w2 hcb mp2 m2 s2
  try simp only [go_sem]
  refine alloc_ (cs := [.map none]) z48 rfl ?_
  intro b5 w3 hb5 bk3 m3 s3
  try simp only [go_sem]
  refine store1 sz48 bk3 (by simp) rfl ?_
  intro w4 bk4 m4 s4
  have m14 : Mod none' w1 w4 := (m2.trans' m3).trans m4 fun x hx e => by
    have e : x = b5 := e
    omega
  unfold h11_1
  try simp only [go_sem]
  refine mk_ ?_
  intro gb w5 hgb mp5 m5 s5
  have mp2' : Mp w5 cb [] := ((mp2.mod m3 fun h => h).mod m4 fun e => by have e : cb = b5 := e; omega).mod m5 fun h => h
  have bk5 : Blk w5 b5 48 [.map (some cb)] := by simpa using bk4.mod m5 fun h => h
  have hF5 : FW w1 w5 cb b5 gb [] [] (.slice none 0 0) its rvs 0 0 := by
    have e1 : chF its rvs 0 = fun _ => [] := by funext c; unfold chF undN; split <;> simp
    refine ⟨by rw [e1]; exact HM.nil mp2', bk5, mp5, rfl, fun g hg => (by simp [ghL] at hg), ?_, fun k hk => (by cases hk), fun k hk => (by obtain ⟨p, hp, -⟩ := hk; cases hp), ?_, ?_, m14.trans' m5⟩
    · have e2 : rtL its rvs 0 = [] := by unfold rtL undN; simp
      rw [e2]; exact Own.nil _ _ _
    · simp only [List.nodup_cons, List.mem_cons, List.not_mem_nil, or_false, not_or, List.nodup_nil, not_false_eq_true, and_true]; omega
    · simp only [List.mem_cons, List.not_mem_nil, or_false]
      intro k hk
      omega
  try simp only [go_sem]
  refine lpF_ hd hne hS hz hn hF5 rfl rfl rfl rfl rfl rfl rfl rfl ?_
  intro σ w6 hs gs rv hF6 t0 t3 t4 t5 t6
  have hdf := hF6.diff
  simp only [List.nodup_cons, List.mem_cons, List.not_mem_nil, or_false, not_or] at hdf
  obtain ⟨⟨d1, d2⟩, d3, -⟩ := hdf
  try simp only [go_sem]
  unfold h11_10
  try simp only [go_sem, t0, t3, t4, t5, t6]
  refine rangem_ u49 hF6.gm ?_
  intro r w7 hr mi7 m7 s7
  have hF7 := hF6.up m7
  have hW7 : GW w1 w7 cb b5 hs rv its rvs [] := ⟨hF7.hm, hF7.bc, by simpa using hF7.rt, fun k hk => by
    obtain ⟨h1, h2⟩ := hF7.rB k hk
    simp only [List.mem_cons, List.not_mem_nil, or_false, not_or] at h2
    exact ⟨h1, h2.1, h2.2.1, fun hr => (hF7.rows k hr).2 hk⟩, fun k hk => by
    have := (hF7.rows k hk).1
    simp only [List.mem_cons, List.not_mem_nil, or_false, not_or] at this
    exact ⟨this.1, this.2.1⟩, hF7.st⟩
  have hrsz := hF6.st.size
  try simp only [go_sem, t0, t3, t4, t5, t6]
  refine lpG_ (gs := gs) (gb := gb) hW7 hn mi7 (fun k hk => ⟨fun e => by have := hF6.rt.lt k hk; omega, fun e => (hF6.rB k hk).2 (by simp [e])⟩) ⟨by have := hF6.bc.lt; omega, by have := hF6.hm.mp.lt; omega, fun ⟨p, hp, hpk⟩ => by
    obtain ⟨l, -, -, ow⟩ := hF6.hm.val p hp
    have := ow.lt r hpk
    omega⟩ (by omega) hF6.gk hF6.gv t4 t6 rfl ?_
  intro σ w8 rv8 ds hds hW8 t4 t6
  try simp only [go_sem]
  unfold h11_13
  try simp only [go_sem, t4, t6]
  refine alloc_ (cs := [.slice none 0 0]) z25 rfl ?_
  intro b15 w9 hb15 bk9 m9 s9
  try simp only [go_sem, t4, t6]
  refine alloc_ (cs := [.nilFunc]) z55 rfl ?_
  intro b16 w10 hb16 bk10 m10 s10
  try simp only [go_sem, t4, t6]
  refine store1 sz55 bk10 (by simp) rfl ?_
  intro w11 bk11 m11 s11
  have m811 : Mod none' w8 w11 := (m9.trans' m10).trans m11 fun x hx e => by
    have e : x = b16 := e
    omega
  have hW11 := hW8.up m811
  have bk9' : Blk w11 b15 25 [.slice none 0 0] := (bk9.mod m10 fun h => h).mod m11 fun e => by have e : b15 = b16 := e; omega
  let K : WK := ⟨b15, b16, b5, cb, w11.heap.size⟩
  have bk11' : Blk w11 b16 55 [K.f] := by simpa using bk11
  have hcl := hW8.hm.mp.lt
  have h5l := hW8.bc.lt
  have hrl : ∀ k, rowsOf hs k → k < w8.heap.size := fun k ⟨p, hp, hpk⟩ => by
    obtain ⟨l, -, -, ow⟩ := hW8.hm.val p hp
    exact ow.lt k hpk
  have hWS : WS K w11 w1.heap.size hs (chF its rvs its.length) [] := by
    refine ⟨⟨.slice none 0 0, bk9', Own.nil _ _ _, fun k hk => (by cases hk)⟩, bk11', hW11.bc, hW11.hm, ?_, ?_, fun k hk => ⟨?_, ?_⟩, Nat.le_refl _⟩
    · simp only [List.mem_cons, List.not_mem_nil, or_false]
      intro k hk
      show k < w11.heap.size
      rcases hk with h | h | h | h
      · have h : k = b15 := h
        omega
      · have h : k = b16 := h
        omega
      · have h : k = b5 := h
        omega
      · have h : k = cb := h
        omega
    · show [b15, b16, b5, cb].Nodup
      simp only [List.nodup_cons, List.mem_cons, List.not_mem_nil, or_false, not_or, List.nodup_nil, not_false_eq_true, and_true]
      have : b5 ≠ cb := fun e => d1 e.symm
      omega
    · show k < w11.heap.size
      have := hrl k hk
      omega
    · show k ∉ [b15, b16, b5, cb]
      have h1 := hrl k hk
      have h2 := hW8.rows k hk
      simp only [List.mem_cons, List.not_mem_nil, or_false, not_or]
      omega
  have hG : Given K w11 hs (chF its rvs its.length) rv8 (rtL its rvs its.length ++ ds.map (ghB its)) := by
    refine ⟨hW11.rt, .inr fun k hk => ⟨?_, ?_, (hW8.rB k hk).2.2.2⟩⟩
    · show k < w11.heap.size
      have := hW8.rt.lt k hk
      omega
    · show k ∉ [b15, b16, b5, cb]
      have h1 := hW8.rt.lt k hk
      have h2 := hW8.rB k hk
      simp only [List.mem_cons, List.not_mem_nil, or_false, not_or]
      omega
  have hfor : walkF (chK its) (its.length + 2) [] (kids its []) (-1) 0 = forestB its := by
    unfold forestB
    exact walkF_chK hne _ _ _ _ _ fun b hb => kids_id hne hb
  have d11 := bk11'.cell 0
  simp only [List.getElem?_cons_zero] at d11
  try simp only [go_sem, t4, t6, d11]
  refine walk_ (K := K) (ch := chK its) (chF_alone hd hsl) (chF_kids hd hsl) (its.length + 2) (L := kids its []) (out := []) (p := -1) (d := 0) (deepF_chK hne _ _ (fun b hb => kids_id hne hb) (forest_deep hd hne)) ?_ hWS hG ?_ (by omega) (by omega) ?_
  · intro l hl hso
    refine sorted_kids hd ?_ hso
    refine (hl.map _).trans ?_
    rw [List.map_append]
    unfold kids0
    rw [if_pos rfl]
    have e1 : (rtL its rvs its.length).map Br.pn = (under its []).map (itP its) := map_pn hsl []
    have e2 : (ds.map (ghB its)).map Br.pn = ds.map (ghP its) := by rw [List.map_map]; rfl
    rw [e1, e2]
    exact List.Perm.append_left _ (hds.map _)
  · rw [hfor]
    have := forest_len hd hne
    omega
  intro w12 hW12 _ m12
  rw [hfor] at hW12
  obtain ⟨ov, o1, o2, o3⟩ := hW12.ex
  have c12 : w12.cell? ⟨b15, 0, none⟩ = some ov := o1.cell 0
  try simp only [go_sem]
  unfold h11_14
  try simp only [go_sem, c12]
  have hw1 := hW8.st.size
  have hm1 := m1.size
  have m1_11 := hW11.st
  refine k ov w12 o2 (fun k hk => by have : w11.heap.size ≤ k := o3 k hk; have := m1_11.size; omega) ?_
  refine (m1.trans' m1_11).trans m12 fun x hx hS => ?_
  have hx1 : x < w1.heap.size := by omega
  rcases hS with (hS | hS | hS) | hS
  · have hS : x = b15 := hS
    omega
  · have hS : w11.heap.size ≤ x := hS
    have := m1_11.size
    omega
  · obtain ⟨p, hp, hpk⟩ := hS
    have := (hW8.hm.fresh p hp x hpk).1
    omega
  · have := (hW8.rB x hS).1
    omega
end
end Go.Proofs.Y

/- the functions of the program as code over named slots, printed by hl.py -/
set_option maxRecDepth 100000
namespace Go.Proofs.Y
open Go Go.HL Go.Proofs
/- missive/missivelaw21.small -/
def l9_4 : List HS :=
  .need (.n3 .pick (.slot 36) (.slot 44) (.lit (.bool false))) ::
  .asg 5 (.n3 .pick (.slot 36) (.slot 44) (.lit (.bool false))) ::
  []
def l9_5 : List HS :=
  .eff (some 44) (.call { callee := .value (.func 21), args := #[.tmp 38, .tmp 43], argTypes := #[25, 25] }) 4 [(38, .slot 2), (43, .slot 43)] (some (.slot 36, true)) [] ::
  l9_4
def l9_7 : List HS :=
  .need (.n3 .pick (.n3 .pick (.slot 5) (.slot 52) (.lit (.bool false))) (.slot 60) (.lit (.bool false))) ::
  .asg 0 (.n3 .pick (.n3 .pick (.slot 5) (.slot 52) (.lit (.bool false))) (.slot 60) (.lit (.bool false))) ::
  []
def l9_8 : List HS :=
  .eff (some 60) (.call { callee := .value (.func 21), args := #[.tmp 55, .tmp 59], argTypes := #[25, 25] }) 4 [(55, .slot 4), (59, .slot 59)] (some (.n3 .pick (.slot 5) (.slot 52) (.lit (.bool false)), true)) [] ::
  l9_7
def l9_9 : List HS :=
  .need (.n3 .pick (.slot 5) (.slot 52) (.lit (.bool false))) ::
  .need (.gif (.n3 .pick (.slot 5) (.slot 52) (.lit (.bool false))) true (.n2 (.put 0 1) (.lit (.agg #[(str []), (.bool false), (.int .i64 0), (.int .i64 0)])) (.lit (str [99])))) ::
  .need (.gif (.n3 .pick (.slot 5) (.slot 52) (.lit (.bool false))) true (.n2 (.put 2 1) (.n2 (.put 0 1) (.lit (.agg #[(str []), (.bool false), (.int .i64 0), (.int .i64 0)])) (.lit (str [99]))) (.lit (.int .i64 (-1))))) ::
  .need (.gif (.n3 .pick (.slot 5) (.slot 52) (.lit (.bool false))) true (.n2 (.put 0 1) (.lit (.agg #[(str []), (.bool false), (.int .i64 0), (.int .i64 0)])) (.lit (str [97])))) ::
  .need (.gif (.n3 .pick (.slot 5) (.slot 52) (.lit (.bool false))) true (.n2 (.put 2 1) (.n2 (.put 0 1) (.lit (.agg #[(str []), (.bool false), (.int .i64 0), (.int .i64 0)])) (.lit (str [97]))) (.lit (.int .i64 (-1))))) ::
  .need (.gif (.n3 .pick (.slot 5) (.slot 52) (.lit (.bool false))) true (.n2 (.put 0 1) (.lit (.agg #[(str []), (.bool false), (.int .i64 0), (.int .i64 0)])) (.lit (str [98])))) ::
  .need (.gif (.n3 .pick (.slot 5) (.slot 52) (.lit (.bool false))) true (.n2 (.put 2 1) (.n2 (.put 0 1) (.lit (.agg #[(str []), (.bool false), (.int .i64 0), (.int .i64 0)])) (.lit (str [98]))) (.lit (.int .i64 1)))) ::
  .need (.gif (.n3 .pick (.slot 5) (.slot 52) (.lit (.bool false))) true (.n2 (.put 3 1) (.n2 (.put 2 1) (.n2 (.put 0 1) (.lit (.agg #[(str []), (.bool false), (.int .i64 0), (.int .i64 0)])) (.lit (str [98]))) (.lit (.int .i64 1))) (.lit (.int .i64 1)))) ::
  .eff (some 59) (.buildSlice 25 3 #[(0, .tmp 56), (1, .tmp 57), (2, .tmp 58)]) 25 [(56, .n2 (.put 2 1) (.n2 (.put 0 1) (.lit (.agg #[(str []), (.bool false), (.int .i64 0), (.int .i64 0)])) (.lit (str [99]))) (.lit (.int .i64 (-1)))), (57, .n2 (.put 2 1) (.n2 (.put 0 1) (.lit (.agg #[(str []), (.bool false), (.int .i64 0), (.int .i64 0)])) (.lit (str [97]))) (.lit (.int .i64 (-1)))), (58, .n2 (.put 3 1) (.n2 (.put 2 1) (.n2 (.put 0 1) (.lit (.agg #[(str []), (.bool false), (.int .i64 0), (.int .i64 0)])) (.lit (str [98]))) (.lit (.int .i64 1))) (.lit (.int .i64 1)))] (some (.n3 .pick (.slot 5) (.slot 52) (.lit (.bool false)), true)) [] ::
  l9_8
def l9_10 : List HS :=
  .eff (some 52) (.call { callee := .value (.func 21), args := #[.tmp 48, .tmp 51], argTypes := #[25, 25] }) 4 [(48, .slot 3), (51, .slot 51)] (some (.slot 5, true)) [] ::
  l9_9
def h9_6 : HC :=
  (.seq
  (.reg (.need (.gif (.slot 5) true (.n2 (.put 0 1) (.lit (.agg #[(str []), (.bool false), (.int .i64 0), (.int .i64 0)])) (.lit (str [97])))) ::
    .need (.gif (.slot 5) true (.n2 (.put 2 1) (.n2 (.put 0 1) (.lit (.agg #[(str []), (.bool false), (.int .i64 0), (.int .i64 0)])) (.lit (str [97]))) (.lit (.int .i64 (-1))))) ::
    .need (.gif (.slot 5) true (.n2 (.put 0 1) (.lit (.agg #[(str []), (.bool false), (.int .i64 0), (.int .i64 0)])) (.lit (str [98])))) ::
    .need (.gif (.slot 5) true (.n2 (.put 3 1) (.n2 (.put 0 1) (.lit (.agg #[(str []), (.bool false), (.int .i64 0), (.int .i64 0)])) (.lit (str [98]))) (.lit (.int .i64 1)))) ::
    .eff (some 51) (.buildSlice 25 2 #[(0, .tmp 49), (1, .tmp 50)]) 25 [(49, .n2 (.put 2 1) (.n2 (.put 0 1) (.lit (.agg #[(str []), (.bool false), (.int .i64 0), (.int .i64 0)])) (.lit (str [97]))) (.lit (.int .i64 (-1)))), (50, .n2 (.put 3 1) (.n2 (.put 0 1) (.lit (.agg #[(str []), (.bool false), (.int .i64 0), (.int .i64 0)])) (.lit (str [98]))) (.lit (.int .i64 1)))] (some (.slot 5, true)) [] ::
    l9_10))
  .ret)
def h9_3 : HC :=
  (.seq
  (.reg [.need (.n2 (.put 0 1) (.lit (.agg #[(str []), (.int .i64 0), (.slice none 0 0), (str []), (.bool false)])) (.lit (str [97]))),
    .need (.n2 (.put 1 1) (.n2 (.put 0 1) (.lit (.agg #[(str []), (.int .i64 0), (.slice none 0 0), (str []), (.bool false)])) (.lit (str [97]))) (.lit (.int .i64 1))),
    .need (.n2 (.put 3 1) (.n2 (.put 1 1) (.n2 (.put 0 1) (.lit (.agg #[(str []), (.int .i64 0), (.slice none 0 0), (str []), (.bool false)])) (.lit (str [97]))) (.lit (.int .i64 1))) (.lit (str [88]))),
    .need (.n2 (.put 0 1) (.lit (.agg #[(str []), (.int .i64 0), (.slice none 0 0), (str []), (.bool false)])) (.lit (str [98]))),
    .need (.n2 (.put 1 1) (.n2 (.put 0 1) (.lit (.agg #[(str []), (.int .i64 0), (.slice none 0 0), (str []), (.bool false)])) (.lit (str [98]))) (.lit (.int .i64 2))),
    .need (.n2 (.put 3 1) (.n2 (.put 1 1) (.n2 (.put 0 1) (.lit (.agg #[(str []), (.int .i64 0), (.slice none 0 0), (str []), (.bool false)])) (.lit (str [98]))) (.lit (.int .i64 2))) (.lit (str [120]))),
    .need (.n2 (.put 4 1) (.n2 (.put 3 1) (.n2 (.put 1 1) (.n2 (.put 0 1) (.lit (.agg #[(str []), (.int .i64 0), (.slice none 0 0), (str []), (.bool false)])) (.lit (str [98]))) (.lit (.int .i64 2))) (.lit (str [120]))) (.lit (.bool true))),
    .need (.n2 (.put 0 1) (.lit (.agg #[(str []), (.int .i64 0), (.slice none 0 0), (str []), (.bool false)])) (.lit (str [99]))),
    .need (.n2 (.put 3 1) (.n2 (.put 0 1) (.lit (.agg #[(str []), (.int .i64 0), (.slice none 0 0), (str []), (.bool false)])) (.lit (str [99]))) (.lit (str [120]))),
    .need (.n2 (.put 4 1) (.n2 (.put 3 1) (.n2 (.put 0 1) (.lit (.agg #[(str []), (.int .i64 0), (.slice none 0 0), (str []), (.bool false)])) (.lit (str [99]))) (.lit (str [120]))) (.lit (.bool true))),
    .eff (some 29) (.buildSlice 22 3 #[(0, .tmp 26), (1, .tmp 27), (2, .tmp 28)]) 22 [(26, .n2 (.put 3 1) (.n2 (.put 1 1) (.n2 (.put 0 1) (.lit (.agg #[(str []), (.int .i64 0), (.slice none 0 0), (str []), (.bool false)])) (.lit (str [97]))) (.lit (.int .i64 1))) (.lit (str [88]))), (27, .n2 (.put 4 1) (.n2 (.put 3 1) (.n2 (.put 1 1) (.n2 (.put 0 1) (.lit (.agg #[(str []), (.int .i64 0), (.slice none 0 0), (str []), (.bool false)])) (.lit (str [98]))) (.lit (.int .i64 2))) (.lit (str [120]))) (.lit (.bool true))), (28, .n2 (.put 4 1) (.n2 (.put 3 1) (.n2 (.put 0 1) (.lit (.agg #[(str []), (.int .i64 0), (.slice none 0 0), (str []), (.bool false)])) (.lit (str [99]))) (.lit (str [120]))) (.lit (.bool true)))] none [],
    .eff (some 30) (.call { callee := .value (.func 11), args := #[.tmp 29], argTypes := #[22] }) 25 [(29, .slot 29)] none [],
    .asg 4 (.slot 30)])
  (.seq
  (.reg (.need (.n2 (.put 0 1) (.lit (.agg #[(str []), (.bool false), (.int .i64 0), (.int .i64 0)])) (.lit (str [97]))) ::
    .need (.n2 (.put 2 1) (.n2 (.put 0 1) (.lit (.agg #[(str []), (.bool false), (.int .i64 0), (.int .i64 0)])) (.lit (str [97]))) (.lit (.int .i64 (-1)))) ::
    .need (.n2 (.put 0 1) (.lit (.agg #[(str []), (.bool false), (.int .i64 0), (.int .i64 0)])) (.lit (str [98]))) ::
    .need (.n2 (.put 3 1) (.n2 (.put 0 1) (.lit (.agg #[(str []), (.bool false), (.int .i64 0), (.int .i64 0)])) (.lit (str [98]))) (.lit (.int .i64 1))) ::
    .need (.n2 (.put 0 1) (.lit (.agg #[(str []), (.bool false), (.int .i64 0), (.int .i64 0)])) (.lit (str [99]))) ::
    .need (.n2 (.put 2 1) (.n2 (.put 0 1) (.lit (.agg #[(str []), (.bool false), (.int .i64 0), (.int .i64 0)])) (.lit (str [99]))) (.lit (.int .i64 1))) ::
    .need (.n2 (.put 3 1) (.n2 (.put 2 1) (.n2 (.put 0 1) (.lit (.agg #[(str []), (.bool false), (.int .i64 0), (.int .i64 0)])) (.lit (str [99]))) (.lit (.int .i64 1))) (.lit (.int .i64 2))) ::
    .eff (some 35) (.buildSlice 25 3 #[(0, .tmp 32), (1, .tmp 33), (2, .tmp 34)]) 25 [(32, .n2 (.put 2 1) (.n2 (.put 0 1) (.lit (.agg #[(str []), (.bool false), (.int .i64 0), (.int .i64 0)])) (.lit (str [97]))) (.lit (.int .i64 (-1)))), (33, .n2 (.put 3 1) (.n2 (.put 0 1) (.lit (.agg #[(str []), (.bool false), (.int .i64 0), (.int .i64 0)])) (.lit (str [98]))) (.lit (.int .i64 1))), (34, .n2 (.put 3 1) (.n2 (.put 2 1) (.n2 (.put 0 1) (.lit (.agg #[(str []), (.bool false), (.int .i64 0), (.int .i64 0)])) (.lit (str [99]))) (.lit (.int .i64 1))) (.lit (.int .i64 2)))] none [] ::
    .eff (some 36) (.call { callee := .value (.func 21), args := #[.tmp 31, .tmp 35], argTypes := #[25, 25] }) 4 [(31, .slot 1), (35, .slot 35)] none [] ::
    .need (.gif (.slot 36) true (.n2 (.put 0 1) (.lit (.agg #[(str []), (.bool false), (.int .i64 0), (.int .i64 0)])) (.lit (str [100])))) ::
    .need (.gif (.slot 36) true (.n2 (.put 2 1) (.n2 (.put 0 1) (.lit (.agg #[(str []), (.bool false), (.int .i64 0), (.int .i64 0)])) (.lit (str [100]))) (.lit (.int .i64 (-1))))) ::
    .need (.gif (.slot 36) true (.n2 (.put 0 1) (.lit (.agg #[(str []), (.bool false), (.int .i64 0), (.int .i64 0)])) (.lit (str [97])))) ::
    .need (.gif (.slot 36) true (.n2 (.put 1 1) (.n2 (.put 0 1) (.lit (.agg #[(str []), (.bool false), (.int .i64 0), (.int .i64 0)])) (.lit (str [97]))) (.lit (.bool true)))) ::
    .need (.gif (.slot 36) true (.n2 (.put 2 1) (.n2 (.put 1 1) (.n2 (.put 0 1) (.lit (.agg #[(str []), (.bool false), (.int .i64 0), (.int .i64 0)])) (.lit (str [97]))) (.lit (.bool true))) (.lit (.int .i64 (-1))))) ::
    .need (.gif (.slot 36) true (.n2 (.put 0 1) (.lit (.agg #[(str []), (.bool false), (.int .i64 0), (.int .i64 0)])) (.lit (str [98])))) ::
    .need (.gif (.slot 36) true (.n2 (.put 2 1) (.n2 (.put 0 1) (.lit (.agg #[(str []), (.bool false), (.int .i64 0), (.int .i64 0)])) (.lit (str [98]))) (.lit (.int .i64 1)))) ::
    .need (.gif (.slot 36) true (.n2 (.put 3 1) (.n2 (.put 2 1) (.n2 (.put 0 1) (.lit (.agg #[(str []), (.bool false), (.int .i64 0), (.int .i64 0)])) (.lit (str [98]))) (.lit (.int .i64 1))) (.lit (.int .i64 1)))) ::
    .need (.gif (.slot 36) true (.n2 (.put 0 1) (.lit (.agg #[(str []), (.bool false), (.int .i64 0), (.int .i64 0)])) (.lit (str [99])))) ::
    .need (.gif (.slot 36) true (.n2 (.put 2 1) (.n2 (.put 0 1) (.lit (.agg #[(str []), (.bool false), (.int .i64 0), (.int .i64 0)])) (.lit (str [99]))) (.lit (.int .i64 1)))) ::
    .need (.gif (.slot 36) true (.n2 (.put 3 1) (.n2 (.put 2 1) (.n2 (.put 0 1) (.lit (.agg #[(str []), (.bool false), (.int .i64 0), (.int .i64 0)])) (.lit (str [99]))) (.lit (.int .i64 1))) (.lit (.int .i64 1)))) ::
    .eff (some 43) (.buildSlice 25 4 #[(0, .tmp 39), (1, .tmp 40), (2, .tmp 41), (3, .tmp 42)]) 25 [(39, .n2 (.put 2 1) (.n2 (.put 0 1) (.lit (.agg #[(str []), (.bool false), (.int .i64 0), (.int .i64 0)])) (.lit (str [100]))) (.lit (.int .i64 (-1)))), (40, .n2 (.put 2 1) (.n2 (.put 1 1) (.n2 (.put 0 1) (.lit (.agg #[(str []), (.bool false), (.int .i64 0), (.int .i64 0)])) (.lit (str [97]))) (.lit (.bool true))) (.lit (.int .i64 (-1)))), (41, .n2 (.put 3 1) (.n2 (.put 2 1) (.n2 (.put 0 1) (.lit (.agg #[(str []), (.bool false), (.int .i64 0), (.int .i64 0)])) (.lit (str [98]))) (.lit (.int .i64 1))) (.lit (.int .i64 1))), (42, .n2 (.put 3 1) (.n2 (.put 2 1) (.n2 (.put 0 1) (.lit (.agg #[(str []), (.bool false), (.int .i64 0), (.int .i64 0)])) (.lit (str [99]))) (.lit (.int .i64 1))) (.lit (.int .i64 1)))] (some (.slot 36, true)) [] ::
    l9_5))
  h9_6))
def h9_2 : HC :=
  (.seq
  (.reg [.eff (some 20) (.buildSlice 32 1 #[(0, .const (str [98]))]) 32 [] none [],
    .need (.n2 (.put 0 1) (.lit (.agg #[(str []), (.int .i64 0), (.slice none 0 0), (str []), (.bool false)])) (.lit (str [97]))),
    .need (.n2 (.put 1 1) (.n2 (.put 0 1) (.lit (.agg #[(str []), (.int .i64 0), (.slice none 0 0), (str []), (.bool false)])) (.lit (str [97]))) (.lit (.int .i64 1))),
    .need (.n2 (.put 2 1) (.n2 (.put 1 1) (.n2 (.put 0 1) (.lit (.agg #[(str []), (.int .i64 0), (.slice none 0 0), (str []), (.bool false)])) (.lit (str [97]))) (.lit (.int .i64 1))) (.slot 20)),
    .need (.n2 (.put 3 1) (.n2 (.put 2 1) (.n2 (.put 1 1) (.n2 (.put 0 1) (.lit (.agg #[(str []), (.int .i64 0), (.slice none 0 0), (str []), (.bool false)])) (.lit (str [97]))) (.lit (.int .i64 1))) (.slot 20)) (.lit (str [120]))),
    .eff (some 22) (.buildSlice 32 1 #[(0, .const (str [97]))]) 32 [] none [],
    .need (.n2 (.put 0 1) (.lit (.agg #[(str []), (.int .i64 0), (.slice none 0 0), (str []), (.bool false)])) (.lit (str [98]))),
    .need (.n2 (.put 1 1) (.n2 (.put 0 1) (.lit (.agg #[(str []), (.int .i64 0), (.slice none 0 0), (str []), (.bool false)])) (.lit (str [98]))) (.lit (.int .i64 2))),
    .need (.n2 (.put 2 1) (.n2 (.put 1 1) (.n2 (.put 0 1) (.lit (.agg #[(str []), (.int .i64 0), (.slice none 0 0), (str []), (.bool false)])) (.lit (str [98]))) (.lit (.int .i64 2))) (.slot 22)),
    .need (.n2 (.put 3 1) (.n2 (.put 2 1) (.n2 (.put 1 1) (.n2 (.put 0 1) (.lit (.agg #[(str []), (.int .i64 0), (.slice none 0 0), (str []), (.bool false)])) (.lit (str [98]))) (.lit (.int .i64 2))) (.slot 22)) (.lit (str [120]))),
    .eff (some 24) (.buildSlice 22 2 #[(0, .tmp 21), (1, .tmp 23)]) 22 [(21, .n2 (.put 3 1) (.n2 (.put 2 1) (.n2 (.put 1 1) (.n2 (.put 0 1) (.lit (.agg #[(str []), (.int .i64 0), (.slice none 0 0), (str []), (.bool false)])) (.lit (str [97]))) (.lit (.int .i64 1))) (.slot 20)) (.lit (str [120]))), (23, .n2 (.put 3 1) (.n2 (.put 2 1) (.n2 (.put 1 1) (.n2 (.put 0 1) (.lit (.agg #[(str []), (.int .i64 0), (.slice none 0 0), (str []), (.bool false)])) (.lit (str [98]))) (.lit (.int .i64 2))) (.slot 22)) (.lit (str [120])))] none [],
    .eff (some 25) (.call { callee := .value (.func 11), args := #[.tmp 24], argTypes := #[22] }) 25 [(24, .slot 24)] none [],
    .asg 3 (.slot 25)])
  h9_3)
def h9_1 : HC :=
  (.seq
  (.reg [.eff (some 13) (.buildSlice 32 1 #[(0, .const (str [97]))]) 32 [] none [],
    .need (.n2 (.put 0 1) (.lit (.agg #[(str []), (.int .i64 0), (.slice none 0 0), (str []), (.bool false)])) (.lit (str [98]))),
    .need (.n2 (.put 1 1) (.n2 (.put 0 1) (.lit (.agg #[(str []), (.int .i64 0), (.slice none 0 0), (str []), (.bool false)])) (.lit (str [98]))) (.lit (.int .i64 2))),
    .need (.n2 (.put 2 1) (.n2 (.put 1 1) (.n2 (.put 0 1) (.lit (.agg #[(str []), (.int .i64 0), (.slice none 0 0), (str []), (.bool false)])) (.lit (str [98]))) (.lit (.int .i64 2))) (.slot 13)),
    .need (.n2 (.put 3 1) (.n2 (.put 2 1) (.n2 (.put 1 1) (.n2 (.put 0 1) (.lit (.agg #[(str []), (.int .i64 0), (.slice none 0 0), (str []), (.bool false)])) (.lit (str [98]))) (.lit (.int .i64 2))) (.slot 13)) (.lit (str [120]))),
    .need (.n2 (.put 4 1) (.n2 (.put 3 1) (.n2 (.put 2 1) (.n2 (.put 1 1) (.n2 (.put 0 1) (.lit (.agg #[(str []), (.int .i64 0), (.slice none 0 0), (str []), (.bool false)])) (.lit (str [98]))) (.lit (.int .i64 2))) (.slot 13)) (.lit (str [120]))) (.lit (.bool true))),
    .eff (some 15) (.buildSlice 32 1 #[(0, .const (str [97]))]) 32 [] none [],
    .need (.n2 (.put 0 1) (.lit (.agg #[(str []), (.int .i64 0), (.slice none 0 0), (str []), (.bool false)])) (.lit (str [99]))),
    .need (.n2 (.put 1 1) (.n2 (.put 0 1) (.lit (.agg #[(str []), (.int .i64 0), (.slice none 0 0), (str []), (.bool false)])) (.lit (str [99]))) (.lit (.int .i64 3))),
    .need (.n2 (.put 2 1) (.n2 (.put 1 1) (.n2 (.put 0 1) (.lit (.agg #[(str []), (.int .i64 0), (.slice none 0 0), (str []), (.bool false)])) (.lit (str [99]))) (.lit (.int .i64 3))) (.slot 15)),
    .need (.n2 (.put 3 1) (.n2 (.put 2 1) (.n2 (.put 1 1) (.n2 (.put 0 1) (.lit (.agg #[(str []), (.int .i64 0), (.slice none 0 0), (str []), (.bool false)])) (.lit (str [99]))) (.lit (.int .i64 3))) (.slot 15)) (.lit (str [120]))),
    .need (.n2 (.put 4 1) (.n2 (.put 3 1) (.n2 (.put 2 1) (.n2 (.put 1 1) (.n2 (.put 0 1) (.lit (.agg #[(str []), (.int .i64 0), (.slice none 0 0), (str []), (.bool false)])) (.lit (str [99]))) (.lit (.int .i64 3))) (.slot 15)) (.lit (str [120]))) (.lit (.bool true))),
    .need (.n2 (.put 0 1) (.lit (.agg #[(str []), (.int .i64 0), (.slice none 0 0), (str []), (.bool false)])) (.lit (str [100]))),
    .need (.n2 (.put 1 1) (.n2 (.put 0 1) (.lit (.agg #[(str []), (.int .i64 0), (.slice none 0 0), (str []), (.bool false)])) (.lit (str [100]))) (.lit (.int .i64 1))),
    .need (.n2 (.put 3 1) (.n2 (.put 1 1) (.n2 (.put 0 1) (.lit (.agg #[(str []), (.int .i64 0), (.slice none 0 0), (str []), (.bool false)])) (.lit (str [100]))) (.lit (.int .i64 1))) (.lit (str [121]))),
    .eff (some 18) (.buildSlice 22 3 #[(0, .tmp 14), (1, .tmp 16), (2, .tmp 17)]) 22 [(14, .n2 (.put 4 1) (.n2 (.put 3 1) (.n2 (.put 2 1) (.n2 (.put 1 1) (.n2 (.put 0 1) (.lit (.agg #[(str []), (.int .i64 0), (.slice none 0 0), (str []), (.bool false)])) (.lit (str [98]))) (.lit (.int .i64 2))) (.slot 13)) (.lit (str [120]))) (.lit (.bool true))), (16, .n2 (.put 4 1) (.n2 (.put 3 1) (.n2 (.put 2 1) (.n2 (.put 1 1) (.n2 (.put 0 1) (.lit (.agg #[(str []), (.int .i64 0), (.slice none 0 0), (str []), (.bool false)])) (.lit (str [99]))) (.lit (.int .i64 3))) (.slot 15)) (.lit (str [120]))) (.lit (.bool true))), (17, .n2 (.put 3 1) (.n2 (.put 1 1) (.n2 (.put 0 1) (.lit (.agg #[(str []), (.int .i64 0), (.slice none 0 0), (str []), (.bool false)])) (.lit (str [100]))) (.lit (.int .i64 1))) (.lit (str [121])))] none [],
    .eff (some 19) (.call { callee := .value (.func 11), args := #[.tmp 18], argTypes := #[22] }) 25 [(18, .slot 18)] none [],
    .asg 2 (.slot 19)])
  h9_2)
def h9 : HC :=
  (.seq
  (.reg [.asg 0 (.lit (.bool false))])
  (.seq
  (.reg [.eff (some 6) (.buildSlice 32 2 #[(0, .const (str [97])), (1, .const (str [98]))]) 32 [] none [],
    .need (.n2 (.put 0 1) (.lit (.agg #[(str []), (.int .i64 0), (.slice none 0 0), (str []), (.bool false)])) (.lit (str [99]))),
    .need (.n2 (.put 1 1) (.n2 (.put 0 1) (.lit (.agg #[(str []), (.int .i64 0), (.slice none 0 0), (str []), (.bool false)])) (.lit (str [99]))) (.lit (.int .i64 3))),
    .need (.n2 (.put 2 1) (.n2 (.put 1 1) (.n2 (.put 0 1) (.lit (.agg #[(str []), (.int .i64 0), (.slice none 0 0), (str []), (.bool false)])) (.lit (str [99]))) (.lit (.int .i64 3))) (.slot 6)),
    .need (.n2 (.put 3 1) (.n2 (.put 2 1) (.n2 (.put 1 1) (.n2 (.put 0 1) (.lit (.agg #[(str []), (.int .i64 0), (.slice none 0 0), (str []), (.bool false)])) (.lit (str [99]))) (.lit (.int .i64 3))) (.slot 6)) (.lit (str [120]))),
    .need (.n2 (.put 4 1) (.n2 (.put 3 1) (.n2 (.put 2 1) (.n2 (.put 1 1) (.n2 (.put 0 1) (.lit (.agg #[(str []), (.int .i64 0), (.slice none 0 0), (str []), (.bool false)])) (.lit (str [99]))) (.lit (.int .i64 3))) (.slot 6)) (.lit (str [120]))) (.lit (.bool true))),
    .need (.n2 (.put 0 1) (.lit (.agg #[(str []), (.int .i64 0), (.slice none 0 0), (str []), (.bool false)])) (.lit (str [97]))),
    .need (.n2 (.put 1 1) (.n2 (.put 0 1) (.lit (.agg #[(str []), (.int .i64 0), (.slice none 0 0), (str []), (.bool false)])) (.lit (str [97]))) (.lit (.int .i64 1))),
    .need (.n2 (.put 3 1) (.n2 (.put 1 1) (.n2 (.put 0 1) (.lit (.agg #[(str []), (.int .i64 0), (.slice none 0 0), (str []), (.bool false)])) (.lit (str [97]))) (.lit (.int .i64 1))) (.lit (str [120]))),
    .eff (some 9) (.buildSlice 32 1 #[(0, .const (str [97]))]) 32 [] none [],
    .need (.n2 (.put 0 1) (.lit (.agg #[(str []), (.int .i64 0), (.slice none 0 0), (str []), (.bool false)])) (.lit (str [98]))),
    .need (.n2 (.put 1 1) (.n2 (.put 0 1) (.lit (.agg #[(str []), (.int .i64 0), (.slice none 0 0), (str []), (.bool false)])) (.lit (str [98]))) (.lit (.int .i64 2))),
    .need (.n2 (.put 2 1) (.n2 (.put 1 1) (.n2 (.put 0 1) (.lit (.agg #[(str []), (.int .i64 0), (.slice none 0 0), (str []), (.bool false)])) (.lit (str [98]))) (.lit (.int .i64 2))) (.slot 9)),
    .need (.n2 (.put 3 1) (.n2 (.put 2 1) (.n2 (.put 1 1) (.n2 (.put 0 1) (.lit (.agg #[(str []), (.int .i64 0), (.slice none 0 0), (str []), (.bool false)])) (.lit (str [98]))) (.lit (.int .i64 2))) (.slot 9)) (.lit (str [120]))),
    .need (.n2 (.put 4 1) (.n2 (.put 3 1) (.n2 (.put 2 1) (.n2 (.put 1 1) (.n2 (.put 0 1) (.lit (.agg #[(str []), (.int .i64 0), (.slice none 0 0), (str []), (.bool false)])) (.lit (str [98]))) (.lit (.int .i64 2))) (.slot 9)) (.lit (str [120]))) (.lit (.bool true))),
    .eff (some 11) (.buildSlice 22 3 #[(0, .tmp 7), (1, .tmp 8), (2, .tmp 10)]) 22 [(7, .n2 (.put 4 1) (.n2 (.put 3 1) (.n2 (.put 2 1) (.n2 (.put 1 1) (.n2 (.put 0 1) (.lit (.agg #[(str []), (.int .i64 0), (.slice none 0 0), (str []), (.bool false)])) (.lit (str [99]))) (.lit (.int .i64 3))) (.slot 6)) (.lit (str [120]))) (.lit (.bool true))), (8, .n2 (.put 3 1) (.n2 (.put 1 1) (.n2 (.put 0 1) (.lit (.agg #[(str []), (.int .i64 0), (.slice none 0 0), (str []), (.bool false)])) (.lit (str [97]))) (.lit (.int .i64 1))) (.lit (str [120]))), (10, .n2 (.put 4 1) (.n2 (.put 3 1) (.n2 (.put 2 1) (.n2 (.put 1 1) (.n2 (.put 0 1) (.lit (.agg #[(str []), (.int .i64 0), (.slice none 0 0), (str []), (.bool false)])) (.lit (str [98]))) (.lit (.int .i64 2))) (.slot 9)) (.lit (str [120]))) (.lit (.bool true)))] none [],
    .eff (some 12) (.call { callee := .value (.func 11), args := #[.tmp 11], argTypes := #[22] }) 25 [(11, .slot 11)] none [],
    .asg 1 (.slot 12)])
  h9_1))
theorem k9 : fnOK Try.prog 1736164149376629375 [] [.tmp 0] 0 Try.f9 = some h9 := by kernel_rfl
theorem c9 : callable Try.prog 9 = true := by kernel_rfl
theorem q9 {args : List Value} (ha : args.length = 0) {w : World} {next : Value → World → Prop} {QP : List PanicEntry → World → Prop} (H : hw Try.prog noPanic h9 (endV [.tmp 0] next) (σ0 args) w) : callK Try.prog 9 args w next QP := fn_rule Try.func9 mixed k9 ha H
theorem r9 {args : List Value} (ha : args.length = 0) {w : World} {next : Value → World → Prop} {QP : List PanicEntry → World → Prop} (H : hw Try.prog noPanic h9 (endV [.tmp 0] next) (σ0 args) w) : callvK Try.prog (.func (.func 9) #[] #[]) args w next QP := callf c9 (q9 ha H)

/- missive/missivelaw21.few -/
def h10_4 : HC :=
  (.reg [.need (.n2 (.bin .add) (.slot 3) (.lit (.int .i64 1))),
    .asg 3 (.n2 (.bin .add) (.slot 3) (.lit (.int .i64 1)))])
def h10_3 : HC :=
  (.seq
  (.block 1
    (.seq
    (.reg [.need (.n2 (.iaddr 5) (.slot 0) (.slot 3)),
      .need (.n1 (.faddr 2) (.n2 (.iaddr 5) (.slot 0) (.slot 3))),
      .need (.n1 .ld (.n1 (.faddr 2) (.n2 (.iaddr 5) (.slot 0) (.slot 3)))),
      .need (.n1 .lensl (.n1 .ld (.n1 (.faddr 2) (.n2 (.iaddr 5) (.slot 0) (.slot 3))))),
      .need (.n2 (.bin .gtr) (.n1 .lensl (.n1 .ld (.n1 (.faddr 2) (.n2 (.iaddr 5) (.slot 0) (.slot 3))))) (.lit (.int .i64 20))),
      .need (.gif (.n2 (.bin .gtr) (.n1 .lensl (.n1 .ld (.n1 (.faddr 2) (.n2 (.iaddr 5) (.slot 0) (.slot 3))))) (.lit (.int .i64 20))) false (.n2 (.iaddr 5) (.slot 0) (.slot 3))),
      .need (.gif (.n2 (.bin .gtr) (.n1 .lensl (.n1 .ld (.n1 (.faddr 2) (.n2 (.iaddr 5) (.slot 0) (.slot 3))))) (.lit (.int .i64 20))) false (.n1 (.faddr 3) (.n2 (.iaddr 5) (.slot 0) (.slot 3)))),
      .need (.gif (.n2 (.bin .gtr) (.n1 .lensl (.n1 .ld (.n1 (.faddr 2) (.n2 (.iaddr 5) (.slot 0) (.slot 3))))) (.lit (.int .i64 20))) false (.n1 .ld (.n1 (.faddr 3) (.n2 (.iaddr 5) (.slot 0) (.slot 3))))),
      .need (.gif (.n2 (.bin .gtr) (.n1 .lensl (.n1 .ld (.n1 (.faddr 2) (.n2 (.iaddr 5) (.slot 0) (.slot 3))))) (.lit (.int .i64 20))) false (.n1 .lens (.n1 .ld (.n1 (.faddr 3) (.n2 (.iaddr 5) (.slot 0) (.slot 3)))))),
      .need (.gif (.n2 (.bin .gtr) (.n1 .lensl (.n1 .ld (.n1 (.faddr 2) (.n2 (.iaddr 5) (.slot 0) (.slot 3))))) (.lit (.int .i64 20))) false (.n2 (.bin .gtr) (.n1 .lens (.n1 .ld (.n1 (.faddr 3) (.n2 (.iaddr 5) (.slot 0) (.slot 3))))) (.lit (.int .i64 200)))),
      .need (.n3 .pick (.n2 (.bin .gtr) (.n1 .lensl (.n1 .ld (.n1 (.faddr 2) (.n2 (.iaddr 5) (.slot 0) (.slot 3))))) (.lit (.int .i64 20))) (.lit (.bool true)) (.n2 (.bin .gtr) (.n1 .lens (.n1 .ld (.n1 (.faddr 3) (.n2 (.iaddr 5) (.slot 0) (.slot 3))))) (.lit (.int .i64 200)))),
      .asg 33 (.n3 .pick (.n2 (.bin .gtr) (.n1 .lensl (.n1 .ld (.n1 (.faddr 2) (.n2 (.iaddr 5) (.slot 0) (.slot 3))))) (.lit (.int .i64 20))) (.lit (.bool true)) (.n2 (.bin .gtr) (.n1 .lens (.n1 .ld (.n1 (.faddr 3) (.n2 (.iaddr 5) (.slot 0) (.slot 3))))) (.lit (.int .i64 200))))])
    (.cond (.slot 33)
      (.seq
      (.reg [.asg 2 (.lit (.bool false))])
      .ret)
      .skip)))
  h10_4)
def h10_2 : HC :=
  (.seq
  (.seq
  (.reg [.need (.n1 .lensl (.slot 0)),
    .need (.n2 (.bin .lss) (.slot 3) (.n1 .lensl (.slot 0))),
    .asg 15 (.n2 (.bin .lss) (.slot 3) (.n1 .lensl (.slot 0)))])
  (.cond (.slot 15)
    .skip
    (.exit 0)))
  h10_3)
def h10_5 : HC :=
  (.seq
  (.reg [.asg 2 (.lit (.bool true))])
  .ret)
def h10_1 : HC :=
  (.seq
  (.seq
  (.reg [.asg 3 (.lit (.int .i64 0))])
  (.block 0
    (.loop
      h10_2)))
  h10_5)
def h10 : HC :=
  (.seq
  (.reg [.asg 2 (.lit (.bool false))])
  (.seq
  (.seq
  (.reg [.need (.n1 .lensl (.slot 0)),
    .need (.n2 (.bin .gtr) (.n1 .lensl (.slot 0)) (.lit (.int .i64 40))),
    .eff (some 9) (.call { callee := .value (.func 26), args := #[.tmp 8], argTypes := #[22] }) 4 [(8, .slot 0)] (some (.n2 (.bin .gtr) (.n1 .lensl (.slot 0)) (.lit (.int .i64 40)), false)) [],
    .need (.gif (.n2 (.bin .gtr) (.n1 .lensl (.slot 0)) (.lit (.int .i64 40))) false (.n1 .bnot (.slot 9))),
    .need (.n3 .pick (.n2 (.bin .gtr) (.n1 .lensl (.slot 0)) (.lit (.int .i64 40))) (.lit (.bool true)) (.n1 .bnot (.slot 9))),
    .asg 11 (.n3 .pick (.n2 (.bin .gtr) (.n1 .lensl (.slot 0)) (.lit (.int .i64 40))) (.lit (.bool true)) (.n1 .bnot (.slot 9)))])
  (.cond (.slot 11)
    (.seq
    (.reg [.asg 2 (.lit (.bool false))])
    .ret)
    .skip))
  h10_1))
theorem k10 : fnOK Try.prog 8589969933 [] [.tmp 2] 1 Try.f10 = some h10 := by kernel_rfl
theorem c10 : callable Try.prog 10 = true := by kernel_rfl
theorem q10 {args : List Value} (ha : args.length = 1) {w : World} {next : Value → World → Prop} {QP : List PanicEntry → World → Prop} (H : hw Try.prog noPanic h10 (endV [.tmp 2] next) (σ0 args) w) : callK Try.prog 10 args w next QP := fn_rule Try.func10 mixed k10 ha H
theorem r10 {args : List Value} (ha : args.length = 1) {w : World} {next : Value → World → Prop} {QP : List PanicEntry → World → Prop} (H : hw Try.prog noPanic h10 (endV [.tmp 2] next) (σ0 args) w) : callvK Try.prog (.func (.func 10) #[] #[]) args w next QP := callf c10 (q10 ha H)

/- missive/missivelaw21.find -/
def h13_3 : HC :=
  (.reg [.need (.n2 (.bin .add) (.slot 5) (.lit (.int .i64 1))),
    .asg 5 (.n2 (.bin .add) (.slot 5) (.lit (.int .i64 1)))])
def h13_2 : HC :=
  (.seq
  (.block 1
    (.seq
    (.reg [.need (.n2 (.iaddr 4) (.slot 0) (.slot 5)),
      .need (.n1 (.faddr 0) (.n2 (.iaddr 4) (.slot 0) (.slot 5))),
      .need (.n1 .ld (.n1 (.faddr 0) (.n2 (.iaddr 4) (.slot 0) (.slot 5)))),
      .need (.n2 (.sbin .eql) (.n1 .ld (.n1 (.faddr 0) (.n2 (.iaddr 4) (.slot 0) (.slot 5)))) (.slot 1)),
      .asg 18 (.n2 (.sbin .eql) (.n1 .ld (.n1 (.faddr 0) (.n2 (.iaddr 4) (.slot 0) (.slot 5)))) (.slot 1))])
    (.cond (.slot 18)
      (.seq
      (.reg [.asg 4 (.slot 5)])
      .ret)
      .skip)))
  h13_3)
def h13_1 : HC :=
  (.seq
  (.seq
  (.reg [.need (.n1 .lensl (.slot 0)),
    .need (.n2 (.bin .lss) (.slot 5) (.n1 .lensl (.slot 0))),
    .asg 9 (.n2 (.bin .lss) (.slot 5) (.n1 .lensl (.slot 0)))])
  (.cond (.slot 9)
    .skip
    (.exit 0)))
  h13_2)
def h13_4 : HC :=
  (.seq
  (.reg [.asg 4 (.lit (.int .i64 (-1)))])
  .ret)
def h13 : HC :=
  (.seq
  (.reg [.asg 4 (.lit (.int .i64 0))])
  (.seq
  (.seq
  (.reg [.asg 5 (.lit (.int .i64 0))])
  (.block 0
    (.loop
      h13_1)))
  h13_4))
theorem k13 : fnOK Try.prog 262707 [] [.tmp 4] 2 Try.f13 = some h13 := by kernel_rfl
theorem c13 : callable Try.prog 13 = true := by kernel_rfl
theorem q13 {args : List Value} (ha : args.length = 2) {w : World} {next : Value → World → Prop} {QP : List PanicEntry → World → Prop} (H : hw Try.prog noPanic h13 (endV [.tmp 4] next) (σ0 args) w) : callK Try.prog 13 args w next QP := fn_rule Try.func13 mixed k13 ha H
theorem r13 {args : List Value} (ha : args.length = 2) {w : World} {next : Value → World → Prop} {QP : List PanicEntry → World → Prop} (H : hw Try.prog noPanic h13 (endV [.tmp 4] next) (σ0 args) w) : callvK Try.prog (.func (.func 13) #[] #[]) args w next QP := callf c13 (q13 ha H)

/- missive/missivelaw21.circle -/
def h18_3 : HC :=
  (.reg [.eff (some 38) (.call { callee := .value (.func 17), args := #[.tmp 36, .tmp 37], argTypes := #[22, 3] }) 3 [(36, .slot 0), (37, .slot 5)] none [],
    .asg 5 (.slot 38)])
def h18_4 : HC :=
  (.reg [.need (.n2 (.bin .add) (.slot 6) (.lit (.int .i64 1))),
    .asg 6 (.n2 (.bin .add) (.slot 6) (.lit (.int .i64 1)))])
def h18_2 : HC :=
  (.seq
  (.block 1
    (.seq
    (.seq
    (.draw [.need (.n2 (.iaddr 5) (.slot 0) (.slot 5)),
      .need (.n1 (.faddr 0) (.n2 (.iaddr 5) (.slot 0) (.slot 5))),
      .need (.n1 .ld (.n1 (.faddr 0) (.n2 (.iaddr 5) (.slot 0) (.slot 5)))),
      .need (.n2 (.iaddr 5) (.slot 0) (.slot 1)),
      .need (.n1 (.faddr 0) (.n2 (.iaddr 5) (.slot 0) (.slot 1))),
      .need (.n1 .ld (.n1 (.faddr 0) (.n2 (.iaddr 5) (.slot 0) (.slot 1)))),
      .need (.n2 (.sbin .lss) (.n1 .ld (.n1 (.faddr 0) (.n2 (.iaddr 5) (.slot 0) (.slot 5)))) (.n1 .ld (.n1 (.faddr 0) (.n2 (.iaddr 5) (.slot 0) (.slot 1))))),
      .asg 35 (.n2 (.sbin .lss) (.n1 .ld (.n1 (.faddr 0) (.n2 (.iaddr 5) (.slot 0) (.slot 5)))) (.n1 .ld (.n1 (.faddr 0) (.n2 (.iaddr 5) (.slot 0) (.slot 1)))))])
    (.cond (.slot 35)
      (.seq
      (.reg [.asg 4 (.lit (.bool false))])
      .ret)
      .skip))
    h18_3))
  h18_4)
def h18_1 : HC :=
  (.seq
  (.seq
  (.reg [.need (.n1 .lensl (.slot 0)),
    .need (.n2 (.bin .lss) (.slot 6) (.n1 .lensl (.slot 0))),
    .need (.gif (.n2 (.bin .lss) (.slot 6) (.n1 .lensl (.slot 0))) true (.n2 (.bin .geq) (.slot 5) (.lit (.int .i64 0)))),
    .need (.n3 .pick (.n2 (.bin .lss) (.slot 6) (.n1 .lensl (.slot 0))) (.n2 (.bin .geq) (.slot 5) (.lit (.int .i64 0))) (.lit (.bool false))),
    .need (.gif (.n3 .pick (.n2 (.bin .lss) (.slot 6) (.n1 .lensl (.slot 0))) (.n2 (.bin .geq) (.slot 5) (.lit (.int .i64 0))) (.lit (.bool false))) true (.n2 (.bin .neq) (.slot 5) (.slot 1))),
    .need (.n3 .pick (.n3 .pick (.n2 (.bin .lss) (.slot 6) (.n1 .lensl (.slot 0))) (.n2 (.bin .geq) (.slot 5) (.lit (.int .i64 0))) (.lit (.bool false))) (.n2 (.bin .neq) (.slot 5) (.slot 1)) (.lit (.bool false))),
    .asg 22 (.n3 .pick (.n3 .pick (.n2 (.bin .lss) (.slot 6) (.n1 .lensl (.slot 0))) (.n2 (.bin .geq) (.slot 5) (.lit (.int .i64 0))) (.lit (.bool false))) (.n2 (.bin .neq) (.slot 5) (.slot 1)) (.lit (.bool false)))])
  (.cond (.slot 22)
    .skip
    (.exit 0)))
  h18_2)
def h18_5 : HC :=
  (.seq
  (.reg [.need (.n2 (.bin .eql) (.slot 5) (.slot 1)),
    .asg 4 (.n2 (.bin .eql) (.slot 5) (.slot 1))])
  .ret)
def h18 : HC :=
  (.seq
  (.reg [.asg 4 (.lit (.bool false))])
  (.seq
  (.reg [.eff (some 9) (.call { callee := .value (.func 17), args := #[.tmp 7, .tmp 8], argTypes := #[22, 3] }) 3 [(7, .slot 0), (8, .slot 1)] none [],
    .asg 5 (.slot 9)])
  (.seq
  (.seq
  (.reg [.asg 6 (.lit (.int .i64 0))])
  (.block 0
    (.loop
      h18_1)))
  h18_5)))
theorem k18 : fnOK Try.prog 309241840243 [⟨5, [0, 0, 3, 7, 15, 0, 0, 96, 224, 480, 1023], [(0, []), (1, []), (2, []), (3, []), (4, []), (5, []), (6, []), (7, []), (8, []), (9, []), (10, [])], none⟩] [.tmp 4] 2 Try.f18 = some h18 := by kernel_rfl
theorem c18 : callable Try.prog 18 = true := by kernel_rfl
theorem q18 {args : List Value} (ha : args.length = 2) {w : World} {next : Value → World → Prop} {QP : List PanicEntry → World → Prop} (H : hw Try.prog noPanic h18 (endV [.tmp 4] next) (σ0 args) w) : callK Try.prog 18 args w next QP := fn_rule Try.func18 mixed k18 ha H
theorem r18 {args : List Value} (ha : args.length = 2) {w : World} {next : Value → World → Prop} {QP : List PanicEntry → World → Prop} (H : hw Try.prog noPanic h18 (endV [.tmp 4] next) (σ0 args) w) : callvK Try.prog (.func (.func 18) #[] #[]) args w next QP := callf c18 (q18 ha H)

/- missive/missivelaw21.circles -/
def h20_5 : HC :=
  (.reg [.eff (some 30) (.call { callee := .value (.func 17), args := #[.tmp 28, .tmp 29], argTypes := #[22, 3] }) 3 [(28, .slot 0), (29, .slot 4)] none [],
    .asg 4 (.slot 30)])
def h20_6 : HC :=
  (.reg [.need (.n2 (.bin .add) (.slot 5) (.lit (.int .i64 1))),
    .asg 5 (.n2 (.bin .add) (.slot 5) (.lit (.int .i64 1)))])
def h20_4 : HC :=
  (.seq
  (.block 3
    (.seq
    (.seq
    (.reg [.need (.n2 (.bin .eql) (.slot 4) (.slot 3)),
      .asg 27 (.n2 (.bin .eql) (.slot 4) (.slot 3))])
    (.cond (.slot 27)
      (.seq
      (.reg [.asg 2 (.lit (.bool true))])
      .ret)
      .skip))
    h20_5))
  h20_6)
def h20_3 : HC :=
  (.seq
  (.seq
  (.reg [.need (.n1 .lensl (.slot 0)),
    .need (.n2 (.bin .lss) (.slot 5) (.n1 .lensl (.slot 0))),
    .need (.gif (.n2 (.bin .lss) (.slot 5) (.n1 .lensl (.slot 0))) true (.n2 (.bin .geq) (.slot 4) (.lit (.int .i64 0)))),
    .need (.n3 .pick (.n2 (.bin .lss) (.slot 5) (.n1 .lensl (.slot 0))) (.n2 (.bin .geq) (.slot 4) (.lit (.int .i64 0))) (.lit (.bool false))),
    .asg 22 (.n3 .pick (.n2 (.bin .lss) (.slot 5) (.n1 .lensl (.slot 0))) (.n2 (.bin .geq) (.slot 4) (.lit (.int .i64 0))) (.lit (.bool false)))])
  (.cond (.slot 22)
    .skip
    (.exit 2)))
  h20_4)
def h20_7 : HC :=
  (.reg [.need (.n2 (.bin .add) (.slot 3) (.lit (.int .i64 1))),
    .asg 3 (.n2 (.bin .add) (.slot 3) (.lit (.int .i64 1)))])
def h20_2 : HC :=
  (.seq
  (.block 1
    (.seq
    (.reg [.eff (some 14) (.call { callee := .value (.func 17), args := #[.tmp 12, .tmp 13], argTypes := #[22, 3] }) 3 [(12, .slot 0), (13, .slot 3)] none [],
      .asg 4 (.slot 14)])
    (.seq
    (.reg [.asg 5 (.lit (.int .i64 0))])
    (.block 2
      (.loop
        h20_3)))))
  h20_7)
def h20_1 : HC :=
  (.seq
  (.seq
  (.reg [.need (.n1 .lensl (.slot 0)),
    .need (.n2 (.bin .lss) (.slot 3) (.n1 .lensl (.slot 0))),
    .asg 9 (.n2 (.bin .lss) (.slot 3) (.n1 .lensl (.slot 0)))])
  (.cond (.slot 9)
    .skip
    (.exit 0)))
  h20_2)
def h20_8 : HC :=
  (.seq
  (.reg [.asg 2 (.lit (.bool false))])
  .ret)
def h20 : HC :=
  (.seq
  (.reg [.asg 2 (.lit (.bool false))])
  (.seq
  (.seq
  (.reg [.asg 3 (.lit (.int .i64 0))])
  (.block 0
    (.loop
      h20_1)))
  h20_8))
theorem k20 : fnOK Try.prog 1212170813 [] [.tmp 2] 1 Try.f20 = some h20 := by kernel_rfl
theorem c20 : callable Try.prog 20 = true := by kernel_rfl
theorem q20 {args : List Value} (ha : args.length = 1) {w : World} {next : Value → World → Prop} {QP : List PanicEntry → World → Prop} (H : hw Try.prog noPanic h20 (endV [.tmp 2] next) (σ0 args) w) : callK Try.prog 20 args w next QP := fn_rule Try.func20 mixed k20 ha H
theorem r20 {args : List Value} (ha : args.length = 1) {w : World} {next : Value → World → Prop} {QP : List PanicEntry → World → Prop} (H : hw Try.prog noPanic h20 (endV [.tmp 2] next) (σ0 args) w) : callvK Try.prog (.func (.func 20) #[] #[]) args w next QP := callf c20 (q20 ha H)

end Go.Proofs.Y

/- TLa: thread: nodes compared; few; finding. -/
namespace Go.Proofs.Y
open Go Go.HL Go.Proofs

section
variable {w w' : World} {its : List It} {rvs : List Value} {next : Value → World → Prop} {QP : List PanicEntry → World → Prop}
/-! ### nodes compared -/
def nneqK (op : BinOp) (t : TypeId) (x y : Operand) (a b : Value) (w : World) (next : Value → World → Prop) (QP : List PanicEntry → World → Prop) : Prop := effUpon Try.prog next QP ((runV (do eqGuard op t x y a b; binOp op t a b)).run Try.prog w)
theorem f_nneq {op : BinOp} {t d ty : TypeId} {x y : Operand} {ρ : Operand → Value} : heff Try.prog (.binOp op t x y d) ty ρ w next QP = nneqK op t x y (ρ x) (ρ y) w next QP := rfl
attribute [local go_sem] f_nneq
theorem u29 : Try.prog.underlying 29 = some (.struct (Try.prog.fieldsOf 29)) := by kernel_rfl
theorem fields29 : (Try.prog.fieldsOf 29).toList.map (fun f => (f.name != "_", f.type, f.offset)) = [(true, 9, 0), (true, 4, 1), (true, 3, 2), (true, 3, 3)] := by kernel_rfl
theorem held29 : Try.prog.stoodInHeld 29 = false := by kernel_rfl
theorem guard29 : Try.prog.eqGuardType Try.prog.depth 29 = false := by kernel_rfl
theorem part1 {t off : Nat} {cs : Array Value} {v : Value} (ht : ∀ w, (isAgg t).run Try.prog w = .ok false w) (h : cs[off]? = some v) : (part t cs off).run Try.prog w = .ok v w := by
  simp [part, ht, h]
theorem ag9 : ∀ w : World, (isAgg 9).run Try.prog w = .ok false w := fun w => by unfold isAgg; simp [run_underlying u9]
theorem u4 : Try.prog.underlying 4 = some .bool := by kernel_rfl
theorem ag4 : ∀ w : World, (isAgg 4).run Try.prog w = .ok false w := fun w => by unfold isAgg; simp [run_underlying u4]
theorem ag3 : ∀ w : World, (isAgg 3).run Try.prog w = .ok false w := fun w => by unfold isAgg; simp [run_underlying u3]
theorem strEq (a b : Bytes) : ((ByteArray.mk a.toArray).toList == (ByteArray.mk b.toArray).toList) = decide (a = b) := by
  rw [ByteArray.toList_eq, ByteArray.toList_eq]
  show (a == b) = decide (a = b)
  cases h : a == b
  · have : a ≠ b := by simpa using h
    simp [this]
  · have : a = b := by simpa using h
    simp [this]
theorem nneq_ {x y : Operand} (a b : Nd) (k : next (.bool (!decide (a = b))) w) : nneqK .neq 29 x y (.agg a.cells.toArray) (.agg b.cells.toArray) w next QP := by
  refine eff_value (v := .bool (!decide (a = b))) (w' := w) ?_ k
  rw [Sem.run_bind, run_eqGuard_agg w _ _ _ _ _ _ guard29]
  simp only [Result.andThen_ok]
  rw [run_neq_struct, run_equalIn_struct w 9999 29 _ _ u29 held29]
  have hf := fields29
  generalize (Try.prog.fieldsOf 29).toList = fs at hf
  have hl := congrArg List.length hf
  rcases fs with _ | ⟨f1, _ | ⟨f2, _ | ⟨f3, _ | ⟨f4, _ | ⟨f5, r⟩⟩⟩⟩⟩ <;> first | (exfalso; simp at hl; done) | skip
  · skip
    simp only [List.map_cons, List.map_nil, List.cons.injEq, Prod.mk.injEq, and_true, bne_iff_ne, ne_eq] at hf
    obtain ⟨⟨n1, t1, o1⟩, ⟨n2, t2, o2⟩, ⟨n3, t3, o3⟩, n4, t4, o4⟩ := hf
    have e1 : ∀ w : World, (Op.eqFields 9999 a.cells.toArray b.cells.toArray [f1, f2, f3, f4]).run Try.prog w = .ok (decide (a = b)) w := by
      intro w
      simp only [Op.eqFields, ne_eq, n1, n2, n3, n4, not_false_eq_true, if_true, Sem.run_bind, t1, t2, t3, t4, o1, o2, o3, o4]
      rw [part1 ag9 (show a.cells.toArray[0]? = some (str a.id) from rfl)]
      simp only [Result.andThen_ok]
      rw [part1 ag9 (show b.cells.toArray[0]? = some (str b.id) from rfl)]
      simp only [Result.andThen_ok, str]
      rw [run_equalIn_string w 9998 9 _ _ u9, strEq]
      simp only [Result.andThen_ok]
      obtain ⟨i1, g1, p1, d1⟩ := a
      obtain ⟨i2, g2, p2, d2⟩ := b
      by_cases hi : i1 = i2
      · subst hi
        simp only [decide_true, Bool.not_true, Bool.false_eq_true, if_false, Sem.run_bind]
        rw [part1 ag4 (show _ = some (Value.bool g1) from rfl)]
        simp only [Result.andThen_ok]
        rw [part1 ag4 (show _ = some (Value.bool g2) from rfl)]
        simp only [Result.andThen_ok]
        rw [run_equalIn_bool' w 9998 4 _ _ u4]
        simp only [Result.andThen_ok]
        by_cases hg : g1 = g2
        · subst hg
          simp only [beq_self_eq_true, Bool.not_true, Bool.false_eq_true, if_false, Sem.run_bind]
          rw [part1 ag3 (show _ = some (Value.int .i64 p1) from rfl)]
          simp only [Result.andThen_ok]
          rw [part1 ag3 (show _ = some (Value.int .i64 p2) from rfl)]
          simp only [Result.andThen_ok]
          rw [run_equalIn_int w 9998 3 .i64 .i64 _ _ u3]
          simp only [Result.andThen_ok]
          by_cases hp : p1 = p2
          · subst hp
            simp only [beq_self_eq_true, Bool.not_true, Bool.false_eq_true, if_false, Sem.run_bind]
            rw [part1 ag3 (show _ = some (Value.int .i64 d1) from rfl)]
            simp only [Result.andThen_ok]
            rw [part1 ag3 (show _ = some (Value.int .i64 d2) from rfl)]
            simp only [Result.andThen_ok]
            rw [run_equalIn_int w 9998 3 .i64 .i64 _ _ u3]
            simp only [Result.andThen_ok]
            by_cases hdd : d1 = d2
            · subst hdd; simp
            · simp [hdd]
          · simp [hp]
        · have : (g1 == g2) = false := by simpa using hg
          simp [this, hg]
      · simp [hi]
    rw [e1 w]
    simp
/-- lists of nodes compared -/
theorem same_ {va vb : Value} {a b : List Nd} (ha : Sl w va 4 a.length (rows Nd.cells a)) (hb : Sl w vb 4 b.length (rows Nd.cells b)) (hn : a.length ≤ 1000000) (k : ∀ w', Mod none' w w' → next (.bool (decide (a = b))) w') :
    callvK Try.prog (.func (.func 21) #[] #[]) [va, vb] w next QP := by
  refine r21 rfl ?_
  obtain ⟨aa, ac, rfl, -, -⟩ := ha.form
  obtain ⟨ba, bc, rfl, -, -⟩ := hb.form
  unfold h21
  try simp only [go_sem]
  by_cases hl : a.length = b.length
  · have e1 : (!decide ((a.length : Int) = (b.length : Int))) = false := by simp [hl]
    try simp only [go_sem, e1]
    unfold h21_1
    try simp only [go_sem]
    refine loopN a.length (fun i τ w' => τ 0 = .slice aa a.length ac ∧ τ 1 = .slice ba b.length bc ∧ τ 5 = .int .i64 i ∧ (∀ j, j < i → a[j]? = b[j]?) ∧ Mod none' w w') ⟨0, by omega, rfl, rfl, rfl, fun j hj => by omega, Mod.refl _ _⟩ ?_
    rintro i τ w1 hi ⟨t0, t1, t5, hsm, m1⟩
    unfold h21_2
    try simp only [go_sem, t0, t1, t5]
    refine ⟨fun hlt => ?_, fun hge => ?_⟩
    · have hil : i < a.length := by
        have := of_decide_eq_true hlt
        omega
      obtain ⟨ga, oa, ca, ea, -, hca⟩ := (ha.mod m1 fun _ _ h => h).get Nd.len rfl (by omega)
      obtain ⟨gb, ob, cb, eb, -, hcb⟩ := (hb.mod m1 fun _ _ h => h).get Nd.len rfl (by omega)
      simp only [Value.slice.injEq] at ea eb
      obtain ⟨rfl, -, rfl⟩ := ea
      obtain ⟨rfl, -, rfl⟩ := eb
      have y1 : loadN w1 ⟨ga, oa + i * 4, none⟩ 4 = a[i].cells.toArray := loadN_of rfl fun j hj => by rw [e_add]; exact hca i j hil hj
      have y2 : (∀ j, j < 4 → (w1.cell? ⟨ga, oa + i * 4 + j, none⟩).isSome = true) = True := eq_true fun j hj => by rw [hca i j hil hj]; simp [Nd.cells, hj]
      have z1 : loadN w1 ⟨gb, ob + i * 4, none⟩ 4 = b[i].cells.toArray := loadN_of rfl fun j hj => by rw [e_add]; exact hcb i j (by omega) hj
      have z2 : (∀ j, j < 4 → (w1.cell? ⟨gb, ob + i * 4 + j, none⟩).isSome = true) = True := eq_true fun j hj => by rw [hcb i j (by omega) hj]; simp [Nd.cells, hj]
      unfold h21_3
      try simp only [go_sem, t0, t1, t5, y1, y2, z1, z2]
      repeat refine ⟨⟨by omega, by omega⟩, ?_⟩
      refine nneq_ a[i] b[i] ?_
      try simp only [go_sem, t0, t1, t5]
      refine ⟨fun hne => ?_, fun heq => ?_⟩
      · have hne : a[i] ≠ b[i] := by simpa using hne
        have := k w1.drew (m1.trans' (Mod.drew _ _))
        rw [show decide (a = b) = false from decide_eq_false fun e => hne (by simp [e])] at this
        exact this
      · have heq : a[i] = b[i] := by simpa using heq
        unfold h21_4
        try simp only [go_sem, t0, t1, t5]
        rw [w64 (by omega) (by omega)]
        have m2 := m1.trans' (Mod.drew none' w1)
        have hsm2 : ∀ j, j < i + 1 → a[j]? = b[j]? := by
          intro j hj
          by_cases e : j = i
          · subst e
            rw [List.getElem?_eq_getElem hil, List.getElem?_eq_getElem (by omega), heq]
          · exact hsm j (by omega)
        refine ⟨i + 1, by omega, by omega, ?_⟩
        (repeat' first | assumption | rfl | omega | apply And.intro)
    · have hil : i = a.length := by
        have := of_decide_eq_false hge
        omega
      subst hil
      have e : a = b := by
        apply List.ext_getElem?
        intro j
        by_cases hj : j < a.length
        · exact hsm j hj
        · rw [List.getElem?_eq_none (by omega), List.getElem?_eq_none (by omega)]
      have := k w1 m1
      rw [show decide (a = b) = true from decide_eq_true e] at this
      unfold h21_5
      try simp only [go_sem]
      exact this
  · have e1 : (!decide ((a.length : Int) = (b.length : Int))) = true := by
      have : ¬ ((a.length : Int) = (b.length : Int)) := by omega
      simp [this]
    try simp only [go_sem, e1]
    have := k w (Mod.refl _ _)
    rw [show decide (a = b) = false from decide_eq_false fun e => hl (by rw [e])] at this
    exact this
end
end Go.Proofs.Y
