/- DD: the walks of the searches in the queue, and of settle. -/
import Derived.Test.YtgalileklafbbaaDC
set_option linter.unusedSimpArgs false
set_option linter.unusedVariables false
set_option maxRecDepth 100000
namespace Go.Proofs.Y
open Go Go.HL Go.Proofs

/-- fv asks whether an entry is of file g -/
def Test (fv : Value) (b : Nat) (g : Int) : Prop := ∀ (w : World) (next : Value → World → Prop) (QP : List PanicEntry → World → Prop), Blk w b 3 [.int .i64 g] → ∀ pd : Pd,
  (∀ w', Mod none' w w' → next (.bool (decide ((pd.file : Int) = g))) w') → callvK Try.prog fv [.agg pd.cells.toArray] w next QP

theorem test57 (b : Nat) (g : Int) : Test (.func (.func 99) #[] #[ptr b]) b g := by
  intro w next QP hb pd k
  refine callv (first := []) (caps := [ptr b]) c99 (q99 rfl ?_)
  unfold h99
  simp only [go_sem, ↓reduceIte, Nat.reduceEqDiff, Nat.reduceAdd, List.append_eq, List.cons_append, List.nil_append]
  refine box_ (cs := pd.cells) rfl ?_
  intro c w1 hc hbc m1 hsz
  have c1 : w1.cell? ⟨c, 0, none⟩ = some (.int .i64 pd.file) := by rw [hbc.cell]; rfl
  have c2 : w1.cell? ⟨b, 0, none⟩ = some (.int .i64 g) := by rw [(hb.mod m1 fun h => h).cell]; rfl
  simp only [go_sem, ↓reduceIte, Nat.reduceEqDiff, Nat.reduceAdd, c1, c2]
  exact k _ m1
theorem test42 (b : Nat) (g : Int) : Test (.func (.func 68) #[] #[ptr b]) b g := by
  intro w next QP hb pd k
  refine callv (first := []) (caps := [ptr b]) c68 (q68 rfl ?_)
  unfold h68
  simp only [go_sem, ↓reduceIte, Nat.reduceEqDiff, Nat.reduceAdd, List.append_eq, List.cons_append, List.nil_append]
  refine box_ (cs := pd.cells) rfl ?_
  intro c w1 hc hbc m1 hsz
  have c1 : w1.cell? ⟨c, 0, none⟩ = some (.int .i64 pd.file) := by rw [hbc.cell]; rfl
  have c2 : w1.cell? ⟨b, 0, none⟩ = some (.int .i64 g) := by rw [(hb.mod m1 fun h => h).cell]; rfl
  simp only [go_sem, ↓reduceIte, Nat.reduceEqDiff, Nat.reduceAdd, c1, c2]
  exact k _ m1

section
variable {w : World} {next : Value → World → Prop} {QP : List PanicEntry → World → Prop}

theorem index_ {v fv : Value} {b : Nat} {g : Int} (ht : Test fv b g) (hb : Blk w b 3 [.int .i64 g]) {q : List Pd} (hv : Sl w v 3 q.length (rows Pd.cells q)) (hn : q.length ≤ 9000000000000)
    (k : ∀ w' (i : Int), Mod none' w w' → ((i = -1 ∧ ∀ p ∈ q, (p.file : Int) ≠ g) ∨ ∃ j : Nat, i = j ∧ ∃ h : j < q.length, (q[j].file : Int) = g ∧ ∀ p ∈ q.take j, (p.file : Int) ≠ g) → next (.int .i64 i) w') :
    callvK Try.prog (.func (.func 100) #[] #[]) [v, fv] w next QP := by
  refine r100 rfl ?_
  obtain ⟨a, c, hva, hc, -⟩ := hv.form
  unfold h100
  simp only [go_sem, ↓reduceIte, Nat.reduceEqDiff, Nat.reduceAdd, hva]
  refine loopN q.length (fun i τ w' => Mod none' w w' ∧ τ 0 = .slice a q.length c ∧ τ 1 = fv ∧ τ 7 = .int .i64 q.length ∧ τ 8 = .int .i64 i ∧ ∀ p ∈ q.take i, (p.file : Int) ≠ g) ⟨0, by omega, Mod.refl _ _, by simp [go_sem]⟩ ?_
  rintro i τ w1 hi ⟨m1, t0, t1, t7, t8, hall⟩
  unfold h100_1
  simp only [go_sem, ↓reduceIte, Nat.reduceEqDiff, Nat.reduceAdd, t0, t1, t7, t8]
  refine ⟨fun hlt => ?_, fun hge => ?_⟩
  · have hlt : i < q.length := by simpa using hlt
    obtain ⟨gb, o, c', hva', hcc, hcell⟩ := (hv.mod m1 fun k _ h => h).get Pd.cells_len rfl (by omega)
    rw [hva] at hva'
    simp only [Value.slice.injEq] at hva'
    obtain ⟨rfl, -, rfl⟩ := hva'
    have hld : loadN w1 ⟨gb, o + i * 3, none⟩ 3 = q[i].cells.toArray := loadN_of rfl fun j hj => by rw [e_add]; exact hcell i j hlt hj
    have hsome : ∀ j, j < 3 → (w1.cell? ((⟨gb, o + i * 3, none⟩ : Addr).add j)).isSome = true := loadN_some (cs := q[i].cells) rfl fun j hj => by rw [e_add]; exact hcell i j hlt hj
    unfold h100_2
    simp only [go_sem, ↓reduceIte, Nat.reduceEqDiff, Nat.reduceAdd, t0, t1, t7, t8, hld]
    refine ⟨⟨by omega, by omega⟩, fun j hj => by have := hsome j hj; rwa [e_add] at this, ?_⟩
    refine ht _ _ _ (hb.mod m1 fun h => h) q[i] ?_
    intro w2 m2
    simp only [go_sem, ↓reduceIte, Nat.reduceEqDiff, Nat.reduceAdd]
    refine ⟨fun hf => ?_, fun hf => ?_⟩
    · exact k _ _ (m1.trans' m2) (.inr ⟨i, rfl, hlt, by simpa using hf, hall⟩)
    · unfold h100_3
      simp only [go_sem, ↓reduceIte, Nat.reduceEqDiff, Nat.reduceAdd, t0, t1, t7, t8]
      rw [w64 (by omega) (by omega)]
      refine ⟨i + 1, by omega, by omega, m1.trans' m2, rfl, ?_⟩
      rw [List.take_succ_eq_append_getElem hlt]
      intro p hp
      rcases List.mem_append.1 hp with h | h
      · exact hall p h
      · rw [List.mem_singleton.1 h]; simpa using hf
  · have hge : q.length ≤ i := by simpa using hge
    unfold h100_4
    simp only [go_sem, ↓reduceIte, Nat.reduceEqDiff, Nat.reduceAdd]
    exact k _ _ m1 (.inl ⟨rfl, by rwa [List.take_of_length_le hge] at hall⟩)

theorem contains_ {v fv : Value} {b : Nat} {g : Int} (ht : Test fv b g) (hb : Blk w b 3 [.int .i64 g]) {q : List Pd} (hv : Sl w v 3 q.length (rows Pd.cells q)) (hn : q.length ≤ 9000000000000)
    (k : ∀ w', Mod none' w w' → next (.bool (q.any fun p => decide ((p.file : Int) = g))) w') :
    callvK Try.prog (.func (.func 67) #[] #[]) [v, fv] w next QP := by
  refine r67 rfl ?_
  unfold h67
  simp only [go_sem, ↓reduceIte, Nat.reduceEqDiff, Nat.reduceAdd]
  refine index_ ht hb hv hn ?_
  intro w1 i m1 hi
  simp only [go_sem, ↓reduceIte, Nat.reduceEqDiff, Nat.reduceAdd]
  have k' := k w1 m1
  rcases hi with ⟨rfl, hall⟩ | ⟨j, rfl, hj, hjg, -⟩
  · have : (q.any fun p => decide ((p.file : Int) = g)) = false := by
      rw [List.any_eq_false]; intro p hp; simpa using hall p hp
    rw [this] at k'; exact k'
  · have : (q.any fun p => decide ((p.file : Int) = g)) = true := by
      rw [List.any_eq_true]; exact ⟨_, List.getElem_mem hj, by simpa using hjg⟩
    rw [this] at k'
    simpa using k'

theorem sl84 : SlTy Try.prog 84 91 3 32 (.agg #[.int .i64 0, .int .i64 0, str []]) := ⟨by kernel_rfl, by kernel_rfl, rfl, by decide⟩
theorem sz91 : szOf Try.prog 91 = some 3 := by kernel_rfl

theorem filter_take {α : Type} {φ : α → Bool} {q : List α} {i : Nat} (h : i < q.length) : (q.take (i + 1)).filter φ = (q.take i).filter φ ++ (if φ q[i] = true then [q[i]] else []) := by
  rw [List.take_succ_eq_append_getElem h, List.filter_append]
  by_cases hp : φ q[i] = true <;> simp [hp]

theorem lay_snoc {α : Type} (A : List α) (R x : List α) (n : Nat) (hn : x.length = n) (hR : n ≤ R.length) : lay (A ++ R) A.length x = A ++ x ++ R.drop n := by
  subst hn
  simp [lay, List.drop_append]

theorem lay_app_left {α : Type} {cs rest xs : List α} {o : Nat} (h : o + xs.length ≤ cs.length) : lay (cs ++ rest) o xs = lay cs o xs ++ rest := by
  simp only [lay]
  rw [List.take_append_of_le_length (by omega), List.drop_append_of_le_length h]
  simp

/-- the queue without the entries of a file -/
theorem delete_ {v fv : Value} {b : Nat} {g : Int} (ht : Test fv b g) (hb : Blk w b 3 [.int .i64 g]) {q : List Pd} (hv : Own w v 91 3 q.length (rows Pd.cells q)) (hn : q.length ≤ 9000000000000) (hvb : v.ownBlock ≠ some b)
    (k : ∀ w' v', Own w' v' 91 3 (q.filter fun p => !decide ((p.file : Int) = g)).length (rows Pd.cells (q.filter fun p => !decide ((p.file : Int) = g))) → v'.ownBlock = v.ownBlock → Mod (ownS v) w w' → next v' w') :
    callvK Try.prog (.func (.func 98) #[] #[]) [v, fv] w next QP := by
  refine r98 rfl ?_
  unfold h98
  simp only [go_sem, ↓reduceIte, Nat.reduceEqDiff, Nat.reduceAdd]
  refine index_ ht hb hv.sl hn ?_
  intro w1 i0 m1 hi0
  simp only [go_sem, ↓reduceIte, Nat.reduceEqDiff, Nat.reduceAdd]
  have hv1 : Own w1 v 91 3 q.length (rows Pd.cells q) := hv.mod m1 fun k _ h => h
  have m1' : Mod (ownS v) w w1 := m1.mono fun _ _ h => h.elim
  rcases hi0 with ⟨rfl, hall⟩ | ⟨j0, rfl, hj0, hjg, hpre⟩
  · have hfl : q.filter (fun p => !decide ((p.file : Int) = g)) = q := by
      rw [List.filter_eq_self]; intro p hp; simpa using hall p hp
    rw [hfl] at k
    refine ⟨fun _ => k w1 v hv1 rfl m1', fun h => ?_⟩
    simp at h
  · refine ⟨fun h => absurd (of_decide_eq_true h) (by omega), fun _ => ?_⟩
    rcases hv1.blk with ⟨-, h0, -⟩ | ⟨gb, cap, rest, rfl, hblk, hrest, hcap, hcm⟩
    · omega
    have hne : gb ≠ b := fun e => hvb (by rw [e]; rfl)
    unfold h98_1
    simp only [go_sem, ↓reduceIte, Nat.reduceEqDiff, Nat.reduceAdd]
    rw [w64 (by omega) (by omega)]
    refine loopN q.length (fun j τ w' => Mod (ownS (.slice (some ⟨gb, 0, none⟩) q.length cap)) w w' ∧ Blk w' b 3 [.int .i64 g] ∧ τ 0 = .slice (some ⟨gb, 0, none⟩) q.length cap ∧ τ 1 = fv ∧ τ 6 = .int .i64 j ∧ j0 < j ∧
      ∃ (i : Nat) (R : List Pd), τ 5 = .int .i64 i ∧ i < j ∧ i = ((q.take j).filter fun p => !decide ((p.file : Int) = g)).length ∧ R.length = j - i ∧
        Blk w' gb 91 (rows Pd.cells (((q.take j).filter fun p => !decide ((p.file : Int) = g)) ++ R ++ q.drop j) ++ rest)) ?_ ?_
    · refine ⟨j0 + 1, by omega, m1', hb.mod m1 fun h => h, by simp [go_sem], by simp [go_sem], by simp [go_sem], by omega, j0, [q[j0]], by simp [go_sem], by omega, ?_, ?_, ?_⟩
      · rw [filter_take hj0, List.filter_eq_self.2 (by intro p hp; simpa using hpre p hp)]
        simp [hjg]; omega
      · simp
      · rw [filter_take hj0, List.filter_eq_self.2 (by intro p hp; simpa using hpre p hp)]
        have : q.take j0 ++ (if (!decide ((q[j0].file : Int) = g)) = true then [q[j0]] else []) ++ [q[j0]] ++ q.drop (j0 + 1) = q := by
          simp [hjg]
        rw [this]; exact hblk
    · rintro j τ w2 hj ⟨m2, hb2, t0, t1, t6, hjj, i, R, t5, hij, hil, hR, hblk2⟩
      unfold h98_2
      simp only [go_sem, ↓reduceIte, Nat.reduceEqDiff, Nat.reduceAdd, t0, t1, t5, t6]
      refine ⟨fun hlt => ?_, fun hge => ?_⟩
      · have hlt : j < q.length := by simpa using hlt
        have hlA : (((q.take j).filter fun p => !decide ((p.file : Int) = g)) ++ R).length = j := by rw [List.length_append, ← hil, hR]; omega
        have hlen : (((q.take j).filter fun p => !decide ((p.file : Int) = g)) ++ R ++ q.drop j).length = q.length := by rw [List.length_append, hlA, List.length_drop]; omega
        have hcellj : ∀ c, c < 3 → w2.cell? ⟨gb, j * 3 + c, none⟩ = q[j].cells[c]? := by
          intro c hc
          rw [hblk2.cell, List.getElem?_append_left (by rw [rows_len Pd.cells_len, hlen]; omega), rows_get Pd.cells_len _ j c (by omega) hc]
          congr 2
          rw [List.getElem_append_right (by omega)]
          simp [hlA]
        have hld : loadN w2 ⟨gb, j * 3, none⟩ 3 = q[j].cells.toArray := loadN_of rfl fun c hc => by rw [e_add]; exact hcellj c hc
        have hsome : ∀ c, c < 3 → (w2.cell? ⟨gb, j * 3 + c, none⟩).isSome = true := fun c hc => by rw [hcellj c hc]; simp [Pd.cells_len, hc]
        unfold h98_3
        simp only [go_sem, ↓reduceIte, Nat.reduceEqDiff, Nat.reduceAdd, t0, t1, t5, t6, hld]
        refine ⟨⟨by omega, by omega⟩, hsome, ?_⟩
        refine alloc_ (z := .agg #[.int .i64 0, .int .i64 0, str []]) (cs := [.int .i64 0, .int .i64 0, str []]) (by kernel_rfl) rfl ?_
        intro c w3 hc hbc m3 hsz3
        have hlt2 := hblk2.lt
        refine storeN sz91 rfl hbc (by simp) (by intro u hu; simp [Pd.cells] at hu; rcases hu with rfl | rfl | rfl <;> rfl) ?_
        intro w4 hbc4 m4 hsz4
        simp only [List.take_zero, List.nil_append, Nat.zero_add, show ([Value.int .i64 0, .int .i64 0, str []]).drop 3 = [] from rfl, List.append_nil] at hbc4
        have hld4 : loadN w4 ⟨c, 0, none⟩ 3 = q[j].cells.toArray := by rw [hbc4.loadN (by rw [Pd.cells_len]; omega)]; simp [← Pd.cells_len q[j]]
        have hsome4 := hbc4.some (o := 0) (n := 3) (by rw [Pd.cells_len]; omega)
        simp only [e_add] at hsome4
        simp only [go_sem, ↓reduceIte, Nat.reduceEqDiff, Nat.reduceAdd, t0, t1, t5, t6, hld4] at hsome4 ⊢
        refine ⟨hsome4, ht _ _ _ ((hb2.mod m3 fun h => h).mod m4 fun e => by have := hb2.lt; have : b = c := e; omega) q[j] ?_⟩
        intro w5 m5
        have hbc5 := hbc4.mod m5 fun h => h
        have hblk5 := ((hblk2.mod m3 fun h => h).mod m4 fun e => by have : gb = c := e; omega).mod m5 fun h => h
        have hb5 := ((hb2.mod m3 fun h => h).mod m4 fun e => by have := hb2.lt; have : b = c := e; omega).mod m5 fun h => h
        have hld5 : loadN w5 ⟨c, 0, none⟩ 3 = q[j].cells.toArray := by rw [hbc5.loadN (by rw [Pd.cells_len]; omega)]; simp [← Pd.cells_len q[j]]
        have hsome5 := hbc5.some (o := 0) (n := 3) (by rw [Pd.cells_len]; omega)
        simp only [e_add] at hsome5
        have m25 : Mod none' w2 w5 := (m3.trans m4 fun k hk e => by have : k = c := e; omega).trans' m5
        simp only [go_sem, ↓reduceIte, Nat.reduceEqDiff, Nat.reduceAdd, t0, t1, t5, t6, hld5] at hsome5 ⊢
        have htk := filter_take (φ := fun p : Pd => !decide ((p.file : Int) = g)) hlt
        refine ⟨fun hkeep => ?_, fun hdrop => ?_⟩
        · have hk' : (!decide ((q[j].file : Int) = g)) = true := hkeep
          rw [if_pos hk'] at htk
          refine ⟨hsome5, ⟨by omega, by omega⟩, ?_⟩
          have hRpos : 1 ≤ R.length := by omega
          refine storeN sz91 rfl hblk5 (by rw [List.length_append, rows_len Pd.cells_len, hlen]; omega) (by intro u hu; simp [Pd.cells] at hu; rcases hu with rfl | rfl | rfl <;> rfl) ?_
          intro w6 hblk6 m6 hsz6
          unfold h98_4
          simp only [go_sem, ↓reduceIte, Nat.reduceEqDiff, Nat.reduceAdd, t0, t1, t5, t6]
          rw [w64 (by omega) (by omega), w64 (by omega) (by omega)]
          refine ⟨j + 1, by omega, by omega, (m2.trans m25 fun i hi h => h.elim).trans m6 (fun k hk (e : k = gb) => by simp [ownS, Value.ownBlock, e]), hb5.mod m6 fun e => hne e.symm, rfl, by omega, i + 1, R.tail ++ [q[j]], rfl, by omega, ?_, ?_, ?_⟩
          · rw [htk, List.length_append, ← hil]; rfl
          · simp; omega
          · have hl6 : lay (rows Pd.cells ((q.take j).filter (fun p => !decide ((p.file : Int) = g)) ++ R ++ q.drop j) ++ rest) (i * 3) q[j].cells = _ := lay_app_left (by rw [rows_len Pd.cells_len, hlen, Pd.cells_len]; omega)
            rw [rows_set Pd.cells_len _ _ _ (by omega)] at hl6
            have hset : (((q.take j).filter fun p => !decide ((p.file : Int) = g)) ++ R ++ q.drop j).set i q[j] = ((q.take (j + 1)).filter fun p => !decide ((p.file : Int) = g)) ++ (R.tail ++ [q[j]]) ++ q.drop (j + 1) := by
              rw [htk, List.append_assoc, List.set_append_right _ _ (by omega), ← hil, Nat.sub_self]
              cases R with
              | nil => simp at hRpos
              | cons r R => rw [List.cons_append, List.set_cons_zero, List.tail_cons, List.drop_eq_getElem_cons hlt, List.append_assoc, List.append_assoc]; simp only [List.append_assoc]; rfl
            rw [hset] at hl6
            rw [← hl6]
            exact hblk6
        · have hk' : ¬ (!decide ((q[j].file : Int) = g)) = true := by simpa using hdrop
          rw [if_neg hk', List.append_nil] at htk
          unfold h98_4
          simp only [go_sem, ↓reduceIte, Nat.reduceEqDiff, Nat.reduceAdd, t0, t1, t5, t6]
          rw [w64 (by omega) (by omega)]
          refine ⟨j + 1, by omega, by omega, m2.trans m25 fun i hi h => h.elim, hb5, rfl, by omega, i, R ++ [q[j]], rfl, by omega, by rw [htk]; exact hil, by simp; omega, ?_⟩
          rw [htk]
          have e : R ++ q.drop j = R ++ [q[j]] ++ q.drop (j + 1) := by rw [List.append_assoc, List.singleton_append, ← List.drop_eq_getElem_cons hlt]
          rw [List.append_assoc, ← e, ← List.append_assoc]
          exact hblk5
      · have hge : q.length ≤ j := by simpa using hge
        have hjq : j = q.length := by omega
        have htake : q.take j = q := List.take_of_length_le hge
        rw [htake] at hil hblk2
        rw [List.drop_of_length_le hge, List.append_nil] at hblk2
        unfold h98_5
        simp only [go_sem, ↓reduceIte, Nat.reduceEqDiff, Nat.reduceAdd, t0, t1, t5, t6]
        refine ⟨⟨by omega, by omega⟩, ?_⟩
        refine clear_s sl84 (by intro u hu; simp [Value.cells, str] at hu; rcases hu with rfl | rfl | rfl <;> rfl) (g := gb) (o := i * 3) hblk2 ?_ ?_ ?_
        · intro hp
          rw [if_neg (by omega)]
          simp [go_sem]
        · rw [List.length_append, rows_len Pd.cells_len, List.length_append, ← hil, hR]; omega
        intro w3 zs hzs hblk3 m3 hsz3
        refine ⟨⟨by omega, by omega⟩, ?_⟩
        have hfin : lay (rows Pd.cells (q.filter (fun p => !decide ((p.file : Int) = g)) ++ R) ++ rest) (i * 3) zs = rows Pd.cells (q.filter fun p => !decide ((p.file : Int) = g)) ++ (zs ++ rest) := by
          have hi3 : i * 3 = (rows Pd.cells (q.filter fun p => !decide ((p.file : Int) = g))).length := by rw [rows_len Pd.cells_len, hil]
          have hz3 : zs.length = (rows Pd.cells R).length := by rw [hzs, rows_len Pd.cells_len, hR, hjq]
          rw [rows_app, List.append_assoc, hi3, lay_snoc _ _ _ zs.length rfl (by rw [List.length_append]; omega), hz3, List.drop_left, List.append_assoc]
        rw [hfin] at hblk3
        refine k w3 _ ?_ rfl (m2.trans m3 fun k hk (e : k = gb) => by simp [ownS, Value.ownBlock, e])
        rw [← hil]
        exact Own.of_blk (by rw [rows_len Pd.cells_len, hil]) hblk3 (by rw [List.length_append, hzs, hrest, ← Nat.add_mul]; congr 1; omega) (by omega) hcm
end
end Go.Proofs.Y
