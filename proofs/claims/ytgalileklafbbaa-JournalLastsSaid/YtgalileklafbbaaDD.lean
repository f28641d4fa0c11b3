/- DD: the walks of the searches in the queue, and of settle. -/
import Derived.Test.YtgalileklafbbaaYCode
import Derived.Test.YtgalileklafbbaaHLT
import Derived.Lib.AppendStr
import Derived.Lib.UnsafeStr
set_option linter.unusedSimpArgs false
set_option linter.unusedVariables false
set_option maxRecDepth 100000
namespace Go.Proofs.Y
open Go Go.HL Go.Proofs

/-- fv asks whether an entry is of file g -/
def Test (fv : Value) (b : Nat) (g : Int) : Prop := ∀ (w : World) (next : Value → World → Prop) (QP : List PanicEntry → World → Prop), Blk w b 3 [.int .i64 g] → ∀ pd : Pd,
  (∀ w', Mod none' w w' → next (.bool (decide ((pd.file : Int) = g))) w') → callvK Try.prog fv [.agg pd.cells.toArray] w next QP

theorem test57 (b : Nat) (g : Int) : Test (.func (.func 99) #[] #[ptr b]) b g := by
  intro w next QP hb pd k
  refine callv (first := []) (caps := [ptr b]) c99 (q99 rfl ?_)
  unfold h99
  simp only [go_sem, List.append_eq, List.cons_append, List.nil_append]
  refine box_ (cs := pd.cells) rfl ?_
  intro c w1 hc hbc m1 hsz
  have c1 : w1.cell? ⟨c, 0, none⟩ = some (.int .i64 pd.file) := by rw [hbc.cell]; rfl
  have c2 : w1.cell? ⟨b, 0, none⟩ = some (.int .i64 g) := by rw [(hb.mod m1 fun h => h).cell]; rfl
  simp only [go_sem, c1, c2]
  exact k _ m1
theorem test42 (b : Nat) (g : Int) : Test (.func (.func 68) #[] #[ptr b]) b g := by
  intro w next QP hb pd k
  refine callv (first := []) (caps := [ptr b]) c68 (q68 rfl ?_)
  unfold h68
  simp only [go_sem, List.append_eq, List.cons_append, List.nil_append]
  refine box_ (cs := pd.cells) rfl ?_
  intro c w1 hc hbc m1 hsz
  have c1 : w1.cell? ⟨c, 0, none⟩ = some (.int .i64 pd.file) := by rw [hbc.cell]; rfl
  have c2 : w1.cell? ⟨b, 0, none⟩ = some (.int .i64 g) := by rw [(hb.mod m1 fun h => h).cell]; rfl
  simp only [go_sem, c1, c2]
  exact k _ m1

section
variable {w : World} {next : Value → World → Prop} {QP : List PanicEntry → World → Prop}

theorem index_ {v fv : Value} {b : Nat} {g : Int} (ht : Test fv b g) (hb : Blk w b 3 [.int .i64 g]) {q : List Pd} (hv : Sl w v 3 q.length (rows Pd.cells q)) (hn : q.length ≤ 9000000000000)
    (k : ∀ w' (i : Int), Mod none' w w' → ((i = -1 ∧ ∀ p ∈ q, (p.file : Int) ≠ g) ∨ ∃ j : Nat, i = j ∧ ∃ h : j < q.length, (q[j].file : Int) = g ∧ ∀ p ∈ q.take j, (p.file : Int) ≠ g) → next (.int .i64 i) w') :
    callvK Try.prog (.func (.func 100) #[] #[]) [v, fv] w next QP := by
  refine r100 rfl ?_
  obtain ⟨a, c, hva, hc, -⟩ := hv.form
  unfold h100
  simp only [go_sem, hva]
  refine loopN q.length (fun i τ w' => Mod none' w w' ∧ τ 0 = .slice a q.length c ∧ τ 1 = fv ∧ τ 7 = .int .i64 q.length ∧ τ 8 = .int .i64 i ∧ ∀ p ∈ q.take i, (p.file : Int) ≠ g) ⟨0, by omega, Mod.refl _ _, by simp [go_sem]⟩ ?_
  rintro i τ w1 hi ⟨m1, t0, t1, t7, t8, hall⟩
  unfold h100_1
  simp only [go_sem, t0, t1, t7, t8]
  refine ⟨fun hlt => ?_, fun hge => ?_⟩
  · have hlt : i < q.length := by simpa using hlt
    obtain ⟨gb, o, c', hva', hcc, hcell⟩ := (hv.mod m1 fun k _ h => h).get Pd.cells_len rfl (by omega)
    rw [hva] at hva'
    simp only [Value.slice.injEq] at hva'
    obtain ⟨rfl, -, rfl⟩ := hva'
    have hld : loadN w1 ⟨gb, o + i * 3, none⟩ 3 = q[i].cells.toArray := loadN_of rfl fun j hj => by rw [e_add]; exact hcell i j hlt hj
    have hsome : ∀ j, j < 3 → (w1.cell? ((⟨gb, o + i * 3, none⟩ : Addr).add j)).isSome = true := loadN_some (cs := q[i].cells) rfl fun j hj => by rw [e_add]; exact hcell i j hlt hj
    unfold h100_2
    simp only [go_sem, t0, t1, t7, t8, hld]
    refine ⟨⟨by omega, by omega⟩, fun j hj => by have := hsome j hj; rwa [e_add] at this, ?_⟩
    refine ht _ _ _ (hb.mod m1 fun h => h) q[i] ?_
    intro w2 m2
    simp only [go_sem]
    refine ⟨fun hf => ?_, fun hf => ?_⟩
    · exact k _ _ (m1.trans' m2) (.inr ⟨i, rfl, hlt, by simpa using hf, hall⟩)
    · unfold h100_3
      simp only [go_sem, t0, t1, t7, t8]
      rw [w64 (by omega) (by omega)]
      refine ⟨i + 1, by omega, by omega, m1.trans' m2, rfl, ?_⟩
      rw [List.take_succ_eq_append_getElem hlt]
      intro p hp
      rcases List.mem_append.1 hp with h | h
      · exact hall p h
      · rw [List.mem_singleton.1 h]; simpa using hf
  · have hge : q.length ≤ i := by simpa using hge
    unfold h100_4
    simp only [go_sem]
    exact k _ _ m1 (.inl ⟨rfl, by rwa [List.take_of_length_le hge] at hall⟩)

theorem contains_ {v fv : Value} {b : Nat} {g : Int} (ht : Test fv b g) (hb : Blk w b 3 [.int .i64 g]) {q : List Pd} (hv : Sl w v 3 q.length (rows Pd.cells q)) (hn : q.length ≤ 9000000000000)
    (k : ∀ w', Mod none' w w' → next (.bool (q.any fun p => decide ((p.file : Int) = g))) w') :
    callvK Try.prog (.func (.func 67) #[] #[]) [v, fv] w next QP := by
  refine r67 rfl ?_
  unfold h67
  simp only [go_sem]
  refine index_ ht hb hv hn ?_
  intro w1 i m1 hi
  simp only [go_sem]
  have k' := k w1 m1
  rcases hi with ⟨rfl, hall⟩ | ⟨j, rfl, hj, hjg, -⟩
  · have : (q.any fun p => decide ((p.file : Int) = g)) = false := by
      rw [List.any_eq_false]; intro p hp; simpa using hall p hp
    rw [this] at k'; exact k'
  · have : (q.any fun p => decide ((p.file : Int) = g)) = true := by
      rw [List.any_eq_true]; exact ⟨_, List.getElem_mem hj, by simpa using hjg⟩
    rw [this] at k'
    simpa using k'

theorem sl84 : SlTy Try.prog 84 91 3 32 (.agg #[.int .i64 0, .int .i64 0, str []]) := ⟨by kernel_rfl, by kernel_rfl, rfl, by decide⟩
theorem sz91 : szOf Try.prog 91 = some 3 := by kernel_rfl

theorem filter_take {α : Type} {φ : α → Bool} {q : List α} {i : Nat} (h : i < q.length) : (q.take (i + 1)).filter φ = (q.take i).filter φ ++ (if φ q[i] = true then [q[i]] else []) := by
  rw [List.take_succ_eq_append_getElem h, List.filter_append]
  by_cases hp : φ q[i] = true <;> simp [hp]

theorem lay_snoc {α : Type} (A : List α) (R x : List α) (n : Nat) (hn : x.length = n) (hR : n ≤ R.length) : lay (A ++ R) A.length x = A ++ x ++ R.drop n := by
  subst hn
  simp [lay, List.drop_append]

theorem lay_app_left {α : Type} {cs rest xs : List α} {o : Nat} (h : o + xs.length ≤ cs.length) : lay (cs ++ rest) o xs = lay cs o xs ++ rest := by
  simp only [lay]
  rw [List.take_append_of_le_length (by omega), List.drop_append_of_le_length h]
  simp

/-- the queue without the entries of a file -/
theorem delete_ {v fv : Value} {b : Nat} {g : Int} (ht : Test fv b g) (hb : Blk w b 3 [.int .i64 g]) {q : List Pd} (hv : Own w v 91 3 q.length (rows Pd.cells q)) (hn : q.length ≤ 9000000000000) (hvb : v.ownBlock ≠ some b)
    (k : ∀ w' v', Own w' v' 91 3 (q.filter fun p => !decide ((p.file : Int) = g)).length (rows Pd.cells (q.filter fun p => !decide ((p.file : Int) = g))) → v'.ownBlock = v.ownBlock → Mod (ownS v) w w' → next v' w') :
    callvK Try.prog (.func (.func 98) #[] #[]) [v, fv] w next QP := by
  refine r98 rfl ?_
  unfold h98
  simp only [go_sem]
  refine index_ ht hb hv.sl hn ?_
  intro w1 i0 m1 hi0
  simp only [go_sem]
  have hv1 : Own w1 v 91 3 q.length (rows Pd.cells q) := hv.mod m1 fun k _ h => h
  have m1' : Mod (ownS v) w w1 := m1.mono fun _ _ h => h.elim
  rcases hi0 with ⟨rfl, hall⟩ | ⟨j0, rfl, hj0, hjg, hpre⟩
  · have hfl : q.filter (fun p => !decide ((p.file : Int) = g)) = q := by
      rw [List.filter_eq_self]; intro p hp; simpa using hall p hp
    rw [hfl] at k
    refine ⟨fun _ => k w1 v hv1 rfl m1', fun h => ?_⟩
    simp at h
  · refine ⟨fun h => absurd (of_decide_eq_true h) (by omega), fun _ => ?_⟩
    rcases hv1.blk with ⟨-, h0, -⟩ | ⟨gb, cap, rest, rfl, hblk, hrest, hcap, hcm⟩
    · omega
    have hne : gb ≠ b := fun e => hvb (by rw [e]; rfl)
    unfold h98_1
    simp only [go_sem]
    rw [w64 (by omega) (by omega)]
    refine loopN q.length (fun j τ w' => Mod (ownS (.slice (some ⟨gb, 0, none⟩) q.length cap)) w w' ∧ Blk w' b 3 [.int .i64 g] ∧ τ 0 = .slice (some ⟨gb, 0, none⟩) q.length cap ∧ τ 1 = fv ∧ τ 6 = .int .i64 j ∧ j0 < j ∧
      ∃ (i : Nat) (R : List Pd), τ 5 = .int .i64 i ∧ i < j ∧ i = ((q.take j).filter fun p => !decide ((p.file : Int) = g)).length ∧ R.length = j - i ∧
        Blk w' gb 91 (rows Pd.cells (((q.take j).filter fun p => !decide ((p.file : Int) = g)) ++ R ++ q.drop j) ++ rest)) ?_ ?_
    · refine ⟨j0 + 1, by omega, m1', hb.mod m1 fun h => h, by simp [go_sem], by simp [go_sem], by simp [go_sem], by omega, j0, [q[j0]], by simp [go_sem], by omega, ?_, ?_, ?_⟩
      · rw [filter_take hj0, List.filter_eq_self.2 (by intro p hp; simpa using hpre p hp)]
        simp [hjg]; omega
      · simp
      · rw [filter_take hj0, List.filter_eq_self.2 (by intro p hp; simpa using hpre p hp)]
        have : q.take j0 ++ (if (!decide ((q[j0].file : Int) = g)) = true then [q[j0]] else []) ++ [q[j0]] ++ q.drop (j0 + 1) = q := by
          simp [hjg]
        rw [this]; exact hblk
    · rintro j τ w2 hj ⟨m2, hb2, t0, t1, t6, hjj, i, R, t5, hij, hil, hR, hblk2⟩
      unfold h98_2
      simp only [go_sem, t0, t1, t5, t6]
      refine ⟨fun hlt => ?_, fun hge => ?_⟩
      · have hlt : j < q.length := by simpa using hlt
        have hlA : (((q.take j).filter fun p => !decide ((p.file : Int) = g)) ++ R).length = j := by rw [List.length_append, ← hil, hR]; omega
        have hlen : (((q.take j).filter fun p => !decide ((p.file : Int) = g)) ++ R ++ q.drop j).length = q.length := by rw [List.length_append, hlA, List.length_drop]; omega
        have hcellj : ∀ c, c < 3 → w2.cell? ⟨gb, j * 3 + c, none⟩ = q[j].cells[c]? := by
          intro c hc
          rw [hblk2.cell, List.getElem?_append_left (by rw [rows_len Pd.cells_len, hlen]; omega), rows_get Pd.cells_len _ j c (by omega) hc]
          congr 2
          rw [List.getElem_append_right (by omega)]
          simp [hlA]
        have hld : loadN w2 ⟨gb, j * 3, none⟩ 3 = q[j].cells.toArray := loadN_of rfl fun c hc => by rw [e_add]; exact hcellj c hc
        have hsome : ∀ c, c < 3 → (w2.cell? ⟨gb, j * 3 + c, none⟩).isSome = true := fun c hc => by rw [hcellj c hc]; simp [Pd.cells_len, hc]
        unfold h98_3
        simp only [go_sem, t0, t1, t5, t6, hld]
        refine ⟨⟨by omega, by omega⟩, hsome, ?_⟩
        refine alloc_ (z := .agg #[.int .i64 0, .int .i64 0, str []]) (cs := [.int .i64 0, .int .i64 0, str []]) (by kernel_rfl) rfl ?_
        intro c w3 hc hbc m3 hsz3
        have hlt2 := hblk2.lt
        refine storeN sz91 rfl hbc (by simp) (by intro u hu; simp [Pd.cells] at hu; rcases hu with rfl | rfl | rfl <;> rfl) ?_
        intro w4 hbc4 m4 hsz4
        simp only [List.take_zero, List.nil_append, Nat.zero_add, show ([Value.int .i64 0, .int .i64 0, str []]).drop 3 = [] from rfl, List.append_nil] at hbc4
        have hld4 : loadN w4 ⟨c, 0, none⟩ 3 = q[j].cells.toArray := by rw [hbc4.loadN (by rw [Pd.cells_len]; omega)]; simp [← Pd.cells_len q[j]]
        have hsome4 := hbc4.some (o := 0) (n := 3) (by rw [Pd.cells_len]; omega)
        simp only [e_add] at hsome4
        simp only [go_sem, t0, t1, t5, t6, hld4] at hsome4 ⊢
        refine ⟨hsome4, ht _ _ _ ((hb2.mod m3 fun h => h).mod m4 fun e => by have := hb2.lt; have : b = c := e; omega) q[j] ?_⟩
        intro w5 m5
        have hbc5 := hbc4.mod m5 fun h => h
        have hblk5 := ((hblk2.mod m3 fun h => h).mod m4 fun e => by have : gb = c := e; omega).mod m5 fun h => h
        have hb5 := ((hb2.mod m3 fun h => h).mod m4 fun e => by have := hb2.lt; have : b = c := e; omega).mod m5 fun h => h
        have hld5 : loadN w5 ⟨c, 0, none⟩ 3 = q[j].cells.toArray := by rw [hbc5.loadN (by rw [Pd.cells_len]; omega)]; simp [← Pd.cells_len q[j]]
        have hsome5 := hbc5.some (o := 0) (n := 3) (by rw [Pd.cells_len]; omega)
        simp only [e_add] at hsome5
        have m25 : Mod none' w2 w5 := (m3.trans m4 fun k hk e => by have : k = c := e; omega).trans' m5
        simp only [go_sem, t0, t1, t5, t6, hld5] at hsome5 ⊢
        have htk := filter_take (φ := fun p : Pd => !decide ((p.file : Int) = g)) hlt
        refine ⟨fun hkeep => ?_, fun hdrop => ?_⟩
        · have hk' : (!decide ((q[j].file : Int) = g)) = true := hkeep
          rw [if_pos hk'] at htk
          refine ⟨hsome5, ⟨by omega, by omega⟩, ?_⟩
          have hRpos : 1 ≤ R.length := by omega
          refine storeN sz91 rfl hblk5 (by rw [List.length_append, rows_len Pd.cells_len, hlen]; omega) (by intro u hu; simp [Pd.cells] at hu; rcases hu with rfl | rfl | rfl <;> rfl) ?_
          intro w6 hblk6 m6 hsz6
          unfold h98_4
          simp only [go_sem, t0, t1, t5, t6]
          rw [w64 (by omega) (by omega), w64 (by omega) (by omega)]
          refine ⟨j + 1, by omega, by omega, (m2.trans m25 fun i hi h => h.elim).trans m6 (fun k hk (e : k = gb) => by simp [ownS, Value.ownBlock, e]), hb5.mod m6 fun e => hne e.symm, rfl, by omega, i + 1, R.tail ++ [q[j]], rfl, by omega, ?_, ?_, ?_⟩
          · rw [htk, List.length_append, ← hil]; rfl
          · simp; omega
          · have hl6 : lay (rows Pd.cells ((q.take j).filter (fun p => !decide ((p.file : Int) = g)) ++ R ++ q.drop j) ++ rest) (i * 3) q[j].cells = _ := lay_app_left (by rw [rows_len Pd.cells_len, hlen, Pd.cells_len]; omega)
            rw [rows_set Pd.cells_len _ _ _ (by omega)] at hl6
            have hset : (((q.take j).filter fun p => !decide ((p.file : Int) = g)) ++ R ++ q.drop j).set i q[j] = ((q.take (j + 1)).filter fun p => !decide ((p.file : Int) = g)) ++ (R.tail ++ [q[j]]) ++ q.drop (j + 1) := by
              rw [htk, List.append_assoc, List.set_append_right _ _ (by omega), ← hil, Nat.sub_self]
              cases R with
              | nil => simp at hRpos
              | cons r R => rw [List.cons_append, List.set_cons_zero, List.tail_cons, List.drop_eq_getElem_cons hlt, List.append_assoc, List.append_assoc]; simp only [List.append_assoc]; rfl
            rw [hset] at hl6
            rw [← hl6]
            exact hblk6
        · have hk' : ¬ (!decide ((q[j].file : Int) = g)) = true := by simpa using hdrop
          rw [if_neg hk', List.append_nil] at htk
          unfold h98_4
          simp only [go_sem, t0, t1, t5, t6]
          rw [w64 (by omega) (by omega)]
          refine ⟨j + 1, by omega, by omega, m2.trans m25 fun i hi h => h.elim, hb5, rfl, by omega, i, R ++ [q[j]], rfl, by omega, by rw [htk]; exact hil, by simp; omega, ?_⟩
          rw [htk]
          have e : R ++ q.drop j = R ++ [q[j]] ++ q.drop (j + 1) := by rw [List.append_assoc, List.singleton_append, ← List.drop_eq_getElem_cons hlt]
          rw [List.append_assoc, ← e, ← List.append_assoc]
          exact hblk5
      · have hge : q.length ≤ j := by simpa using hge
        have hjq : j = q.length := by omega
        have htake : q.take j = q := List.take_of_length_le hge
        rw [htake] at hil hblk2
        rw [List.drop_of_length_le hge, List.append_nil] at hblk2
        unfold h98_5
        simp only [go_sem, t0, t1, t5, t6]
        refine ⟨⟨by omega, by omega⟩, ?_⟩
        refine clear_s sl84 (by intro u hu; simp [Value.cells, str] at hu; rcases hu with rfl | rfl | rfl <;> rfl) (g := gb) (o := i * 3) hblk2 ?_ ?_ ?_
        · intro hp
          rw [if_neg (by omega)]
          simp [go_sem]
        · rw [List.length_append, rows_len Pd.cells_len, List.length_append, ← hil, hR]; omega
        intro w3 zs hzs hblk3 m3 hsz3
        refine ⟨⟨by omega, by omega⟩, ?_⟩
        have hfin : lay (rows Pd.cells (q.filter (fun p => !decide ((p.file : Int) = g)) ++ R) ++ rest) (i * 3) zs = rows Pd.cells (q.filter fun p => !decide ((p.file : Int) = g)) ++ (zs ++ rest) := by
          have hi3 : i * 3 = (rows Pd.cells (q.filter fun p => !decide ((p.file : Int) = g))).length := by rw [rows_len Pd.cells_len, hil]
          have hz3 : zs.length = (rows Pd.cells R).length := by rw [hzs, rows_len Pd.cells_len, hR, hjq]
          rw [rows_app, List.append_assoc, hi3, lay_snoc _ _ _ zs.length rfl (by rw [List.length_append]; omega), hz3, List.drop_left, List.append_assoc]
        rw [hfin] at hblk3
        refine k w3 _ ?_ rfl (m2.trans m3 fun k hk (e : k = gb) => by simp [ownS, Value.ownBlock, e])
        rw [← hil]
        exact Own.of_blk (by rw [rows_len Pd.cells_len, hil]) hblk3 (by rw [List.length_append, hzs, hrest, ← Nat.add_mul]; congr 1; omega) (by omega) hcm
end
end Go.Proofs.Y

/- DE: the walks of settle, write and the crash. -/
namespace Go.Proofs.Y
open Go Go.HL Go.Proofs
section
variable {w : World} {next : Value → World → Prop} {QP : List PanicEntry → World → Prop}

theorem Dk.OK.settle {d : Dk} (ok : d.OK) (f : Nat) {s : Bytes} (hs : s.length ≤ 16777216) : (d.settle f s).OK := by
  refine ⟨by simp [Dk.settle, ok.nl], by simp [Dk.settle, ok.nf], fun t ht => ?_, fun t ht => ?_, fun p hp => ?_, ok.lost, ok.armed⟩
  · rcases List.mem_or_eq_of_mem_set ht with h | h
    · exact ok.bl t h
    · rw [h]; exact hs
  · rcases List.mem_or_eq_of_mem_set ht with h | h
    · exact ok.bf t h
    · rw [h]; exact hs
  · exact ok.bq p (List.mem_filter.1 hp).1

theorem settle_ {p : Nat} {d : Dk} {S : FP} (h : DR w p d S) {f : Nat} (hf : f < 12) {s : Bytes} (hs : s.length ≤ 16777216) (hqn : d.queue.length ≤ 9000000000000)
    (k : ∀ w', St S w w' p (d.settle f s) → next (.tuple #[]) w') :
    callvK Try.prog (.func (.func 66) #[] #[]) [ptr p, .int .i64 f, str s] w next QP := by
  refine r66 rfl ?_
  unfold h66
  simp only [go_sem]
  refine box_ (cs := [.int .i64 f]) rfl ?_
  intro b w1 hb0 hbb m1 hsz1
  have ok := h.ok
  have h' := (h.mod0 m1).drew
  have hbb' : Blk w1.drew b 3 [.int .i64 f] := hbb
  have hsz' : w1.drew.heap.size = b + 1 := hsz1
  have m1' : Mod none' w w1.drew := m1.trans' (Mod.drew _ _)
  generalize w1.drew = w2 at h' hbb' hsz' m1'
  clear hbb hsz1 m1
  obtain ⟨qv, kv, hb, hq, hk, h1, h2, c24, c25, c26, c27, c28⟩ := h'.parts
  have cb : w2.cell? ⟨b, 0, none⟩ = some (.int .i64 f) := by rw [hbb'.cell]; rfl
  have hpb : p ≠ b := fun e => by have := h.plt; omega
  simp only [go_sem, cb]
  refine ⟨⟨by omega, by omega⟩, ?_⟩
  refine store1 sz9 hb (by rw [cells_len ok.nl ok.nf]; omega) rfl ?_
  intro w3 hb3 m3 hsz3
  rw [cells_set_last ok.nl hf] at hb3
  have hbb3 := hbb'.mod m3 fun e => hpb e.symm
  have cb3 : w3.cell? ⟨b, 0, none⟩ = some (.int .i64 f) := by rw [hbb3.cell]; rfl
  simp only [go_sem, cb, cb3]
  refine ⟨⟨by omega, by omega⟩, ?_⟩
  refine store1 sz9 hb3 (by rw [cells_len (by simp [ok.nl]) (by simp [ok.nf])]; omega) rfl ?_
  intro w4 hb4 m4 hsz4
  rw [cells_set_file (by simp [ok.nl]) (by simp [ok.nf]) hf] at hb4
  have hbb4 := hbb3.mod m4 fun e => hpb e.symm
  have m24 := m3.trans' m4
  have hq4 := hq.mod m24 fun k hk => (h1 k hk).2
  have hk4 := hk.mod' m24 fun hn k hk (e : k = p) => (h2 hn k hk).2 (e ▸ h.self)
  have c24' : w4.cell? ⟨p, 24, none⟩ = some qv := by rw [hb4.cell, cells_tail (by simp [ok.nl]) (by simp [ok.nf]) 0]; rfl
  simp only [go_sem, cb, cb3, c24', List.nil_append]
  have hqb : qv.ownBlock ≠ some b := fun e => by have := h.lt b (h.sub b (h1 b e).1); omega
  refine delete_ (test57 b f) hbb4 hq4 hqn hqb ?_
  intro w5 v' own5 hvb5 m5
  have hqp : ∀ k, ownS qv k → k ≠ p := fun k hk => (h1 k hk).2
  have hb5 := hb4.mod m5 fun e => (h1 p e).2 rfl
  have hk5 := hk4.mod' m5 fun hn k hk e => (h2 hn k hk).2 (h1 k e).1
  obtain ⟨av, cv, rfl, -⟩ := own5.form
  refine store1 sz84 hb5 (by rw [cells_len (by simp [ok.nl]) (by simp [ok.nf])]; omega) rfl ?_
  intro w6 hb6 m6 hsz6
  have hfil : (d.queue.filter fun p => !decide ((p.file : Int) = (f : Int))) = (d.settle f s).queue := by
    simp only [Dk.settle]; congr 1; funext p; congr 1; congr 1; apply propext; omega
  rw [hfil] at own5 hb6
  have hcs : ({ { d with lasts := d.lasts.set f s } with files := d.files.set f s }.cells qv kv).set 24 (.slice av (d.settle f s).queue.length cv) = (d.settle f s).cells (.slice av (d.settle f s).queue.length cv) kv := by
    rw [show 24 = 24 + 0 from rfl, cells_set_tail (by simp [ok.nl]) (by simp [ok.nf])]; rfl
  rw [hcs] at hb6
  have hp := h.self
  have mS : ∀ k, ownS qv k → S.W k := fun k hk => (h1 k hk).1
  have mm : Mod S.W w w6 := ((((m1'.mono (T := S.W) fun _ _ h => h.elim).trans m24 fun i _ (e : i = p) => e ▸ hp).trans m5 fun i _ e => mS i e).trans m6 fun i _ (e : i = p) => e ▸ hp)
  rw [hfil] at hvb5
  refine k w6 (.of ⟨ok.settle f hs, ⟨_, kv, hb6, own5.mod m6 fun k hk (e : k = p) => ?_, hk5.mod' m6 fun hn k hk (e : k = p) => (h2 hn k hk).2 (e ▸ hp), fun k hk => ?_, h2⟩, hp, h.sub, fun k hk => Nat.lt_of_lt_of_le (h.lt k hk) mm.size⟩ mm)
  · rw [hvb5] at hk; exact (h1 k hk).2 e
  · rw [hvb5] at hk; exact (h1 k hk).1
end
end Go.Proofs.Y

/- DF: the walks of write and of the crash. -/
namespace Go.Proofs.Y
open Go Go.HL Go.Proofs

theorem pieces_fuel (f : Nat) : ∀ (n m a : Nat) (s : Bytes), s.length ≤ n → s.length ≤ m → pieces f n a s = pieces f m a s
  | 0, m, a, s, h1, h2 => by
    have : s = [] := List.eq_nil_of_length_eq_zero (by omega)
    subst this; cases m <;> simp [pieces]
  | n + 1, 0, a, s, h1, h2 => by
    have : s = [] := List.eq_nil_of_length_eq_zero (by omega)
    subst this; simp [pieces]
  | n + 1, m + 1, a, s, h1, h2 => by
    simp only [pieces]
    by_cases hs : s = []
    · rw [if_pos hs, if_pos hs]
    · have hl : 0 < s.length := List.length_pos_iff.2 hs
      have := piece_pos (a := a) hl
      rw [if_neg hs, if_neg hs, pieces_fuel f n m _ _ (by simp; omega) (by simp; omega)]

theorem pieces_len (f : Nat) : ∀ (n a : Nat) (s : Bytes), (pieces f n a s).length ≤ s.length
  | 0, _, _ => by simp [pieces]
  | n + 1, a, s => by
    simp only [pieces]
    by_cases hs : s = []
    · rw [if_pos hs]; simp
    · have hl : 0 < s.length := List.length_pos_iff.2 hs
      have := piece_pos (a := a) hl
      have := piece_le (n := s.length) (a := a)
      rw [if_neg hs, List.length_cons]
      have := pieces_len f n (a + piece s.length a) (s.drop (piece s.length a))
      simp at this; omega

section
variable {w : World} {next : Value → World → Prop} {QP : List PanicEntry → World → Prop}

theorem write1_ {p : Nat} {d : Dk} {S : FP} (h : DR w p d S) {f a : Int} (ha : -9223372036854775808 ≤ a) (ha' : a ≤ 9223372036854775807) {s : Bytes} (hqn : d.queue.length + s.length ≤ 1000000000000) (hsl : s.length ≤ 9223372036854775807)
    (k : ∀ w', St S w w' p (d.writeD f a s) → next (.int .i64 (d.writeE f a s)) w') :
    callvK Try.prog (.func (.func 64) #[] #[]) [ptr p, .int .i64 f, .int .i64 a, str s] w next QP := by
  refine r64 rfl ?_
  have ok := h.ok
  unfold h64
  simp only [go_sem]
  refine bsl1 sl22 rfl rfl (by omega) ?_
  intro b w1 hbb own1 blk1 m1 sz1
  have st1 : St S w w1 p d := (St.refl h).mod0 m1
  refine may_ st1.dr (by omega) (l := [f]) own1.sl ?_
  simp only [go_sem]
  refine ⟨fun he => ?_, fun he => ?_⟩
  · have he : d.may [f] ≠ 0 := by simpa using he
    have hE : d.writeE f a s = d.may [f] := by simp [Dk.writeE, he]
    have hD : d.writeD f a s = d := by simp [Dk.writeD, hE, he]
    rw [hE, hD] at k
    exact k _ st1
  · have he : d.may [f] = 0 := by simpa using he
    have hf : isF f = true ∧ d.down = false := by
      rw [may1] at he
      rcases hd : d.down with _ | _
      · rcases hf : isF f with _ | _
        · simp [hd, hf] at he
        · exact ⟨rfl, rfl⟩
      · simp [hd] at he
    have hf' : 0 ≤ f ∧ f < 12 := by simpa [isF] using hf.1
    unfold h64_1
    simp only [go_sem]
    refine ⟨fun hneg => ?_, fun hneg => ?_⟩
    · have hneg : a < 0 := by simpa using hneg
      have hE : d.writeE f a s = 1 := by simp [Dk.writeE, he, hneg]
      have hD : d.writeD f a s = d := by simp [Dk.writeD, hE]
      rw [hE, hD] at k
      exact k _ st1
    have hneg : 0 ≤ a := by simpa using hneg
    rw [w64 (by omega) (by omega)]
    refine ⟨fun hfull => ?_, fun hfull => ?_⟩
    · have hfull : 16777216 < a ∨ 16777216 - a < s.length := by
        rcases Int.lt_or_le 16777216 a with h | h
        · exact .inl h
        · simp [Int.not_lt.2 h] at hfull; exact .inr hfull
      have hE : d.writeE f a s = 6 := by simp only [Dk.writeE, he, ne_eq, not_true, if_false, if_neg (Int.not_lt.2 hneg), if_pos hfull]
      have hD : d.writeD f a s = d := by simp [Dk.writeD, hE]
      rw [hE, hD] at k
      exact k _ st1
    have hfull : ¬ (16777216 < a ∨ 16777216 - a < s.length) := by
      rintro (h | h)
      · simp [h] at hfull
      · simp [h] at hfull
    have hE : d.writeE f a s = 0 := by simp only [Dk.writeE, he, ne_eq, not_true, if_false, if_neg (Int.not_lt.2 hneg), if_neg hfull]
    refine ⟨fun hs0 => ?_, fun hs0 => ?_⟩
    · have hs0 : s = [] := by simpa using hs0
      have hD : d.writeD f a s = d := by simp [Dk.writeD, hs0]
      rw [hE, hD] at k
      exact k _ st1
    have hs0 : s ≠ [] := by simpa using hs0
    have hD : d.writeD f a s = { d with files := d.files.set f.toNat (put (d.file f.toNat) a.toNat s), queue := d.queue ++ pieces f.toNat s.length a.toNat s } := by simp [Dk.writeD, hE, hs0]
    rw [hE, hD] at k
    obtain ⟨fn, rfl⟩ : ∃ g : Nat, f = g := ⟨f.toNat, by omega⟩
    obtain ⟨an, rfl⟩ : ∃ g : Nat, a = g := ⟨a.toNat, by omega⟩
    simp only [Int.toNat_natCast] at k
    have hfn : fn < 12 := by omega
    have hend : an + s.length ≤ 16777216 := by
      have : ¬ ((16777216 : Int) - an < s.length) := fun h => hfull (.inr h)
      omega
    unfold h64_2
    simp only [go_sem]
    have st2 := st1.drew
    have cg : ∀ a, w1.cell? a = w1.drew.cell? a := fun _ => rfl
    generalize w1.drew = w2 at st2 cg ⊢
    obtain ⟨qv, kv, hb, hq, hk, h1, h2, c24, c25, c26, c27, c28⟩ := st2.dr.parts
    have cf : w2.cell? ⟨p, 12 + fn, none⟩ = some (str (d.file fn)) := by rw [hb.cell, cells_file ok.nl ok.nf hfn]
    have hfl : (d.file fn).length ≤ 16777216 := by
      unfold Dk.file
      rw [List.getD_eq_getElem?_getD, List.getElem?_eq_getElem (by rw [ok.nf]; exact hfn)]
      exact ok.bf _ (List.getElem_mem _)
    simp only [go_sem, cg, cf]
    refine ⟨⟨by omega, by omega⟩, ?_⟩
    refine put_ _ _ _ hfl hend ?_
    intro w3 m3
    have hb3 := hb.mod m3 fun h => h
    refine ⟨⟨by omega, by omega⟩, ?_⟩
    refine store1 sz9 hb3 (by rw [cells_len ok.nl ok.nf]; omega) rfl ?_
    intro w4 hb4 m4 hsz4
    rw [cells_set_file ok.nl ok.nf hfn] at hb4
    have hok4 : Dk.OK { d with files := d.files.set fn (put (d.file fn) an s) } := by
      refine ⟨ok.nl, by simp [ok.nf], ok.bl, fun t ht => ?_, ok.bq, ok.lost, ok.armed⟩
      rcases List.mem_or_eq_of_mem_set ht with h | h
      · exact ok.bf t h
      · rw [h, put_len]; omega
    have m24 := (m3.mono (T := fun k => k = p) fun _ _ h => h.elim).trans' m4
    have dr4 : DR w4 p { d with files := d.files.set fn (put (d.file fn) an s) } st2.foot := st2.dr.again m24 hok4 hb4 hq hk h1 h2
    have st4 : St S w w4 p { d with files := d.files.set fn (put (d.file fn) an s) } := st2.trans (.of dr4 (m24.mono fun k _ (e : k = p) => e ▸ st2.dr.self))
    clear hb hq hk h1 h2 c24 c25 c26 c27 c28 cf hb3 hb4 m24 dr4 m3 m4 hsz4 qv kv
    refine loopN s.length (fun i τ w' => τ 0 = ptr p ∧ τ 1 = .int .i64 fn ∧ ∃ (r : Bytes) (c : Nat) (Q : List Pd), τ 2 = .int .i64 c ∧ τ 3 = str r ∧ r.length = s.length - i ∧ c + r.length = an + s.length ∧ (Q.length + r.length ≤ d.queue.length + s.length) ∧
      Q ++ pieces fn r.length c r = d.queue ++ pieces fn s.length an s ∧ St S w w' p { d with files := d.files.set fn (put (d.file fn) an s), queue := Q }) ?_ ?_
    · exact ⟨0, by omega, by simp [go_sem], by simp [go_sem], s, an, d.queue, by simp [go_sem], by simp [go_sem], by omega, rfl, by omega, rfl, st4⟩
    · rintro i τ w5 hi ⟨t0, t1, r, c, Q, t2, t3, hrl, hcr, hQl, hQ, st5⟩
      unfold h64_3
      simp only [go_sem, t0, t1, t2, t3]
      refine ⟨fun hne => ?_, fun hnil => ?_⟩
      · have hne : r ≠ [] := by simpa using hne
        have hrp : 0 < r.length := List.length_pos_iff.2 hne
        have hpp := piece_pos (n := r.length) (a := c) hrp
        have hpl := piece_le (n := r.length) (a := c)
        have hmn : (if 64 - ((c : Int).tmod 64) < (r.length : Int) then 64 - ((c : Int).tmod 64) else (r.length : Int)) = ((piece r.length c : Nat) : Int) := by
          unfold piece
          rw [Int.tmod_eq_emod_of_nonneg (by omega)]
          split <;> omega
        unfold h64_4
        simp only [go_sem, t0, t1, t2, t3]
        rw [w64 (by rw [Int.tmod_eq_emod_of_nonneg (by omega)]; omega) (by rw [Int.tmod_eq_emod_of_nonneg (by omega)]; omega)]
        simp only [hmn]
        have st6 := st5.drew
        have cg5 : ∀ a, w5.cell? a = w5.drew.cell? a := fun _ => rfl
        generalize w5.drew = w6 at st6 cg5 ⊢
        have ok6 := st6.dr.ok
        obtain ⟨qv, kv, hb, hq, hk, h1, h2, c24, c25, c26, c27, c28⟩ := st6.dr.parts
        simp only [go_sem, cg5, c24]
        refine ⟨by decide, ⟨by omega, by omega⟩, by simp, by simp, by simp, ?_⟩
        refine bsl1 sl84 (cs := (⟨fn, c, r.take (piece r.length c)⟩ : Pd).cells) rfl rfl (by omega) ?_
        intro nb w7 hnb ownn blkn m7 sz7
        have hb7 := hb.mod m7 fun h => h
        have c24' : w7.cell? ⟨p, 24, none⟩ = some qv := by rw [hb7.cell, cells_tail ok6.nl ok6.nf 0]; rfl
        simp only [go_sem, c24']
        have hq7 := hq.mod m7 fun k _ h => h
        have hk7 := hk.mod' m7 fun _ k _ h => h
        refine append_ sl84 hq7 ownn.sl (by intro u hu; simp [Pd.cells] at hu; rcases hu with rfl | rfl | rfl <;> rfl) (by show (Q.length + 1) * 32 ≤ _; omega) (by show Q.length + 1 ≤ _; unfold maxLen; omega) ?_
        intro v' w8 own8 m8 hvb8 _
        have hb8 := hb7.mod m8 fun e => (h1 p e).2 rfl
        have hk8 := hk7.mod' m8 fun hn k hk e => (h2 hn k hk).2 (h1 k e).1
        obtain ⟨av, cv, rfl, -⟩ := own8.form
        refine store1 sz84 hb8 (by rw [cells_len ok6.nl ok6.nf]; omega) rfl ?_
        intro w9 hb9 m9 hsz9
        have hpp6 := st6.dr.plt
        have hqlt := hq.lt
        have hvp : ∀ k, (Value.slice av (Q.length + 1) cv).ownBlock = some k → (st6.foot.W k ∨ (w6.heap.size ≤ k ∧ k < w9.heap.size)) ∧ k ≠ p := by
          intro k hk
          have hlt := own8.lt k hk
          rcases hvb8 k hk with h | h
          · exact ⟨.inl (h1 k h).1, (h1 k h).2⟩
          · have := m7.size
            exact ⟨.inr ⟨by omega, by omega⟩, by omega⟩
        have hcs : ({ d with files := d.files.set fn (put (d.file fn) an s), queue := Q }.cells qv kv).set 24 (.slice av (Q.length + 1) cv) = ({ d with files := d.files.set fn (put (d.file fn) an s), queue := Q ++ [⟨fn, c, r.take (piece r.length c)⟩] } : Dk).cells (.slice av (Q.length + 1) cv) kv := by
          rw [show 24 = 24 + 0 from rfl, cells_set_tail ok6.nl ok6.nf]; rfl
        have hb9' := hb9
        rw [hcs] at hb9'
        have mS : ∀ k, ownS qv k → st6.foot.W k := fun k hk => (h1 k hk).1
        have mm : Mod st6.foot.W w6 w9 := ((m7.mono (T := st6.foot.W) fun _ _ h => h.elim).trans m8 fun k _ e => mS k e).trans m9 fun k _ (e : k = p) => e ▸ st6.dr.self
        have st9 : St S w w9 p { d with files := d.files.set fn (put (d.file fn) an s), queue := Q ++ [⟨fn, c, r.take (piece r.length c)⟩] } := by
          refine st6.trans ⟨⟨fun k => st6.foot.W k ∨ (w6.heap.size ≤ k ∧ k < w9.heap.size), fun k => st6.foot.R k ∨ (w6.heap.size ≤ k ∧ k < w9.heap.size)⟩, ⟨⟨ok6.nl, ok6.nf, ok6.bl, ok6.bf, ?_, ok6.lost, ok6.armed⟩, ⟨_, kv, hb9', ?_, ?_, fun k hk => (hvp k hk).1, fun hn k hk => ⟨.inl (h2 hn k hk).1, fun hW => ?_⟩⟩, .inl st6.dr.self, fun k hk => hk.imp (st6.dr.sub k) id, ?_⟩, fun k hk => hk.imp id fun h => h.1, fun k hk => hk.imp id fun h => h.1, mm⟩
          · intro x hx
            rcases List.mem_append.1 hx with hx | hx
            · exact ok6.bq x hx
            · rw [List.mem_singleton.1 hx]
              refine ⟨hfn, ?_⟩
              simp only [List.length_take]; omega
          · have : (Q ++ [(⟨fn, c, r.take (piece r.length c)⟩ : Pd)]).length = Q.length + 1 := by simp
            rw [this, rows_app]
            exact own8.mod m9 fun k hk (e : k = p) => (hvp k hk).2 e
          · exact hk8.mod' m9 fun hn k hk (e : k = p) => (h2 hn k hk).2 (e ▸ st6.dr.self)
          · rcases hW with hW | hW
            · exact (h2 hn k hk).2 hW
            · have := st6.dr.lt k (h2 hn k hk).1; omega
          · intro k hk
            rcases hk with hk | hk
            · have := st6.dr.lt k hk; have := mm.size; omega
            · exact hk.2
        refine ⟨⟨by omega, by omega⟩, i + piece r.length c, by omega, by omega, r.drop (piece r.length c), c + piece r.length c, Q ++ [⟨fn, c, r.take (piece r.length c)⟩], ?_, rfl, by simp; omega, by simp; omega, by simp; omega, ?_, st9.drew⟩
        · rw [w64 (by omega) (by omega)]; rfl
        · rw [← hQ]
          obtain ⟨m, hm⟩ : ∃ m, r.length = m + 1 := ⟨r.length - 1, by omega⟩
          conv => rhs; rw [hm]
          simp only [pieces, if_neg hne]
          rw [List.append_assoc]
          congr 1
          simp only [List.singleton_append]
          congr 1
          exact pieces_fuel _ _ _ _ _ (by simp) (by simp; omega)
      · have hnil : r = [] := by simpa using hnil
        subst hnil
        have hQ' : Q = d.queue ++ pieces fn s.length an s := by rw [← hQ]; simp [pieces]
        subst hQ'
        unfold h64_5
        simp only [go_sem]
        exact k _ st5
end
end Go.Proofs.Y

/- DG: the walk of the crash. -/
namespace Go.Proofs.Y
open Go Go.HL Go.Proofs

theorem kept_len {k : Option Int} {b c : Bytes} (h : kept k b = some c) : c.length ≤ b.length := by
  unfold kept at h
  split at h
  · cases h
  · split at h
    · cases h; exact Nat.le_refl _
    · split at h
      · cases h; simp; omega
      · cases h
theorem getD_le {l : List Bytes} {n : Nat} (h : ∀ s ∈ l, s.length ≤ n) (i : Nat) : (l.getD i []).length ≤ n := by
  rw [List.getD_eq_getElem?_getD]
  rcases Nat.lt_or_ge i l.length with hi | hi
  · rw [List.getElem?_eq_getElem hi]; exact h _ (List.getElem_mem hi)
  · rw [List.getElem?_eq_none hi]; simp
theorem surv_bound {lasts : List Bytes} (h : ∀ s ∈ lasts, s.length ≤ 16777216) {p : Pd} (hp : p.at_ + p.bytes.length ≤ 16777216) (k : Option Int) : ∀ s ∈ surv lasts p k, s.length ≤ 16777216 := by
  intro s hs
  unfold surv at hs
  split at hs
  · exact h s hs
  · rename_i b hb
    rcases List.mem_or_eq_of_mem_set hs with h' | rfl
    · exact h s h'
    · have := kept_len hb
      have := getD_le h p.file
      rw [put_len]; omega
theorem survs_bound : ∀ (q : List Pd) (lasts : List Bytes) (ks : List Int), (∀ s ∈ lasts, s.length ≤ 16777216) → (∀ p ∈ q, p.at_ + p.bytes.length ≤ 16777216) → ∀ s ∈ survs lasts q ks, s.length ≤ 16777216
  | [], _, _, h, _ => h
  | p :: q, lasts, ks, h, hq => survs_bound q _ _ (surv_bound h (hq p (by simp)) _) fun x hx => hq x (by simp [hx])

theorem survs_take {lasts : List Bytes} {q : List Pd} {ks : List Int} {i : Nat} (hi : i < q.length) : survs lasts (q.take (i + 1)) ks = surv (survs lasts (q.take i) ks) q[i] ks[i]? := by
  rw [List.take_succ_eq_append_getElem hi, survs_snoc, List.length_take, Nat.min_eq_left (by omega)]

def mid (d : Dk) (ks : List Int) (i : Nat) : Dk := { d with lasts := survs d.lasts (d.queue.take i) ks, down := true, armed := 0 }
theorem mid_ok {d : Dk} (ok : d.OK) (ks : List Int) (i : Nat) : (mid d ks i).OK :=
  ⟨by simp [mid, survs_len, ok.nl], ok.nf, survs_bound _ _ _ ok.bl fun p hp => (ok.bq p (List.mem_of_mem_take hp)).2, ok.bf, ok.bq, ok.lost, Nat.zero_le _⟩

theorem sz83 : szOf Try.prog 83 = some 12 := by kernel_rfl

theorem Dk.OK.crash {d : Dk} (ok : d.OK) (ks : List Int) : (d.crash ks).OK := by
  unfold Dk.crash
  split
  · exact ok
  · exact ⟨by simp [survs_len, ok.nl], by simp [survs_len, ok.nl], survs_bound _ _ _ ok.bl fun p hp => (ok.bq p hp).2, survs_bound _ _ _ ok.bl fun p hp => (ok.bq p hp).2, fun p hp => (nomatch hp), ok.lost, Nat.zero_le _⟩

section
variable {w : World} {next : Value → World → Prop} {QP : List PanicEntry → World → Prop}

theorem crash_ {p : Nat} {d : Dk} {S : FP} (h : DR w p d S) {v : Value} {ks : List Int} {n : Nat} (hv : Sl w v 1 n (ints ks)) (hvp : 0 < n → v.ownBlock ≠ some p) (hqn : d.queue.length ≤ 9000000000000)
    (k : ∀ w', St S w w' p (d.crash ks) → next (.tuple #[]) w') : callvK Try.prog (.func (.func 21) #[] #[]) [ptr p, v] w next QP := by
  refine r21 rfl ?_
  have ok := h.ok
  obtain ⟨qv, kv, hb, hq, hk, h1, h2, c24, c25, c26, c27, c28⟩ := h.parts
  unfold h21
  simp only [go_sem, c26]
  refine ⟨fun hd => ?_, fun hd => ?_⟩
  · have : d.crash ks = d := by simp [Dk.crash, hd]
    rw [this] at k
    exact k w (.refl h)
  unfold h21_1
  simp only [go_sem, c26]
  refine store1 sz4 hb (by rw [cells_len ok.nl ok.nf]; omega) rfl ?_
  intro w1 hb1 m1 hsz1
  refine store1 sz3 hb1 (by rw [List.length_set, cells_len ok.nl ok.nf]; omega) rfl ?_
  intro w2 hb2 m2 hsz2
  have hcs : ((d.cells qv kv).set 26 (.bool true)).set 27 (.int .i64 0) = (mid d ks 0).cells qv kv := by
    rw [show 26 = 24 + 2 from rfl, show 27 = 24 + 3 from rfl, cells_set_tail ok.nl ok.nf]
    rw [List.set_append_right _ _ (by simp [ok.nl]), List.set_append_right _ _ (by simp [ok.nl, ok.nf])]
    simp only [List.length_map, ok.nl, ok.nf]; simp [mid, survs, Dk.cells]
  rw [hcs] at hb2
  have m12 := m1.trans' m2
  have dr2 : DR w2 p (mid d ks 0) S := h.again m12 (mid_ok ok ks 0) hb2 hq hk h1 h2
  have st2 : St S w w2 p (mid d ks 0) := .of dr2 (m12.mono fun k _ (e : k = p) => e ▸ h.self)
  have c24' : w2.cell? ⟨p, 24, none⟩ = some qv := by rw [hb2.cell, cells_tail (mid_ok ok ks 0).nl (mid_ok ok ks 0).nf 0]; rfl
  have hv2 : Sl w2 v 1 n (ints ks) := hv.mod' m12 fun hn k hk (e : k = p) => hvp hn (by rw [hk, e])
  have hq2 := hq.mod m12 fun k hk => (h1 k hk).2
  obtain ⟨qa, qc, hqv, -⟩ := hq.form
  obtain ⟨va, vc, hvv, hvc, -⟩ := hv.form
  subst hqv; subst hvv
  simp only [go_sem, c24']
  -- what the rounds keep
  refine loopN d.queue.length (fun i τ w' => τ 0 = ptr p ∧ τ 1 = .slice va n vc ∧ τ 20 = .slice qa d.queue.length qc ∧ τ 21 = .int .i64 d.queue.length ∧ τ 22 = .int .i64 i ∧
    (∃ kv, Blk w' p 86 ((mid d ks i).cells (.slice qa d.queue.length qc) kv) ∧ Sl w' kv 1 d.keep.length (ints d.keep) ∧ (0 < d.keep.length → ∀ k, kv.ownBlock = some k → S.R k ∧ ¬ S.W k)) ∧
    Sl w' (.slice va n vc) 1 n (ints ks) ∧ Own w' (.slice qa d.queue.length qc) 91 3 d.queue.length (rows Pd.cells d.queue) ∧ Mod S.W w w') ?_ ?_
  · exact ⟨0, by omega, by simp [go_sem], by simp [go_sem], by simp [go_sem], by simp [go_sem], by simp [go_sem], ⟨kv, hb2, hk.mod' m12 fun hn k hk (e : k = p) => (h2 hn k hk).2 (e ▸ h.self), h2⟩, hv2, hq2, st2.mod⟩
  · rintro i τ w3 hi ⟨t0, t1, t20, t21, t22, ⟨kv3, hb3, hk3, hkb3⟩, hv3, hq3, m3⟩
    have oki := mid_ok ok ks i
    unfold h21_2
    simp only [go_sem, t0, t1, t20, t21, t22]
    refine ⟨fun hlt => ?_, fun hge => ?_⟩
    · have hlt : i < d.queue.length := by simpa using hlt
      obtain ⟨gb, o, c', hva', hcc, hcell⟩ := hq3.sl.get Pd.cells_len rfl (by omega)
      simp only [Value.slice.injEq] at hva'
      obtain ⟨rfl, -, rfl⟩ := hva'
      have hld : loadN w3 ⟨gb, o + i * 3, none⟩ 3 = d.queue[i].cells.toArray := loadN_of rfl fun j hj => by rw [e_add]; exact hcell i j hlt hj
      have hsome : ∀ j, j < 3 → (w3.cell? ⟨gb, o + i * 3 + j, none⟩).isSome = true := fun j hj => by rw [hcell i j hlt hj]; simp [Pd.cells_len, hj]
      unfold h21_3
      simp only [go_sem, t0, t1, t20, t21, t22, hld]
      refine ⟨⟨by omega, by omega⟩, hsome, ?_⟩
      refine alloc_ (z := .agg #[.int .i64 0, .int .i64 0, str []]) (cs := [.int .i64 0, .int .i64 0, str []]) (by kernel_rfl) rfl ?_
      intro c w4 hc hbc m4 hsz4
      have hplt := hb3.lt
      refine storeN sz91 rfl hbc (by simp) (by intro u hu; simp [Pd.cells] at hu; rcases hu with rfl | rfl | rfl <;> rfl) ?_
      intro w5 hbc5 m5 hsz5
      simp only [List.take_zero, List.nil_append, Nat.zero_add, show ([Value.int .i64 0, .int .i64 0, str []]).drop 3 = [] from rfl, List.append_nil] at hbc5
      have m35 : Mod none' w3 w5 := m4.trans m5 fun k hk (e : k = c) => by omega
      have x0 : w5.cell? ⟨c, 0, none⟩ = some (.int .i64 d.queue[i].file) := by rw [hbc5.cell]; rfl
      have x1 : w5.cell? ⟨c, 1, none⟩ = some (.int .i64 d.queue[i].at_) := by rw [hbc5.cell]; rfl
      have x2 : w5.cell? ⟨c, 2, none⟩ = some (str d.queue[i].bytes) := by rw [hbc5.cell]; rfl
      have hb5 := hb3.mod m35 fun h => h
      have hv5 := hv3.mod m35 fun k _ h => h
      have hq5 := hq3.mod m35 fun k _ h => h
      have hk5 := hk3.mod' m35 fun _ k _ h => h
      have m5' : Mod S.W w w5 := m3.trans m35 fun i _ h => h.elim
      have hcp : c ≠ p := by omega
      have hbq := ok.bq d.queue[i] (List.getElem_mem hlt)
      have hfile := getD_le (mid_ok ok ks i).bl d.queue[i].file
      have htk := survs_take (lasts := d.lasts) (ks := ks) hlt
      clear hbc hsz4 m4 hsz5 m5 w4 hld hsome hcell m3 hb3 hv3 hq3 hk3
      have cl : w5.cell? ⟨p, d.queue[i].file, none⟩ = some (str ((mid d ks i).last d.queue[i].file)) := by rw [hb5.cell, cells_last oki.nl hbq.1]
      simp only [go_sem, t0, t1, t20, t21, t22, x0, x1, x2]
      refine ⟨fun hend => ?_, fun hin => ?_⟩
      · have hend : n ≤ i := by simpa using hend
        have hki : ks[i]? = none := List.getElem?_eq_none (by have := hv5.len; rw [ints_len] at this; omega)
        have hm : mid d ks (i + 1) = mid d ks i := by simp [mid, htk, surv, kept, hki]
        unfold h21_4
        simp only [go_sem, t0, t1, t20, t21, t22]
        rw [w64 (by omega) (by omega)]
        exact ⟨i + 1, by omega, by omega, rfl, ⟨kv3, by rw [hm]; exact hb5, hk5, hkb3⟩, hv5, hq5, m5'⟩
      have hin : i < n := by simpa using hin
      obtain ⟨hvl, va', vc', hva', -, hvc1⟩ := id hv5
      simp only [Value.slice.injEq] at hva'
      obtain ⟨rfl, -, rfl⟩ := hva'
      obtain ⟨vb, vo, rfl, hvcell⟩ := hvc1 (by omega)
      simp only [Nat.mul_one] at hvcell hvl
      have hik : i < ks.length := by rw [ints_len] at hvl; omega
      have hki : ks[i]? = some ks[i] := List.getElem?_eq_getElem hik
      have hvi := hvcell i hin
      rw [show (ints ks)[i]? = some (.int .i64 ks[i]) by simp [ints]] at hvi
      simp only [go_sem, t0, t1, t20, t21, t22, x0, x1, x2, hvi, cl]
      -- a part that survives
      have fin : ∀ (b : Bytes) (w6 w7 : World), kept (some ks[i]) d.queue[i].bytes = some b → Mod none' w5 w6 → Mod (fun k => k = p) w6 w7 →
          Blk w7 p 86 (((mid d ks i).cells (.slice (some ⟨gb, o, none⟩) d.queue.length qc) kv3).set d.queue[i].file (str (put ((mid d ks i).last d.queue[i].file) d.queue[i].at_ b))) →
          ∃ i', i < i' ∧ i' ≤ d.queue.length ∧ Value.int .i64 ((i : Int) + 1) = Value.int .i64 i' ∧
            (∃ kv, Blk w7 p 86 ((mid d ks i').cells (.slice (some ⟨gb, o, none⟩) d.queue.length qc) kv) ∧ Sl w7 kv 1 d.keep.length (ints d.keep) ∧ (0 < d.keep.length → ∀ k, kv.ownBlock = some k → S.R k ∧ ¬ S.W k)) ∧
            Sl w7 (.slice (some ⟨vb, vo, none⟩) n vc) 1 n (ints ks) ∧ Own w7 (.slice (some ⟨gb, o, none⟩) d.queue.length qc) 91 3 d.queue.length (rows Pd.cells d.queue) ∧ Mod S.W w w7 := by
        intro b w6 w7 hkb m6 m7 hb7
        have hm : { mid d ks i with lasts := (mid d ks i).lasts.set d.queue[i].file (put ((mid d ks i).last d.queue[i].file) d.queue[i].at_ b) } = mid d ks (i + 1) := by
          simp only [mid, htk, surv, hki, hkb, Dk.last]
        rw [cells_set_last oki.nl hbq.1, hm] at hb7
        refine ⟨i + 1, by omega, by omega, rfl, ⟨kv3, hb7, ?_, hkb3⟩, ?_, ?_, (m5'.trans m6 fun _ _ h => h.elim).trans m7 fun k _ (e : k = p) => e ▸ h.self⟩
        · exact (hk5.mod' m6 fun _ _ _ h => h).mod' m7 fun hn k hk (e : k = p) => (hkb3 hn k hk).2 (e ▸ h.self)
        · exact (hv5.mod m6 fun _ _ h => h).mod' m7 fun hn k hk (e : k = p) => hvp hn (by rw [hk, e])
        · exact (hq5.mod m6 fun _ _ h => h).mod m7 fun k hk (e : k = p) => (h1 k hk).2 e
      refine ⟨⟨by omega, by omega⟩, fun hk1 => ?_, fun hk1 => ?_⟩
      · have hk1 : ks[i] = 1 := by simpa using hk1
        refine ⟨⟨by omega, by omega⟩, ?_⟩
        refine put_ _ _ _ hfile hbq.2 ?_
        intro w6 m6
        have hb6 := (hb5.drew).mod m6 fun h => h
        have x0' : w6.cell? ⟨c, 0, none⟩ = some (.int .i64 d.queue[i].file) := by rw [(hbc5.drew.mod m6 fun h => h).cell]; rfl
        simp only [go_sem, x0']
        refine ⟨⟨by omega, by omega⟩, ?_⟩
        refine store1 sz9 hb6 (by rw [cells_len oki.nl oki.nf]; omega) rfl ?_
        intro w7 hb7 m7 hsz7
        unfold h21_4
        simp only [go_sem, t0, t1, t20, t21, t22]
        rw [w64 (by omega) (by omega)]
        exact fin d.queue[i].bytes w6 w7 (by simp [kept, hk1]) ((Mod.drew _ _).trans' m6) m7 hb7
      · have hk1 : ks[i] ≠ 1 := by simpa using hk1
        refine ⟨⟨by omega, by omega⟩, fun hk2 => ?_, fun hk2 => ?_⟩
        · have hk2 : ks[i] = 2 := by simpa using hk2
          refine ⟨⟨by omega, by omega⟩, ?_⟩
          have hmn : (if (24 : Int) < (d.queue[i].bytes.length : Int) then (24 : Int) else (d.queue[i].bytes.length : Int)).toNat = min 24 d.queue[i].bytes.length := by split <;> omega
          refine ⟨⟨by split <;> omega, by split <;> omega⟩, ?_⟩
          rw [hmn]
          have htake : d.queue[i].bytes.take (min 24 d.queue[i].bytes.length) = d.queue[i].bytes.take 24 := by
            rcases Nat.le_total 24 d.queue[i].bytes.length with h | h
            · rw [Nat.min_eq_left h]
            · rw [Nat.min_eq_right h, List.take_of_length_le (Nat.le_refl _), List.take_of_length_le h]
          rw [htake]
          refine put_ _ _ _ hfile (by simp; omega) ?_
          intro w6 m6
          have hb6 := (hb5.drew).mod m6 fun h => h
          have x0' : w6.cell? ⟨c, 0, none⟩ = some (.int .i64 d.queue[i].file) := by rw [(hbc5.drew.mod m6 fun h => h).cell]; rfl
          simp only [go_sem, x0']
          refine ⟨⟨by omega, by omega⟩, ?_⟩
          refine store1 sz9 hb6 (by rw [cells_len oki.nl oki.nf]; omega) rfl ?_
          intro w7 hb7 m7 hsz7
          unfold h21_4
          simp only [go_sem, t0, t1, t20, t21, t22]
          rw [w64 (by omega) (by omega)]
          exact fin (d.queue[i].bytes.take 24) w6 w7 (by simp [kept, hk2]) ((Mod.drew _ _).trans' m6) m7 hb7
        · have hk2 : ks[i] ≠ 2 := by simpa using hk2
          have hm : mid d ks (i + 1) = mid d ks i := by simp [mid, htk, surv, kept, hki, hk1, hk2]
          unfold h21_4
          simp only [go_sem, t0, t1, t20, t21, t22]
          rw [w64 (by omega) (by omega)]
          exact ⟨i + 1, by omega, by omega, rfl, ⟨kv3, by rw [hm]; exact hb5, hk5, hkb3⟩, hv5, hq5, m5'⟩
    · have hge : d.queue.length ≤ i := by simpa using hge
      unfold h21_5
      have hld := hb3.loadN (o := 0) (n := 12) (by rw [cells_len oki.nl oki.nf]; omega)
      have hsome := hb3.some (o := 0) (n := 12) (by rw [cells_len oki.nl oki.nf]; omega)
      simp only [e_add, Nat.zero_add] at hsome
      have htk : ((mid d ks i).cells (.slice qa d.queue.length qc) kv3).take 12 = (mid d ks i).lasts.map str := by
        unfold Dk.cells
        rw [List.take_left' (by simp [oki.nl])]
      rw [List.drop_zero, htk] at hld
      simp only [go_sem, t0, t1, t20, t21, t22, hld]
      refine ⟨hsome, ?_⟩
      refine storeN sz83 (by simp [oki.nl]) hb3 (by rw [cells_len oki.nl oki.nf]; omega) (by intro u hu; obtain ⟨s, _, rfl⟩ := List.mem_map.1 hu; rfl) ?_
      intro w4 hb4 m4 hsz4
      have hcs4 : ((mid d ks i).cells (.slice qa d.queue.length qc) kv3).take 12 ++ (mid d ks i).lasts.map str ++ ((mid d ks i).cells (.slice qa d.queue.length qc) kv3).drop (12 + 12) = ({ mid d ks i with files := (mid d ks i).lasts } : Dk).cells (.slice qa d.queue.length qc) kv3 := by
        rw [htk]
        unfold Dk.cells
        rw [← List.append_assoc, List.drop_left' (by simp [oki.nl, oki.nf])]
        simp
      rw [hcs4] at hb4
      have ok4 : Dk.OK { mid d ks i with files := (mid d ks i).lasts } := ⟨oki.nl, oki.nl, oki.bl, oki.bl, oki.bq, oki.lost, oki.armed⟩
      refine store1 sz84 hb4 (by rw [cells_len ok4.nl ok4.nf]; omega) rfl ?_
      intro w5 hb5 m5 hsz5
      have hcr : d.crash ks = { mid d ks i with files := (mid d ks i).lasts, queue := [] } := by
        simp only [Dk.crash, hd, mid]
        rw [List.take_of_length_le hge]; rfl
      have hcs5 : (({ mid d ks i with files := (mid d ks i).lasts } : Dk).cells (.slice qa d.queue.length qc) kv3).set 24 (.slice none 0 0) = (d.crash ks).cells (.slice none 0 0) kv3 := by
        rw [show 24 = 24 + 0 from rfl, cells_set_tail ok4.nl ok4.nf, hcr]; rfl
      rw [hcs5] at hb5
      have m35 := m4.trans' m5
      have mm : Mod S.W w w5 := m3.trans m35 fun k _ (e : k = p) => e ▸ h.self
      have hk0 : (d.crash ks).keep = d.keep := by rw [hcr]; rfl
      refine k w5 (.of ⟨ok.crash ks, ⟨_, kv3, hb5, ?_, ?_, (fun k hk => nomatch (hk : none = some k)), by rw [hk0]; exact hkb3⟩, h.self, h.sub, fun k hk => Nat.lt_of_lt_of_le (h.lt k hk) mm.size⟩ mm)
      · rw [hcr]; exact Own.nil _ _ _
      · rw [hk0]; exact hk3.mod' m35 fun hn k hk (e : k = p) => (hkb3 hn k hk).2 (e ▸ h.self)
end
end Go.Proofs.Y

/- DH: the walks of the disk's calls. -/
namespace Go.Proofs.Y
open Go Go.HL Go.Proofs

theorem tick_queue (d : Dk) : d.tick.queue = d.queue := by unfold Dk.tick; split <;> rfl
theorem tick_keep (d : Dk) : d.tick.keep = d.keep := by unfold Dk.tick; split <;> rfl
theorem writeD_keep (d : Dk) (f a : Int) (s : Bytes) : (d.writeD f a s).keep = d.keep := by unfold Dk.writeD; split <;> rfl
theorem writeD_queue (d : Dk) (f a : Int) (s : Bytes) : (d.writeD f a s).queue.length ≤ d.queue.length + s.length := by
  unfold Dk.writeD; split
  · omega
  · simp only [List.length_append]; have := pieces_len f.toNat s.length a.toNat s; omega
theorem crash_queue (d : Dk) (ks : List Int) : (d.crash ks).queue.length ≤ d.queue.length := by
  unfold Dk.crash; split
  · omega
  · simp
theorem pre_queue (d : Dk) : d.pre.queue.length ≤ d.queue.length := by
  unfold Dk.pre Dk.endW; split
  · exact Nat.le_trans (crash_queue _ _) (by rw [tick_queue]; omega)
  · rw [tick_queue]; omega

theorem may_ok {d : Dk} {f : Int} (h : d.may [f] = 0) : ∃ g : Nat, f = g ∧ g < 12 := by
  rw [may1] at h
  rcases hd : d.down with _ | _ <;> rcases hf : isF f with _ | _ <;> simp [hd, hf] at h
  have hf' : 0 ≤ f ∧ f < 12 := by simpa [isF] using hf
  exact ⟨f.toNat, by omega, by omega⟩
theorem may2 {d : Dk} {f g : Int} : d.may [f, g] = if d.down then 8 else if isF f && isF g then 0 else 1 := by simp [Dk.may]
theorem may_ok2 {d : Dk} {f g : Int} (h : d.may [f, g] = 0) : (∃ n : Nat, f = n ∧ n < 12) ∧ ∃ n : Nat, g = n ∧ n < 12 := by
  rw [may2] at h
  rcases hd : d.down with _ | _ <;> rcases hf : isF f with _ | _ <;> rcases hg : isF g with _ | _ <;> simp [hd, hf, hg] at h
  have hf' : 0 ≤ f ∧ f < 12 := by simpa [isF] using hf
  have hg' : 0 ≤ g ∧ g < 12 := by simpa [isF] using hg
  exact ⟨⟨f.toNat, by omega, by omega⟩, g.toNat, by omega, by omega⟩

section
variable {w : World} {next : Value → World → Prop} {QP : List PanicEntry → World → Prop}

/-- a crash with the disk's own parts -/
theorem crashK_ {p : Nat} {d : Dk} {S : FP} (h : DR w p d S) (hqn : d.queue.length ≤ 9000000000000) (k : ∀ w', St S w w' p (d.crash d.keep) → next (.tuple #[]) w') :
    (w.cell? ⟨p, 28, none⟩).isSome = true ∧ callvK Try.prog (.func (.func 21) #[] #[]) [ptr p, (w.cell? ⟨p, 28, none⟩).getD undef] w next QP := by
  obtain ⟨qv, kv, hb, hq, hk, h1, h2, c24, c25, c26, c27, c28⟩ := h.parts
  rw [c28]
  exact ⟨rfl, crash_ h hk (fun hn e => (h2 hn p e).2 h.self) hqn k⟩

theorem write_ {p : Nat} {d : Dk} {S : FP} (h : DR w p d S) {f a : Int} (ha : -9223372036854775808 ≤ a) (ha' : a ≤ 9223372036854775807) {s : Bytes} (hqn : d.queue.length + s.length ≤ 1000000000000)
    (k : ∀ w', St S w w' p (d.write f a s) → next (.int .i64 (d.writeR f a s)) w') :
    callvK Try.prog (.func (.func 18) #[] #[]) [ptr p, .int .i64 f, .int .i64 a, str s] w next QP := by
  refine r18 rfl ?_
  unfold h18
  try simp only [go_sem]
  refine ends_ h ?_
  intro w1 dr1 m1 _
  have st1 : St S w w1 p d.tick := .of dr1 m1
  try simp only [go_sem]
  refine write1_ st1.dr ha ha' (by rw [tick_queue]; omega) (by omega) ?_
  intro w2 st2'
  have st2 := st1.trans st2'
  try simp only [go_sem]
  refine ⟨fun he => ?_, fun he => ?_⟩
  · refine crashK_ st2.dr (by have := writeD_queue d.tick f a s; rw [tick_queue] at this; omega) ?_
    intro w3 st3'
    have st3 := st2.trans st3'
    try simp only [go_sem]
    have e1 : d.write f a s = (d.tick.writeD f a s).crash (d.tick.writeD f a s).keep := by simp [Dk.write, Dk.endW, he, writeD_keep, tick_keep]
    have e2 : d.writeR f a s = 8 := by simp [Dk.writeR, he]
    rw [e1, e2] at k
    exact k _ st3
  · unfold h18_1
    try simp only [go_sem]
    have e1 : d.write f a s = d.tick.writeD f a s := by simp [Dk.write, Dk.endW, he]
    have e2 : d.writeR f a s = d.tick.writeE f a s := by simp [Dk.writeR, he]
    rw [e1, e2] at k
    exact k _ st2

theorem flush_ {p : Nat} {d : Dk} {S : FP} (h : DR w p d S) {f : Int} (hqn : d.queue.length ≤ 1000000000000)
    (k : ∀ w', St S w w' p (d.flush f) → next (.int .i64 (d.flushR f)) w') :
    callvK Try.prog (.func (.func 19) #[] #[]) [ptr p, .int .i64 f] w next QP := by
  refine r19 rfl ?_
  unfold h19
  try simp only [go_sem]
  refine ends_ h ?_
  intro w1 dr1 m1 _
  have st1 : St S w w1 p d.tick := .of dr1 m1
  have hpq := pre_queue d
  -- what follows the crash
  have rest : ∀ (τ : Env) w2, τ 0 = ptr p → τ 1 = .int .i64 f → St S w w2 p d.pre → hw Try.prog noPanic h19_1 (endV [.tmp 4] next) τ w2 := by
    intro τ w2 t0 t1 st2
    unfold h19_1
    try simp only [go_sem, t0, t1]
    refine bsl1 sl22 rfl rfl (by omega) ?_
    intro b w3 hbb own3 blk3 m3 hsz3
    have st3 := st2.mod0 m3
    refine may_ st3.dr (by omega) (l := [f]) own3.sl ?_
    try simp only [go_sem, t0, t1]
    refine ⟨fun he => ?_, fun he => ?_⟩
    · have he : d.pre.may [f] ≠ 0 := by simpa using he
      have := k w3
      simp only [Dk.flush, Dk.flushR, if_pos he] at this
      exact this st3
    have he : d.pre.may [f] = 0 := by simpa using he
    simp only [Dk.flush, Dk.flushR, he, ne_eq, not_true, if_false] at k
    obtain ⟨g, rfl, hg⟩ := may_ok he
    simp only [Int.toNat_natCast] at k
    have ok := st3.dr.ok
    obtain ⟨qv, kv, hb, hq, hk, h1, h2, c24, c25, c26, c27, c28⟩ := st3.dr.parts
    unfold h19_2
    try simp only [go_sem, t0, t1, c25]
    refine ⟨fun hl => ?_, fun hl => ?_⟩
    · have hl : 0 < d.pre.lost := by simpa using hl
      simp only [if_pos hl] at k
      have hlo := ok.lost
      rw [w64 (by omega) (by omega)]
      refine store1 sz3 hb (by rw [cells_len ok.nl ok.nf]; omega) rfl ?_
      intro w4 hb4 m4 hsz4
      have hcs : (d.pre.cells qv kv).set 25 (.int .i64 ((d.pre.lost : Int) - 1)) = ({ d.pre with lost := d.pre.lost - 1 } : Dk).cells qv kv := by
        rw [show 25 = 24 + 1 from rfl, cells_set_tail ok.nl ok.nf, show (d.pre.lost : Int) - 1 = ((d.pre.lost - 1 : Nat) : Int) by omega]; rfl
      rw [hcs] at hb4
      have dr4 : DR w4 p { d.pre with lost := d.pre.lost - 1 } st3.foot := st3.dr.again m4 ⟨ok.nl, ok.nf, ok.bl, ok.bf, ok.bq, by show d.pre.lost - 1 ≤ _; omega, ok.armed⟩ hb4 hq hk h1 h2
      exact k w4 (st3.trans (.of dr4 (m4.mono fun k _ (e : k = p) => e ▸ st3.dr.self)))
    · have hl : ¬ 0 < d.pre.lost := by simpa using hl
      simp only [if_neg hl] at k
      have cf : w3.cell? ⟨p, 12 + g, none⟩ = some (str (d.pre.file g)) := by rw [hb.cell, cells_file ok.nl ok.nf hg]
      unfold h19_3
      try simp only [go_sem, t0, t1, cf]
      refine ⟨⟨by omega, by omega⟩, ?_⟩
      refine settle_ st3.dr hg (getD_le ok.bf g) (by omega) ?_
      intro w4 st4
      try simp only [go_sem]
      exact k w4 (st3.trans st4)
  try simp only [go_sem]
  refine ⟨fun he => ?_, fun he => ?_⟩
  · refine crashK_ st1.dr (by rw [tick_queue]; omega) ?_
    intro w2 st2'
    have st2 := st1.trans st2'
    have e1 : d.tick.crash d.tick.keep = d.pre := by simp [Dk.pre, Dk.endW, he, tick_keep]
    rw [e1] at st2
    exact rest _ _ rfl rfl st2
  · have e1 : d.tick = d.pre := by simp [Dk.pre, Dk.endW, he]
    rw [e1] at st1
    exact rest _ _ rfl rfl st1
end
end Go.Proofs.Y

/- DI: the walks of Cut, Turn and Copy. -/
namespace Go.Proofs.Y
open Go Go.HL Go.Proofs
section
variable {w : World} {next : Value → World → Prop} {QP : List PanicEntry → World → Prop}

theorem cut_ {p : Nat} {d : Dk} {S : FP} (h : DR w p d S) {f n : Int} (hqn : d.queue.length ≤ 1000000000000)
    (k : ∀ w', St S w w' p (d.cut f n) → next (.int .i64 (d.cutR f n)) w') :
    callvK Try.prog (.func (.func 42) #[] #[]) [ptr p, .int .i64 f, .int .i64 n] w next QP := by
  refine r42 rfl ?_
  unfold h42
  try simp only [go_sem]
  refine ends_ h ?_
  intro w1 dr1 m1 _
  have st1 : St S w w1 p d.tick := .of dr1 m1
  have hpq := pre_queue d
  have rest : ∀ (τ : Env) w2, τ 0 = ptr p → τ 1 = .int .i64 f → τ 2 = .int .i64 n → St S w w2 p d.pre → hw Try.prog noPanic h42_1 (endV [.tmp 6] next) τ w2 := by
    intro τ w2 t0 t1 t2 st2
    unfold h42_1
    try simp only [go_sem, t0, t1, t2]
    refine bsl1 sl22 rfl rfl (by omega) ?_
    intro b w3 hbb own3 blk3 m3 hsz3
    have st3 := st2.mod0 m3
    refine may_ st3.dr (by omega) (l := [f]) own3.sl ?_
    try simp only [go_sem, t0, t1, t2]
    refine ⟨fun he => ?_, fun he => ?_⟩
    · have he : d.pre.may [f] ≠ 0 := by simpa using he
      have := k w3
      simp only [Dk.cut, Dk.cutR, if_pos he] at this
      exact this st3
    have he : d.pre.may [f] = 0 := by simpa using he
    simp only [Dk.cut, Dk.cutR, he, ne_eq, not_true, if_false] at k
    obtain ⟨g, rfl, hg⟩ := may_ok he
    simp only [Int.toNat_natCast] at k
    have ok := st3.dr.ok
    obtain ⟨qv, kv, hb, hq, hk, h1, h2, c24, c25, c26, c27, c28⟩ := st3.dr.parts
    have hsize : d.pre.size g = (d.pre.file g).length := by
      rw [may1] at he
      have : isF g = true := by simp [isF]; omega
      simp [Dk.size, this]
    have fin : ∀ τ : Env, τ 0 = ptr p → τ 1 = .int .i64 g → τ 2 = .int .i64 n → ¬ (n < 0 ∨ (d.pre.size g : Int) < n) → hw Try.prog noPanic h42_3 (endV [.tmp 6] next) τ w3 := by
      intro τ t0 t1 t2 hn
      simp only [if_neg hn] at k
      have cf : w3.cell? ⟨p, 12 + g, none⟩ = some (str (d.pre.file g)) := by rw [hb.cell, cells_file ok.nl ok.nf hg]
      unfold h42_3
      try simp only [go_sem, t0, t1, t2, cf]
      refine ⟨⟨by omega, by omega⟩, ⟨by omega, by rw [hsize] at hn; omega⟩, ?_⟩
      have hfl : (d.pre.file g).length ≤ 16777216 := getD_le ok.bf g
      refine settle_ st3.dr hg (by rw [List.length_take]; omega) (by omega) ?_
      intro w4 st4
      try simp only [go_sem]
      exact k w4 (st3.trans st4)
    unfold h42_2
    try simp only [go_sem, t0, t1, t2]
    refine ⟨fun hn0 => ?_, fun hn0 => ?_⟩
    · have hn0 : 0 ≤ n := by simpa using hn0
      refine size_ st3.dr _ ?_
      try simp only [go_sem, t0, t1, t2]
      have hnn : decide (n < 0) = false := by simpa using hn0
      try simp only [go_sem, hnn]
      refine ⟨fun hn => ?_, fun hn => ?_⟩
      · have hn : (d.pre.size g : Int) < n := by simpa using hn
        simp only [if_pos (Or.inr hn)] at k
        exact k w3 st3
      · have hn : ¬ (d.pre.size g : Int) < n := by simpa using hn
        exact fin _ t0 t1 t2 (by omega)
    · have hn0 : n < 0 := by simpa using hn0
      have hnn : decide (n < 0) = true := by simpa using hn0
      simp only [if_pos (Or.inl hn0)] at k
      try simp only [go_sem, hnn]
      exact k w3 st3
  try simp only [go_sem]
  refine ⟨fun he => ?_, fun he => ?_⟩
  · refine crashK_ st1.dr (by rw [tick_queue]; omega) ?_
    intro w2 st2'
    have st2 := st1.trans st2'
    have e1 : d.tick.crash d.tick.keep = d.pre := by simp [Dk.pre, Dk.endW, he, tick_keep]
    rw [e1] at st2
    exact rest _ _ rfl rfl rfl st2
  · have e1 : d.tick = d.pre := by simp [Dk.pre, Dk.endW, he]
    rw [e1] at st1
    exact rest _ _ rfl rfl rfl st1

theorem turn_ {p : Nat} {d : Dk} {S : FP} (h : DR w p d S) {f g : Int} (hqn : d.queue.length ≤ 1000000000000)
    (k : ∀ w', St S w w' p (d.turn f g) → next (.int .i64 (d.turnR f g)) w') :
    callvK Try.prog (.func (.func 20) #[] #[]) [ptr p, .int .i64 f, .int .i64 g] w next QP := by
  refine r20 rfl ?_
  unfold h20
  try simp only [go_sem]
  refine box_ (cs := [.int .i64 g]) rfl ?_
  intro b w0 hb0 hbb m0 hsz0
  have st0 : St S w w0 p d := (St.refl h).mod0 m0
  have hbn : ¬ S.W b := fun hS => by have := h.lt b (h.sub b hS); omega
  have dr0 : DR w0 p d S := h.mod0 m0
  try simp only [go_sem]
  refine ends_ dr0 ?_
  intro w1 dr1 m1 hsz1
  have hbb1 := hbb.mod m1 hbn
  have hpq := pre_queue d
  have rest : ∀ (τ : Env) w2, τ 0 = ptr p → τ 1 = .int .i64 f → τ 5 = ptr b → St S w0 w2 p d.pre → hw Try.prog noPanic h20_1 (endV [.tmp 6] next) τ w2 := by
    intro τ w2 t0 t1 t5 st2
    have hbb2 : Blk w2 b 3 [.int .i64 g] := hbb.mod st2.mod hbn
    have cb : w2.cell? ⟨b, 0, none⟩ = some (.int .i64 g) := by rw [hbb2.cell]; rfl
    unfold h20_1
    try simp only [go_sem, t0, t1, t5, cb]
    refine bsl2 sl22 rfl rfl ?_
    intro b3 w3 hbb3 own3 blk3 m3 hsz3
    have st3 := st2.mod0 m3
    have hbb3' := hbb2.mod m3 fun h => h
    have cb3 : w3.cell? ⟨b, 0, none⟩ = some (.int .i64 g) := by rw [hbb3'.cell]; rfl
    have fs : ∀ {d' : Dk} {w' : World}, St S w0 w' p d' → St S w w' p d' := fun st => st.after m0
    refine may_ st3.dr (by omega) (l := [f, g]) own3.sl ?_
    try simp only [go_sem, t0, t1, t5, cb3]
    refine ⟨fun he => ?_, fun he => ?_⟩
    · have he : d.pre.may [f, g] ≠ 0 := by simpa using he
      have := k w3
      simp only [Dk.turn, Dk.turnR, if_pos he] at this
      exact this (fs st3)
    have he : d.pre.may [f, g] = 0 := by simpa using he
    simp only [Dk.turn, Dk.turnR, he, ne_eq, not_true, if_false] at k
    obtain ⟨⟨fn, rfl, hf⟩, gn, rfl, hg⟩ := may_ok2 he
    simp only [Int.toNat_natCast] at k
    have ok := st3.dr.ok
    obtain ⟨qv, kv, hb, hq, hk, h1, h2, c24, c25, c26, c27, c28⟩ := st3.dr.parts
    unfold h20_2
    try simp only [go_sem, t0, t1, t5, cb3, c24]
    refine ⟨fun hfg => ?_, fun hfg => ?_⟩
    · have hfg : (fn : Int) = gn := by simpa using hfg
      simp only [if_pos hfg] at k
      exact k w3 (fs st3)
    have hfg : ¬ (fn : Int) = gn := by simpa using hfg
    simp only [if_neg hfg] at k
    try simp only [go_sem, t0, t1, t5, cb3, c24, List.nil_append]
    refine contains_ (test42 b gn) hbb3' hq.sl (by omega) ?_
    intro w4 m4
    have st4 := st3.mod0 m4
    have hbb4 := hbb3'.mod m4 fun h => h
    try simp only [go_sem, t0, t1, t5]
    refine ⟨fun hp => ?_, fun hp => ?_⟩
    · have hp : d.pre.pends gn = true := hp
      simp only [if_pos hp] at k
      exact k w4 (fs st4)
    have hp : ¬ d.pre.pends gn = true := by simp only [Dk.pends, hp]; simp
    simp only [if_neg hp] at k
    obtain ⟨qv, kv, hb, -⟩ := st4.dr.parts
    have cb4 : w4.cell? ⟨b, 0, none⟩ = some (.int .i64 gn) := by rw [hbb4.cell]; rfl
    have cl : w4.cell? ⟨p, gn, none⟩ = some (str (d.pre.last gn)) := by rw [hb.cell, cells_last ok.nl hg]
    unfold h20_3
    try simp only [go_sem, t0, t1, t5, cb4, cl]
    refine ⟨⟨by omega, by omega⟩, ?_⟩
    refine settle_ st4.drew.dr hf (getD_le ok.bl gn) (by omega) ?_
    intro w5 st5'
    have st5 := st4.drew.trans st5'
    have hbb5 : Blk w5 b 3 [.int .i64 gn] := hbb.mod st5.mod hbn
    have cb5 : w5.cell? ⟨b, 0, none⟩ = some (.int .i64 gn) := by rw [hbb5.cell]; rfl
    try simp only [go_sem, t0, t1, t5, cb5]
    refine settle_ st5.dr hg (by simp) (Nat.le_trans (List.length_filter_le _ _) (by omega)) ?_
    intro w6 st6'
    have st6 := st5.trans st6'
    try simp only [go_sem]
    exact k w6 (fs st6)
  try simp only [go_sem]
  refine ⟨fun he => ?_, fun he => ?_⟩
  · refine crashK_ (St.of dr1 m1).dr (by rw [tick_queue]; omega) ?_
    intro w2 st2'
    have st2 := (St.of dr1 m1).trans st2'
    have e1 : d.tick.crash d.tick.keep = d.pre := by simp [Dk.pre, Dk.endW, he, tick_keep]
    rw [e1] at st2
    exact rest _ _ rfl rfl rfl st2
  · have e1 : d.tick = d.pre := by simp [Dk.pre, Dk.endW, he]
    have st1 : St S w0 w1 p d.tick := .of dr1 m1
    rw [e1] at st1
    exact rest _ _ rfl rfl rfl st1
end
end Go.Proofs.Y

/- DJ: the small example, printed by mksmall.py. -/
namespace Go.Proofs.Y
open Go Go.HL Go.Proofs
namespace Small
instance : DecidableEq Pd := fun a b => by
  cases a; cases b; simp only [Pd.mk.injEq]; infer_instance
def y1 : Dk := Dk.new.write 1 0 [104, 101, 108, 108, 111]
theorem z1 : Dk.new.writeR 1 0 [104, 101, 108, 108, 111] = 0 := by decide +kernel
theorem u1 : Dk.new.write 1 0 [104, 101, 108, 108, 111] = y1 := rfl
def y2 : Dk := y1.flush 1
theorem z2 : y1.flushR 1 = 0 := by decide +kernel
theorem u2 : y1.flush 1 = y2 := rfl
def y3 : Dk := y2.write 1 5 [121]
theorem z3 : y2.writeR 1 5 [121] = 0 := by decide +kernel
theorem u3 : y2.write 1 5 [121] = y3 := rfl
def y4 : Dk := y3.write 1 8 [122]
theorem z4 : y3.writeR 1 8 [122] = 0 := by decide +kernel
theorem u4 : y3.write 1 8 [122] = y4 := rfl
def y5 : Dk := y4.crash [1]
theorem u5 : y4.crash [1] = y5 := rfl
theorem z6 : y5.read 1 = [] := by decide +kernel
theorem zz6 : y5.may [1] = 8 := by decide +kernel
def y8 : Dk := y5.start
theorem u8 : y5.start = y8 := rfl
theorem z9 : y8.read 1 = [104, 101, 108, 108, 111, 121] := by decide +kernel
theorem zz9 : y8.may [1] = 0 := by decide +kernel
def y10 : Dk := y8.lose 1
theorem u10 : y8.lose 1 = y10 := rfl
def y11 : Dk := y10.flush 1
theorem z11 : y10.flushR 1 = 9 := by decide +kernel
theorem u11 : y10.flush 1 = y11 := rfl
def y12 : Dk := y11.write 2 0 [120]
theorem z12 : y11.writeR 2 0 [120] = 0 := by decide +kernel
theorem u12 : y11.write 2 0 [120] = y12 := rfl
def y13 : Dk := y12.turn 1 2
theorem z13 : y12.turnR 1 2 = 7 := by decide +kernel
theorem u13 : y12.turn 1 2 = y13 := rfl
def y14 : Dk := y13.flush 2
theorem z14 : y13.flushR 2 = 0 := by decide +kernel
theorem u14 : y13.flush 2 = y14 := rfl
def y15 : Dk := y14.turn 1 2
theorem z15 : y14.turnR 1 2 = 0 := by decide +kernel
theorem u15 : y14.turn 1 2 = y15 := rfl
theorem z16 : y15.read 1 = [120] := by decide +kernel
theorem zz16 : y15.may [1] = 0 := by decide +kernel
def y17 : Dk := y15.write 3 62 [97, 98, 99, 100]
theorem z17 : y15.writeR 3 62 [97, 98, 99, 100] = 0 := by decide +kernel
theorem u17 : y15.write 3 62 [97, 98, 99, 100] = y17 := rfl
def y18 : Dk := y17.crash [0, 1]
theorem u18 : y17.crash [0, 1] = y18 := rfl
def y19 : Dk := y18.start
theorem u19 : y18.start = y19 := rfl
theorem z20 : y19.read 3 = List.replicate 64 0 ++ [99, 100] := by decide +kernel
theorem zz20 : y19.may [3] = 0 := by decide +kernel
end Small
section
open Small
variable {w : World} {next : Value → World → Prop} {QP : List PanicEntry → World → Prop}

theorem small_ (k : ∀ w', Mod none' w w' → next (.bool true) w') : callvK Try.prog (.func (.func 16) #[] #[]) [] w next QP := by
  refine r16 rfl ?_
  unfold h16
  try simp only [go_sem]
  refine new_ ?_
  intro p w0 hp st
  try simp only [go_sem]
  unfold h16_1
  try simp only [go_sem]
  refine write_ st.dr (f := 1) (a := 0) (s := [104, 101, 108, 108, 111]) (by decide) (by decide) (by decide +kernel) ?_
  intro w1 st'
  have st := st.trans st'
  rw [u1] at st
  rw [z1]
  try simp only [go_sem]
  refine flush_ st.dr (f := 1) (by decide +kernel) ?_
  intro w2 st'
  have st := st.trans st'
  rw [u2] at st
  rw [z2]
  try simp only [go_sem]
  refine write_ st.dr (f := 1) (a := 5) (s := [121]) (by decide) (by decide) (by decide +kernel) ?_
  intro w3 st'
  have st := st.trans st'
  rw [u3] at st
  rw [z3]
  try simp only [go_sem]
  refine write_ st.dr (f := 1) (a := 8) (s := [122]) (by decide) (by decide) (by decide +kernel) ?_
  intro w4 st'
  have st := st.trans st'
  rw [u4] at st
  rw [z4]
  try simp only [go_sem]
  unfold h16_2
  try simp only [go_sem]
  have hp := st.dr.plt
  refine bsl1 sl22 rfl rfl (by decide) ?_
  intro b5 x5 hb5 own5 blk5 m5 sz5
  have st := st.mod0 m5
  try simp only [go_sem]
  refine crash_ st.dr (ks := [1]) own5.sl (fun _ e => by simp [Value.ownBlock] at e; omega) (by decide +kernel) ?_
  intro w5 st'
  have st := st.trans st'
  rw [u5] at st
  try simp only [go_sem]
  refine read_ st.dr 1 ?_
  intro w6 dr m
  have st := st.mod0 m
  rw [show y5.read 1 = _ from z6, show y5.may [1] = _ from zz6]
  try simp only [go_sem]
  refine down_ st.dr ?_
  rw [show y5.down = true from by decide +kernel]
  try simp only [go_sem]
  unfold h16_3
  try simp only [go_sem]
  refine start_ st.dr ?_
  intro w8 dr m _
  have st := st.trans (.of dr m)
  rw [u8] at st
  try simp only [go_sem]
  refine read_ st.dr 1 ?_
  intro w9 dr m
  have st := st.mod0 m
  rw [show y8.read 1 = _ from z9, show y8.may [1] = _ from zz9]
  try simp only [go_sem]
  refine lose_ st.dr (n := 1) (by decide) ?_
  intro w10 dr m _
  have st := st.trans (.of dr m)
  rw [u10] at st
  try simp only [go_sem]
  refine flush_ st.dr (f := 1) (by decide +kernel) ?_
  intro w11 st'
  have st := st.trans st'
  rw [u11] at st
  rw [z11]
  try simp only [go_sem]
  unfold h16_4
  try simp only [go_sem]
  refine write_ st.dr (f := 2) (a := 0) (s := [120]) (by decide) (by decide) (by decide +kernel) ?_
  intro w12 st'
  have st := st.trans st'
  rw [u12] at st
  rw [z12]
  try simp only [go_sem]
  refine turn_ st.dr (f := 1) (g := 2) (by decide +kernel) ?_
  intro w13 st'
  have st := st.trans st'
  rw [u13] at st
  rw [z13]
  try simp only [go_sem]
  refine flush_ st.dr (f := 2) (by decide +kernel) ?_
  intro w14 st'
  have st := st.trans st'
  rw [u14] at st
  rw [z14]
  try simp only [go_sem]
  refine turn_ st.dr (f := 1) (g := 2) (by decide +kernel) ?_
  intro w15 st'
  have st := st.trans st'
  rw [u15] at st
  rw [z15]
  try simp only [go_sem]
  unfold h16_5
  try simp only [go_sem]
  refine read_ st.dr 1 ?_
  intro w16 dr m
  have st := st.mod0 m
  rw [show y15.read 1 = _ from z16, show y15.may [1] = _ from zz16]
  try simp only [go_sem]
  refine write_ st.dr (f := 3) (a := 62) (s := [97, 98, 99, 100]) (by decide) (by decide) (by decide +kernel) ?_
  intro w17 st'
  have st := st.trans st'
  rw [u17] at st
  rw [z17]
  try simp only [go_sem]
  have hp := st.dr.plt
  refine bsl2 sl22 rfl rfl ?_
  intro b18 x18 hb18 own18 blk18 m18 sz18
  have st := st.mod0 m18
  try simp only [go_sem]
  refine crash_ st.dr (ks := [0, 1]) own18.sl (fun _ e => by simp [Value.ownBlock] at e; omega) (by decide +kernel) ?_
  intro w18 st'
  have st := st.trans st'
  rw [u18] at st
  try simp only [go_sem]
  unfold h16_6
  try simp only [go_sem]
  refine start_ st.dr ?_
  intro w19 dr m _
  have st := st.trans (.of dr m)
  rw [u19] at st
  try simp only [go_sem]
  refine read_ st.dr 3 ?_
  intro w20 dr m
  have st := st.mod0 m
  rw [show y19.read 3 = _ from z20, show y19.may [3] = _ from zz20]
  try simp only [go_sem]
  try simp only [List.length_append, List.length_replicate, List.drop_left', Nat.reduceAdd, List.length_cons, List.length_nil]
  refine ⟨fun _ => by omega, fun _ => by omega, fun _ => by omega, fun h => absurd h (by decide +kernel), fun _ => ?_⟩
  unfold h16_7
  try simp only [go_sem]
  try simp only [decide_true, ↓reduceIte, Bool.true_eq_false, false_implies, true_implies, and_true, true_and]
  refine size_ st.dr 2 ?_
  rw [show y19.size 2 = 0 from by decide +kernel]
  unfold l16_11
  try simp only [go_sem]
  try simp only [decide_true, ↓reduceIte, Bool.true_eq_false, false_implies, true_implies, and_true, true_and, Int.cast_ofNat_Int, Int.natCast_zero]
  refine write_ st.dr (f := 12) (a := 0) (s := []) (by decide) (by decide) (by decide +kernel) ?_
  intro w21 st'
  have st := st.trans st'
  rw [show y19.write 12 0 [] = y19 from rfl] at st
  rw [show y19.writeR 12 0 [] = 1 from by decide +kernel]
  unfold l16_10
  try simp only [go_sem]
  try simp only [decide_true, ↓reduceIte, Bool.true_eq_false, false_implies, true_implies, and_true, true_and, Int.cast_ofNat_Int, Int.natCast_zero]
  refine write_ st.dr (f := 0) (a := -1) (s := []) (by decide) (by decide) (by decide +kernel) ?_
  intro w22 st'
  have st := st.trans st'
  rw [show y19.write 0 (-1) [] = y19 from rfl] at st
  rw [show y19.writeR 0 (-1) [] = 1 from by decide +kernel]
  unfold l16_9
  try simp only [go_sem]
  try simp only [decide_true, ↓reduceIte, Bool.true_eq_false, false_implies, true_implies, and_true, true_and, Int.cast_ofNat_Int, Int.natCast_zero]
  refine cut_ st.dr (f := 1) (n := 2) (by decide +kernel) ?_
  intro w23 st'
  have st := st.trans st'
  rw [show y19.cutR 1 2 = 1 from by decide +kernel]
  unfold l16_8
  try simp only [go_sem]
  try simp only [decide_true, ↓reduceIte, Bool.true_eq_false, false_implies, true_implies, and_true, true_and, Int.cast_ofNat_Int, Int.natCast_zero]
  exact k _ st.mod
end
end Go.Proofs.Y

/- DZ: what came in with a call, as the walks ask for it. -/
namespace Go.Proofs.Y
open Go Go.HL Go.Proofs

theorem str_of (a : ByteArray) : Value.string a = str a.data.toList := rfl

theorem wf64 {a : Int} (h : (Lit.int .i64 a).wf = true) : -9223372036854775808 ≤ a ∧ a ≤ 9223372036854775807 := by
  simp only [Lit.wf, Bool.and_eq_true, decide_eq_true_eq] at h
  exact h

/-- a contract out of a rule -/
theorem calls_of_rule {f : FuncId} {args : List Value} {w : World} (h : ∀ next : Value → World → Prop, (∀ w', Mod none' w w' → next (.bool true) w') → callK Try.prog f args w next noPanic) :
    Calls Try.prog f args.toArray w fun e w' => e = .returned (.bool true) ∧ RowKit.Below w.heap.size w w' := by
  refine Calls.mono (h (fun v w' => v = .bool true ∧ RowKit.Below w.heap.size w w') fun w' m => ⟨rfl, m.below (Nat.le_refl _) fun _ _ h => h⟩) fun e w' he => ?_
  cases e with
  | returned v => exact ⟨by rw [he.1], he.2⟩
  | panicked c => exact he.elim
  | outgrown => exact he.elim

/-- a row of integers that came in can be read -/
theorem sl_of_row {w : World} {a : Option Addr} {len cap : Nat} {zs : List Int}
    (h : (a = none ∧ len = 0 ∧ cap = 0 ∧ zs = []) ∨ ∃ x, a = some x ∧ len ≤ cap ∧ cap ≤ maxLen ∧ zs.length = cap ∧ (∀ i, i < zs.length → w.cell? (x.add i) = some (.int .i64 (zs.getD i 0))) ∧ ∀ n ∈ zs, (Lit.int .i64 n).wf = true) :
    Sl w (.slice a len cap) 1 len (ints (zs.take len)) := by
  rcases h with ⟨rfl, rfl, rfl, rfl⟩ | ⟨x, rfl, hl, -, hz, hc, -⟩
  · exact ⟨rfl, none, 0, rfl, Nat.le_refl _, fun h => absurd h (Nat.lt_irrefl _)⟩
  · refine ⟨by rw [ints_len, List.length_take]; omega, some x, cap, rfl, hl, fun h0 => ?_⟩
    have hs : x.spot = none := by
      have := hc 0 (by omega)
      have e : x.add 0 = x := rfl
      rw [e] at this
      exact World.cell?_spot this
    obtain ⟨b, o, s⟩ := x
    simp only at hs
    subst hs
    refine ⟨b, o, rfl, fun j hj => ?_⟩
    have := hc j (by omega)
    rw [e_add] at this
    rw [this]
    simp only [ints, List.getElem?_map, List.getElem?_take, List.getD_eq_getElem?_getD]
    rw [if_pos (by omega), List.getElem?_eq_getElem (by omega)]
    rfl
end Go.Proofs.Y

/- HLM: more effects: a function outside the program that gives back what it got; append of a string; guards. -/
namespace Go.HL
open Go

section
variable {P : Program} {w : World} {next : Value → World → Prop} {QP : List PanicEntry → World → Prop}

theorem Mod.of_grown {w w' : World} {v : Value} (h : w.grownBy w' v.ownBlock) : Mod (ownS v) w w' :=
  ⟨h.os, h.tape, h.output, h.size, fun k hk hn => h.block k hk fun e => hn e.symm⟩

theorem strCells_bys (l : List UInt8) : Lib.strCells ⟨l.toArray⟩ = bys l := by
  simp [Lib.strCells, bys]

/-- append of a string to bytes of one's own -/
theorem appS_ {t u e : TypeId} {ty : TypeId} (ht : SlTy P t e 1 1 (.int .u8 0)) (hu : P.underlying u = some .string) {v : Value} {n : Nat} {xs : List Value} {l : List UInt8} (ho : Own w v e 1 n xs) (hm : n + l.length ≤ 140737488355328)
    (k : ∀ v' w', Own w' v' e 1 (n + l.length) (xs ++ bys l) → Mod (ownS v) w w' → (∀ k, v'.ownBlock = some k → v.ownBlock = some k ∨ w.heap.size ≤ k) → next v' w') :
    appK P #[t, u] ty v (str l) w next QP := by
  obtain ⟨i, hi, hz, hs, hby⟩ := ht.parts
  have hsz : (ByteArray.mk l.toArray).size = l.length := by simp [ByteArray.size]
  obtain ⟨hxl, hform⟩ := ho
  have hl2 : (xs ++ bys l).length = (n + l.length) * 1 := by rw [List.length_append, hxl, bys_len]; omega
  rcases hform with ⟨rfl, hn⟩ | ⟨g, cap, cur, fz, rfl, hfz, hg, hnc, hcm, hcs, htake⟩
  · subst hn
    obtain ⟨v', w', h1, h2, h3, h4⟩ := Lib.run_append_own_string (P := P) w w.heap.size t u ty e i ht.und hu hi hz hs hby (.slice none 0 0) 0 xs ⟨hxl, .inl ⟨rfl, rfl⟩⟩ ⟨l.toArray⟩ (by rw [hsz]; unfold maxLen; omega) (by rw [hsz]; exact hm) (Nat.le_refl _)
    rw [hsz, strCells_bys] at h2
    obtain ⟨h5, h6⟩ := h2
    refine eff_value h1 (k v' w' ⟨h5, ?_⟩ (.of_grown h3) fun b hb => .inr ?_)
    · rcases h6 with h6 | ⟨g, cap, cur, h7, -, h8, h9⟩
      · exact .inl h6
      · exact .inr ⟨g, cap, cur, _, h7, .inl rfl, h8, h9⟩
    · rcases h6 with ⟨rfl, -⟩ | ⟨g, cap, cur, rfl, h7, -⟩
      · cases hb
      · simp only [Value.ownBlock, Option.some.injEq] at hb; omega
  · have hcs' : cur.size = cap := by omega
    by_cases hroom : n + l.length ≤ cap
    · have hf := Lib.run_firstCells_string (P := P) w 1 ⟨l.toArray⟩
      have hst := storeCells_h P g n e fz (bys l) 0 cur w hg hfz (by rw [bys_len]; omega) (bys_one l)
      simp only [Nat.add_zero] at hst
      rw [strCells_bys, hsz] at hf
      have hr : (Builtin.append_ #[t, u] ty #[.slice (some ⟨g, 0, none⟩) n cap, str l]).run P w = .ok (.slice (some ⟨g, 0, none⟩) (n + l.length) cap) (w.setRow g (cur.toList.take n ++ bys l ++ cur.toList.drop (n + (bys l).length)).toArray) := by
        simp [Builtin.append_, run_und ht.und, run_und hu, sizeOf, typeInfo, hi, hs, str, Builtin.lenOf, hsz, hroom, hf, Addr.add_lit, hst]
      have hsize : ((cur.toList.take n ++ bys l ++ cur.toList.drop (n + (bys l).length)).toArray).size = cur.size := by
        simp only [List.size_toArray, List.length_append, List.length_take, List.length_drop, Array.length_toList, bys_len]; omega
      refine eff_value hr (k _ _ ⟨hl2, .inr ⟨g, cap, _, fz, rfl, by rw [hsize]; exact hfz, setRow_heap w g cur _ e _ hg, hroom, hcm, by rw [hsize]; omega, ?_⟩⟩ ?_ (fun k hk => .inl hk))
      · have e1 : cur.toList.take n = xs := by simpa using htake
        simp only [e1, Nat.mul_one]
        rw [show n + l.length = (xs ++ bys l).length by rw [hl2]; omega]
        exact List.take_left
      · exact ⟨rfl, rfl, rfl, by simp, fun k _ hk => setRow_other w g k _ (fun e => hk (by simp [ownS, Value.ownBlock, e]))⟩
    · have hr := Lib.run_append_grow_string (P := P) w t u ty e i (.int .u8 0) ht.und hu hi hz ⟨g, 0, none⟩ n cap xs (by rw [hs]; exact hxl) (holds_of hg hxl htake) ⟨l.toArray⟩ (by rw [hsz]; omega) (by rw [hsz]; omega) (growslice_fits (by rw [hsz]; omega) (by rw [hsz, hby]; omega))
      rw [hsz, strCells_bys] at hr
      have hge := grownCap_ge w (n + l.length) cap e
      have hcm2 := grownCap_le_maxLen w (n + l.length) cap e (by unfold maxLen; omega)
      have hz1 : (Value.int IntKind.u8 0).cells.size = 1 := rfl
      refine eff_value hr (k _ _ ⟨hl2, .inr ⟨w.heap.size, _, _, _, rfl, .inl rfl, heap_alloc_new w.drew _, hge, hcm2, ?_, ?_⟩⟩ ?_ (fun k hk => .inr (by simp [Value.ownBlock] at hk; omega)))
      · simp only [Array.size_append, List.size_toArray, size_zeroCells, hz1, hxl, bys_len]; omega
      · simp only [Array.toList_append, List.append_assoc]
        rw [← List.append_assoc, ← hl2]
        exact List.take_left
      · exact ⟨rfl, rfl, rfl, by simp, fun k hk _ => RowKit.Below.heap_alloc w.drew _ k hk⟩

theorem heap_alloc_newF (w : World) (o : Obj) : (w.alloc o).heap[w.heap.size]? = some o := by unfold World.alloc; simp

/-- []byte(s) -/
theorem s2b {s d e : TypeId} (hs : P.underlying s = some .string) (hd : P.underlying d = some (.slice e)) (he : P.underlying e = some (.int .u8)) {l : List UInt8} (hm : l.length ≤ maxLen)
    (k : ∀ b c w', w.heap.size = b → Own w' (.slice (some ⟨b, 0, none⟩) l.length c) e 1 l.length (bys l) → Mod none' w w' → w'.heap.size = b + 1 → next (.slice (some ⟨b, 0, none⟩) l.length c) w') :
    convK P s d (str l) w next QP := by
  have hsz : (ByteArray.mk l.toArray).size = l.length := by simp [ByteArray.size]
  have hr := run_bytes_of_string (P := P) w s d e ⟨l.toArray⟩ hs hd he
  rw [hsz] at hr
  have hge := grownCap_ge w l.length 0 e
  have hcm := grownCap_le_maxLen w l.length 0 e hm
  have hrow : (bytesRow ⟨l.toArray⟩ (grownCap w l.length 0 e)).toList = bys l ++ List.replicate (grownCap w l.length 0 e - l.length) (.int .u8 0) := by
    simp [bytesRow, bys, hsz]
  have hrl : (bytesRow ⟨l.toArray⟩ (grownCap w l.length 0 e)).size = grownCap w l.length 0 e := by
    rw [← Array.length_toList, hrow]; simp [bys_len]; omega
  refine eff_value hr (k _ _ _ rfl ⟨by rw [bys_len]; omega, .inr ⟨w.heap.size, _, _, _, rfl, .inr rfl, heap_alloc_newF w.drew _, hge, hcm, by rw [hrl]; omega, ?_⟩⟩ ⟨rfl, rfl, rfl, by simp, fun k hk _ => RowKit.Below.heap_alloc w.drew _ k hk⟩ (by simp))
  rw [hrow, Nat.mul_one, show l.length = (bys l).length by rw [bys_len]]
  exact List.take_left

theorem Blk.shape {w : World} {b t : Nat} {cs : List Value} (h : Blk w b t cs) : w.shape? b = Option.some (t, cs.length) := by
  obtain ⟨fz, h, -⟩ := h
  simp [World.shape?, h]

/-- unsafe.Pointer(p) -/
theorem conv_up {s d t : TypeId} (hs : P.underlying s = some (.pointer t)) (hd : P.underlying d = some .unsafePointer) (hsz : (P.info? t).map (fun i => decide (i.size = 0)) = some false)
    {b o e : Nat} {cs : List Value} (hb : Blk w b e cs) (ho : o < cs.length) (k : next (.pointer (some ⟨b, o, none⟩)) w) : convK P s d (.pointer (some ⟨b, o, none⟩)) w next QP := by
  obtain ⟨i, hi, hz0⟩ := Option.map_eq_some_iff.1 hsz
  have hz : i.size ≠ 0 := by simpa using hz0
  have hge : ¬ (cs.length ≤ o) := by omega
  refine eff_value (v := .pointer (some ⟨b, o, none⟩)) (w' := w) ?_ k
  simp [convert, Conv.unsafePointer, Conv.seenAt, viewAt, cellsIn, sizeOf, typeInfo, run_und hs, run_und hd, hi, hz, hb.shape, hge]
/-- ( *T)(p), p a block's beginning -/
theorem conv_dn {s d u : TypeId} (hs : P.underlying s = some .unsafePointer) (hd : P.underlying d = some (.pointer u)) (hsz : (P.info? u).map (fun i => decide (i.size = 0)) = some false)
    {b e : Nat} {cs : List Value} (hb : Blk w b e cs) (hl : liesAt P P.depth e (cs.length / P.cellsOf e) 0 u 1 = true) (k : next (.pointer (some ⟨b, 0, none⟩)) w) : convK P s d (.pointer (some ⟨b, 0, none⟩)) w next QP := by
  obtain ⟨i, hi, hz0⟩ := Option.map_eq_some_iff.1 hsz
  have hz : i.size ≠ 0 := by simpa using hz0
  refine eff_value (v := .pointer (some ⟨b, 0, none⟩)) (w' := w) ?_ k
  simp [convert, Conv.unsafePointer, Conv.seenAt, viewAt, variablesAt, sizeOf, typeInfo, run_und hs, run_und hd, hi, hz, hb.shape, hl]

theorem same_one (x : Value) : Extern.AbiNoEscape.same #[x] = pure x := rfl
/-- a call of a function that gives back its argument -/
theorem same_ {f : FuncId} {fn : Func} (hf : P.funcs[f]? = some fn) (hb : fn.body.isNone = true) (hn : (fn.name == "runtime.NumGoroutine") = false) (h1 : Extern.findNext fn = none) (h2 : Extern.find fn = some Extern.AbiNoEscape.same)
    {x : Value} (k : next x w) : callvK P (.func (.func f) #[] #[]) [x] w next QP := by
  unfold callvK
  have hn' : fn.name ≠ "runtime.NumGoroutine" := by simpa using hn
  have hb' : fn.body = none := by simpa using hb
  simp [Deferred.ofValue, invoke, callFunc, hf, hb', hn', h1, h2, same_one]
  exact k
theorem effUpon_mono {next' : Value → World → Prop} {r : Result Next} (h : effUpon P next QP r) (k : ∀ v w', next v w' → next' v w') : effUpon P next' QP r := by
  cases r with
  | ok n w' =>
    cases n <;> simp only [effUpon] at h ⊢
    case value v => exact k _ _ h
    case skip => exact k _ _ h
    case enter f args =>
      refine Calls.mono h fun e w'' he => ?_
      cases e <;> first | exact k _ _ he | exact he
    case row row args => exact Rows.mono h fun v w'' he => k _ _ he
  | halt x w' => cases x <;> simp only [effUpon] at h ⊢ <;> exact h
theorem callvK_mono {next' : Value → World → Prop} {f : Value} {args : List Value} (h : callvK P f args w next QP) (k : ∀ v w', next v w' → next' v w') : callvK P f args w next' QP := effUpon_mono h k

theorem bsl4 {t e by_ : Nat} {z v u x y : Value} (ht : SlTy P t e 1 by_ z) (hv : v.oneCell' = true) (hu : u.oneCell' = true) (hx : x.oneCell' = true) (hy : y.oneCell' = true)
    (k : ∀ b w', w.heap.size = b → Own w' (.slice (some ⟨b, 0, none⟩) 4 4) e 1 4 [v, u, x, y] → Blk w' b e [v, u, x, y] → Mod none' w w' → w'.heap.size = b + 1 → next (.slice (some ⟨b, 0, none⟩) 4 4) w') : bslK P t 4 [(0, v), (1, u), (2, x), (3, y)] w next QP := by
  refine bsl_ ht rfl (by omega) ?_ k
  rw [fill_one rfl hv (by simp), fill_one rfl hu (by simp), fill_one rfl hx (by simp), fill_one rfl hy (by simp), Instr.fill]
  congr 1
  apply Array.toList_inj.1
  simp [List.range_succ]

/-! ### unsafe.SliceData and unsafe.String -/
def usdK (P : Program) (ts : Array TypeId) (ty : TypeId) (s : Value) (w : World) (next : Value → World → Prop) (QP : List PanicEntry → World → Prop) : Prop := effUpon P next QP ((runV (Builtin.unsafeSliceData_ ts ty #[s])).run P w)
def usK (P : Program) (ts : Array TypeId) (ty : TypeId) (p n : Value) (w : World) (next : Value → World → Prop) (QP : List PanicEntry → World → Prop) : Prop := effUpon P next QP ((runV (Builtin.unsafeString_ ts ty #[p, n])).run P w)
@[congr] theorem usdK_congr {ts : Array TypeId} {ty : TypeId} {v v' : Value} {w' : World} (h : v = v') (hw : w = w') : usdK P ts ty v w next QP = usdK P ts ty v' w' next QP := by rw [h, hw]
@[congr] theorem usK_congr {ts : Array TypeId} {ty : TypeId} {a a' v v' : Value} {w' : World} (h : a = a') (h' : v = v') (hw : w = w') : usK P ts ty a v w next QP = usK P ts ty a' v' w' next QP := by rw [h, h', hw]
theorem f_usd {ty : TypeId} {ρ : Operand → Value} {s : Operand} {ts : Array TypeId} : heff P (.call { callee := .builtin .unsafeSliceData, args := #[s], argTypes := ts }) ty ρ w next QP = usdK P ts ty (ρ s) w next QP := by
  unfold heff usdK; rw [run_call_builtin .unsafeSliceData #[s] ts ty _ rfl rfl]; simp only [builtin, runV, List.map_toArray, List.map_cons, List.map_nil]
theorem f_us {ty : TypeId} {ρ : Operand → Value} {s x : Operand} {ts : Array TypeId} : heff P (.call { callee := .builtin .unsafeString, args := #[s, x], argTypes := ts }) ty ρ w next QP = usK P ts ty (ρ s) (ρ x) w next QP := by
  unfold heff usK; rw [run_call_builtin .unsafeString #[s, x] ts ty _ rfl rfl]; simp only [builtin, runV, List.map_toArray, List.map_cons, List.map_nil]

theorem usd_ {ts : Array TypeId} {ty e : TypeId} (hp : P.underlying ty = some (.pointer e)) {v : Value} {n : Nat} {xs : List Value} (ho : Own w v e 1 n xs)
    (k : ∀ p w', Mod none' w w' → (0 < n → ∃ g c, v = .slice (some ⟨g, 0, none⟩) n c ∧ p = some ⟨g, 0, none⟩) → next (.pointer p) w') : usdK P ts ty v w next QP := by
  rcases ho.2 with ⟨rfl, hn⟩ | ⟨g, cap, cur, fz, rfl, hfz, hg, hnc, hcm, hcs, htake⟩
  · exact eff_value (Lib.run_unsafeSliceData_nil w ts ty 0 0) (k none w (Mod.refl _ _) fun h => by omega)
  · by_cases hc : cap = 0
    · subst hc
      have hsh : w.shape? g = some (e, cur.size) := by simp [World.shape?, hg]
      exact eff_value (Lib.run_unsafeSliceData_zero (P := P) w ts ty e hp ⟨g, 0, none⟩ n _ hsh) (k _ _ (alloc_mod w _) fun h => by omega)
    · exact eff_value (Lib.run_unsafeSliceData_row (P := P) w ts ty ⟨g, 0, none⟩ n cap hc) (k _ w (Mod.refl _ _) fun _ => ⟨g, cap, rfl, rfl⟩)
theorem us_ {pt it ty e : TypeId} (hp : P.underlying pt = some (.pointer e)) (hc : P.cellsOf e = 1) {v : Value} {l : List UInt8} {p : Option Addr} (ho : Own w v e 1 l.length (bys l)) (hv : 0 < l.length → ∃ g c, v = .slice (some ⟨g, 0, none⟩) l.length c ∧ p = some ⟨g, 0, none⟩)
    (hm : l.length ≤ 9223372036854775807) (k : ∀ w', Mod (ownS v) w w' → next (str l) w') : usK P #[pt, it] ty (.pointer p) (.int .i64 l.length) w next QP := by
  rcases Nat.eq_zero_or_pos l.length with h0 | h0
  · obtain rfl : l = [] := List.eq_nil_of_length_eq_zero h0
    exact eff_value (Lib.run_unsafeString_none (P := P) w pt it ty p) (k w (Mod.refl _ _))
  · obtain ⟨g, c, rfl, rfl⟩ := hv h0
    rcases ho.2 with ⟨he, hn⟩ | ⟨g', cap, cur, fz, he, hfz, hg, hnc, hcm, hcs, htake⟩
    · cases he
    · simp only [Value.slice.injEq, Option.some.injEq, Addr.mk.injEq] at he
      obtain ⟨⟨rfl, -⟩, -, rfl⟩ := he
      have hsh : w.shape? g = some (e, cur.size) := by simp [World.shape?, hg]
      refine eff_value (Lib.run_unsafeString_row (P := P) w pt it ty _ hp hc g _ hsh l (by rintro rfl; simp at h0) (by omega) hm ?_) (k _ ⟨?_, ?_, ?_, ?_, ?_⟩)
      · intro j x hx
        refine holds_of hg ho.1 htake j _ ?_
        simp [bys, hx]
      · unfold World.freeze; split <;> rfl
      · unfold World.freeze; split <;> rfl
      · unfold World.freeze; split <;> rfl
      · unfold World.freeze; split <;> simp
      · intro k hk hn
        have hne : g ≠ k := fun e => hn (by simp [ownS, Value.ownBlock, e])
        unfold World.freeze; split
        · rfl
        · simp only [Array.getElem?_modify]; rw [if_neg hne]
end
attribute [go_sem] f_usd f_us
end Go.HL

/- HLO: operations on bits, at numbers that are not negative; the wrap written out. -/
namespace Go.HL
open Go

theorem bv_nat {n a : Nat} (h : a < 2 ^ n) : (BitVec.ofInt n (a : Int)).toNat = a := by
  rw [BitVec.ofInt_natCast, BitVec.toNat_ofNat, Nat.mod_eq_of_lt h]

theorem xorV {k : IntKind} {a b : Nat} (ha : a < 2 ^ k.bits) (hb : b < 2 ^ k.bits) : intV .xor k (a : Int) (b : Int) = .int k (k.wrap ((a ^^^ b : Nat) : Int)) := by
  simp only [intV, BitVec.toNat_xor, bv_nat ha, bv_nat hb]
theorem andV {k : IntKind} {a b : Nat} (ha : a < 2 ^ k.bits) (hb : b < 2 ^ k.bits) : intV .and k (a : Int) (b : Int) = .int k (k.wrap ((a &&& b : Nat) : Int)) := by
  simp only [intV, BitVec.toNat_and, bv_nat ha, bv_nat hb]
theorem orV {k : IntKind} {a b : Nat} (ha : a < 2 ^ k.bits) (hb : b < 2 ^ k.bits) : intV .or k (a : Int) (b : Int) = .int k (k.wrap ((a ||| b : Nat) : Int)) := by
  simp only [intV, BitVec.toNat_or, bv_nat ha, bv_nat hb]

theorem wrap_u8 (n : Int) : IntKind.u8.wrap n = n % 256 := by simp [IntKind.wrap, IntKind.bits, IntKind.signed]
theorem wrap_u32 (n : Int) : IntKind.u32.wrap n = n % 4294967296 := by simp [IntKind.wrap, IntKind.bits, IntKind.signed]
theorem wrap_u64 (n : Int) : IntKind.u64.wrap n = n % 18446744073709551616 := by simp [IntKind.wrap, IntKind.bits, IntKind.signed]
theorem wrap_i64 (n : Int) : IntKind.i64.wrap n = (n + 9223372036854775808) % 18446744073709551616 - 9223372036854775808 := by
  have h : IntKind.i64.wrap n = if n % 18446744073709551616 ≥ 9223372036854775808 then n % 18446744073709551616 - 18446744073709551616 else n % 18446744073709551616 := by
    simp [IntKind.wrap, IntKind.bits, IntKind.signed]
  rw [h]; split <;> omega
theorem wrap_i32 (n : Int) : IntKind.i32.wrap n = (n + 2147483648) % 4294967296 - 2147483648 := by
  have h : IntKind.i32.wrap n = if n % 4294967296 ≥ 2147483648 then n % 4294967296 - 4294967296 else n % 4294967296 := by
    simp [IntKind.wrap, IntKind.bits, IntKind.signed]
  rw [h]; split <;> omega

theorem xor32 {a b : Nat} (ha : a < 4294967296) (hb : b < 4294967296) : intV .xor .u32 (a : Int) (b : Int) = .int .u32 ((a ^^^ b : Nat) : Int) := by
  have h : (a ^^^ b) < 2 ^ 32 := Nat.xor_lt_two_pow (by omega) (by omega)
  rw [xorV (show a < 2 ^ 32 by omega) (show b < 2 ^ 32 by omega), wrap_u32]
  congr 1; omega
theorem xor64 {a b : Nat} (ha : a < 9223372036854775808) (hb : b < 9223372036854775808) : intV .xor .i64 (a : Int) (b : Int) = .int .i64 ((a ^^^ b : Nat) : Int) := by
  have h : (a ^^^ b) < 9223372036854775808 := Nat.xor_lt_two_pow (n := 63) ha hb
  have hx := xorV (k := .i64) (a := a) (b := b) (show a < 2 ^ 64 by omega) (show b < 2 ^ 64 by omega)
  have key : ∀ c : Nat, c < 9223372036854775808 → ((c : Int) + 9223372036854775808) % 18446744073709551616 - 9223372036854775808 = c := by intro c hc; omega
  rw [hx, wrap_i64, key _ h]
theorem and1_32 {a : Nat} (ha : a < 4294967296) : intV .and .u32 (a : Int) 1 = .int .u32 ((a % 2 : Nat) : Int) := by
  have := andV (k := .u32) (a := a) (b := 1) (show a < 2 ^ 32 by omega) (show 1 < 2 ^ 32 by omega)
  refine this.trans ?_
  rw [Nat.and_one_is_mod, wrap_u32]
  congr 1; omega
/-- an or with a byte behind a shift is an addition -/
theorem or_byte (x : Int) (b : Nat) (hb : b < 256) : intV .or .i64 (IntKind.i64.wrap (x * 256)) (b : Int) = .int .i64 (IntKind.i64.wrap (x * 256 + b)) := by
  simp only [intV]
  congr 1
  have h1 : (BitVec.ofInt IntKind.i64.bits (IntKind.i64.wrap (x * 256))).toNat = ((x * 256) % 18446744073709551616).toNat := by
    rw [BitVec.toNat_ofInt, wrap_i64]
    show (((x * 256 + 9223372036854775808) % 18446744073709551616 - 9223372036854775808) % ((2 ^ 64 : Nat) : Int)).toNat = _
    congr 1; omega
  rw [BitVec.toNat_or, h1, bv_nat (n := IntKind.i64.bits) (show b < 2 ^ 64 by omega)]
  obtain ⟨q, hq⟩ : ∃ q : Nat, ((x * 256) % 18446744073709551616).toNat = 2 ^ 8 * q := ⟨((x * 256) % 18446744073709551616).toNat / 256, by omega⟩
  have h2 := Nat.two_pow_add_eq_or_of_lt (show b < 2 ^ 8 by omega) q
  rw [hq, ← h2, wrap_i64, wrap_i64]
  omega
end Go.HL

/- YU: names of types that the walks share. -/
namespace Go.Proofs.Y
open Go Go.HL Go.Proofs
theorem u36 : Try.prog.underlying 36 = some (.slice 5) := by kernel_rfl
theorem u9 : Try.prog.underlying 9 = some .string := by kernel_rfl
theorem u5 : Try.prog.underlying 5 = some (.int .u8) := by kernel_rfl
theorem sz5 : szOf Try.prog 5 = some 1 := by kernel_rfl
theorem sl40 : SlTy Try.prog 40 9 1 16 (str []) := ⟨by kernel_rfl, by kernel_rfl, rfl, by decide⟩
theorem sz40 : szOf Try.prog 40 = some 1 := by kernel_rfl
end Go.Proofs.Y

/- JA: the journal's codec as plain functions: numbers, checksums, forms. -/
namespace Go.Proofs.Y
open Go Go.HL

/-! ### the checksum -/
def crcStep (x : Nat) : Nat := if x % 2 = 1 then (x / 2) ^^^ 3988292384 else x / 2
def crcIt : Nat → Nat → Nat
  | 0, x => x
  | n + 1, x => crcIt n (crcStep x)
theorem crcIt_succ : ∀ (n x : Nat), crcIt (n + 1) x = crcStep (crcIt n x)
  | 0, _ => rfl
  | n + 1, x => by rw [crcIt, crcIt_succ n]; rfl
def crcFold (x : Nat) (s : List UInt8) : Nat := s.foldl (fun x b => crcIt 8 (x ^^^ b.toNat)) x
def crc (s : List UInt8) : Nat := 4294967295 - crcFold 4294967295 s

theorem crcStep_lt {x : Nat} (h : x < 4294967296) : crcStep x < 4294967296 := by
  unfold crcStep; split
  · exact Nat.xor_lt_two_pow (n := 32) (by omega) (by decide)
  · omega
theorem crcIt_lt : ∀ (n x : Nat), x < 4294967296 → crcIt n x < 4294967296
  | 0, _, h => h
  | n + 1, x, h => crcIt_lt n _ (crcStep_lt h)
theorem crcFold_lt : ∀ (s : List UInt8) (x : Nat), x < 4294967296 → crcFold x s < 4294967296
  | [], _, h => h
  | b :: s, x, h => by
    simp only [crcFold, List.foldl_cons]
    exact crcFold_lt s _ (crcIt_lt 8 _ (Nat.xor_lt_two_pow (n := 32) h (by have := b.toNat_lt; omega)))
theorem crc_lt (s : List UInt8) : crc s < 4294967296 := by unfold crc; omega

theorem xor_big {a : Nat} (ha : a < 2147483648) : 2147483648 ≤ a ^^^ 3988292384 := by
  have h1 : (a ^^^ 3988292384).testBit 31 = true := by
    rw [Nat.testBit_xor, Nat.testBit_lt_two_pow (by omega : a < 2 ^ 31)]; decide
  have := Nat.ge_two_pow_of_testBit h1
  omega
theorem xor_cancel {a b c : Nat} (h : a ^^^ c = b ^^^ c) : a = b := by
  have := congrArg (· ^^^ c) h
  simpa [Nat.xor_assoc] using this
theorem crcStep_inj {x y : Nat} (hx : x < 4294967296) (hy : y < 4294967296) (h : crcStep x = crcStep y) : x = y := by
  unfold crcStep at h
  have b1 := xor_big (a := x / 2) (by omega)
  have b2 := xor_big (a := y / 2) (by omega)
  split at h <;> split at h
  · have := xor_cancel h; omega
  · omega
  · omega
  · omega
theorem crcIt_inj : ∀ (n x y : Nat), x < 4294967296 → y < 4294967296 → crcIt n x = crcIt n y → x = y
  | 0, _, _, _, _, h => h
  | n + 1, x, y, hx, hy, h => crcStep_inj hx hy (crcIt_inj n _ _ (crcStep_lt hx) (crcStep_lt hy) h)
theorem xor_byte {x : Nat} (h : x < 4294967296) (b : UInt8) : x ^^^ b.toNat < 4294967296 := Nat.xor_lt_two_pow (n := 32) h (by have := b.toNat_lt; omega)
theorem crcFold_inj : ∀ (s : List UInt8) (x y : Nat), x < 4294967296 → y < 4294967296 → crcFold x s = crcFold y s → x = y
  | [], _, _, _, _, h => h
  | b :: s, x, y, hx, hy, h => by
    simp only [crcFold, List.foldl_cons] at h
    have h1 := crcFold_inj s _ _ (crcIt_lt 8 _ (xor_byte hx b)) (crcIt_lt 8 _ (xor_byte hy b)) h
    exact xor_cancel (crcIt_inj 8 _ _ (xor_byte hx b) (xor_byte hy b) h1)
/-- one byte changed is seen -/
theorem crc_changed {s : List UInt8} {i : Nat} {b : UInt8} (hi : i < s.length) (hb : s[i] ≠ b) : crc (s.set i b) ≠ crc s := by
  intro h
  have hl1 := crcFold_lt s 4294967295 (by decide)
  have hl2 := crcFold_lt (s.set i b) 4294967295 (by decide)
  have h1 : crcFold 4294967295 (s.set i b) = crcFold 4294967295 s := by unfold crc at h; omega
  have e1 : s = s.take i ++ s[i] :: s.drop (i + 1) := by simp
  have e2 : s.set i b = s.take i ++ b :: s.drop (i + 1) := by rw [List.set_eq_take_append_cons_drop, if_pos hi]
  rw [e2] at h1
  conv at h1 => rhs; rw [e1]
  simp only [crcFold, List.foldl_append, List.foldl_cons] at h1
  have hm : List.foldl (fun x (b : UInt8) => crcIt 8 (x ^^^ b.toNat)) 4294967295 (s.take i) < 4294967296 := crcFold_lt _ _ (by decide)
  generalize List.foldl (fun x (b : UInt8) => crcIt 8 (x ^^^ b.toNat)) 4294967295 (s.take i) = m at h1 hm
  have h2 := crcFold_inj _ _ _ (crcIt_lt 8 _ (xor_byte hm b)) (crcIt_lt 8 _ (xor_byte hm s[i])) h1
  have h3 := crcIt_inj 8 _ _ (xor_byte hm b) (xor_byte hm s[i]) h2
  rw [Nat.xor_comm m, Nat.xor_comm m] at h3
  exact hb (UInt8.toNat_inj.1 (xor_cancel h3).symm)

/-! ### numbers -/
def byteOf (n : Int) (i : Nat) : UInt8 := UInt8.ofNat (n / 256 ^ i % 256).toNat
def num (n : Int) : List UInt8 := (List.range 8).map (byteOf n)
theorem num_len (n : Int) : (num n).length = 8 := by simp [num]
def wr (n : Int) : Int := IntKind.i64.wrap n
/-- the number of which the first bytes are the form -/
def valAt (s : List UInt8) (i : Nat) : Int := ((s[i]?).getD 0).toNat
/-- the bytes from the eighth down to number i -/
def valFrom (s : List UInt8) : Nat → Int
  | 0 => 0
  | k + 1 => wr (valFrom s k * 256 + valAt s (7 - k))
def val (s : List UInt8) : Int := valFrom s 8

theorem byteOf_nat (n : Int) (i : Nat) : ((byteOf n i).toNat : Int) = n / 256 ^ i % 256 := by
  have h : 0 ≤ n / 256 ^ i % 256 := Int.emod_nonneg _ (by decide)
  have h2 : n / 256 ^ i % 256 < 256 := Int.emod_lt_of_pos _ (by decide)
  simp only [byteOf, UInt8.toNat_ofNat']
  omega
theorem val_num {n : Int} (h1 : -9223372036854775808 ≤ n) (h2 : n ≤ 9223372036854775807) (t : List UInt8) : val (num n ++ t) = n := by
  have hb : ∀ i, i < 8 → valAt (num n ++ t) i = n / 256 ^ i % 256 := by
    intro i hi
    unfold valAt
    rw [List.getElem?_append_left (by rw [num_len]; exact hi)]
    simp [num, hi, byteOf_nat]
  have small : ∀ x : Int, 0 ≤ x → x < 9223372036854775808 → wr x = x := by intro x h0 h1; rw [wr, wrap_i64]; omega
  have q : ∀ i : Nat, n / 256 ^ (i + 1) = n / 256 ^ i / 256 := fun i => by
    have hp : (0 : Int) < 256 ^ i := Int.pow_pos (by decide)
    rw [Int.ediv_ediv, if_neg (by omega), Int.sub_zero, Int.pow_succ]
  have e0 : n / 256 ^ 0 = n := by simp
  have q0 := q 0; have q1 := q 1; have q2 := q 2; have q3 := q 3; have q4 := q 4; have q5 := q 5; have q6 := q 6
  rw [e0] at q0
  simp only [Nat.zero_add, Nat.reduceAdd] at q0 q1 q2 q3 q4 q5 q6
  simp only [val, valFrom, hb 0 (by omega), hb 1 (by omega), hb 2 (by omega), hb 3 (by omega), hb 4 (by omega), hb 5 (by omega), hb 6 (by omega), hb 7 (by omega), Nat.sub_zero, Nat.reduceSub, e0]
  generalize n / 256 ^ 7 = n7 at *
  generalize n / 256 ^ 6 = n6 at *
  generalize n / 256 ^ 5 = n5 at *
  generalize n / 256 ^ 4 = n4 at *
  generalize n / 256 ^ 3 = n3 at *
  generalize n / 256 ^ 2 = n2 at *
  generalize n / 256 ^ 1 = n1 at *
  rw [small (0 * 256 + n7 % 256) (by omega) (by omega)]
  rw [small ((0 * 256 + n7 % 256) * 256 + n6 % 256) (by omega) (by omega)]
  rw [small (((0 * 256 + n7 % 256) * 256 + n6 % 256) * 256 + n5 % 256) (by omega) (by omega)]
  rw [small ((((0 * 256 + n7 % 256) * 256 + n6 % 256) * 256 + n5 % 256) * 256 + n4 % 256) (by omega) (by omega)]
  rw [small (((((0 * 256 + n7 % 256) * 256 + n6 % 256) * 256 + n5 % 256) * 256 + n4 % 256) * 256 + n3 % 256) (by omega) (by omega)]
  rw [small ((((((0 * 256 + n7 % 256) * 256 + n6 % 256) * 256 + n5 % 256) * 256 + n4 % 256) * 256 + n3 % 256) * 256 + n2 % 256) (by omega) (by omega)]
  rw [small (((((((0 * 256 + n7 % 256) * 256 + n6 % 256) * 256 + n5 % 256) * 256 + n4 % 256) * 256 + n3 % 256) * 256 + n2 % 256) * 256 + n1 % 256) (by omega) (by omega)]
  rw [wr, wrap_i64]
  omega
end Go.Proofs.Y
