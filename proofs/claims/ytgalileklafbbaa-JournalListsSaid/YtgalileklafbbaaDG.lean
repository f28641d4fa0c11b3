/- DG: the walk of the crash. -/
import Derived.Test.YtgalileklafbbaaDF
set_option linter.unusedSimpArgs false
set_option linter.unusedVariables false
set_option maxRecDepth 100000
namespace Go.Proofs.Y
open Go Go.HL Go.Proofs

theorem kept_len {k : Option Int} {b c : Bytes} (h : kept k b = some c) : c.length ≤ b.length := by
  unfold kept at h
  split at h
  · cases h
  · split at h
    · cases h; exact Nat.le_refl _
    · split at h
      · cases h; simp; omega
      · cases h
theorem getD_le {l : List Bytes} {n : Nat} (h : ∀ s ∈ l, s.length ≤ n) (i : Nat) : (l.getD i []).length ≤ n := by
  rw [List.getD_eq_getElem?_getD]
  rcases Nat.lt_or_ge i l.length with hi | hi
  · rw [List.getElem?_eq_getElem hi]; exact h _ (List.getElem_mem hi)
  · rw [List.getElem?_eq_none hi]; simp
theorem surv_bound {lasts : List Bytes} (h : ∀ s ∈ lasts, s.length ≤ 16777216) {p : Pd} (hp : p.at_ + p.bytes.length ≤ 16777216) (k : Option Int) : ∀ s ∈ surv lasts p k, s.length ≤ 16777216 := by
  intro s hs
  unfold surv at hs
  split at hs
  · exact h s hs
  · rename_i b hb
    rcases List.mem_or_eq_of_mem_set hs with h' | rfl
    · exact h s h'
    · have := kept_len hb
      have := getD_le h p.file
      rw [put_len]; omega
theorem survs_bound : ∀ (q : List Pd) (lasts : List Bytes) (ks : List Int), (∀ s ∈ lasts, s.length ≤ 16777216) → (∀ p ∈ q, p.at_ + p.bytes.length ≤ 16777216) → ∀ s ∈ survs lasts q ks, s.length ≤ 16777216
  | [], _, _, h, _ => h
  | p :: q, lasts, ks, h, hq => survs_bound q _ _ (surv_bound h (hq p (by simp)) _) fun x hx => hq x (by simp [hx])

theorem survs_take {lasts : List Bytes} {q : List Pd} {ks : List Int} {i : Nat} (hi : i < q.length) : survs lasts (q.take (i + 1)) ks = surv (survs lasts (q.take i) ks) q[i] ks[i]? := by
  rw [List.take_succ_eq_append_getElem hi, survs_snoc, List.length_take, Nat.min_eq_left (by omega)]

def mid (d : Dk) (ks : List Int) (i : Nat) : Dk := { d with lasts := survs d.lasts (d.queue.take i) ks, down := true, armed := 0 }
theorem mid_ok {d : Dk} (ok : d.OK) (ks : List Int) (i : Nat) : (mid d ks i).OK :=
  ⟨by simp [mid, survs_len, ok.nl], ok.nf, survs_bound _ _ _ ok.bl fun p hp => (ok.bq p (List.mem_of_mem_take hp)).2, ok.bf, ok.bq, ok.lost, Nat.zero_le _⟩

theorem sz83 : szOf Try.prog 83 = some 12 := by kernel_rfl

theorem Dk.OK.crash {d : Dk} (ok : d.OK) (ks : List Int) : (d.crash ks).OK := by
  unfold Dk.crash
  split
  · exact ok
  · exact ⟨by simp [survs_len, ok.nl], by simp [survs_len, ok.nl], survs_bound _ _ _ ok.bl fun p hp => (ok.bq p hp).2, survs_bound _ _ _ ok.bl fun p hp => (ok.bq p hp).2, fun p hp => (nomatch hp), ok.lost, Nat.zero_le _⟩

section
variable {w : World} {next : Value → World → Prop} {QP : List PanicEntry → World → Prop}

theorem crash_ {p : Nat} {d : Dk} {S : FP} (h : DR w p d S) {v : Value} {ks : List Int} {n : Nat} (hv : Sl w v 1 n (ints ks)) (hvp : 0 < n → v.ownBlock ≠ some p) (hqn : d.queue.length ≤ 9000000000000)
    (k : ∀ w', St S w w' p (d.crash ks) → next (.tuple #[]) w') : callvK Try.prog (.func (.func 21) #[] #[]) [ptr p, v] w next QP := by
  refine r21 rfl ?_
  have ok := h.ok
  obtain ⟨qv, kv, hb, hq, hk, h1, h2, c24, c25, c26, c27, c28⟩ := h.parts
  unfold h21
  simp only [go_sem, ↓reduceIte, Nat.reduceEqDiff, Nat.reduceAdd, c26]
  refine ⟨fun hd => ?_, fun hd => ?_⟩
  · have : d.crash ks = d := by simp [Dk.crash, hd]
    rw [this] at k
    exact k w (.refl h)
  unfold h21_1
  simp only [go_sem, ↓reduceIte, Nat.reduceEqDiff, Nat.reduceAdd, c26]
  refine store1 sz4 hb (by rw [cells_len ok.nl ok.nf]; omega) rfl ?_
  intro w1 hb1 m1 hsz1
  refine store1 sz3 hb1 (by rw [List.length_set, cells_len ok.nl ok.nf]; omega) rfl ?_
  intro w2 hb2 m2 hsz2
  have hcs : ((d.cells qv kv).set 26 (.bool true)).set 27 (.int .i64 0) = (mid d ks 0).cells qv kv := by
    rw [show 26 = 24 + 2 from rfl, show 27 = 24 + 3 from rfl, cells_set_tail ok.nl ok.nf]
    rw [List.set_append_right _ _ (by simp [ok.nl]), List.set_append_right _ _ (by simp [ok.nl, ok.nf])]
    simp only [List.length_map, ok.nl, ok.nf]; simp [mid, survs, Dk.cells]
  rw [hcs] at hb2
  have m12 := m1.trans' m2
  have dr2 : DR w2 p (mid d ks 0) S := h.again m12 (mid_ok ok ks 0) hb2 hq hk h1 h2
  have st2 : St S w w2 p (mid d ks 0) := .of dr2 (m12.mono fun k _ (e : k = p) => e ▸ h.self)
  have c24' : w2.cell? ⟨p, 24, none⟩ = some qv := by rw [hb2.cell, cells_tail (mid_ok ok ks 0).nl (mid_ok ok ks 0).nf 0]; rfl
  have hv2 : Sl w2 v 1 n (ints ks) := hv.mod' m12 fun hn k hk (e : k = p) => hvp hn (by rw [hk, e])
  have hq2 := hq.mod m12 fun k hk => (h1 k hk).2
  obtain ⟨qa, qc, hqv, -⟩ := hq.form
  obtain ⟨va, vc, hvv, hvc, -⟩ := hv.form
  subst hqv; subst hvv
  simp only [go_sem, ↓reduceIte, Nat.reduceEqDiff, Nat.reduceAdd, c24']
  -- what the rounds keep
  refine loopN d.queue.length (fun i τ w' => τ 0 = ptr p ∧ τ 1 = .slice va n vc ∧ τ 20 = .slice qa d.queue.length qc ∧ τ 21 = .int .i64 d.queue.length ∧ τ 22 = .int .i64 i ∧
    (∃ kv, Blk w' p 86 ((mid d ks i).cells (.slice qa d.queue.length qc) kv) ∧ Sl w' kv 1 d.keep.length (ints d.keep) ∧ (0 < d.keep.length → ∀ k, kv.ownBlock = some k → S.R k ∧ ¬ S.W k)) ∧
    Sl w' (.slice va n vc) 1 n (ints ks) ∧ Own w' (.slice qa d.queue.length qc) 91 3 d.queue.length (rows Pd.cells d.queue) ∧ Mod S.W w w') ?_ ?_
  · exact ⟨0, by omega, by simp [go_sem], by simp [go_sem], by simp [go_sem], by simp [go_sem], by simp [go_sem], ⟨kv, hb2, hk.mod' m12 fun hn k hk (e : k = p) => (h2 hn k hk).2 (e ▸ h.self), h2⟩, hv2, hq2, st2.mod⟩
  · rintro i τ w3 hi ⟨t0, t1, t20, t21, t22, ⟨kv3, hb3, hk3, hkb3⟩, hv3, hq3, m3⟩
    have oki := mid_ok ok ks i
    unfold h21_2
    simp only [go_sem, ↓reduceIte, Nat.reduceEqDiff, Nat.reduceAdd, t0, t1, t20, t21, t22]
    refine ⟨fun hlt => ?_, fun hge => ?_⟩
    · have hlt : i < d.queue.length := by simpa using hlt
      obtain ⟨gb, o, c', hva', hcc, hcell⟩ := hq3.sl.get Pd.cells_len rfl (by omega)
      simp only [Value.slice.injEq] at hva'
      obtain ⟨rfl, -, rfl⟩ := hva'
      have hld : loadN w3 ⟨gb, o + i * 3, none⟩ 3 = d.queue[i].cells.toArray := loadN_of rfl fun j hj => by rw [e_add]; exact hcell i j hlt hj
      have hsome : ∀ j, j < 3 → (w3.cell? ⟨gb, o + i * 3 + j, none⟩).isSome = true := fun j hj => by rw [hcell i j hlt hj]; simp [Pd.cells_len, hj]
      unfold h21_3
      simp only [go_sem, ↓reduceIte, Nat.reduceEqDiff, Nat.reduceAdd, t0, t1, t20, t21, t22, hld]
      refine ⟨⟨by omega, by omega⟩, hsome, ?_⟩
      refine alloc_ (z := .agg #[.int .i64 0, .int .i64 0, str []]) (cs := [.int .i64 0, .int .i64 0, str []]) (by kernel_rfl) rfl ?_
      intro c w4 hc hbc m4 hsz4
      have hplt := hb3.lt
      refine storeN sz91 rfl hbc (by simp) (by intro u hu; simp [Pd.cells] at hu; rcases hu with rfl | rfl | rfl <;> rfl) ?_
      intro w5 hbc5 m5 hsz5
      simp only [List.take_zero, List.nil_append, Nat.zero_add, show ([Value.int .i64 0, .int .i64 0, str []]).drop 3 = [] from rfl, List.append_nil] at hbc5
      have m35 : Mod none' w3 w5 := m4.trans m5 fun k hk (e : k = c) => by omega
      have x0 : w5.cell? ⟨c, 0, none⟩ = some (.int .i64 d.queue[i].file) := by rw [hbc5.cell]; rfl
      have x1 : w5.cell? ⟨c, 1, none⟩ = some (.int .i64 d.queue[i].at_) := by rw [hbc5.cell]; rfl
      have x2 : w5.cell? ⟨c, 2, none⟩ = some (str d.queue[i].bytes) := by rw [hbc5.cell]; rfl
      have hb5 := hb3.mod m35 fun h => h
      have hv5 := hv3.mod m35 fun k _ h => h
      have hq5 := hq3.mod m35 fun k _ h => h
      have hk5 := hk3.mod' m35 fun _ k _ h => h
      have m5' : Mod S.W w w5 := m3.trans m35 fun i _ h => h.elim
      have hcp : c ≠ p := by omega
      have hbq := ok.bq d.queue[i] (List.getElem_mem hlt)
      have hfile := getD_le (mid_ok ok ks i).bl d.queue[i].file
      have htk := survs_take (lasts := d.lasts) (ks := ks) hlt
      clear hbc hsz4 m4 hsz5 m5 w4 hld hsome hcell m3 hb3 hv3 hq3 hk3
      have cl : w5.cell? ⟨p, d.queue[i].file, none⟩ = some (str ((mid d ks i).last d.queue[i].file)) := by rw [hb5.cell, cells_last oki.nl hbq.1]
      simp only [go_sem, ↓reduceIte, Nat.reduceEqDiff, Nat.reduceAdd, t0, t1, t20, t21, t22, x0, x1, x2, Nat.mul_one]
      refine ⟨fun hend => ?_, fun hin => ?_⟩
      · have hend : n ≤ i := by simpa using hend
        have hki : ks[i]? = none := List.getElem?_eq_none (by have := hv5.len; rw [ints_len] at this; omega)
        have hm : mid d ks (i + 1) = mid d ks i := by simp [mid, htk, surv, kept, hki]
        unfold h21_4
        simp only [go_sem, ↓reduceIte, Nat.reduceEqDiff, Nat.reduceAdd, t0, t1, t20, t21, t22]
        rw [w64 (by omega) (by omega)]
        exact ⟨i + 1, by omega, by omega, rfl, ⟨kv3, by rw [hm]; exact hb5, hk5, hkb3⟩, hv5, hq5, m5'⟩
      have hin : i < n := by simpa using hin
      obtain ⟨hvl, va', vc', hva', -, hvc1⟩ := id hv5
      simp only [Value.slice.injEq] at hva'
      obtain ⟨rfl, -, rfl⟩ := hva'
      obtain ⟨vb, vo, rfl, hvcell⟩ := hvc1 (by omega)
      simp only [Nat.mul_one] at hvcell hvl
      have hik : i < ks.length := by rw [ints_len] at hvl; omega
      have hki : ks[i]? = some ks[i] := List.getElem?_eq_getElem hik
      have hvi := hvcell i hin
      rw [show (ints ks)[i]? = some (.int .i64 ks[i]) by simp [ints]] at hvi
      simp only [go_sem, ↓reduceIte, Nat.reduceEqDiff, Nat.reduceAdd, t0, t1, t20, t21, t22, x0, x1, x2, Nat.mul_one, hvi, cl]
      -- a part that survives
      have fin : ∀ (b : Bytes) (w6 w7 : World), kept (some ks[i]) d.queue[i].bytes = some b → Mod none' w5 w6 → Mod (fun k => k = p) w6 w7 →
          Blk w7 p 86 (((mid d ks i).cells (.slice (some ⟨gb, o, none⟩) d.queue.length qc) kv3).set d.queue[i].file (str (put ((mid d ks i).last d.queue[i].file) d.queue[i].at_ b))) →
          ∃ i', i < i' ∧ i' ≤ d.queue.length ∧ Value.int .i64 ((i : Int) + 1) = Value.int .i64 i' ∧
            (∃ kv, Blk w7 p 86 ((mid d ks i').cells (.slice (some ⟨gb, o, none⟩) d.queue.length qc) kv) ∧ Sl w7 kv 1 d.keep.length (ints d.keep) ∧ (0 < d.keep.length → ∀ k, kv.ownBlock = some k → S.R k ∧ ¬ S.W k)) ∧
            Sl w7 (.slice (some ⟨vb, vo, none⟩) n vc) 1 n (ints ks) ∧ Own w7 (.slice (some ⟨gb, o, none⟩) d.queue.length qc) 91 3 d.queue.length (rows Pd.cells d.queue) ∧ Mod S.W w w7 := by
        intro b w6 w7 hkb m6 m7 hb7
        have hm : { mid d ks i with lasts := (mid d ks i).lasts.set d.queue[i].file (put ((mid d ks i).last d.queue[i].file) d.queue[i].at_ b) } = mid d ks (i + 1) := by
          simp only [mid, htk, surv, hki, hkb, Dk.last]
        rw [cells_set_last oki.nl hbq.1, hm] at hb7
        refine ⟨i + 1, by omega, by omega, rfl, ⟨kv3, hb7, ?_, hkb3⟩, ?_, ?_, (m5'.trans m6 fun _ _ h => h.elim).trans m7 fun k _ (e : k = p) => e ▸ h.self⟩
        · exact (hk5.mod' m6 fun _ _ _ h => h).mod' m7 fun hn k hk (e : k = p) => (hkb3 hn k hk).2 (e ▸ h.self)
        · exact (hv5.mod m6 fun _ _ h => h).mod' m7 fun hn k hk (e : k = p) => hvp hn (by rw [hk, e])
        · exact (hq5.mod m6 fun _ _ h => h).mod m7 fun k hk (e : k = p) => (h1 k hk).2 e
      refine ⟨⟨by omega, by omega⟩, fun hk1 => ?_, fun hk1 => ?_⟩
      · have hk1 : ks[i] = 1 := by simpa using hk1
        refine ⟨⟨by omega, by omega⟩, ?_⟩
        refine put_ _ _ _ hfile hbq.2 ?_
        intro w6 m6
        have hb6 := (hb5.drew).mod m6 fun h => h
        have x0' : w6.cell? ⟨c, 0, none⟩ = some (.int .i64 d.queue[i].file) := by rw [(hbc5.drew.mod m6 fun h => h).cell]; rfl
        simp only [go_sem, x0', Nat.mul_one]
        refine ⟨⟨by omega, by omega⟩, ?_⟩
        refine store1 sz9 hb6 (by rw [cells_len oki.nl oki.nf]; omega) rfl ?_
        intro w7 hb7 m7 hsz7
        unfold h21_4
        simp only [go_sem, ↓reduceIte, Nat.reduceEqDiff, Nat.reduceAdd, t0, t1, t20, t21, t22]
        rw [w64 (by omega) (by omega)]
        exact fin d.queue[i].bytes w6 w7 (by simp [kept, hk1]) ((Mod.drew _ _).trans' m6) m7 hb7
      · have hk1 : ks[i] ≠ 1 := by simpa using hk1
        refine ⟨⟨by omega, by omega⟩, fun hk2 => ?_, fun hk2 => ?_⟩
        · have hk2 : ks[i] = 2 := by simpa using hk2
          refine ⟨⟨by omega, by omega⟩, ?_⟩
          have hmn : (if (24 : Int) < (d.queue[i].bytes.length : Int) then (24 : Int) else (d.queue[i].bytes.length : Int)).toNat = min 24 d.queue[i].bytes.length := by split <;> omega
          refine ⟨⟨by split <;> omega, by split <;> omega⟩, ?_⟩
          rw [hmn]
          have htake : d.queue[i].bytes.take (min 24 d.queue[i].bytes.length) = d.queue[i].bytes.take 24 := by
            rcases Nat.le_total 24 d.queue[i].bytes.length with h | h
            · rw [Nat.min_eq_left h]
            · rw [Nat.min_eq_right h, List.take_of_length_le (Nat.le_refl _), List.take_of_length_le h]
          rw [htake]
          refine put_ _ _ _ hfile (by simp; omega) ?_
          intro w6 m6
          have hb6 := (hb5.drew).mod m6 fun h => h
          have x0' : w6.cell? ⟨c, 0, none⟩ = some (.int .i64 d.queue[i].file) := by rw [(hbc5.drew.mod m6 fun h => h).cell]; rfl
          simp only [go_sem, x0', Nat.mul_one]
          refine ⟨⟨by omega, by omega⟩, ?_⟩
          refine store1 sz9 hb6 (by rw [cells_len oki.nl oki.nf]; omega) rfl ?_
          intro w7 hb7 m7 hsz7
          unfold h21_4
          simp only [go_sem, ↓reduceIte, Nat.reduceEqDiff, Nat.reduceAdd, t0, t1, t20, t21, t22]
          rw [w64 (by omega) (by omega)]
          exact fin (d.queue[i].bytes.take 24) w6 w7 (by simp [kept, hk2]) ((Mod.drew _ _).trans' m6) m7 hb7
        · have hk2 : ks[i] ≠ 2 := by simpa using hk2
          have hm : mid d ks (i + 1) = mid d ks i := by simp [mid, htk, surv, kept, hki, hk1, hk2]
          unfold h21_4
          simp only [go_sem, ↓reduceIte, Nat.reduceEqDiff, Nat.reduceAdd, t0, t1, t20, t21, t22]
          rw [w64 (by omega) (by omega)]
          exact ⟨i + 1, by omega, by omega, rfl, ⟨kv3, by rw [hm]; exact hb5, hk5, hkb3⟩, hv5, hq5, m5'⟩
    · have hge : d.queue.length ≤ i := by simpa using hge
      unfold h21_5
      have hld := hb3.loadN (o := 0) (n := 12) (by rw [cells_len oki.nl oki.nf]; omega)
      have hsome := hb3.some (o := 0) (n := 12) (by rw [cells_len oki.nl oki.nf]; omega)
      simp only [e_add, Nat.zero_add] at hsome
      have htk : ((mid d ks i).cells (.slice qa d.queue.length qc) kv3).take 12 = (mid d ks i).lasts.map str := by
        unfold Dk.cells
        rw [List.take_left' (by simp [oki.nl])]
      rw [List.drop_zero, htk] at hld
      simp only [go_sem, ↓reduceIte, Nat.reduceEqDiff, Nat.reduceAdd, t0, t1, t20, t21, t22, hld]
      refine ⟨hsome, ?_⟩
      refine storeN sz83 (by simp [oki.nl]) hb3 (by rw [cells_len oki.nl oki.nf]; omega) (by intro u hu; obtain ⟨s, _, rfl⟩ := List.mem_map.1 hu; rfl) ?_
      intro w4 hb4 m4 hsz4
      have hcs4 : ((mid d ks i).cells (.slice qa d.queue.length qc) kv3).take 12 ++ (mid d ks i).lasts.map str ++ ((mid d ks i).cells (.slice qa d.queue.length qc) kv3).drop (12 + 12) = ({ mid d ks i with files := (mid d ks i).lasts } : Dk).cells (.slice qa d.queue.length qc) kv3 := by
        rw [htk]
        unfold Dk.cells
        rw [← List.append_assoc, List.drop_left' (by simp [oki.nl, oki.nf])]
        simp
      rw [hcs4] at hb4
      have ok4 : Dk.OK { mid d ks i with files := (mid d ks i).lasts } := ⟨oki.nl, oki.nl, oki.bl, oki.bl, oki.bq, oki.lost, oki.armed⟩
      refine store1 sz84 hb4 (by rw [cells_len ok4.nl ok4.nf]; omega) rfl ?_
      intro w5 hb5 m5 hsz5
      have hcr : d.crash ks = { mid d ks i with files := (mid d ks i).lasts, queue := [] } := by
        simp only [Dk.crash, hd, mid]
        rw [List.take_of_length_le hge]; rfl
      have hcs5 : (({ mid d ks i with files := (mid d ks i).lasts } : Dk).cells (.slice qa d.queue.length qc) kv3).set 24 (.slice none 0 0) = (d.crash ks).cells (.slice none 0 0) kv3 := by
        rw [show 24 = 24 + 0 from rfl, cells_set_tail ok4.nl ok4.nf, hcr]; rfl
      rw [hcs5] at hb5
      have m35 := m4.trans' m5
      have mm : Mod S.W w w5 := m3.trans m35 fun k _ (e : k = p) => e ▸ h.self
      have hk0 : (d.crash ks).keep = d.keep := by rw [hcr]; rfl
      refine k w5 (.of ⟨ok.crash ks, ⟨_, kv3, hb5, ?_, ?_, (fun k hk => nomatch (hk : none = some k)), by rw [hk0]; exact hkb3⟩, h.self, h.sub, fun k hk => Nat.lt_of_lt_of_le (h.lt k hk) mm.size⟩ mm)
      · rw [hcr]; exact Own.nil _ _ _
      · rw [hk0]; exact hk3.mod' m35 fun hn k hk (e : k = p) => (hkb3 hn k hk).2 (e ▸ h.self)
end
end Go.Proofs.Y
