/- RE: the reference's disk: pieces, the crash, the scheduled crash. -/
import Derived.Test.YtgalileklafbbaaRD
set_option linter.unusedSimpArgs false
set_option linter.unusedVariables false
set_option maxRecDepth 100000
namespace Go.Proofs.Y
open Go Go.HL Go.Proofs

section
variable {w : World} {next : Value → World → Prop} {QP : List PanicEntry → World → Prop} {p : Nat} {d : Dk} {S : Nat → Prop}

theorem RT.build {w' : World} {d' : Dk} {lv qv kv : Value} (h : RR w p d S) (m : Mod S w w') (ok : d'.OK) (sy : Sync d') (hb : Blk w' p 99 [lv, qv, .int .i64 d'.lost, .bool d'.down, .int .i64 d'.armed, kv])
    (hl : Own w' lv 9 1 12 (d'.lasts.map str)) (hq : Own w' qv 118 3 d'.queue.length (rows Pd.cells d'.queue)) (hk : Own w' kv 3 1 d'.keep.length (ints d'.keep))
    (h1 : ∀ k, lv.ownBlock = some k → S k ∨ w.heap.size ≤ k) (h2 : ∀ k, qv.ownBlock = some k → S k ∨ w.heap.size ≤ k) (h3 : ∀ k, kv.ownBlock = some k → S k ∨ w.heap.size ≤ k) : RT S w w' p d' := by
  have hs := m.size
  refine ⟨fun k => S k ∨ (w.heap.size ≤ k ∧ k < w'.heap.size), ⟨ok, sy, ⟨lv, qv, kv, hb, hl, hq, hk, fun k hk' => ?_, fun k hk' => ?_, fun k hk' => ?_⟩, .inl h.self, fun k hk' => ?_⟩, fun k hk' => ?_, m⟩
  · exact (h1 k hk').imp id fun e => ⟨e, hl.lt k hk'⟩
  · exact (h2 k hk').imp id fun e => ⟨e, hq.lt k hk'⟩
  · exact (h3 k hk').imp id fun e => ⟨e, hk.lt k hk'⟩
  · rcases hk' with h' | h'
    · have := h.lt k h'; omega
    · exact h'.2
  · exact hk'.imp id fun e => e.1

theorem pieces_step {f n a : Nat} {s : Bytes} (hs : s ≠ []) (hn : s.length ≤ n) : pieces f n a s = ⟨f, a, s.take (piece s.length a)⟩ :: pieces f n (a + piece s.length a) (s.drop (piece s.length a)) := by
  have h0 : 0 < s.length := List.length_pos_iff.2 hs
  have hp := piece_pos (a := a) h0
  have hl := piece_le (n := s.length) (a := a)
  cases n with
  | zero => omega
  | succ n =>
    simp only [pieces, if_neg hs]
    congr 1
    exact pieces_fuel f n (n + 1) _ _ (by simp; omega) (by simp; omega)

def Dk.addD (d : Dk) (f a : Nat) (s : Bytes) : Dk := if s = [] then d else { d with files := d.files.set f (put (d.file f) a s), queue := d.queue ++ pieces f s.length a s }

theorem addD_queue (f a : Nat) (s : Bytes) : (d.addD f a s).queue = d.queue ++ pieces f s.length a s := by
  unfold Dk.addD; split
  · rename_i hs; subst hs; rw [pieces_none, List.append_nil]
  · rfl
theorem addD_lost (f a : Nat) (s : Bytes) : (d.addD f a s).lost = d.lost := by unfold Dk.addD; split <;> rfl
theorem addD_down (f a : Nat) (s : Bytes) : (d.addD f a s).down = d.down := by unfold Dk.addD; split <;> rfl
theorem addD_armed (f a : Nat) (s : Bytes) : (d.addD f a s).armed = d.armed := by unfold Dk.addD; split <;> rfl
theorem addD_lasts (f a : Nat) (s : Bytes) : (d.addD f a s).lasts = d.lasts := by unfold Dk.addD; split <;> rfl
theorem addD_keep (f a : Nat) (s : Bytes) : (d.addD f a s).keep = d.keep := by unfold Dk.addD; split <;> rfl
theorem addD_sync (h : Sync d) (ok : d.OK) (f a : Nat) (s : Bytes) : Sync (d.addD f a s) := by
  unfold Dk.addD
  split
  · exact h
  · rename_i hs
    intro g hg
    have hb := h g hg
    show (d.files.set f _).getD g [] = putAll (d.last g) (d.queue ++ _) g
    rw [putAll_app, ← hb]
    by_cases hgf : g = f
    · subst hgf
      rw [putAll_pieces _ _ _ _ hs (Nat.le_refl _)]
      simp [ok.nf, hg]
    · rw [putAll_other _ _ fun p hp => by rw [pieces_file _ _ _ _ p hp]; exact fun e => hgf e.symm]
      simp [List.getElem?_set_ne (Ne.symm hgf), Dk.file]
theorem file_le (ok : d.OK) (f : Nat) : (d.file f).length ≤ 16777216 := by
  by_cases hf : f < 12
  · have : d.file f = d.files[f]'(by rw [ok.nf]; exact hf) := by simp [Dk.file, ok.nf, hf]
    rw [this]; exact ok.bf _ (List.getElem_mem _)
  · have : d.file f = [] := by simp [Dk.file, ok.nf, hf]
    simp [this]
theorem addD_ok (ok : d.OK) {f a : Nat} {s : Bytes} (hf : f < 12) (ha : a + s.length ≤ 16777216) : (d.addD f a s).OK := by
  unfold Dk.addD
  split
  · exact ok
  · refine ⟨ok.nl, by simp [ok.nf], ok.bl, fun t ht => ?_, fun x hx => ?_, ok.lost, ok.armed⟩
    · rcases List.mem_or_eq_of_mem_set ht with h | rfl
      · exact ok.bf t h
      · have := file_le ok f; rw [put_len]; omega
    · rcases List.mem_append.1 hx with h | h
      · exact ok.bq x h
      · have := pieces_bound _ _ _ _ x h
        rw [pieces_file _ _ _ _ x h]; omega

theorem radd_ (h : RR w p d S) {f a : Nat} {s : Bytes} (hf : f < 12) (ha : a + s.length ≤ 16777216) (hqn : d.queue.length + s.length ≤ 1000000000000) (k : ∀ w', RT S w w' p (d.addD f a s) → next (.tuple #[]) w') :
    callvK Try.prog (.func (.func 103) #[] #[]) [ptr p, .int .i64 f, .int .i64 a, str s] w next QP := by
  refine r103 rfl ?_
  obtain ⟨lv, qv, kv, hb, hl, hq, hk, h1, h2, h3, c0, c1, c2, c3, c4, c5⟩ := h.parts
  unfold h103
  try simp only [go_sem, ↓reduceIte, Nat.reduceEqDiff, Nat.reduceAdd, Nat.reduceLT, List.length_cons, List.length_nil, List.getElem?_cons_zero, List.getElem?_cons_succ, Nat.mul_one, Bool.true_eq_false, Bool.false_eq_true, false_implies, true_implies, Bool.not_true, Bool.not_false, decide_true, decide_false, Int.reduceToNat, Int.cast_ofNat_Int, Int.reduceLT, Int.reduceLE, Int.reduceEq, Int.reduceNeg, eq_self, Option.isNone_some, Option.isNone_none, Bool.bne_false, Bool.bne_true]
  refine loopN s.length (fun i τ w' => τ 0 = ptr p ∧ τ 1 = .int .i64 f ∧ τ 2 = .int .i64 a ∧ τ 3 = str s ∧ τ 10 = .int .i64 i ∧ Mod S w w' ∧ ∃ (x : Nat) (E : List Pd) (qv' : Value), x ≤ i ∧ τ 8 = str ((s.drop x).take (i - x)) ∧ τ 9 = .int .i64 (a + x : Nat) ∧
      E ++ pieces f s.length (a + x) (s.drop x) = pieces f s.length a s ∧ (i < s.length → i - x < piece (s.length - x) (a + x)) ∧ (i = s.length → x = i) ∧ E.length ≤ i ∧
      Blk w' p 99 [lv, qv', .int .i64 d.lost, .bool d.down, .int .i64 d.armed, kv] ∧ Own w' qv' 118 3 (d.queue ++ E).length (rows Pd.cells (d.queue ++ E)) ∧ (∀ k, qv'.ownBlock = some k → (S k ∨ w.heap.size ≤ k) ∧ lv.ownBlock ≠ some k ∧ kv.ownBlock ≠ some k) ∧
      Own w' lv 9 1 12 (d.lasts.map str) ∧ Own w' kv 3 1 d.keep.length (ints d.keep))
    ⟨0, by omega, rfl, rfl, rfl, rfl, rfl, Mod.refl _ _, 0, [], qv, Nat.le_refl _, rfl, rfl, rfl, ?_, ?_, Nat.le_refl _, hb, by simpa using hq, ?_, hl, hk⟩ ?_
  · intro h0; rw [Nat.sub_self]; exact piece_pos h0
  · exact fun _ => rfl
  · exact fun k hk => ⟨.inl (h2 k hk).1, (h2 k hk).2.2⟩
  rintro i τ w1 hi ⟨t0, t1, t2, t3, t10, m1, x, E, qv', hx, t8, t9, hE, hpi, hend, hEi, hb1, hq1, hqs, hl1, hk1⟩
  unfold h103_1
  try simp only [go_sem, ↓reduceIte, Nat.reduceEqDiff, Nat.reduceAdd, Nat.reduceLT, List.length_cons, List.length_nil, List.getElem?_cons_zero, List.getElem?_cons_succ, Nat.mul_one, Bool.true_eq_false, Bool.false_eq_true, false_implies, true_implies, Bool.not_true, Bool.not_false, decide_true, decide_false, Int.reduceToNat, Int.cast_ofNat_Int, Int.reduceLT, Int.reduceLE, Int.reduceEq, Int.reduceNeg, eq_self, Option.isNone_some, Option.isNone_none, Bool.bne_false, Bool.bne_true, t0, t1, t2, t3, t8, t9, t10]
  refine ⟨fun hlt => ?_, fun hge => ?_⟩
  · have hil : i < s.length := by have : (i : Int) < s.length := by simpa using hlt
                                  omega
    have hpi := hpi hil
    unfold h103_2
    try simp only [go_sem, ↓reduceIte, Nat.reduceEqDiff, Nat.reduceAdd, Nat.reduceLT, List.length_cons, List.length_nil, List.getElem?_cons_zero, List.getElem?_cons_succ, Nat.mul_one, Bool.true_eq_false, Bool.false_eq_true, false_implies, true_implies, Bool.not_true, Bool.not_false, decide_true, decide_false, Int.reduceToNat, Int.cast_ofNat_Int, Int.reduceLT, Int.reduceLE, Int.reduceEq, Int.reduceNeg, eq_self, Option.isNone_some, Option.isNone_none, Bool.bne_false, Bool.bne_true, t0, t1, t2, t3, t8, t9, t10]
    have v1 : IntKind.i64.wrap ((i : Int) + 1) = (i + 1 : Nat) := by rw [w64 (by omega) (by omega)]; rfl
    have v2 : IntKind.i64.wrap ((a : Int) + i) = (a + i : Nat) := by rw [w64 (by omega) (by omega)]; rfl
    have v3 : IntKind.i64.wrap (((a + i : Nat) : Int) + 1) = (a + i + 1 : Nat) := by rw [w64 (by omega) (by omega)]; rfl
    have v4 : IntKind.i64.wrap ((s.length : Int) - 1) = (s.length - 1 : Nat) := by rw [w64 (by omega) (by omega)]; omega
    have hcur : (s.drop x).take (i - x) ++ (s.drop i).take (i + 1 - i) = (s.drop x).take (i + 1 - x) := by
      rw [show i + 1 - i = 1 by omega, show i + 1 - x = (i - x) + 1 by omega, List.take_add, List.drop_drop, show x + (i - x) = i by omega]
    have hcl : ((s.drop x).take (i + 1 - x)).length ≤ s.length := by rw [List.length_take, List.length_drop]; omega
    have ec : (if decide (((a + i + 1 : Nat) : Int).tmod 64 = 0) = true then true else decide ((i : Int) = (s.length - 1 : Nat))) = decide (i + 1 - x = piece (s.length - x) (a + x)) := by
      rw [Int.tmod_eq_emod_of_nonneg (by omega), Bool.eq_iff_iff]
      have : ∀ A B : Prop, [Decidable A] → [Decidable B] → ((if decide A = true then true else decide B) = true ↔ A ∨ B) := by
        intro A B _ _; by_cases hA : A <;> simp [hA]
      rw [this, decide_eq_true_iff]
      unfold piece at hpi ⊢
      omega
    simp only [v1, v2, v3, v4, Int.toNat_natCast, hcur, ec]
    refine ⟨⟨⟨by omega, by omega⟩, by omega, by omega⟩, ?_, by decide, fun hf => ?_, fun hf => ?_⟩
    · have := congrArg List.length hcur; rw [List.length_append] at this; omega
    · have hf : i + 1 - x = piece (s.length - x) (a + x) := by simpa using hf
      have hne : s.drop x ≠ [] := by intro h; have := congrArg List.length h; simp at this; omega
      have hst := pieces_step (f := f) (a := a + x) hne (n := s.length) (by simp)
      rw [List.length_drop, ← hf, List.drop_drop, show a + x + (i + 1 - x) = a + (i + 1) by omega, show x + (i + 1 - x) = i + 1 by omega] at hst
      rw [hb1.cell 1]
      refine ⟨rfl, by omega, by simp, by simp, ?_⟩
      refine bsl1 sl118 (cs := Pd.cells (⟨f, a + x, (s.drop x).take (i + 1 - x)⟩ : Pd)) rfl rfl (by omega) ?_
      intro b2 w2 hb2 own2 _ m2 _
      have hEl : (d.queue ++ E).length ≤ 1000000000000 := by rw [List.length_append]; omega
      refine append_ sl118 (hq1.mod m2 fun _ _ h => h) own2.sl (Pd.one _) (by omega) (by unfold maxLen; omega) ?_
      intro v3 w3 own3 m3 hb3 _
      have hpS : ∀ k, (Value.ownBlock qv' = some k → k ≠ p) := fun k hk e => own_neb hq1 hb1 (by decide) (e ▸ hk)
      have hb3' : Blk w3 p 99 [lv, qv', .int .i64 d.lost, .bool d.down, .int .i64 d.armed, kv] := (hb1.mod m2 fun h => h).mod m3 fun hS => hpS p hS rfl
      obtain ⟨ua, uc, rfl, -, -⟩ := own3.form
      refine store1 sz97 hb3' (by simp) rfl ?_
      intro w4 hb4 m4 hs4
      have hb4 : Blk w4 p 99 [lv, .slice ua ((d.queue ++ E).length + 1) uc, .int .i64 d.lost, .bool d.down, .int .i64 d.armed, kv] := by simpa using hb4
      have hold : ∀ k, (Value.slice ua ((d.queue ++ E).length + 1) uc).ownBlock = some k → (S k ∨ w.heap.size ≤ k) ∧ k ≠ p ∧ lv.ownBlock ≠ some k ∧ kv.ownBlock ≠ some k := by
        intro k hk'
        rcases hb3 k hk' with h' | h'
        · exact ⟨(hqs k h').1, hpS k h', (hqs k h').2⟩
        · have := m1.size; have := m2.size
          refine ⟨.inr (by omega), ?_, fun e => ?_, fun e => ?_⟩
          · rintro rfl; have := hb1.lt; omega
          · have := hl1.lt k e; omega
          · have := hk1.lt k e; omega
      have m34 : Mod S w w4 := by
        refine ((m1.trans m2 fun _ _ h => h.elim).trans m3 fun k hk hS => ?_).trans m4 fun k hk (e : k = p) => e ▸ h.self
        rcases (hqs k hS).1 with h' | h'
        · exact h'
        · omega
      have hqz : (d.queue ++ (E ++ [(⟨f, a + x, (s.drop x).take (i + 1 - x)⟩ : Pd)])).length = (d.queue ++ E).length + 1 := by simp [Nat.add_assoc]
      have hrz : rows Pd.cells (d.queue ++ (E ++ [(⟨f, a + x, (s.drop x).take (i + 1 - x)⟩ : Pd)])) = rows Pd.cells (d.queue ++ E) ++ Pd.cells (⟨f, a + x, (s.drop x).take (i + 1 - x)⟩ : Pd) := by
        rw [← List.append_assoc, rows_app]; simp [rows]
      unfold h103_3
      try simp only [go_sem, ↓reduceIte, Nat.reduceEqDiff, Nat.reduceAdd, Nat.reduceLT, List.length_cons, List.length_nil, List.getElem?_cons_zero, List.getElem?_cons_succ, Nat.mul_one, Bool.true_eq_false, Bool.false_eq_true, false_implies, true_implies, Bool.not_true, Bool.not_false, decide_true, decide_false, Int.reduceToNat, Int.cast_ofNat_Int, Int.reduceLT, Int.reduceLE, Int.reduceEq, Int.reduceNeg, eq_self, Option.isNone_some, Option.isNone_none, Bool.bne_false, Bool.bne_true, t0, t1, t2, t3, t10]
      rw [w64 (by omega) (by omega)]
      refine ⟨i + 1, by omega, by omega, rfl, m34, i + 1, E ++ [(⟨f, a + x, (s.drop x).take (i + 1 - x)⟩ : Pd)], .slice ua ((d.queue ++ E).length + 1) uc, Nat.le_refl _, ?_, rfl, ?_, fun hh => ?_, fun _ => rfl, ?_, hb4, ?_, ?_, ?_, ?_⟩
      · rw [Nat.sub_self, List.take_zero]
      · rw [List.append_assoc, List.singleton_append, ← hst]; exact hE
      · rw [Nat.sub_self]; exact piece_pos (by omega)
      · simp; omega
      · rw [hqz, hrz]; exact own3.mod m4 fun k hk' (e : k = p) => (hold k hk').2.1 e
      · exact fun k hk' => ⟨(hold k hk').1, (hold k hk').2.2⟩
      · exact ((hl1.mod m2 fun _ _ h => h).mod m3 fun k hk' hS => (hqs k hS).2.1 hk').mod m4 fun k hk' (e : k = p) => (h1 k hk').2.1 e
      · exact ((hk1.mod m2 fun _ _ h => h).mod m3 fun k hk' hS => (hqs k hS).2.2 hk').mod m4 fun k hk' (e : k = p) => (h3 k hk').2.1 e
    · have hf : ¬ i + 1 - x = piece (s.length - x) (a + x) := by simpa using hf
      unfold h103_3
      try simp only [go_sem, ↓reduceIte, Nat.reduceEqDiff, Nat.reduceAdd, Nat.reduceLT, List.length_cons, List.length_nil, List.getElem?_cons_zero, List.getElem?_cons_succ, Nat.mul_one, Bool.true_eq_false, Bool.false_eq_true, false_implies, true_implies, Bool.not_true, Bool.not_false, decide_true, decide_false, Int.reduceToNat, Int.cast_ofNat_Int, Int.reduceLT, Int.reduceLE, Int.reduceEq, Int.reduceNeg, eq_self, Option.isNone_some, Option.isNone_none, Bool.bne_false, Bool.bne_true, t0, t1, t2, t3, t8, t9, t10]
      rw [w64 (by omega) (by omega)]
      refine ⟨i + 1, by omega, by omega, rfl, m1, x, E, qv', by omega, rfl, rfl, hE, fun _ => ?_, fun he => ?_, by omega, hb1, hq1, hqs, hl1, hk1⟩
      · unfold piece at *; omega
      · unfold piece at *; omega
  · have hio : i = s.length := by have : ¬ (i : Int) < s.length := by simpa using hge
                                  omega
    obtain rfl := hend hio
    subst hio
    rw [List.drop_length, pieces_none, List.append_nil] at hE
    subst hE
    try simp only [go_sem, ↓reduceIte, Nat.reduceEqDiff, Nat.reduceAdd, Nat.reduceLT, List.length_cons, List.length_nil, List.getElem?_cons_zero, List.getElem?_cons_succ, Nat.mul_one, Bool.true_eq_false, Bool.false_eq_true, false_implies, true_implies, Bool.not_true, Bool.not_false, decide_true, decide_false, Int.reduceToNat, Int.cast_ofNat_Int, Int.reduceLT, Int.reduceLE, Int.reduceEq, Int.reduceNeg, eq_self, Option.isNone_some, Option.isNone_none, Bool.bne_false, Bool.bne_true]
    refine k _ (.build (lv := lv) (qv := qv') (kv := kv) h m1 (addD_ok h.ok hf ha) (addD_sync h.sync h.ok f a s) ?_ ?_ ?_ ?_ (fun k hk' => .inl (h1 k hk').1) (fun k hk' => (hqs k hk').1) (fun k hk' => .inl (h3 k hk').1))
    · rw [addD_lost, addD_down, addD_armed]; exact hb1
    · rw [addD_lasts]; exact hl1
    · rw [addD_queue]; exact hq1
    · rw [addD_keep]; exact hk1
end
end Go.Proofs.Y
