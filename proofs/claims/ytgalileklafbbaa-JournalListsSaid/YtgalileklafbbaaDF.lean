/- DF: the walks of write and of the crash. -/
import Derived.Test.YtgalileklafbbaaDE
set_option linter.unusedSimpArgs false
set_option linter.unusedVariables false
set_option maxRecDepth 100000
namespace Go.Proofs.Y
open Go Go.HL Go.Proofs

theorem pieces_fuel (f : Nat) : ∀ (n m a : Nat) (s : Bytes), s.length ≤ n → s.length ≤ m → pieces f n a s = pieces f m a s
  | 0, m, a, s, h1, h2 => by
    have : s = [] := List.eq_nil_of_length_eq_zero (by omega)
    subst this; cases m <;> simp [pieces]
  | n + 1, 0, a, s, h1, h2 => by
    have : s = [] := List.eq_nil_of_length_eq_zero (by omega)
    subst this; simp [pieces]
  | n + 1, m + 1, a, s, h1, h2 => by
    simp only [pieces]
    by_cases hs : s = []
    · rw [if_pos hs, if_pos hs]
    · have hl : 0 < s.length := List.length_pos_iff.2 hs
      have := piece_pos (a := a) hl
      rw [if_neg hs, if_neg hs, pieces_fuel f n m _ _ (by simp; omega) (by simp; omega)]

theorem pieces_len (f : Nat) : ∀ (n a : Nat) (s : Bytes), (pieces f n a s).length ≤ s.length
  | 0, _, _ => by simp [pieces]
  | n + 1, a, s => by
    simp only [pieces]
    by_cases hs : s = []
    · rw [if_pos hs]; simp
    · have hl : 0 < s.length := List.length_pos_iff.2 hs
      have := piece_pos (a := a) hl
      have := piece_le (n := s.length) (a := a)
      rw [if_neg hs, List.length_cons]
      have := pieces_len f n (a + piece s.length a) (s.drop (piece s.length a))
      simp at this; omega

section
variable {w : World} {next : Value → World → Prop} {QP : List PanicEntry → World → Prop}

theorem write1_ {p : Nat} {d : Dk} {S : FP} (h : DR w p d S) {f a : Int} (ha : -9223372036854775808 ≤ a) (ha' : a ≤ 9223372036854775807) {s : Bytes} (hqn : d.queue.length + s.length ≤ 1000000000000) (hsl : s.length ≤ 9223372036854775807)
    (k : ∀ w', St S w w' p (d.writeD f a s) → next (.int .i64 (d.writeE f a s)) w') :
    callvK Try.prog (.func (.func 64) #[] #[]) [ptr p, .int .i64 f, .int .i64 a, str s] w next QP := by
  refine r64 rfl ?_
  have ok := h.ok
  unfold h64
  simp only [go_sem, ↓reduceIte, Nat.reduceEqDiff, Nat.reduceAdd]
  refine bsl1 sl22 rfl rfl (by omega) ?_
  intro b w1 hbb own1 blk1 m1 sz1
  have st1 : St S w w1 p d := (St.refl h).mod0 m1
  refine may_ st1.dr (by omega) (l := [f]) own1.sl ?_
  simp only [go_sem, ↓reduceIte, Nat.reduceEqDiff, Nat.reduceAdd]
  refine ⟨fun he => ?_, fun he => ?_⟩
  · have he : d.may [f] ≠ 0 := by simpa using he
    have hE : d.writeE f a s = d.may [f] := by simp [Dk.writeE, he]
    have hD : d.writeD f a s = d := by simp [Dk.writeD, hE, he]
    rw [hE, hD] at k
    exact k _ st1
  · have he : d.may [f] = 0 := by simpa using he
    have hf : isF f = true ∧ d.down = false := by
      rw [may1] at he
      rcases hd : d.down with _ | _
      · rcases hf : isF f with _ | _
        · simp [hd, hf] at he
        · exact ⟨rfl, rfl⟩
      · simp [hd] at he
    have hf' : 0 ≤ f ∧ f < 12 := by simpa [isF] using hf.1
    unfold h64_1
    simp only [go_sem, ↓reduceIte, Nat.reduceEqDiff, Nat.reduceAdd]
    refine ⟨fun hneg => ?_, fun hneg => ?_⟩
    · have hneg : a < 0 := by simpa using hneg
      have hE : d.writeE f a s = 1 := by simp [Dk.writeE, he, hneg]
      have hD : d.writeD f a s = d := by simp [Dk.writeD, hE]
      rw [hE, hD] at k
      exact k _ st1
    have hneg : 0 ≤ a := by simpa using hneg
    rw [w64 (by omega) (by omega)]
    refine ⟨fun hfull => ?_, fun hfull => ?_⟩
    · have hfull : 16777216 < a ∨ 16777216 - a < s.length := by
        rcases Int.lt_or_le 16777216 a with h | h
        · exact .inl h
        · simp [Int.not_lt.2 h] at hfull; exact .inr hfull
      have hE : d.writeE f a s = 6 := by simp only [Dk.writeE, he, ne_eq, not_true, if_false, if_neg (Int.not_lt.2 hneg), if_pos hfull]
      have hD : d.writeD f a s = d := by simp [Dk.writeD, hE]
      rw [hE, hD] at k
      exact k _ st1
    have hfull : ¬ (16777216 < a ∨ 16777216 - a < s.length) := by
      rintro (h | h)
      · simp [h] at hfull
      · simp [h] at hfull
    have hE : d.writeE f a s = 0 := by simp only [Dk.writeE, he, ne_eq, not_true, if_false, if_neg (Int.not_lt.2 hneg), if_neg hfull]
    refine ⟨fun hs0 => ?_, fun hs0 => ?_⟩
    · have hs0 : s = [] := by simpa using hs0
      have hD : d.writeD f a s = d := by simp [Dk.writeD, hs0]
      rw [hE, hD] at k
      exact k _ st1
    have hs0 : s ≠ [] := by simpa using hs0
    have hD : d.writeD f a s = { d with files := d.files.set f.toNat (put (d.file f.toNat) a.toNat s), queue := d.queue ++ pieces f.toNat s.length a.toNat s } := by simp [Dk.writeD, hE, hs0]
    rw [hE, hD] at k
    obtain ⟨fn, rfl⟩ : ∃ g : Nat, f = g := ⟨f.toNat, by omega⟩
    obtain ⟨an, rfl⟩ : ∃ g : Nat, a = g := ⟨a.toNat, by omega⟩
    simp only [Int.toNat_natCast] at k
    have hfn : fn < 12 := by omega
    have hend : an + s.length ≤ 16777216 := by
      have : ¬ ((16777216 : Int) - an < s.length) := fun h => hfull (.inr h)
      omega
    unfold h64_2
    simp only [go_sem, ↓reduceIte, Nat.reduceEqDiff, Nat.reduceAdd, Nat.mul_one]
    have st2 := st1.drew
    have cg : ∀ a, w1.cell? a = w1.drew.cell? a := fun _ => rfl
    generalize w1.drew = w2 at st2 cg ⊢
    obtain ⟨qv, kv, hb, hq, hk, h1, h2, c24, c25, c26, c27, c28⟩ := st2.dr.parts
    have cf : w2.cell? ⟨p, 12 + fn, none⟩ = some (str (d.file fn)) := by rw [hb.cell, cells_file ok.nl ok.nf hfn]
    have hfl : (d.file fn).length ≤ 16777216 := by
      unfold Dk.file
      rw [List.getD_eq_getElem?_getD, List.getElem?_eq_getElem (by rw [ok.nf]; exact hfn)]
      exact ok.bf _ (List.getElem_mem _)
    simp only [go_sem, ↓reduceIte, Nat.reduceEqDiff, Nat.reduceAdd, Nat.mul_one, cg, cf]
    refine ⟨⟨by omega, by omega⟩, ?_⟩
    refine put_ _ _ _ hfl hend ?_
    intro w3 m3
    have hb3 := hb.mod m3 fun h => h
    refine ⟨⟨by omega, by omega⟩, ?_⟩
    refine store1 sz9 hb3 (by rw [cells_len ok.nl ok.nf]; omega) rfl ?_
    intro w4 hb4 m4 hsz4
    rw [cells_set_file ok.nl ok.nf hfn] at hb4
    have hok4 : Dk.OK { d with files := d.files.set fn (put (d.file fn) an s) } := by
      refine ⟨ok.nl, by simp [ok.nf], ok.bl, fun t ht => ?_, ok.bq, ok.lost, ok.armed⟩
      rcases List.mem_or_eq_of_mem_set ht with h | h
      · exact ok.bf t h
      · rw [h, put_len]; omega
    have m24 := (m3.mono (T := fun k => k = p) fun _ _ h => h.elim).trans' m4
    have dr4 : DR w4 p { d with files := d.files.set fn (put (d.file fn) an s) } st2.foot := st2.dr.again m24 hok4 hb4 hq hk h1 h2
    have st4 : St S w w4 p { d with files := d.files.set fn (put (d.file fn) an s) } := st2.trans (.of dr4 (m24.mono fun k _ (e : k = p) => e ▸ st2.dr.self))
    clear hb hq hk h1 h2 c24 c25 c26 c27 c28 cf hb3 hb4 m24 dr4 m3 m4 hsz4 qv kv
    refine loopN s.length (fun i τ w' => τ 0 = ptr p ∧ τ 1 = .int .i64 fn ∧ ∃ (r : Bytes) (c : Nat) (Q : List Pd), τ 2 = .int .i64 c ∧ τ 3 = str r ∧ r.length = s.length - i ∧ c + r.length = an + s.length ∧ (Q.length + r.length ≤ d.queue.length + s.length) ∧
      Q ++ pieces fn r.length c r = d.queue ++ pieces fn s.length an s ∧ St S w w' p { d with files := d.files.set fn (put (d.file fn) an s), queue := Q }) ?_ ?_
    · exact ⟨0, by omega, by simp [go_sem], by simp [go_sem], s, an, d.queue, by simp [go_sem], by simp [go_sem], by omega, rfl, by omega, rfl, st4⟩
    · rintro i τ w5 hi ⟨t0, t1, r, c, Q, t2, t3, hrl, hcr, hQl, hQ, st5⟩
      unfold h64_3
      simp only [go_sem, ↓reduceIte, Nat.reduceEqDiff, Nat.reduceAdd, t0, t1, t2, t3]
      refine ⟨fun hne => ?_, fun hnil => ?_⟩
      · have hne : r ≠ [] := by simpa using hne
        have hrp : 0 < r.length := List.length_pos_iff.2 hne
        have hpp := piece_pos (n := r.length) (a := c) hrp
        have hpl := piece_le (n := r.length) (a := c)
        have hmn : (if 64 - ((c : Int).tmod 64) < (r.length : Int) then 64 - ((c : Int).tmod 64) else (r.length : Int)) = ((piece r.length c : Nat) : Int) := by
          unfold piece
          rw [Int.tmod_eq_emod_of_nonneg (by omega)]
          split <;> omega
        unfold h64_4
        simp only [go_sem, ↓reduceIte, Nat.reduceEqDiff, Nat.reduceAdd, t0, t1, t2, t3]
        rw [w64 (by rw [Int.tmod_eq_emod_of_nonneg (by omega)]; omega) (by rw [Int.tmod_eq_emod_of_nonneg (by omega)]; omega)]
        simp only [hmn]
        have st6 := st5.drew
        have cg5 : ∀ a, w5.cell? a = w5.drew.cell? a := fun _ => rfl
        generalize w5.drew = w6 at st6 cg5 ⊢
        have ok6 := st6.dr.ok
        obtain ⟨qv, kv, hb, hq, hk, h1, h2, c24, c25, c26, c27, c28⟩ := st6.dr.parts
        simp only [go_sem, cg5, c24]
        refine ⟨by decide, ⟨by omega, by omega⟩, by simp, by simp, by simp, ?_⟩
        refine bsl1 sl84 (cs := (⟨fn, c, r.take (piece r.length c)⟩ : Pd).cells) rfl rfl (by omega) ?_
        intro nb w7 hnb ownn blkn m7 sz7
        have hb7 := hb.mod m7 fun h => h
        have c24' : w7.cell? ⟨p, 24, none⟩ = some qv := by rw [hb7.cell, cells_tail ok6.nl ok6.nf 0]; rfl
        simp only [go_sem, c24']
        have hq7 := hq.mod m7 fun k _ h => h
        have hk7 := hk.mod' m7 fun _ k _ h => h
        refine append_ sl84 hq7 ownn.sl (by intro u hu; simp [Pd.cells] at hu; rcases hu with rfl | rfl | rfl <;> rfl) (by show (Q.length + 1) * 32 ≤ _; omega) (by show Q.length + 1 ≤ _; unfold maxLen; omega) ?_
        intro v' w8 own8 m8 hvb8 _
        have hb8 := hb7.mod m8 fun e => (h1 p e).2 rfl
        have hk8 := hk7.mod' m8 fun hn k hk e => (h2 hn k hk).2 (h1 k e).1
        obtain ⟨av, cv, rfl, -⟩ := own8.form
        refine store1 sz84 hb8 (by rw [cells_len ok6.nl ok6.nf]; omega) rfl ?_
        intro w9 hb9 m9 hsz9
        have hpp6 := st6.dr.plt
        have hqlt := hq.lt
        have hvp : ∀ k, (Value.slice av (Q.length + 1) cv).ownBlock = some k → (st6.foot.W k ∨ (w6.heap.size ≤ k ∧ k < w9.heap.size)) ∧ k ≠ p := by
          intro k hk
          have hlt := own8.lt k hk
          rcases hvb8 k hk with h | h
          · exact ⟨.inl (h1 k h).1, (h1 k h).2⟩
          · have := m7.size
            exact ⟨.inr ⟨by omega, by omega⟩, by omega⟩
        have hcs : ({ d with files := d.files.set fn (put (d.file fn) an s), queue := Q }.cells qv kv).set 24 (.slice av (Q.length + 1) cv) = ({ d with files := d.files.set fn (put (d.file fn) an s), queue := Q ++ [⟨fn, c, r.take (piece r.length c)⟩] } : Dk).cells (.slice av (Q.length + 1) cv) kv := by
          rw [show 24 = 24 + 0 from rfl, cells_set_tail ok6.nl ok6.nf]; rfl
        have hb9' := hb9
        rw [hcs] at hb9'
        have mS : ∀ k, ownS qv k → st6.foot.W k := fun k hk => (h1 k hk).1
        have mm : Mod st6.foot.W w6 w9 := ((m7.mono (T := st6.foot.W) fun _ _ h => h.elim).trans m8 fun k _ e => mS k e).trans m9 fun k _ (e : k = p) => e ▸ st6.dr.self
        have st9 : St S w w9 p { d with files := d.files.set fn (put (d.file fn) an s), queue := Q ++ [⟨fn, c, r.take (piece r.length c)⟩] } := by
          refine st6.trans ⟨⟨fun k => st6.foot.W k ∨ (w6.heap.size ≤ k ∧ k < w9.heap.size), fun k => st6.foot.R k ∨ (w6.heap.size ≤ k ∧ k < w9.heap.size)⟩, ⟨⟨ok6.nl, ok6.nf, ok6.bl, ok6.bf, ?_, ok6.lost, ok6.armed⟩, ⟨_, kv, hb9', ?_, ?_, fun k hk => (hvp k hk).1, fun hn k hk => ⟨.inl (h2 hn k hk).1, fun hW => ?_⟩⟩, .inl st6.dr.self, fun k hk => hk.imp (st6.dr.sub k) id, ?_⟩, fun k hk => hk.imp id fun h => h.1, fun k hk => hk.imp id fun h => h.1, mm⟩
          · intro x hx
            rcases List.mem_append.1 hx with hx | hx
            · exact ok6.bq x hx
            · rw [List.mem_singleton.1 hx]
              refine ⟨hfn, ?_⟩
              simp only [List.length_take]; omega
          · have : (Q ++ [(⟨fn, c, r.take (piece r.length c)⟩ : Pd)]).length = Q.length + 1 := by simp
            rw [this, rows_app]
            exact own8.mod m9 fun k hk (e : k = p) => (hvp k hk).2 e
          · exact hk8.mod' m9 fun hn k hk (e : k = p) => (h2 hn k hk).2 (e ▸ st6.dr.self)
          · rcases hW with hW | hW
            · exact (h2 hn k hk).2 hW
            · have := st6.dr.lt k (h2 hn k hk).1; omega
          · intro k hk
            rcases hk with hk | hk
            · have := st6.dr.lt k hk; have := mm.size; omega
            · exact hk.2
        refine ⟨⟨by omega, by omega⟩, i + piece r.length c, by omega, by omega, r.drop (piece r.length c), c + piece r.length c, Q ++ [⟨fn, c, r.take (piece r.length c)⟩], ?_, rfl, by simp; omega, by simp; omega, by simp; omega, ?_, st9.drew⟩
        · rw [w64 (by omega) (by omega)]; rfl
        · rw [← hQ]
          obtain ⟨m, hm⟩ : ∃ m, r.length = m + 1 := ⟨r.length - 1, by omega⟩
          conv => rhs; rw [hm]
          simp only [pieces, if_neg hne]
          rw [List.append_assoc]
          congr 1
          simp only [List.singleton_append]
          congr 1
          exact pieces_fuel _ _ _ _ _ (by simp) (by simp; omega)
      · have hnil : r = [] := by simpa using hnil
        subst hnil
        have hQ' : Q = d.queue ++ pieces fn s.length an s := by rw [← hQ]; simp [pieces]
        subst hQ'
        unfold h64_5
        simp only [go_sem, ↓reduceIte, Nat.reduceEqDiff, Nat.reduceAdd]
        exact k _ st5
end
end Go.Proofs.Y
