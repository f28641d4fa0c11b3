/- DK: plain laws of the disk. -/
import Derived.Test.YtgalileklafbbaaDA
set_option linter.unusedSimpArgs false
set_option linter.unusedVariables false
set_option maxRecDepth 100000
namespace Go.Proofs.Y
open Go Go.HL
namespace Dk
variable {d : Dk}
theorem tick_idle (h : d.armed = 0) : d.tick = d := by simp [tick, h]
theorem ends_idle (h : d.armed = 0) : d.ends = false := by simp [ends, h]
theorem pre_idle (h : d.armed = 0) : d.pre = d := by simp [pre, endW, ends_idle h, tick_idle h]
theorem write_idle (h : d.armed = 0) (f a : Int) (s : Bytes) : d.write f a s = d.writeD f a s := by simp [write, endW, ends_idle h, tick_idle h]
theorem writeR_idle (h : d.armed = 0) (f a : Int) (s : Bytes) : d.writeR f a s = d.writeE f a s := by simp [writeR, ends_idle h, tick_idle h]
theorem flush_idle (h : d.armed = 0) (f : Int) : d.flush f = if d.may [f] ≠ 0 then d else if 0 < d.lost then { d with lost := d.lost - 1 } else d.settle f.toNat (d.file f.toNat) := by simp only [flush, pre_idle h]
theorem flushR_idle (h : d.armed = 0) (f : Int) : d.flushR f = if d.may [f] ≠ 0 then d.may [f] else if 0 < d.lost then 9 else 0 := by simp only [flushR, pre_idle h]
theorem turn_idle (h : d.armed = 0) (f g : Int) : d.turn f g = if d.may [f, g] ≠ 0 then d else if f = g then d else if d.pends g then d else (d.settle f.toNat (d.last g.toNat)).settle g.toNat [] := by simp only [turn, pre_idle h]
theorem turnR_idle (h : d.armed = 0) (f g : Int) : d.turnR f g = if d.may [f, g] ≠ 0 then d.may [f, g] else if f = g then 1 else if d.pends g then 7 else 0 := by simp only [turnR, pre_idle h]
theorem cut_idle (h : d.armed = 0) (f n : Int) : d.cut f n = if d.may [f] ≠ 0 then d else if n < 0 ∨ d.size f < n then d else d.settle f.toNat ((d.file f.toNat).take n.toNat) := by simp only [cut, pre_idle h]
theorem cutR_idle (h : d.armed = 0) (f n : Int) : d.cutR f n = if d.may [f] ≠ 0 then d.may [f] else if n < 0 ∨ d.size f < n then 1 else 0 := by simp only [cutR, pre_idle h]
end Dk

theorem put_nil (t : Bytes) : put [] 0 t = t := by simp [put, lay]

theorem pieces_file (f : Nat) : ∀ (n a : Nat) (s : Bytes), ∀ p ∈ pieces f n a s, p.file = f
  | 0, _, _, p, h => by simp [pieces] at h
  | n + 1, a, s, p, h => by
    simp only [pieces] at h
    split at h
    · cases h
    · rcases List.mem_cons.1 h with rfl | h
      · rfl
      · exact pieces_file f n _ _ p h
theorem pieces_bound (f : Nat) : ∀ (n a : Nat) (s : Bytes), ∀ p ∈ pieces f n a s, a ≤ p.at_ ∧ p.at_ + p.bytes.length ≤ a + s.length
  | 0, _, _, p, h => by simp [pieces] at h
  | n + 1, a, s, p, h => by
    simp only [pieces] at h
    split at h
    · cases h
    · have := piece_le (n := s.length) (a := a)
      rcases List.mem_cons.1 h with rfl | h
      · simp; omega
      · have := pieces_bound f n _ _ p h
        simp at this; omega
theorem pieces_ne {f n a : Nat} {s : Bytes} (h : s ≠ []) (hn : s.length ≤ n) : pieces f n a s ≠ [] := by
  cases n with
  | zero => exact absurd (List.eq_nil_of_length_eq_zero (by omega)) h
  | succ n => simp [pieces, h]
theorem pieces_none {f n a : Nat} : pieces f n a [] = [] := by cases n <;> simp [pieces]
theorem pieces_filter {f n a : Nat} {s : Bytes} : (pieces f n a s).filter (fun p => !decide (p.file = f)) = [] := by
  rw [List.filter_eq_nil_iff]; intro p hp; simp [pieces_file f n a s p hp]

/-- a file that nothing is pending for survives as it was -/
theorem surv_other {lasts : List Bytes} {p : Pd} {k : Option Int} {g : Nat} (h : p.file ≠ g) : (surv lasts p k).getD g [] = lasts.getD g [] := by
  unfold surv; split
  · rfl
  · simp only [List.getD_eq_getElem?_getD]; rw [List.getElem?_set_ne h]
theorem survs_other {g : Nat} : ∀ (q : List Pd) (lasts : List Bytes) (ks : List Int), (∀ p ∈ q, p.file ≠ g) → (survs lasts q ks).getD g [] = lasts.getD g []
  | [], _, _, _ => rfl
  | p :: q, lasts, ks, h => by
    rw [survs, survs_other q _ _ fun x hx => h x (by simp [hx]), surv_other (h p (by simp))]
theorem kept_le {k : Option Int} {b c : Bytes} (h : kept k b = some c) : c.length ≤ b.length := by
  unfold kept at h
  split at h
  · cases h
  · split at h
    · cases h; exact Nat.le_refl _
    · split at h
      · cases h; simp; omega
      · cases h
theorem surv_le {lasts : List Bytes} {p : Pd} {k : Option Int} {g N : Nat} (h : (lasts.getD g []).length ≤ N) (hp : p.file = g → p.at_ + p.bytes.length ≤ N) : ((surv lasts p k).getD g []).length ≤ N := by
  by_cases hg : p.file = g
  · unfold surv; split
    · exact h
    · rename_i b hb
      have := kept_le hb
      have := hp hg
      simp only [List.getD_eq_getElem?_getD] at h ⊢
      rw [hg]
      rcases Nat.lt_or_ge g lasts.length with hl | hl
      · rw [List.getElem?_set_self hl, Option.getD_some, put_len]; omega
      · rw [List.getElem?_eq_none (by simpa using hl)]; simp
  · rw [surv_other hg]; exact h
theorem survs_le {g N : Nat} : ∀ (q : List Pd) (lasts : List Bytes) (ks : List Int), (lasts.getD g []).length ≤ N → (∀ p ∈ q, p.file = g → p.at_ + p.bytes.length ≤ N) → ((survs lasts q ks).getD g []).length ≤ N
  | [], _, _, h, _ => h
  | p :: q, lasts, ks, h, hq => survs_le q _ _ (surv_le h (hq p (by simp))) fun x hx => hq x (by simp [hx])

/-! ### DiskTurns -/
namespace Turns
def base (e : Bytes) : Dk := { Dk.new with lasts := Dk.new.lasts.set 3 e, files := Dk.new.files.set 3 e }
def two (e n : Bytes) : Dk := { Dk.new with lasts := (Dk.new.lasts.set 3 e).set 4 n, files := (Dk.new.files.set 3 e).set 4 n }
def pend (e n : Bytes) : Dk := { Dk.new with lasts := Dk.new.lasts.set 3 e, files := (Dk.new.files.set 3 e).set 4 n, queue := pieces 4 n.length 0 n }
variable {e n : Bytes}
theorem w1 (he : e.length ≤ 50000) : Dk.new.writeR 3 0 e = 0 := by
  rw [Dk.writeR_idle rfl]
  unfold Dk.writeE
  rw [show Dk.new.may [3] = 0 from rfl, if_neg (by simp), if_neg (by omega), if_neg (by omega)]
theorem r1 : (Dk.new.write 3 0 e).flushR 3 = 0 := by
  rw [Dk.write_idle rfl]
  unfold Dk.writeD
  split <;> rfl
theorem f1 (he : e.length ≤ 50000) : (Dk.new.write 3 0 e).flush 3 = base e := by
  have h0 : Dk.new.writeE 3 0 e = 0 := by rw [← Dk.writeR_idle rfl]; exact w1 he
  rw [Dk.write_idle rfl]
  unfold Dk.writeD
  by_cases hn : e = []
  · subst hn; rw [if_pos (.inr rfl)]; rfl
  · rw [if_neg (by simp [h0, hn])]
    have hf3 : Dk.new.file 3 = [] := rfl
    have hz : (0 : Int).toNat = 0 := rfl
    have h3 : (3 : Int).toNat = 3 := rfl
    rw [hz, h3, hf3, put_nil, Dk.flush_idle rfl, if_neg (fun h => h rfl), if_neg (by show ¬ 0 < 0; omega), h3]
    have hg : Dk.file { Dk.new with files := Dk.new.files.set 3 e, queue := Dk.new.queue ++ pieces 3 e.length 0 e } 3 = e := rfl
    rw [hg]
    simp only [Dk.settle, base]
    rw [List.set_set]
    congr 1
    exact pieces_filter
theorem w2 (hn : n.length ≤ 50000) : (base e).write 4 0 n = pend e n := by
  have h0 : (base e).writeE 4 0 n = 0 := by
    unfold Dk.writeE
    rw [show (base e).may [4] = 0 from rfl, if_neg (by simp), if_neg (by omega), if_neg (by omega)]
  rw [Dk.write_idle rfl]
  unfold Dk.writeD
  by_cases hn : n = []
  · subst hn; rw [if_pos (.inr rfl)]; rfl
  · rw [if_neg (by simp [h0, hn])]
    have h4 : (base e).file (4 : Int).toNat = [] := rfl
    have hz : (0 : Int).toNat = 0 := rfl
    rw [h4, hz, put_nil]; rfl
theorem f2 : (pend e n).flush 4 = two e n := by
  rw [Dk.flush_idle rfl, if_neg (fun h => h rfl), if_neg (by show ¬ 0 < 0; omega)]
  have hg : (pend e n).file (4 : Int).toNat = n := rfl
  rw [hg, show (4 : Int).toNat = 4 from rfl]
  simp only [Dk.settle, pend, two]
  rw [List.set_set]
  congr 1
  exact pieces_filter
theorem tr0 : (base e).turnR 3 4 = 0 := rfl
theorem t0 : (base e).turn 3 4 = Dk.new := by
  show ((base e).settle 3 ((base e).last 4)).settle 4 [] = _
  have : (base e).last 4 = [] := rfl
  rw [this]
  simp only [Dk.settle, base, List.set_set]; rfl
theorem pends : (pend e n).pends 4 = !decide (n = []) := by
  unfold Dk.pends
  show ((pieces 4 n.length 0 n).any fun p => decide ((p.file : Int) = 4)) = _
  by_cases hn : n = []
  · subst hn; rfl
  · have hq := pieces_ne (f := 4) (a := 0) hn (Nat.le_refl _)
    rw [show (!decide (n = [])) = true by simp [hn], List.any_eq_true]
    obtain ⟨p, q, hp⟩ := List.exists_cons_of_ne_nil hq
    refine ⟨p, by rw [hp]; simp, ?_⟩
    have := pieces_file 4 n.length 0 n p (by rw [hp]; simp)
    simp [this]
theorem tr1 : (pend e n).turnR 3 4 = if n = [] then 0 else 7 := by
  rw [Dk.turnR_idle rfl]
  rw [show (pend e n).may [3, 4] = 0 from rfl, if_neg (by simp), if_neg (by omega), pends]
  by_cases hn : n = [] <;> simp [hn]
theorem t1 (hn : n ≠ []) : (pend e n).turn 3 4 = pend e n := by
  rw [Dk.turn_idle rfl]
  rw [show (pend e n).may [3, 4] = 0 from rfl, if_neg (by simp), if_neg (by omega), pends, if_pos (by simp [hn])]
theorem pend_nil : pend e [] = base e := rfl
theorem tr2 : (two e n).turnR 3 4 = 0 := rfl
theorem t2 : (two e n).turn 3 4 = base n := by
  show ((two e n).settle 3 ((two e n).last 4)).settle 4 [] = _
  have : (two e n).last 4 = n := rfl
  rw [this]; rfl
/-- after the crash -/
theorem end_base (ks : List Int) : ((base e).crash ks).start = base e := rfl
theorem end_new (ks : List Int) : (Dk.new.crash ks).start = Dk.new := rfl
theorem end_pend (ks : List Int) : (((pend e n).crash ks).start).read 3 = e ∧ (((pend e n).crash ks).start).may [3] = 0 ∧ (((pend e n).crash ks).start).size 4 ≤ n.length := by
  have hd : (pend e n).down = false := rfl
  have e1 : ((pend e n).crash ks).start = ⟨survs (Dk.new.lasts.set 3 e) (pieces 4 n.length 0 n) ks, survs (Dk.new.lasts.set 3 e) (pieces 4 n.length 0 n) ks, [], 0, false, 0, []⟩ := rfl
  rw [e1]
  refine ⟨?_, rfl, ?_⟩
  · show (survs (Dk.new.lasts.set 3 e) (pieces 4 n.length 0 n) ks).getD 3 [] = e
    rw [survs_other _ _ _ fun p hp => by rw [pieces_file _ _ _ _ p hp]; omega]
    rfl
  · show ((survs (Dk.new.lasts.set 3 e) (pieces 4 n.length 0 n) ks).getD 4 []).length ≤ n.length
    refine survs_le _ _ _ (by show ([] : Bytes).length ≤ _; simp) fun p hp _ => ?_
    have := pieces_bound _ _ _ _ p hp; omega
end Turns
end Go.Proofs.Y
