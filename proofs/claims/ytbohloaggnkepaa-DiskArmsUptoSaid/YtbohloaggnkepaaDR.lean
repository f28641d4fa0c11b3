/- DR: plain laws for DiskArms. -/
import Derived.Test.YtbohloaggnkepaaDP
set_option linter.unusedSimpArgs false
set_option linter.unusedVariables false
namespace Go.Proofs.Y
open Go Go.HL

theorem put_take {s t : Bytes} {o m : Nat} (h1 : m ≤ s.length) (h2 : m ≤ o) : (put s o t).take m = s.take m := by
  unfold put lay
  have hl : m ≤ ((s ++ List.replicate (max s.length (o + t.length) - s.length) 0).take o).length := by
    rw [List.length_take, List.length_append]; omega
  rw [List.append_assoc, List.take_append_of_le_length hl, List.take_take, Nat.min_eq_left h2, List.take_append_of_le_length h1]
theorem put_end (s t : Bytes) : put s s.length t = s ++ t := by
  unfold put lay
  rw [List.take_left, List.drop_of_length_le (by simp only [List.length_append, List.length_replicate]; omega), List.append_nil]

/-- what a crash leaves of a file whose pending writes all stand behind a place -/
theorem survs_keep {g : Nat} {b : Bytes} : ∀ (q : List Pd) (L : List Bytes) (ks : List Int), (∀ p ∈ q, p.file = g → b.length ≤ p.at_) → b.length ≤ (L.getD g []).length → (L.getD g []).take b.length = b →
    b.length ≤ ((survs L q ks).getD g []).length ∧ ((survs L q ks).getD g []).take b.length = b
  | [], L, ks, _, h1, h2 => ⟨h1, h2⟩
  | p :: q, L, ks, hq, h1, h2 => by
    refine survs_keep q _ _ (fun x hx => hq x (by simp [hx])) ?_ ?_ <;>
    · by_cases hg : p.file = g
      · unfold surv
        split
        · first | exact h1 | exact h2
        · rename_i c hc
          rcases Nat.lt_or_ge p.file L.length with hl | hl
          · rw [← hg] at h1 h2 ⊢
            simp only [List.getD_eq_getElem?_getD, List.getElem?_set_self hl, Option.getD_some] at h1 h2 ⊢
            first
            | (rw [put_len]; omega)
            | (rw [put_take h1 (hq p (by simp) hg)]; exact h2)
          · rw [List.set_eq_of_length_le hl]
            first | exact h1 | exact h2
      · rw [surv_other hg]
        first | exact h1 | exact h2

namespace Arms
structure Inv (d : Dk) (safe rest : Bytes) (ks : List Int) (a : Nat) : Prop where
  down : d.down = false
  lost : d.lost = 0
  armed : d.armed = a
  keep : d.keep = ks
  file : d.file 0 = safe ++ rest
  last : d.last 0 = safe
  nf : d.files.length = 12
  nl : d.lasts.length = 12
  q : ∀ p ∈ d.queue, p.file = 0 ∧ safe.length ≤ p.at_ ∧ p.at_ + p.bytes.length ≤ safe.length + rest.length
  ql : d.queue.length ≤ rest.length

structure Crashed (d : Dk) (safe rest : Bytes) (ks : List Int) : Prop where
  down : d.down = true
  queue : d.queue = []
  le : safe.length ≤ (d.file 0).length
  ge : (d.file 0).length ≤ safe.length + rest.length
  pre : (d.file 0).take safe.length = safe
  nokeep : ks = [] → d.file 0 = safe

theorem crashed_of {d : Dk} {safe rest : Bytes} {ks : List Int} {a : Nat} (h : Inv d safe rest ks a) : Crashed (d.crash ks) safe rest ks := by
  have e : d.crash ks = ⟨survs d.lasts d.queue ks, survs d.lasts d.queue ks, [], d.lost, true, 0, d.keep⟩ := by simp [Dk.crash, h.down]
  have hl : d.lasts.getD 0 [] = safe := h.last
  have hk := survs_keep (g := 0) (b := safe) d.queue d.lasts ks (fun p hp _ => (h.q p hp).2.1) (by rw [hl]; omega) (by rw [hl, List.take_length])
  rw [e]
  refine ⟨rfl, rfl, hk.1, ?_, hk.2, fun h0 => ?_⟩
  · exact survs_le _ _ _ (by rw [hl]; omega) fun p hp _ => (h.q p hp).2.2
  · subst h0
    show (survs d.lasts d.queue []).getD 0 [] = safe
    rw [survs_nil]; exact hl

variable {d : Dk} {safe rest s : Bytes} {ks : List Int} {a : Nat}

theorem tick_inv (h : Inv d safe rest ks (a + 1)) : Inv d.tick safe rest ks a ∧ d.ends = decide (a = 0) := by
  have e : d.tick = { d with armed := d.armed - 1 } := by
    unfold Dk.tick; rw [if_neg (by simp [h.down, h.armed])]
  rw [e]
  refine ⟨⟨h.down, h.lost, by show d.armed - 1 = a; rw [h.armed]; rfl, h.keep, h.file, h.last, h.nf, h.nl, h.q, h.ql⟩, ?_⟩
  simp [Dk.ends, h.down, h.armed]

theorem writeD_inv (pl : ∀ (f n a : Nat) (s : Bytes), (pieces f n a s).length ≤ s.length) (h : Inv d safe rest ks a) (hb : safe.length + rest.length + s.length ≤ 20000) : d.writeE 0 ((safe.length + rest.length : Nat) : Int) s = 0 ∧ Inv (d.writeD 0 ((safe.length + rest.length : Nat) : Int) s) safe (rest ++ s) ks a := by
  have hE : d.writeE 0 ((safe.length + rest.length : Nat) : Int) s = 0 := by
    unfold Dk.writeE
    have : d.may [0] = 0 := by simp [Dk.may, h.down, isF]
    rw [this, if_neg (by simp), if_neg (by omega), if_neg (by omega)]
  refine ⟨hE, ?_⟩
  unfold Dk.writeD
  by_cases hs : s = []
  · subst hs
    rw [if_pos (.inr rfl), List.append_nil]; exact h
  · rw [if_neg (by rw [hE]; simp [hs])]
    have hz : (0 : Int).toNat = 0 := rfl
    have hN : ((safe.length + rest.length : Nat) : Int).toNat = safe.length + rest.length := Int.toNat_natCast _
    rw [hz, hN, h.file]
    have hp : put (safe ++ rest) (safe.length + rest.length) s = safe ++ (rest ++ s) := by
      rw [← List.length_append, put_end, List.append_assoc]
    rw [hp]
    refine ⟨h.down, h.lost, h.armed, h.keep, ?_, h.last, by simp [h.nf], h.nl, fun p hp => ?_, ?_⟩
    · simp [Dk.file, h.nf]
    · rcases List.mem_append.1 hp with hp | hp
      · have := h.q p hp; rw [List.length_append]; omega
      · have := pieces_bound _ _ _ _ p hp; have := pieces_file _ _ _ _ p hp; rw [List.length_append]; omega
    · have := pl 0 s.length (safe.length + rest.length) s
      have := h.ql
      simp only [List.length_append] at *; omega

theorem write_ok (pl : ∀ (f n a : Nat) (s : Bytes), (pieces f n a s).length ≤ s.length) (h : Inv d safe rest ks (a + 2)) (hb : safe.length + rest.length + s.length ≤ 20000) :
    d.writeR 0 ((safe.length + rest.length : Nat) : Int) s = 0 ∧ Inv (d.write 0 ((safe.length + rest.length : Nat) : Int) s) safe (rest ++ s) ks (a + 1) := by
  obtain ⟨ht, he⟩ := tick_inv h
  have he : d.ends = false := by rw [he]; simp
  obtain ⟨h1, h2⟩ := writeD_inv pl ht hb
  simp only [Dk.writeR, Dk.write, Dk.endW, he, Bool.false_eq_true, if_false]
  exact ⟨h1, h2⟩
theorem write_end (pl : ∀ (f n a : Nat) (s : Bytes), (pieces f n a s).length ≤ s.length) (h : Inv d safe rest ks 1) (hb : safe.length + rest.length + s.length ≤ 20000) :
    d.writeR 0 ((safe.length + rest.length : Nat) : Int) s = 8 ∧ Crashed (d.write 0 ((safe.length + rest.length : Nat) : Int) s) safe (rest ++ s) ks := by
  obtain ⟨ht, he⟩ := tick_inv (a := 0) h
  have he : d.ends = true := by rw [he]; simp
  obtain ⟨h1, h2⟩ := writeD_inv pl ht hb
  simp only [Dk.writeR, Dk.write, Dk.endW, he, if_true, true_and]
  rw [h2.keep]
  exact crashed_of h2
theorem flush_ok (h : Inv d safe rest ks (a + 2)) : d.flushR 0 = 0 ∧ Inv (d.flush 0) (safe ++ rest) [] ks (a + 1) := by
  obtain ⟨ht, he⟩ := tick_inv h
  have he : d.ends = false := by rw [he]; simp
  have hp : d.pre = d.tick := by simp [Dk.pre, Dk.endW, he]
  have hm : d.tick.may [0] = 0 := by simp [Dk.may, ht.down, isF]
  simp only [Dk.flushR, Dk.flush, hp, hm, ht.lost, ne_eq, not_true, if_false, Nat.lt_irrefl, true_and]
  have hz : (0 : Int).toNat = 0 := rfl
  rw [hz, ht.file]
  have hq : d.tick.queue.filter (fun p => !decide (p.file = 0)) = [] := by
    rw [List.filter_eq_nil_iff]; intro p hp; simp [(ht.q p hp).1]
  simp only [Dk.settle, hq]
  refine ⟨ht.down, ht.lost, ht.armed, ht.keep, ?_, ?_, by simp [ht.nf], by simp [ht.nl], fun p hp => (nomatch hp), Nat.le_refl _⟩
  · simp [Dk.file, ht.nf]
  · simp [Dk.last, ht.nl]
theorem flush_end (h : Inv d safe rest ks 1) : d.flushR 0 = 8 ∧ Crashed (d.flush 0) safe rest ks := by
  obtain ⟨ht, he⟩ := tick_inv (a := 0) h
  have he : d.ends = true := by rw [he]; simp
  have hp : d.pre = d.tick.crash ks := by simp [Dk.pre, Dk.endW, he, ht.keep]
  have hc := crashed_of ht
  have hm : (d.tick.crash ks).may [0] = 8 := by simp [Dk.may, hc.down]
  simp only [Dk.flushR, Dk.flush, hp, hm]
  exact ⟨rfl, hc⟩
theorem init (ks : List Int) (n : Nat) : Inv (Dk.new.arm n ks) [] [] ks n := ⟨rfl, rfl, Int.toNat_natCast n, rfl, rfl, rfl, rfl, rfl, fun p hp => (nomatch hp), Nat.le_refl _⟩
end Arms
end Go.Proofs.Y
