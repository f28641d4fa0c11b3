/- DM: plain laws for DiskReorders. -/
import Derived.Test.YtbohloaggnkepaaDK
set_option linter.unusedSimpArgs false
set_option linter.unusedVariables false
namespace Go.Proofs.Y
open Go Go.HL
namespace Reo

/-- what survives of a pending write -/
def part (s : Bytes) (k : Int) : Bytes := if k = 1 then s else if k = 2 then s.take (min 24 s.length) else []
theorem part_kept (s : Bytes) (k : Int) : part s k = (kept (some k) s).getD [] := by
  unfold part kept
  by_cases h1 : k = 1
  · simp [h1]
  · by_cases h2 : k = 2
    · simp only [h2]
      rcases Nat.le_total 24 s.length with h | h
      · simp [Nat.min_eq_left h]
      · simp [Nat.min_eq_right h, List.take_of_length_le h]
    · simp [h1, h2]
theorem part_len (s : Bytes) (k : Int) : (part s k).length ≤ s.length := by
  unfold part; split
  · omega
  · split
    · simp; omega
    · simp
theorem kept_ne {s : Bytes} (h : s ≠ []) {k : Int} : kept (some k) s = if part s k = [] then none else some (part s k) := by
  have hp := part_kept s k
  unfold kept at hp ⊢
  have hl : 0 < s.length := List.length_pos_iff.2 h
  by_cases h1 : k = 1
  · subst h1; simp [part, h]
  · by_cases h2 : k = 2
    · subst h2
      have : s.take 24 ≠ [] := by
        intro e; have := congrArg List.length e; simp only [List.length_take, List.length_nil] at this; omega
      have hp' : part s 2 = s.take 24 := hp
      rw [hp', if_neg this]; rfl
    · simp [part, h1, h2]

theorem piece_one {f a : Nat} {s : Bytes} (h : s ≠ []) (hl : s.length ≤ 64 - a % 64) : pieces f s.length a s = [⟨f, a, s⟩] := by
  obtain ⟨n, hn⟩ : ∃ n, s.length = n + 1 := ⟨s.length - 1, by have := List.length_pos_iff.2 h; omega⟩
  have hp : piece s.length a = s.length := by unfold piece; omega
  rw [hn]
  simp only [pieces, if_neg h, hp, List.take_length, List.drop_length, pieces_none]

theorem crash2 {d : Dk} (hd : d.down = false) (ks l1 l2 : List Int) (f : Int) : ((((((d.crash ks).crash l1).start).crash l2).start).read f) = if isF f then (survs d.lasts d.queue ks).getD f.toNat [] else [] := by
  have e : (((((d.crash ks).crash l1).start).crash l2).start) = ⟨survs d.lasts d.queue ks, survs d.lasts d.queue ks, [], d.lost, false, 0, d.keep⟩ := by
    simp [Dk.crash, Dk.start, hd, survs]
  rw [e]
  simp only [Dk.read, Dk.file]
  have hm : Dk.may ⟨survs d.lasts d.queue ks, survs d.lasts d.queue ks, [], d.lost, false, 0, d.keep⟩ [f] = if isF f then 0 else 1 := by simp [Dk.may]
  rw [hm]
  cases isF f <;> simp
theorem crash2_queue {d : Dk} (hd : d.down = false) (ks l1 l2 : List Int) : ((d.crash ks)).queue = [] ∧ ((d.crash ks).crash l1).queue = [] ∧ (((d.crash ks).crash l1).start).queue = [] := by
  simp [Dk.crash, Dk.start, hd]

theorem surv_self {L : List Bytes} {p : Pd} {k : Option Int} (hp : p.file < L.length) : (surv L p k).getD p.file [] = match kept k p.bytes with | none => L.getD p.file [] | some b => put (L.getD p.file []) p.at_ b := by
  unfold surv
  split
  · rename_i h; simp [h]
  · rename_i b h; simp [h, hp]

variable {a b c : Bytes} {k0 k1 k2 : Int}
def q3 (a b c : Bytes) : List Pd := [⟨5, 0, a⟩, ⟨6, 128, c⟩, ⟨5, 64, b⟩]
theorem put128 (y : Bytes) : put [] 128 y = List.replicate 128 0 ++ y := by
  simp only [put, lay, List.nil_append, List.length_nil, Nat.sub_zero, Nat.zero_max, List.take_replicate, List.drop_replicate]
  rw [Nat.min_eq_left (by omega), Nat.sub_self]
  simp
theorem put64 (x z : Bytes) (hx : x.length ≤ 64) : put x 64 z = x ++ List.replicate (64 - x.length) 0 ++ z := by
  simp only [put, lay]
  rw [List.take_append, List.take_of_length_le (by omega), List.take_replicate, List.drop_of_length_le (by simp; omega), List.append_nil]
  congr 3; omega
theorem five (ha : a ≠ []) (hb : b ≠ []) (hla : a.length ≤ 64) : (survs (List.replicate 12 []) (q3 a b c) [k0, k1, k2]).getD 5 [] = if part b k2 = [] then part a k0 else part a k0 ++ List.replicate (64 - (part a k0).length) 0 ++ part b k2 := by
  have h0 : (surv (List.replicate 12 []) (⟨5, 0, a⟩ : Pd) (some k0)).getD 5 [] = part a k0 := by
    have := surv_self (L := List.replicate 12 []) (p := ⟨5, 0, a⟩) (k := some k0) (by simp)
    rw [this]
    simp only [kept_ne ha]
    by_cases h : part a k0 = []
    · rw [h]; rfl
    · simp only [if_neg h]
      show put [] 0 _ = _
      rw [put_nil]
  have h1 : (surv (surv (List.replicate 12 []) (⟨5, 0, a⟩ : Pd) (some k0)) ⟨6, 128, c⟩ (some k1)).getD 5 [] = part a k0 := by
    rw [surv_other (by show (6 : Nat) ≠ 5; omega), h0]
  have h2 := surv_self (L := surv (surv (List.replicate 12 []) (⟨5, 0, a⟩ : Pd) (some k0)) ⟨6, 128, c⟩ (some k1)) (p := ⟨5, 64, b⟩) (k := some k2) (by simp [surv_len])
  show (surv _ ⟨5, 64, b⟩ (some k2)).getD 5 [] = _
  refine h2.trans ?_
  simp only [kept_ne hb, h1]
  have hx := part_len a k0
  by_cases h : part b k2 = []
  · simp [h]
  · simp only [if_neg h]
    exact put64 _ _ (by omega)
theorem six (hc : c ≠ []) : (survs (List.replicate 12 []) (q3 a b c) [k0, k1, k2]).getD 6 [] = if part c k1 = [] then [] else List.replicate 128 0 ++ part c k1 := by
  have h0 : (surv (List.replicate 12 []) (⟨5, 0, a⟩ : Pd) (some k0)).getD 6 [] = [] := by
    rw [surv_other (by show (5 : Nat) ≠ 6; omega)]; rfl
  have h1 := surv_self (L := surv (List.replicate 12 []) (⟨5, 0, a⟩ : Pd) (some k0)) (p := ⟨6, 128, c⟩) (k := some k1) (by simp [surv_len])
  show (surv (surv _ ⟨6, 128, c⟩ (some k1)) ⟨5, 64, b⟩ (some k2)).getD 6 [] = _
  rw [surv_other (by show (5 : Nat) ≠ 6; omega)]
  refine h1.trans ?_
  simp only [kept_ne hc, h0]
  by_cases h : part c k1 = []
  · simp [h]
  · simp only [if_neg h]
    exact put128 _

/-- after the three writes -/
def wr (a b c : Bytes) : Dk := ((Dk.new.write 5 0 a).write 6 128 c).write 5 64 b
theorem wr_facts (ha : a ≠ []) (hb : b ≠ []) (hc : c ≠ []) (hla : a.length ≤ 64) (hlb : b.length ≤ 64) (hlc : c.length ≤ 64) :
    (Dk.new.write 5 0 a).queue.length ≤ 1 ∧ ((Dk.new.write 5 0 a).write 6 128 c).queue.length ≤ 2 ∧ (wr a b c).lasts = List.replicate 12 [] ∧ (wr a b c).queue = q3 a b c ∧ (wr a b c).down = false := by
  have w1 : Dk.new.write 5 0 a = { Dk.new with files := Dk.new.files.set 5 (put (Dk.new.file 5) 0 a), queue := [⟨5, 0, a⟩] } := by
    rw [Dk.write_idle rfl]
    unfold Dk.writeD
    have : Dk.new.writeE 5 0 a = 0 := by
      unfold Dk.writeE; rw [show Dk.new.may [5] = 0 from rfl, if_neg (by simp), if_neg (by omega), if_neg (by omega)]
    rw [if_neg (by simp [this, ha])]
    have hq : pieces (5 : Int).toNat a.length (0 : Int).toNat a = [⟨5, 0, a⟩] := piece_one ha (by show a.length ≤ 64 - 0 % 64; omega)
    rw [hq]; rfl
  rw [wr, w1]
  have w2 : ∀ fs, ({ Dk.new with files := fs, queue := [⟨5, 0, a⟩] } : Dk).write 6 128 c = { Dk.new with files := fs.set 6 (put (fs.getD 6 []) 128 c), queue := [⟨5, 0, a⟩, ⟨6, 128, c⟩] } := by
    intro fs
    rw [Dk.write_idle rfl]
    unfold Dk.writeD
    have : ({ Dk.new with files := fs, queue := [⟨5, 0, a⟩] } : Dk).writeE 6 128 c = 0 := by
      unfold Dk.writeE; rw [show Dk.may _ [6] = 0 from rfl, if_neg (by simp), if_neg (by omega), if_neg (by omega)]
    rw [if_neg (by simp [this, hc])]
    have hq : pieces (6 : Int).toNat c.length (128 : Int).toNat c = [⟨6, 128, c⟩] := piece_one hc (by show c.length ≤ 64 - 128 % 64; omega)
    rw [hq]; rfl
  rw [w2]
  have w3 : ∀ fs, ({ Dk.new with files := fs, queue := [⟨5, 0, a⟩, ⟨6, 128, c⟩] } : Dk).write 5 64 b = { Dk.new with files := fs.set 5 (put (fs.getD 5 []) 64 b), queue := q3 a b c } := by
    intro fs
    rw [Dk.write_idle rfl]
    unfold Dk.writeD
    have : ({ Dk.new with files := fs, queue := [⟨5, 0, a⟩, ⟨6, 128, c⟩] } : Dk).writeE 5 64 b = 0 := by
      unfold Dk.writeE; rw [show Dk.may _ [5] = 0 from rfl, if_neg (by simp), if_neg (by omega), if_neg (by omega)]
    rw [if_neg (by simp [this, hb])]
    have hq : pieces (5 : Int).toNat b.length (64 : Int).toNat b = [⟨5, 64, b⟩] := piece_one hb (by show b.length ≤ 64 - 64 % 64; omega)
    rw [hq]; rfl
  rw [w3]
  exact ⟨by simp, by simp, rfl, rfl, rfl⟩
end Reo
end Go.Proofs.Y
