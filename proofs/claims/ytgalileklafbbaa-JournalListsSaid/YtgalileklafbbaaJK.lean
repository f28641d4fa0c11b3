/- JK: plain laws of the journal: what a file of rows is read as; the disk at rest. -/
import Derived.Test.YtgalileklafbbaaJI
import Derived.Test.YtgalileklafbbaaRA
set_option linter.unusedSimpArgs false
set_option linter.unusedVariables false
set_option maxRecDepth 100000
namespace Go.Proofs.Y
open Go Go.HL

theorem val_form (r : Bytes) (hr : r.length ≤ 1000000000000) (t : Bytes) : val (formB r ++ t) = r.length := by
  unfold formB
  rw [List.append_assoc, List.append_assoc]
  exact val_num (by omega) (by omega) _
theorem val_form8 (r : Bytes) (t : Bytes) : val ((formB r ++ t).drop 8) = (crc r : Nat) := by
  have hc := crc_lt r
  unfold formB
  rw [List.append_assoc, List.append_assoc, List.drop_append_of_le_length (by rw [num_len]; exact Nat.le_refl _), List.drop_of_length_le (by rw [num_len]; exact Nat.le_refl _), List.nil_append]
  exact val_num (by omega) (by omega) _
theorem drop_form (r t : Bytes) : (formB r ++ t).drop 16 = r ++ t := by
  unfold formB
  have : (num r.length ++ num (crc r : Nat) ++ r ++ t) = (num r.length ++ num (crc r : Nat)) ++ (r ++ t) := by simp
  rw [this, List.drop_append_of_le_length (by simp [num_len]), List.drop_of_length_le (by simp [num_len]), List.nil_append]

theorem splitB_forms : ∀ l : List Bytes, (formsB l).length ≤ 1000000000000 → splitB (formsB l) = some l
  | [], _ => by rw [splitB]; simp [formsB]
  | r :: l, h => by
    have e : formsB (r :: l) = formB r ++ formsB l := rfl
    have hl := formB_len r
    have hlen : (formsB (r :: l)).length = 16 + r.length + (formsB l).length := by rw [e, List.length_append, hl]
    have ih := splitB_forms l (by omega)
    have hne : formB r ++ formsB l ≠ [] := by intro h; have := congrArg List.length h; simp [hl] at this
    rw [e, splitB, dif_neg hne, dif_neg (by rw [List.length_append, hl]; omega), val_form r (by omega), drop_form, val_form8, Int.toNat_natCast]
    have h1 : ¬ (((r.length : Nat) : Int) < 0 ∨ ((r ++ formsB l).length : Int) < ((r.length : Nat) : Int)) := by rw [List.length_append]; omega
    rw [if_neg h1, List.take_left, List.drop_left, if_neg (by simp), ih]
    rfl

/-- a file that is read as these rows, whose end is e -/
inductive Core : Bytes → List Bytes → Nat → Prop
  | nil : Core [] [] 16
  | zero (t : Bytes) : Core (List.replicate 16 0 ++ t) [] 16
  | full (rows : List Bytes) (t : Bytes) : Core (header (16 + (formsB rows).length : Nat) rows.length ++ formsB rows ++ t) rows (16 + (formsB rows).length)

theorem val_zero (t : Bytes) : val (List.replicate 16 0 ++ t) = 0 := by
  have h : ∀ i, i < 8 → valAt (List.replicate 16 (0 : UInt8) ++ t) i = 0 := by
    intro i hi
    unfold valAt
    rw [List.getElem?_append_left (by simp; omega), List.getElem?_replicate, if_pos (by omega)]; rfl
  have hw : wr 0 = 0 := by rw [wr, wrap_i64]; rfl
  have key : ∀ k, k ≤ 8 → valFrom (List.replicate 16 (0 : UInt8) ++ t) k = 0 := by
    intro k
    induction k with
    | zero => intro _; rfl
    | succ k ih =>
      intro hk
      show wr (valFrom _ k * 256 + valAt _ (7 - k)) = 0
      rw [ih (by omega), h (7 - k) (by omega)]; exact hw
  exact key 8 (Nat.le_refl _)
theorem Core.end_le {s : Bytes} {rows : List Bytes} {e : Nat} (h : Core s rows e) : s = [] ∨ e ≤ s.length := by
  cases h with
  | nil => exact .inl rfl
  | zero t => right; simp
  | full rows t => right; simp [header_len]
theorem Core.endE {s : Bytes} {rows : List Bytes} {e : Nat} (h : Core s rows e) : e = 16 + (formsB rows).length := by
  cases h with
  | nil => rfl
  | zero t => rfl
  | full rows t => rfl
theorem openB_core {s : Bytes} {rows : List Bytes} {e : Nat} (h : Core s rows e) (hs : s.length ≤ 1000000000) : openB s = some ⟨rows, rows.length, e⟩ := by
  cases h with
  | nil => rw [openB, if_pos (.inl (by simp))]; rfl
  | zero t => rw [openB, if_pos (.inr (val_zero t))]; rfl
  | full rows t =>
    have hh := header_len (16 + (formsB rows).length : Nat) rows.length
    have hfr := formsB_rows rows
    simp only [List.length_append, hh] at hs
    have hv : val (header (16 + (formsB rows).length : Nat) rows.length ++ formsB rows ++ t) = ((16 + (formsB rows).length : Nat) : Int) := by
      unfold header
      rw [List.append_assoc, List.append_assoc]
      exact val_num (by omega) (by omega) _
    have hv8 : val ((header (16 + (formsB rows).length : Nat) rows.length ++ formsB rows ++ t).drop 8) = (rows.length : Int) := by
      unfold header
      rw [List.append_assoc, List.append_assoc, List.drop_append_of_le_length (by rw [num_len]; exact Nat.le_refl _), List.drop_of_length_le (by rw [num_len]; exact Nat.le_refl _), List.nil_append]
      exact val_num (by omega) (by omega) _
    have hlen : (header (16 + (formsB rows).length : Nat) rows.length ++ formsB rows ++ t).length = 16 + (formsB rows).length + t.length := by simp only [List.length_append, hh]
    have ht : ((header (16 + (formsB rows).length : Nat) rows.length ++ formsB rows ++ t).take (16 + (formsB rows).length)).drop 16 = formsB rows := by
      rw [List.take_append_of_le_length (by rw [List.length_append, hh]; omega), List.take_of_length_le (by rw [List.length_append, hh]; omega), List.drop_append_of_le_length (by rw [hh]; omega), List.drop_of_length_le (by rw [hh]; omega), List.nil_append]
    rw [openB, if_neg (by rw [hlen, hv]; omega), hv, hlen, if_neg (by omega), Int.toNat_natCast, ht, splitB_forms rows (by omega), hv8]
    simp

theorem put_append (u t x : Bytes) {o : Nat} (h : u.length ≤ o) : put (u ++ t) o x = u ++ put t (o - u.length) x := by
  apply List.ext_getElem?
  intro i
  rw [put_at, List.length_append]
  by_cases hi : i < u.length
  · rw [List.getElem?_append_left hi, if_neg (by omega), if_pos (by omega), List.getElem?_append_left hi]
  · simp only [List.getElem?_append_right (show u.length ≤ i by omega)]
    rw [put_at]
    repeat' split
    all_goals first
      | rfl
      | (exfalso; omega)
      | (congr 1; omega)
theorem put_nil_at (o : Nat) (x : Bytes) (h : 16 ≤ o) : ∃ t, put [] o x = List.replicate 16 0 ++ t := by
  refine ⟨put [] (o - 16) x, ?_⟩
  apply List.ext_getElem?
  intro i
  rw [put_at]
  by_cases hi : i < 16
  · rw [List.getElem?_append_left (by simpa using hi), if_neg (by omega), if_neg (by simp), if_pos (by omega), List.getElem?_replicate, if_pos hi]
  · rw [List.getElem?_append_right (by simpa using hi), put_at]
    simp only [List.length_replicate, List.length_nil, Nat.not_lt_zero, if_false]
    repeat' split
    all_goals first
      | rfl
      | (exfalso; omega)
      | (congr 1; omega)

/-- what is written behind the end does not matter -/
theorem Core.put {s : Bytes} {rows : List Bytes} {e : Nat} (h : Core s rows e) {o : Nat} (ho : e ≤ o) (x : Bytes) : Core (put s o x) rows e := by
  cases h with
  | nil => obtain ⟨t, ht⟩ := put_nil_at o x ho; rw [ht]; exact .zero t
  | zero t => rw [put_append _ _ _ (by simpa using ho)]; exact .zero _
  | full rows t => rw [put_append _ _ _ (by simp only [List.length_append, header_len]; exact ho)]; exact .full rows _
/-- a header over rows that are there -/
theorem Core.head {u t : Bytes} {rows : List Bytes} (hu : u.length = 16) : Core (Y.put (u ++ formsB rows ++ t) 0 (header (16 + (formsB rows).length : Nat) rows.length)) rows (16 + (formsB rows).length) := by
  have hh := header_len (16 + (formsB rows).length : Nat) rows.length
  have e : Y.put (u ++ formsB rows ++ t) 0 (header (16 + (formsB rows).length : Nat) rows.length) = header (16 + (formsB rows).length : Nat) rows.length ++ formsB rows ++ t := by
    apply List.ext_getElem?
    intro i
    rw [put_at, hh, List.append_assoc, List.append_assoc]
    by_cases hi : i < 16
    · rw [if_pos (by omega), List.getElem?_append_left (by rw [hh]; exact hi)]; rfl
    · have h1 : u.length ≤ i := by omega
      have h2 : (header (16 + (formsB rows).length : Nat) rows.length).length ≤ i := by omega
      rw [if_neg (by omega)]
      simp only [List.getElem?_append_right h1, List.getElem?_append_right h2, hh, hu, List.length_append]
      split
      · rfl
      · symm; exact List.getElem?_eq_none (by rw [List.length_append]; omega)
  rw [e]; exact .full rows t
end Go.Proofs.Y
