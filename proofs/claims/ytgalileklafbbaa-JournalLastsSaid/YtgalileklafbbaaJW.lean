/- JW: plain laws: a byte changed is found. -/
import Derived.Test.YtgalileklafbbaaJM
import Derived.Test.YtgalileklafbbaaDD
import Derived.Deep.Slices
set_option linter.unusedSimpArgs false
set_option linter.unusedVariables false
set_option maxRecDepth 100000
namespace Go.Proofs.Y
open Go Go.HL

def valU (s : Bytes) : Nat → Int
  | 0 => 0
  | k + 1 => valU s k * 256 + valAt s (7 - k)
theorem valAt_range (s : Bytes) (i : Nat) : 0 ≤ valAt s i ∧ valAt s i < 256 := by
  unfold valAt
  have := ((s[i]?).getD 0).toNat_lt
  omega
theorem wr_wr (x b : Int) : wr (wr x * 256 + b) = wr (x * 256 + b) := by
  simp only [wr, wrap_i64]; omega
theorem valU_from (s : Bytes) : ∀ k, valFrom s k = wr (valU s k)
  | 0 => by simp [valFrom, valU, wr, wrap_i64]
  | k + 1 => by
    show wr (valFrom s k * 256 + valAt s (7 - k)) = wr (valU s k * 256 + valAt s (7 - k))
    rw [valU_from s k, wr_wr]
theorem valU_range (s : Bytes) : ∀ k, 0 ≤ valU s k ∧ valU s k < 256 ^ k
  | 0 => by simp [valU]
  | k + 1 => by
    have ih := valU_range s k
    have hb := valAt_range s (7 - k)
    have hp : (256 : Int) ^ (k + 1) = 256 ^ k * 256 := Int.pow_succ ..
    simp only [valU]
    omega
theorem valU_inj (s t : Bytes) : ∀ k, k ≤ 8 → valU s k = valU t k → ∀ i, 8 - k ≤ i → i < 8 → valAt s i = valAt t i
  | 0, _, _, i, h1, h2 => by omega
  | k + 1, hk, h, i, h1, h2 => by
    have hb := valAt_range s (7 - k)
    have hc := valAt_range t (7 - k)
    simp only [valU] at h
    by_cases hi : i = 7 - k
    · subst hi; omega
    · exact valU_inj s t k (by omega) (by omega) i (by omega) h2
theorem val_inj {s t : Bytes} (h : val s = val t) : ∀ i, i < 8 → valAt s i = valAt t i := by
  have h1 := valU_range s 8
  have h2 := valU_range t 8
  unfold val at h
  rw [valU_from, valU_from, wr, wr, wrap_i64, wrap_i64] at h
  intro i hi
  exact valU_inj s t 8 (by omega) (by omega) i (by omega) hi
theorem valAt_set {s : Bytes} {i j : Nat} {b : UInt8} : valAt (s.set i b) j = if i = j ∧ j < s.length then (b.toNat : Int) else valAt s j := by
  unfold valAt
  rw [List.getElem?_set]
  by_cases h : i = j
  · subst h
    by_cases hl : i < s.length
    · simp [hl]
    · simp [hl]
  · simp [h]
theorem val_changed {s : Bytes} {i : Nat} {b : UInt8} (hi : i < 8) (hl : i < s.length) (hb : s[i] ≠ b) : val (s.set i b) ≠ val s := by
  intro h
  have := val_inj h i hi
  rw [valAt_set, if_pos ⟨rfl, hl⟩] at this
  unfold valAt at this
  rw [List.getElem?_eq_getElem hl] at this
  simp only [Option.getD_some] at this
  exact hb (UInt8.toNat_inj.1 (by omega))
theorem val_eq_of {s t : Bytes} (h : ∀ i, i < 8 → s[i]? = t[i]?) : val s = val t := by
  have key : ∀ k, k ≤ 8 → valU s k = valU t k := by
    intro k
    induction k with
    | zero => intro _; rfl
    | succ k ih =>
      intro hk
      simp only [valU, ih (by omega), valAt, h (7 - k) (by omega)]
  unfold val
  rw [valU_from, valU_from, key 8 (by omega)]
theorem val_set_far {s : Bytes} {i : Nat} {b : UInt8} (hi : 8 ≤ i) : val (s.set i b) = val s := val_eq_of fun j hj => by rw [List.getElem?_set_ne (by omega)]
theorem val_zero_iff {s : Bytes} (h8 : 8 ≤ s.length) : val s = 0 ↔ s.take 8 = List.replicate 8 0 := by
  have hz : val (List.replicate 16 (0 : UInt8) ++ []) = 0 := val_zero []
  constructor
  · intro h
    have := val_inj (h.trans hz.symm)
    apply List.ext_getElem?
    intro i
    by_cases hi : i < 8
    · have h1 := this i hi
      unfold valAt at h1
      rw [List.getElem?_take_of_lt hi, List.getElem?_replicate, if_pos hi]
      rw [List.append_nil, List.getElem?_replicate, if_pos (by omega), List.getElem?_eq_getElem (by omega)] at h1
      simp only [Option.getD_some] at h1
      rw [List.getElem?_eq_getElem (by omega)]
      congr 1
      exact UInt8.toNat_inj.1 (by omega)
    · rw [List.getElem?_eq_none (by simp; omega), List.getElem?_eq_none (by simp; omega)]
  · intro h
    rw [← hz]
    refine val_eq_of fun i hi => ?_
    have := congrArg (fun l => l[i]?) h
    simp only [List.getElem?_take_of_lt hi] at this
    rw [this, List.append_nil, List.getElem?_replicate, List.getElem?_replicate, if_pos hi, if_pos (by omega)]

/-- rows ahead are read as they are -/
theorem splitB_app : ∀ (l : List Bytes) (x : Bytes), (∀ r ∈ l, r.length ≤ 1000000000) → splitB (formsB l ++ x) = (splitB x).map (l ++ ·)
  | [], x, _ => by simp [formsB]
  | r :: l, x, h => by
    have e : formsB (r :: l) ++ x = formB r ++ (formsB l ++ x) := by simp [formsB]
    have hl := formB_len r
    have hr := h r (List.mem_cons_self ..)
    have ih := splitB_app l x fun r hr => h r (List.mem_cons_of_mem _ hr)
    have hne : formB r ++ (formsB l ++ x) ≠ [] := by intro h; have := congrArg List.length h; simp [hl] at this
    rw [e, splitB, dif_neg hne, dif_neg (by rw [List.length_append, hl]; omega), val_form r (by omega), drop_form, val_form8, Int.toNat_natCast]
    have h1 : ¬ (((r.length : Nat) : Int) < 0 ∨ ((r ++ (formsB l ++ x)).length : Int) < ((r.length : Nat) : Int)) := by rw [List.length_append]; omega
    rw [if_neg h1, List.take_left, List.drop_left, if_neg (by simp), ih]
    cases splitB x <;> simp

/-- a row's form with a changed byte behind its length -/
theorem splitB_bad {r : Bytes} {k : Nat} {b : UInt8} (hr : r.length ≤ 1000000000) (hk : 8 ≤ k) (hl : k < (formB r).length) (hb : (formB r)[k] ≠ b) (t : Bytes) : splitB ((formB r).set k b ++ t) = none := by
  have hfl := formB_len r
  have hset : (formB r).set k b ++ t = (formB r ++ t).set k b := by rw [List.set_append, if_pos hl]
  have hk' : k < (formB r ++ t).length := by rw [List.length_append]; omega
  have hne : (formB r).set k b ++ t ≠ [] := by intro h; have := congrArg List.length h; simp [hfl] at this
  have hv : val ((formB r).set k b ++ t) = r.length := by rw [hset, val_set_far hk]; exact val_form r (by omega) t
  have hd16 : ((formB r).set k b ++ t).drop 16 = if k < 16 then r ++ t else (r ++ t).set (k - 16) b := by
    rw [hset, List.drop_set, drop_form]
  have hd8 : val (((formB r).set k b ++ t).drop 8) = if k < 16 then val (((formB r ++ t).drop 8).set (k - 8) b) else (crc r : Nat) := by
    rw [hset, List.drop_set, if_neg (by omega)]
    split
    · rfl
    · rw [val_set_far (by omega), val_form8]
  rw [splitB, dif_neg hne, dif_neg (by rw [List.length_append, List.length_set, hfl]; omega), hv, hd8, hd16, Int.toNat_natCast]
  have hln : (if k < 16 then r ++ t else (r ++ t).set (k - 16) b).length = r.length + t.length := by split <;> simp
  rw [if_neg (by rw [hln]; omega)]
  by_cases h16 : k < 16
  · simp only [if_pos h16, List.take_left]
    rw [if_pos]
    have hc := val_form8 r t
    intro he
    have hlt : k - 8 < ((formB r ++ t).drop 8).length := by rw [List.length_drop, List.length_append]; omega
    refine val_changed (s := (formB r ++ t).drop 8) (i := k - 8) (b := b) (by omega) hlt ?_ (by rw [← he, hc])
    rw [List.getElem_drop]
    have : 8 + (k - 8) = k := by omega
    simp only [this]
    rw [List.getElem_append_left hl]
    exact hb
  · simp only [if_neg h16]
    rw [if_pos]
    intro he
    have hkr : k - 16 < r.length := by omega
    have e2 : ((r ++ t).set (k - 16) b).take r.length = r.set (k - 16) b := by rw [List.set_append, if_pos hkr, List.take_left' (by simp)]
    rw [e2] at he
    refine crc_changed hkr ?_ (by exact_mod_cast he)
    have h3 := drop_form r []
    simp only [List.append_nil] at h3
    intro h4
    apply hb
    rw [← h4]
    have h5 : ((formB r).drop 16)[k - 16]? = r[k - 16]? := by rw [h3]
    rw [List.getElem?_drop, show 16 + (k - 16) = k by omega, List.getElem?_eq_getElem hl, List.getElem?_eq_getElem hkr] at h5
    exact Option.some.inj h5

/-- what is cut off is missed -/
theorem splitB_short : ∀ (rows : List Bytes) (m : Nat) (l : List Bytes), (∀ r ∈ rows, r.length ≤ 1000000000) → m < (formsB rows).length → splitB ((formsB rows).take m) = some l → l.length < rows.length
  | [], m, l, _, hm, _ => by simp [formsB] at hm
  | r :: rows, m, l, h, hm, hs => by
    have e : formsB (r :: rows) = formB r ++ formsB rows := by simp [formsB]
    have hl := formB_len r
    have hr := h r (List.mem_cons_self ..)
    rw [e] at hm hs
    rw [List.length_append, hl] at hm
    rw [splitB] at hs
    split at hs
    · simp at hs; subst hs; simp
    · rename_i h0
      have hm0 : m ≠ 0 := fun h => h0 (by rw [h, List.take_zero])
      split at hs
      · cases hs
      · rename_i h16
        rw [List.length_take, List.length_append, hl] at h16
        have hm16 : 16 ≤ m := by omega
        have hv : val ((formB r ++ formsB rows).take m) = r.length := by
          rw [← val_form r (by omega) (formsB rows)]
          exact val_eq_of fun i hi => List.getElem?_take_of_lt (by omega)
        have hv8 : val (((formB r ++ formsB rows).take m).drop 8) = (crc r : Nat) := by
          rw [← val_form8 r (formsB rows)]
          exact val_eq_of fun i hi => by rw [List.getElem?_drop, List.getElem?_drop, List.getElem?_take_of_lt (by omega)]
        have hd : ((formB r ++ formsB rows).take m).drop 16 = (r ++ formsB rows).take (m - 16) := by rw [List.drop_take, drop_form]
        rw [hv, hv8, hd, Int.toNat_natCast] at hs
        split at hs
        · cases hs
        · rename_i hlen
          rw [List.length_take, List.length_append] at hlen
          have hmr : r.length ≤ m - 16 := by omega
          have ht : ((r ++ formsB rows).take (m - 16)).take r.length = r := by rw [List.take_take, Nat.min_eq_left hmr, List.take_left]
          have hdd : ((r ++ formsB rows).take (m - 16)).drop r.length = (formsB rows).take (m - 16 - r.length) := by rw [List.drop_take, List.drop_left]
          rw [ht, hdd, if_neg (by simp)] at hs
          obtain ⟨l', hl', rfl⟩ := Option.map_eq_some_iff.1 hs
          have := splitB_short rows (m - 16 - r.length) l' (fun r hr => h r (List.mem_cons_of_mem _ hr)) (by omega) hl'
          simp only [List.length_cons]; omega

/-- where the form of row i begins in the file -/
def beginOf (rows : List Bytes) (i : Nat) : Nat := 16 + (formsB (rows.take i)).length
theorem row_at : ∀ (rows : List Bytes) (k : Nat), k < (formsB rows).length → ∃ i, ∃ hi : i < rows.length, (formsB (rows.take i)).length ≤ k ∧ k < (formsB (rows.take i)).length + 16 + rows[i].length
  | [], k, h => by simp [formsB] at h
  | r :: rows, k, h => by
    have hl := formB_len r
    have e : ∀ l, formsB (r :: l) = formB r ++ formsB l := fun l => by simp [formsB]
    rw [e, List.length_append, hl] at h
    by_cases hk : k < 16 + r.length
    · exact ⟨0, by simp, by simp [formsB], by simp [formsB]; omega⟩
    · obtain ⟨i, hi, h1, h2⟩ := row_at rows (k - (16 + r.length)) (by omega)
      refine ⟨i + 1, by simpa using hi, ?_, ?_⟩
      · rw [List.take_succ_cons, e, List.length_append, hl]; omega
      · rw [List.take_succ_cons, e, List.length_append, hl, List.getElem_cons_succ]; omega

theorem image_len (rows : List Bytes) : (image rows).length = 16 + (formsB rows).length := by
  unfold image; rw [List.length_append, header_len]
theorem image_val (rows : List Bytes) (h : (formsB rows).length ≤ 1000000) : val (image rows) = (16 + (formsB rows).length : Nat) := by
  unfold image header
  rw [List.append_assoc]
  exact val_num (by omega) (by omega) _
theorem image_val8 (rows : List Bytes) (h : (formsB rows).length ≤ 1000000) : val ((image rows).drop 8) = rows.length := by
  have hfr := formsB_rows rows
  unfold image header
  rw [List.append_assoc, List.drop_append_of_le_length (by rw [num_len]; exact Nat.le_refl _), List.drop_of_length_le (by rw [num_len]; exact Nat.le_refl _), List.nil_append]
  exact val_num (by omega) (by omega) _
theorem image_drop (rows : List Bytes) : (image rows).drop 16 = formsB rows := by
  unfold image
  rw [List.drop_append_of_le_length (by rw [header_len]; exact Nat.le_refl _), List.drop_of_length_le (by rw [header_len]; exact Nat.le_refl _), List.nil_append]

/-- one byte changed, not in a row's length: found, or the file begins with zeros -/
theorem spoil {rows : List Bytes} {at_ : Nat} {b : UInt8} (hs : (formsB rows).length ≤ 1000000) (hr : ∀ r ∈ rows, r.length ≤ 200) (hl : at_ < (image rows).length) (hb : (image rows)[at_] ≠ b)
    (hn : ∀ i, i < rows.length → ¬ (beginOf rows i ≤ at_ ∧ at_ < beginOf rows i + 8)) : openB ((image rows).set at_ b) = if ((image rows).set at_ b).take 8 = List.replicate 8 0 then some ⟨[], 0, 16⟩ else none := by
  have hlen := image_len rows
  have hr' : ∀ r ∈ rows, r.length ≤ 1000000000 := fun r h => by have := hr r h; omega
  have hz := val_zero_iff (s := (image rows).set at_ b) (by rw [List.length_set]; omega)
  by_cases h0 : val ((image rows).set at_ b) = 0
  · rw [if_pos (hz.1 h0), openB, if_pos (.inr h0)]
  · rw [if_neg (fun h => h0 (hz.2 h)), openB, if_neg (by rw [List.length_set]; omega)]
    by_cases h1 : val ((image rows).set at_ b) < 16 ∨ (((image rows).set at_ b).length : Int) < val ((image rows).set at_ b)
    · rw [if_pos h1]
    · rw [if_neg h1]
      rw [List.length_set, hlen] at h1
      by_cases h8 : at_ < 8
      · have hne := val_changed h8 hl hb
        rw [image_val rows hs] at hne
        obtain ⟨e, he⟩ : ∃ e : Nat, val ((image rows).set at_ b) = e := ⟨(val ((image rows).set at_ b)).toNat, by omega⟩
        have hd : (((image rows).set at_ b).take e).drop 16 = (formsB rows).take (e - 16) := by
          rw [List.drop_take, List.drop_set, if_pos (by omega), image_drop]
        have hc : val (((image rows).set at_ b).drop 8) = rows.length := by rw [List.drop_set, if_pos h8, image_val8 rows hs]
        rw [he, Int.toNat_natCast, hd, hc]
        cases hx : splitB ((formsB rows).take (e - 16)) with
        | none => rfl
        | some l =>
          have := splitB_short rows (e - 16) l hr' (by omega) hx
          simp only
          rw [if_neg (by omega)]
      · rw [val_set_far (by omega), image_val rows hs, Int.toNat_natCast, List.take_of_length_le (by rw [List.length_set]; omega)]
        by_cases h16 : at_ < 16
        · have hne : val (((image rows).set at_ b).drop 8) ≠ rows.length := by
            rw [List.drop_set, if_neg (by omega), ← image_val8 rows hs]
            have hlt : at_ - 8 < ((image rows).drop 8).length := by rw [List.length_drop]; omega
            refine val_changed (by omega) hlt ?_
            rw [List.getElem_drop]
            have : 8 + (at_ - 8) = at_ := by omega
            simp only [this]; exact hb
          have hd : ((image rows).set at_ b).drop 16 = formsB rows := by rw [List.drop_set, if_pos h16, image_drop]
          rw [hd, splitB_forms rows (by omega)]
          simp only
          rw [if_neg (fun h => hne h.symm)]
        · obtain ⟨i, hi, k1, k2⟩ := row_at rows (at_ - 16) (by omega)
          have hni := hn i hi
          unfold beginOf at hni
          have hsplit : formsB rows = formsB (rows.take i) ++ (formB rows[i] ++ formsB (rows.drop (i + 1))) := by
            conv => lhs; rw [← List.take_append_drop i rows]
            rw [formsB_app]
            have h2 : formsB (rows.drop i) = formB rows[i] ++ formsB (rows.drop (i + 1)) := by rw [List.drop_eq_getElem_cons hi]; rfl
            rw [h2]
          have hfl := formB_len rows[i]
          have hd : ((image rows).set at_ b).drop 16 = formsB (rows.take i) ++ ((formB rows[i]).set (at_ - 16 - (formsB (rows.take i)).length) b ++ formsB (rows.drop (i + 1))) := by
            rw [List.drop_set, if_neg (by omega), image_drop, hsplit, List.set_append, if_neg (by omega), List.set_append, if_pos (by omega)]
          have hbb : (formB rows[i])[at_ - 16 - (formsB (rows.take i)).length]'(by omega) ≠ b := by
            intro h
            apply hb
            rw [← h]
            have h1 : ((image rows).drop 16)[at_ - 16]? = (formsB rows)[at_ - 16]? := by rw [image_drop]
            rw [List.getElem?_drop, show 16 + (at_ - 16) = at_ by omega, List.getElem?_eq_getElem hl] at h1
            rw [hsplit, List.getElem?_append_right (by omega), List.getElem?_append_left (by omega), List.getElem?_eq_getElem (by omega)] at h1
            exact Option.some.inj h1
          rw [hd, splitB_app _ _ (fun r h => hr' r (List.mem_of_mem_take h)), splitB_bad (hr' _ (List.getElem_mem hi)) (by omega) (by omega) hbb]
          rfl
end Go.Proofs.Y

/- JX: JournalSpoils. -/
namespace Go.Proofs.Y
open Go Go.HL Go.Proofs

theorem wf8 {a : Int} (h : (Lit.int .u8 a).wf = true) : ∃ b : UInt8, a = b.toNat := by
  simp only [Lit.wf, Bool.and_eq_true, decide_eq_true_eq] at h
  have h1 : 0 ≤ a ∧ a ≤ 255 := h
  exact ⟨UInt8.ofNat a.toNat, by simp; omega⟩
theorem put_zeros (x : Bytes) : put [] 16 x = List.replicate 16 0 ++ x := by
  have hr : (List.replicate 16 (0 : UInt8)).length = 16 := rfl
  have hn : ([] : Bytes).length = 0 := rfl
  apply List.ext_getElem?
  intro i
  rw [put_at, hn]
  by_cases hi : i < 16
  · rw [List.getElem?_append_left (by omega), if_neg (by omega), if_neg (by omega), if_pos (by omega), List.getElem?_replicate, if_pos hi]
  · rw [List.getElem?_append_right (by omega), hr]
    by_cases hx : i < 16 + x.length
    · rw [if_pos ⟨by omega, hx⟩]
    · rw [if_neg (fun h => hx h.2), if_neg (by omega), if_neg hx, List.getElem?_eq_none (by omega)]
theorem put_head16 (x hd : Bytes) (h : hd.length = 16) : put (put [] 16 x) 0 hd = hd ++ x := by
  have hr : (List.replicate 16 (0 : UInt8)).length = 16 := rfl
  rw [put_zeros]
  apply List.ext_getElem?
  intro i
  rw [put_at, h, List.length_append, hr]
  by_cases hi : i < 16
  · rw [if_pos (by omega), List.getElem?_append_left (by omega)]; rfl
  · rw [if_neg (by omega), List.getElem?_append_right (show hd.length ≤ i by omega), h]
    by_cases hx : i < 16 + x.length
    · rw [if_pos hx, List.getElem?_append_right (by omega), hr]
    · rw [if_neg hx, if_neg (by omega), List.getElem?_eq_none (by omega)]
theorem put_one (s : Bytes) {i : Nat} (b : UInt8) (hi : i < s.length) : put s i [b] = s.set i b := by
  apply List.ext_getElem?
  intro j
  rw [put_at, List.getElem?_set]
  by_cases h : i = j
  · subst h
    rw [if_pos (by simp), if_pos rfl, if_pos hi, Nat.sub_self]; rfl
  · rw [if_neg (by simp; omega), if_neg h]
    by_cases hj : j < s.length
    · rw [if_pos hj]
    · rw [if_neg hj, List.getElem?_eq_none (by omega)]
      rw [if_neg (by simp; omega)]

section
variable {d : Dk} {f : Nat}
theorem At.flush_file (h : At d) (hf : f < 12) : (d.flush f).file f = d.file f := (flush_ok h.len hf (h.flush hf).1).1.file
theorem At.write_file (h : At d) (hf : f < 12) {a : Nat} {s : Bytes} (hs : s ≠ []) (hfit : a + s.length ≤ 16777216) : (d.write f a s).file f = put (d.file f) a s := by
  rw [idle_file h.armed hf h.len.nf (may_up h.down hf) hfit, if_neg hs]
theorem At.batch_file (h : At d) (hf : f < 12) {rows : List Bytes} (hne : rows ≠ []) (h0 : d.file f = []) (hsz : (formsB rows).length ≤ 1000000) : (batchJ d ⟨[], 0, 16⟩ f rows).1.file f = image rows := by
  have hfr := formsB_rows rows
  have hrl : 0 < rows.length := List.length_pos_iff.2 hne
  have hfne : formsB rows ≠ [] := fun h => by have := congrArg List.length h; simp only [List.length_nil] at this; omega
  obtain ⟨a1, a2⟩ := h.add hf ⟨[], 0, 16⟩ rows (by dsimp only; omega)
  have f1 : (addD' d ⟨[], 0, 16⟩ f rows).file f = put [] 16 (formsB rows) := by
    have := h.write_file hf (a := 16) hfne (by omega)
    rw [h0] at this
    exact this
  unfold batchJ
  rw [if_neg hne, if_neg (fun hn => hn a1)]
  generalize addD' d ⟨[], 0, 16⟩ f rows = d1 at *
  obtain ⟨b1, c1⟩ := a2.flush hf
  have hh := header_len (16 + (formsB rows).length : Nat) rows.length
  have hhne : header (16 + (formsB rows).length : Nat) rows.length ≠ [] := fun h => by have := congrArg List.length h; rw [hh] at this; simp at this
  obtain ⟨b2, c2⟩ := c1.write hf (a := 0) (s := header (16 + (formsB rows).length : Nat) rows.length) (by omega)
  have f2 := c1.write_file hf (a := 0) hhne (by omega)
  rw [a2.flush_file hf, f1, put_head16 _ _ hh] at f2
  have f3 := (c2.flush_file hf).trans f2
  have b2 : (d1.flush f).writeR f 0 (header (16 + (formsB rows).length : Nat) rows.length) = 0 := b2
  have eL : (Lg.add ⟨[], 0, 16⟩ rows) = ⟨rows, 0, 16 + (formsB rows).length⟩ := by simp [Lg.add]
  rw [eL]
  unfold Y.flushJ flush3
  dsimp only
  rw [if_neg (by omega), if_neg (fun hn => hn b1), if_neg (fun hn => hn b2)]
  exact f3
end

section
variable {w : World} {next : Value → World → Prop} {QP : List PanicEntry → World → Prop}
theorem bsl1d {a : Deed} (k : ∀ q w', w.heap.size = q → Own w' (.slice (some ⟨q, 0, none⟩) 1 1) 65 5 1 (rows Deed.cells [a]) → Mod none' w w' → next (.slice (some ⟨q, 0, none⟩) 1 1) w') :
    bslK Try.prog 66 1 [(0, .agg #[.int .i64 a.Do, str a.Row, a.rv, a.kv, .int .i64 a.N])] w next QP := by
  refine bsl1 sl66 (cs := a.cells) rfl rfl (by omega) ?_
  intro q w' hq own _ m _
  have e : rows Deed.cells [a] = a.cells := by simp [rows]
  exact k q w' hq (e ▸ own) m

theorem beginOf_succ (rs : List Bytes) {j : Nat} (hj : j < rs.length) : beginOf rs (j + 1) = beginOf rs j + 16 + rs[j].length := by
  unfold beginOf
  rw [formsB_take hj, List.length_append, formB_len]; omega
theorem jspoils3 {v0 : Value} {rs : List Bytes} {n : UInt8} {p i : Nat} {d : Dk} {F : FP} {w1 : World} {σ : Env} (dr : DR w1 p d F) (f0 : ∀ k, F.R k → w.heap.size ≤ k) (m : Mod none' w w1) (hat : At d) (hq : d.queue.length ≤ 10000) (hfl : d.file 4 = image rs) (hi : i < (image rs).length) (hb : (image rs)[i] ≠ n)
    (hr0 : ∀ r ∈ rs, r.length ≤ 200) (hl0 : rs.length ≤ 6) (b0 : (formsB rs).length ≤ 1296) (h0 : Sl w v0 1 rs.length (rs.map str)) (s0 : σ 0 = v0) (s1 : σ 1 = .int .i64 i) (s2 : σ 2 = .int .u8 n.toNat) (s7 : σ 7 = .bool true) (s9 : σ 9 = ptr p)
    (k : ∀ w', Mod none' w w' → next (.bool true) w') : hw Try.prog noPanic h13_3 (endV [.tmp 6] next) σ w1 := by
  obtain ⟨a0, c0, rfl, -, hc0⟩ := h0.form
  have hil := image_len rs
  have hfr := formsB_rows rs
  unfold h13_3
  try simp only [go_sem]
  refine loopN rs.length (fun j τ w' => w' = w1 ∧ τ 0 = .slice a0 rs.length c0 ∧ τ 1 = .int .i64 i ∧ τ 2 = .int .u8 n.toNat ∧ τ 7 = .bool true ∧ τ 9 = ptr p ∧ τ 14 = .int .i64 (beginOf rs j : Nat) ∧ τ 15 = .int .i64 j ∧ ∀ j', j' < j → ¬ (beginOf rs j' ≤ i ∧ i < beginOf rs j' + 8))
    ⟨0, by omega, rfl, s0, s1, s2, s7, s9, rfl, rfl, fun j' h => absurd h (by omega)⟩ ?_
  rintro j τ w2 hj ⟨rfl, t0, t1, t2, t7, t9, t14, t15, hno⟩
  unfold h13_4
  try simp only [go_sem, t0, t15]
  have hbj : beginOf rs j ≤ 16 + (formsB rs).length := by
    unfold beginOf
    have := formsB_le (l := rs) (i := j)
    omega
  refine ⟨fun hlt => ?_, fun hge => ?_⟩
  · have hjl : j < rs.length := by
      have : (j : Int) < rs.length := by simpa using hlt
      omega
    obtain ⟨gr, or_, rfl, hrc⟩ := hc0 (by omega)
    have xr : w2.cell? ⟨gr, or_ + j, none⟩ = some (str rs[j]) := by
      refine m.cell (hrc j (by omega) |>.trans ?_) fun h => h
      rw [List.getElem?_map, List.getElem?_eq_getElem hjl]; rfl
    unfold h13_5
    try simp only [go_sem, t0, t1, t7, t14, t15]
    rw [w64 (by omega) (by omega)]
    refine ⟨fun _ => k _ m, fun hn => ?_⟩
    have hn : ¬ (beginOf rs j ≤ i ∧ i < beginOf rs j + 8) := by
      intro ⟨h1, h2⟩
      rw [if_pos (by simp; omega)] at hn
      simp at hn; omega
    have hbs := beginOf_succ rs hjl
    have hrj := hr0 _ (List.getElem_mem hjl)
    unfold h13_6
    try simp only [go_sem, t0, t1, t7, t14, t15, xr]
    refine ⟨⟨by omega, by omega⟩, ?_⟩
    unfold h13_7
    try simp only [go_sem, t0, t1, t2, t7, t9, t14, t15]
    rw [w64 (show (-9223372036854775808 : Int) ≤ (j : Int) + 1 by omega) (by omega), w64 (show (-9223372036854775808 : Int) ≤ (beginOf rs j : Int) + 16 by omega) (by omega), w64 (by omega) (by omega)]
    refine ⟨j + 1, by omega, by omega, ?_, rfl, fun j' hj' => ?_⟩
    · rw [hbs]; congr 1
    · by_cases h : j' = j
      · subst h; exact hn
      · exact hno j' (by omega)
  · have hjo : j = rs.length := by
      have : ¬ (j : Int) < rs.length := by simpa using hge
      omega
    subst hjo
    have hsp := spoil (by omega) hr0 hi hb fun i' hi' => hno i' hi'
    unfold h13_8
    try simp only [go_sem, t0, t1, t2, t7, t9]
    refine bsl1 sl36 (cs := [.int .u8 n.toNat]) rfl rfl (by omega) ?_
    intro b3 w3 hb3 own3 _ m3 hs3
    try simp only [go_sem, t0, t1, t2, t7, t9]
    refine b2s u36 u9 u5 (n := 1) (l := [n]) own3.sl ?_
    try simp only [go_sem, t0, t1, t2, t7, t9]
    have dr3 := dr.mod0 m3
    obtain ⟨x1, x2⟩ := hat.write (f := 4) (by omega) (a := i) (s := [n]) (by simp; omega)
    have x3 := hat.write_file (f := 4) (by omega) (a := i) (s := [n]) (by simp) (by simp; omega)
    rw [hfl, put_one _ _ hi] at x3
    have x1 : d.writeR 4 i [n] = 0 := x1
    refine write_ dr3 (by omega) (by omega) (by simp; omega) ?_
    intro w4 st4
    rw [x1]
    try simp only [go_sem, t0, t1, t2, t7, t9]
    unfold h13_9
    try simp only [go_sem, t0, t1, t2, t7, t9]
    have dr4 := st4.dr
    have x2 : At (d.write 4 i [n]) := x2
    have x3 : (d.write 4 i [n]).file 4 = (image rs).set i n := x3
    have f4 : ∀ k, st4.foot.R k → w.heap.size ≤ k := fun k hk => by
      have := m.size
      have := m3.size
      rcases st4.footR k hk with h | h
      · exact f0 k h
      · omega
    have m04 : Mod none' w w4 := (m.trans' m3).trans st4.mod fun k hk hW => by have := f0 k (dr.sub k hW); omega
    generalize d.write 4 i [n] = d4 at *
    have hm4 : d4.may [(4 : Int)] = 0 := may_up x2.down (f := 4) (by omega)
    have hrd : d4.read 4 = (image rs).set i n := by
      unfold Dk.read; rw [if_neg (fun hn => hn hm4)]; exact x3
    have hE : openE d4 4 = if (openB ((image rs).set i n)).isNone then 2 else 0 := by
      have h1 : ¬ ((4 : Int) < 0 ∨ (6 : Int) < 4) := by decide
      simp only [openE, if_neg h1, hm4, show ((4 : Int)).toNat = 4 from rfl, x3]; rfl
    have hlen8 : 8 ≤ ((image rs).set i n).length := by rw [List.length_set]; omega
    by_cases hz : ((image rs).set i n).take 8 = List.replicate 8 0
    · rw [if_pos hz] at hsp
      refine jopen_ (g := 4) dr4 f4 m04 rfl (by omega) x2.down (by rw [x3]; exact hsp) ?_
      intro q5 w5 S5 h5 m5
      try simp only [go_sem, t0, t1, t2, t7, t9]
      refine read_ h5.dr 4 ?_
      intro w6 _ m6
      rw [hrd]
      try simp only [go_sem, t0, t1, t2, t7, t9]
      refine ⟨by omega, fun _ => ?_, fun h => absurd hz (of_decide_eq_false h)⟩
      refine jall_ (h5.mod0 m6).lg ?_
      intro v7 w7 own7 m7 _
      obtain ⟨va, vc, rfl, -⟩ := own7.form
      try simp only [go_sem, t0, t1, t2, t7, t9]
      exact k _ ((h5.m.trans' m6).trans' m7)
    · rw [if_neg hz] at hsp
      have hE : openE d4 4 = 2 := by rw [hE, hsp]; rfl
      refine open_ dr4 (fun w5 m5 hne => ?_) (fun g L hg _ _ hL q5 w5 S5 lg5 hS5 m5 => ?_)
      · rw [hE]
        try simp only [go_sem, t0, t1, t2, t7, t9]
        refine read_ (dr4.mod0 m5) 4 ?_
        intro w6 _ m6
        rw [hrd]
        try simp only [go_sem, t0, t1, t2, t7, t9]
        refine ⟨by omega, fun h => absurd (of_decide_eq_true h) hz, fun _ => ?_⟩
        unfold h13_10
        try simp only [go_sem, t0, t1, t2, t7, t9]
        exact k _ ((m04.trans' m5).trans' m6)
      · obtain rfl : g = 4 := by omega
        rw [x3, hsp] at hL; cases hL
theorem jspoils_ {v0 : Value} {rs : List Bytes} {a : Int} {n : UInt8} (ha : i64 a) (h0 : Sl w v0 1 rs.length (rs.map str))
    (k : ∀ w', Mod none' w w' → next (.bool true) w') : callK Try.prog 13 [v0, .int .i64 a, .int .u8 n.toNat] w next QP := by
  refine q13 rfl ?_
  obtain ⟨a0, c0, rfl, -, hc0⟩ := h0.form
  unfold h13
  try simp only [go_sem]
  refine jsmall_ ?_
  intro w1 m1
  have ok1 : (⟨0, [], .slice a0 rs.length c0, rs, .slice none 0 0, [], 0⟩ : Deed).OK w1 := ⟨i64_0, i64_0, h0.mod m1 fun _ _ h => h, sl_nil⟩
  try simp only [go_sem]
  refine ⟨by simp, ?_⟩
  refine bsl1d (a := ⟨0, [], .slice a0 rs.length c0, rs, .slice none 0 0, [], 0⟩) ?_
  intro b2 w2 _ own2 m2
  try simp only [go_sem]
  refine fewJ_ (l := [⟨0, [], .slice a0 rs.length c0, rs, .slice none 0 0, [], 0⟩]) own2.sl (fun x hx => ?_) ?_
  · rw [List.mem_singleton.1 hx]; exact ok1.mod0 m2
  try simp only [go_sem]
  have m12 := m1.trans' m2
  refine ⟨fun _ => k _ m12, fun hb => ?_⟩
  have hb : Deed.few1 ⟨0, [], .slice a0 rs.length c0, rs, .slice none 0 0, [], 0⟩ = true ∧ rs.length ≠ 0 := by
    by_cases h1 : Deed.few1 ⟨0, [], .slice a0 rs.length c0, rs, .slice none 0 0, [], 0⟩ = true
    · by_cases h2 : rs.length = 0
      · simp [fewJ, h1, h2] at hb
      · exact ⟨h1, h2⟩
    · simp [fewJ, h1] at hb
  obtain ⟨-, hl0, -, hr0, b0⟩ := Deed.few1_le hb.1
  dsimp only at hl0 hr0 b0
  have hne : rs ≠ [] := fun h => hb.2 (by rw [h]; rfl)
  unfold h13_1
  try simp only [go_sem]
  refine jnew_ ?_
  intro p w3 F3 dr3 f3 m3
  have s12 := m12.size
  try simp only [go_sem]
  refine jopen_ (g := 4) dr3 (fun k hk => by have := f3 k hk; omega) (m12.trans' m3) rfl (by omega) rfl (openB_core (s := []) .nil (by decide)) ?_
  intro q4 w4 S4 h4 m4
  try simp only [go_sem]
  have hq0 : Dk.new.queue.length = 0 := rfl
  refine batch_ h4 (h0.mod h4.m fun _ _ h => h) (fun hn k hk hR => ?_) (by omega) ?_
  · have := h0.lt (by omega) hn k hk
    have := h4.f0 k hR; omega
  intro w5 ⟨F5, S5, h5⟩
  obtain ⟨e1, e2, e3⟩ := at_new.batch (f := 4) (by omega) ⟨[], 0, 16⟩ rs (by dsimp only; omega)
  have hfl := at_new.batch_file (f := 4) (by omega) hne rfl (by omega)
  have hqb := batchJ_queue Dk.new ⟨[], 0, 16⟩ 4 rs
  have e1 : (batchJ Dk.new ⟨[], ([] : List Bytes).length, 16⟩ 4 rs).2.2 = 0 := e1
  have h5 : JS w w5 p q4 4 (batchJ Dk.new ⟨[], 0, 16⟩ 4 rs).1 _ F5 S5 := h5
  generalize (batchJ Dk.new ⟨[], 0, 16⟩ 4 rs).1 = d at *
  rw [e1]
  try simp only [go_sem]
  unfold h13_2
  try simp only [go_sem]
  have hm4 : d.may [(4 : Int)] = 0 := may_up e3.down (f := 4) (by omega)
  have hrd : d.read 4 = image rs := by
    unfold Dk.read; rw [if_neg (fun hn => hn hm4)]; exact hfl
  refine read_ h5.dr 4 ?_
  intro w6 _ m6
  have h6 := h5.mod0 m6
  have hil := image_len rs
  have hfr := formsB_rows rs
  rw [hrd]
  try simp only [go_sem]
  rw [w64 (by omega) (by omega)]
  by_cases hin : 0 ≤ a ∧ a < (image rs).length
  · obtain ⟨i, rfl⟩ : ∃ i : Nat, a = i := ⟨a.toNat, by omega⟩
    have hi : i < (image rs).length := by omega
    have x1 : decide ((i : Int) < 0) = false := by simp
    have x2 : decide (((image rs).length : Int) ≤ i) = false := by simp; omega
    have x3 : (if ((image rs).length : Int) - 1 < i then ((image rs).length : Int) - 1 else i) = i := if_neg (by omega)
    simp only [x1, x2, x3, Bool.false_eq_true, if_false, Int.toNat_natCast, List.getElem?_eq_getElem hi, Option.getD_some]
    refine ⟨fun _ => ⟨by omega, by omega⟩, fun _ => k _ h6.m, fun hb => ?_⟩
    have hb : (image rs)[i] ≠ n := by
      intro h
      rw [h] at hb
      simp at hb
    exact jspoils3 h6.dr h6.f0 h6.m e3 (by omega) hfl hi hb hr0 hl0 b0 h0 rfl rfl rfl rfl rfl k
  · have x2 : (if decide (a < 0) = true then true else decide (((image rs).length : Int) ≤ a)) = true := by
      by_cases h : a < 0
      · simp [h]
      · simp [h]; omega
    simp only [x2, if_true]
    exact ⟨fun h => absurd h (by simp), fun _ => k _ h6.m, fun h => absurd h (by simp)⟩
end

section
variable {w w' : World} {p q f : Nat} {d : Dk} {L L' : Lg}
theorem GS.opened {B : Base} {q' : Nat} {F : FP} {S S' : Nat → Prop} (h : GS B w p q f d L F S) (lg : LG w' q' p f L' S') (hS : ∀ k, S' k → w.heap.size ≤ k) (m : Mod none' w w') : GS B w' p q' f d L' F S' := by
  have hs := h.m.size
  exact ⟨h.dr.mod0 m, lg, fun k hk hx => by have := h.dr.lt k hk; have := hS k hx; omega, h.f0, fun k hk hA => by have := hS k hk; have := B.lt k hA; omega, h.m.trans m fun _ _ h => h.elim⟩
end
end Go.Proofs.Y

/- JZ: plain laws for JournalLasts: each deed keeps what is known of the log. -/
namespace Go.Proofs.Y
open Go Go.HL Go.Proofs

/-- what is known of disk and log between two deeds -/
structure Jv (d : Dk) (L : Lg) (f : Nat) (M : List (List Bytes)) : Prop where
  dv : Dv d f (· ∈ M) L.end_ L.rows
  end_ : L.end_ = 16 + (formsB L.rows).length
  sure : L.sure ≤ L.rows.length
  all : L.sure = L.rows.length → Dv d f (· = L.rows) L.end_ L.rows
def Out (d : Dk) (L : Lg) (f : Nat) (e : Int) (M : List (List Bytes)) : Prop := (e = 8 ∧ Fl d f (· ∈ M)) ∨ (e ≠ 8 ∧ Jv d L f M)
def nxt (e : Int) (M : List (List Bytes)) (x : List Bytes) : List (List Bytes) := if e = 0 then [x] else M ++ [x]

variable {d : Dk} {L : Lg} {f : Nat} {M : List (List Bytes)}
theorem Dv.lose {P : List Bytes → Prop} {E : Nat} {rows : List Bytes} (h : Dv d f P E rows) (n : Int) : Dv (d.lose n) f P E rows := ⟨⟨h.len.nl, h.len.nf⟩, h.down, h.view, h.fm, h.sv⟩
theorem Dv.arm {P : List Bytes → Prop} {E : Nat} {rows : List Bytes} (h : Dv d f P E rows) (n : Int) (ks : List Int) : Dv (d.arm n ks) f P E rows := ⟨⟨h.len.nl, h.len.nf⟩, h.down, h.view, h.fm, h.sv⟩
theorem Jv.lose (h : Jv d L f M) (n : Int) : Jv (d.lose n) L f M := ⟨h.dv.lose n, h.end_, h.sure, fun e => (h.all e).lose n⟩
theorem Jv.arm (h : Jv d L f M) (n : Int) (ks : List Int) : Jv (d.arm n ks) L f M := ⟨h.dv.arm n ks, h.end_, h.sure, fun e => (h.all e).arm n ks⟩
theorem Jv.new : Jv Dk.new ⟨[], 0, 16⟩ f [[]] := by
  have hd : Dv Dk.new f (· = []) 16 [] := by
    have hfile : Dk.new.file f = [] := by
      simp only [Dk.file, Dk.new, List.getD_eq_getElem?_getD, List.getElem?_replicate]; split <;> rfl
    have hlast : Dk.new.last f = [] := by
      simp only [Dk.last, Dk.new, List.getD_eq_getElem?_getD, List.getElem?_replicate]; split <;> rfl
    exact ⟨⟨rfl, rfl⟩, rfl, by rw [hfile]; exact .inl ⟨rfl, rfl⟩, ⟨[], 16, rfl, Nat.le_refl _, by rw [hfile]; exact .nil⟩, Sv.clean (fun p hp => by cases hp) (by rw [hlast]; exact .nil) rfl (Nat.le_refl _)⟩
  exact ⟨hd.mono fun r hr => by simp [hr], rfl, Nat.le_refl _, fun _ => hd⟩

theorem Jv.add (h : Jv d L f M) (hf : f < 12) {new : List Bytes} (hne : new ≠ []) (hfit : L.end_ + (formsB new).length ≤ 16777216) :
    (addE d L f new = 8 ∧ Fl (addD' d L f new) f (· ∈ M)) ∨ (addE d L f new = 0 ∧ Jv (addD' d L f new) (L.add new) f M) := by
  rcases h.dv.add hf h.end_ hne hfit with ⟨e, r⟩ | ⟨e, r⟩
  · exact .inl ⟨e, r⟩
  · refine .inr ⟨e, r, ?_, ?_, fun hs => ?_⟩
    · simp only [Lg.add, formsB_app, List.length_append]; have := h.end_; omega
    · simp only [Lg.add, List.length_append]; have := h.sure; omega
    · exfalso
      simp only [Lg.add, List.length_append] at hs
      have := h.sure
      have := List.length_pos_iff.2 hne
      omega
theorem Jv.flush3 (h : Jv d L f M) (hf : f < 12) (hs : L.sure ≠ L.rows.length) :
    ((flush3 d L f).2 = 8 ∧ Fl (flush3 d L f).1 f (· ∈ M ++ [L.rows])) ∨ ((flush3 d L f).2 = 9 ∧ Dv (flush3 d L f).1 f (· ∈ M ++ [L.rows]) L.end_ L.rows) ∨ ((flush3 d L f).2 = 0 ∧ Dv (flush3 d L f).1 f (· = L.rows) L.end_ L.rows) := by
  have hM : ∀ r, r ∈ M → r ∈ M ++ [L.rows] := fun r hr => List.mem_append_left _ hr
  have hr : L.rows ∈ M ++ [L.rows] := by simp
  have hne : L.rows ≠ [] := by
    intro hn
    have := h.sure
    rw [hn] at hs this; simp at hs this; omega
  unfold Y.flush3
  rcases h.dv.flush hf hf with ⟨e, r⟩ | ⟨e, r⟩ | ⟨e, r, c⟩
  · rw [if_pos (by rw [e]; decide)]; exact .inl ⟨e, r.mono hM⟩
  · rw [if_pos (by rw [e]; decide)]; exact .inr (.inl ⟨e, r.mono hM⟩)
  · rw [if_neg (fun hn => hn e)]
    rcases r.head hf h.end_ hne c hM hr with ⟨e2, r2⟩ | ⟨e2, r2, c2⟩
    · rw [if_pos (by rw [e2]; decide)]; exact .inl ⟨e2, r2⟩
    · rw [if_neg (fun hn => hn e2)]
      rcases r2.flush hf hf with ⟨e3, r3⟩ | ⟨e3, r3⟩ | ⟨e3, r3, c3⟩
      · exact .inl ⟨e3, r3⟩
      · exact .inr (.inl ⟨e3, r3⟩)
      · exact .inr (.inr ⟨e3, Dv.of_clean r3.len r3.down c3 c2 rfl⟩)
theorem Jv.flushJ (h : Jv d L f M) (hf : f < 12) : (flushJ d L f).2.1.rows = L.rows ∧ Out (flushJ d L f).1 (flushJ d L f).2.1 f (flushJ d L f).2.2 (nxt (flushJ d L f).2.2 M L.rows) := by
  unfold Y.flushJ
  split
  · rename_i hs
    refine ⟨rfl, .inr ?_⟩
    have hd := h.dv.down
    simp only [hd]
    refine ⟨by decide, ?_⟩
    have ha := h.all hs
    exact ⟨ha.mono fun r hr => by simp [nxt, hr], h.end_, h.sure, h.all⟩
  · rename_i hs
    dsimp only
    refine ⟨by split <;> rfl, ?_⟩
    rcases h.flush3 hf hs with ⟨e, r⟩ | ⟨e, r⟩ | ⟨e, r⟩
    · rw [e]; exact .inl ⟨rfl, r⟩
    · rw [e]; exact .inr ⟨by decide, r, h.end_, h.sure, fun hs' => absurd hs' hs⟩
    · rw [e]; exact .inr ⟨by decide, r.mono fun x hx => by simp [nxt, hx], h.end_, Nat.le_refl _, fun _ => r⟩
theorem Out.fall {x : List Bytes} (h : Fl d f (· ∈ M)) : Out d L f 8 (nxt 8 M x) := .inl ⟨rfl, h.mono fun r hr => List.mem_append_left _ hr⟩
theorem Jv.batchJ (h : Jv d L f M) (hf : f < 12) (rows : List Bytes) (hfit : L.end_ + (formsB rows).length ≤ 16777216) :
    ((batchJ d L f rows).2.1.rows = L.rows ∨ (batchJ d L f rows).2.1.rows = L.rows ++ rows) ∧ Out (batchJ d L f rows).1 (batchJ d L f rows).2.1 f (batchJ d L f rows).2.2 (nxt (batchJ d L f rows).2.2 M (L.rows ++ rows)) := by
  unfold Y.batchJ
  split
  · rename_i hr
    subst hr
    rw [List.append_nil]
    have := h.flushJ hf
    exact ⟨.inl this.1, this.2⟩
  · rename_i hr
    rcases h.add hf hr hfit with ⟨e, r⟩ | ⟨e, r⟩
    · rw [if_pos (by rw [e]; decide)]
      refine ⟨.inl rfl, ?_⟩
      dsimp only
      rw [e]; exact Out.fall r
    · rw [if_neg (fun hn => hn e)]
      have := r.flushJ hf
      exact ⟨.inr this.1, this.2⟩
theorem core_image (rows : List Bytes) : Core (image rows) rows (16 + (formsB rows).length) := by
  have := Core.full rows []
  rw [List.append_nil] at this; exact this
theorem Dv.rewr {P : List Bytes → Prop} {E : Nat} {R : List Bytes} (h : Dv d f P E R) (hf : f ≤ 6) (rows : List Bytes) (hsz : (formsB rows).length ≤ 1000000) :
    ((Y.rewr d f rows).2 = 8 ∧ Fl (Y.rewr d f rows).1 f P) ∨ ((Y.rewr d f rows).2 ≠ 8 ∧ (Y.rewr d f rows).2 ≠ 0 ∧ Dv (Y.rewr d f rows).1 f P E R) ∨ ((Y.rewr d f rows).2 = 0 ∧ Dv (Y.rewr d f rows).1 f (· = rows) (16 + (formsB rows).length) rows) := by
  by_cases h0 : (Y.rewr d f rows).2 = 0
  · obtain ⟨c, dn⟩ := rewr_done h.len hf rows h0
    exact .inr (.inr ⟨h0, Dv.of_clean (rewr_len h.len rows) dn c (core_image rows) rfl⟩)
  have hne : f + 1 ≠ f := by omega
  have hs : (header (16 + (formsB rows).length : Nat) rows.length ++ formsB rows).length = 16 + (formsB rows).length := by rw [List.length_append, header_len]
  have hn := head_ne (16 + (formsB rows).length : Nat) rows.length (formsB rows)
  unfold Y.rewr at h0 ⊢
  dsimp only at h0 ⊢
  generalize header (16 + (formsB rows).length : Nat) rows.length ++ formsB rows = t at *
  rcases h.cut (by omega) (g := f + 1) (by omega) hne with ⟨e1, r1⟩ | ⟨e1, r1⟩
  · rw [if_pos (by rw [e1]; decide)]; exact .inl ⟨e1, r1⟩
  · rw [if_neg (fun hn => hn e1)] at h0 ⊢
    rcases r1.write (by omega) (g := f + 1) (a := 0) (s := t) (by omega) hne hn (by omega) with ⟨e2, r2⟩ | ⟨e2, r2⟩
    · have e2' : (d.cut (f + 1 : Nat) 0).writeR (f + 1 : Nat) 0 t = 8 := e2
      rw [if_pos (by rw [e2']; decide)]; exact .inl ⟨e2, r2⟩
    · have e2' : (d.cut (f + 1 : Nat) 0).writeR (f + 1 : Nat) 0 t = 0 := e2
      rw [if_neg (fun hn => hn e2')] at h0 ⊢
      rcases r2.flush (by omega) (g := f + 1) (by omega) with ⟨e3, r3⟩ | ⟨e3, r3⟩ | ⟨e3, r3, -⟩
      · have e3' : ((d.cut (f + 1 : Nat) 0).write (f + 1 : Nat) 0 t).flushR (f + 1 : Nat) = 8 := e3
        rw [if_pos (by rw [e3']; decide)]; exact .inl ⟨e3, r3⟩
      · have e3' : ((d.cut (f + 1 : Nat) 0).write (f + 1 : Nat) 0 t).flushR (f + 1 : Nat) = 9 := e3
        rw [if_pos (by rw [e3']; decide)]
        refine .inr (.inl ⟨?_, ?_, r3⟩)
        · dsimp only; omega
        · dsimp only; omega
      · have e3' : ((d.cut (f + 1 : Nat) 0).write (f + 1 : Nat) 0 t).flushR (f + 1 : Nat) = 0 := e3
        rw [if_neg (fun hn => hn e3')] at h0 ⊢
        rcases r3.turn (by omega) (g := f + 1) (by omega) hne h0 with ⟨e4, r4⟩ | ⟨e4, r4⟩
        · exact .inl ⟨e4, r4⟩
        · exact .inr (.inl ⟨e4, h0, r4⟩)
theorem Jv.rewriteJ (h : Jv d L f M) (hf : f ≤ 6) (rows : List Bytes) (hsz : (formsB rows).length ≤ 1000000) :
    ((rewriteJ d L f rows).2.1.rows = L.rows ∨ (rewriteJ d L f rows).2.1.rows = rows) ∧ Out (rewriteJ d L f rows).1 (rewriteJ d L f rows).2.1 f (rewriteJ d L f rows).2.2 (nxt (rewriteJ d L f rows).2.2 M rows) := by
  unfold Y.rewriteJ
  dsimp only
  refine ⟨by split; exact .inr rfl; exact .inl rfl, ?_⟩
  rcases h.dv.rewr hf rows hsz with ⟨e, r⟩ | ⟨e1, e2, r⟩ | ⟨e, r⟩
  · rw [e]; exact Out.fall r
  · have e2' : ¬ (Y.rewr d f rows).2 = 0 := e2
    rw [if_neg e2']
    refine .inr ⟨e1, r.mono fun x hx => ?_, h.end_, h.sure, fun hs => ?_⟩
    · unfold nxt; rw [if_neg e2']; exact List.mem_append_left _ hx
    · rcases (h.all hs).rewr hf rows hsz with ⟨e, _⟩ | ⟨_, _, r'⟩ | ⟨e, _⟩
      · exact absurd e e1
      · exact r'
      · exact absurd e e2
  · rw [if_pos e, e]
    exact .inr ⟨by decide, r.mono fun x hx => by simp [nxt, hx], rfl, Nat.le_refl _, fun _ => r⟩
/-- what a log that fell is when it is opened again -/
theorem Fl.again (h : Fl d f (· ∈ M)) (hl : (d.file f).length ≤ 1000000000) : ∃ r ∈ M, openB (d.file f) = some ⟨r, r.length, 16 + (formsB r).length⟩ ∧ ∀ n ks m, Jv (((d.arm n ks).lose m).start) ⟨r, r.length, 16 + (formsB r).length⟩ f [r] := by
  obtain ⟨r, e, hr, hc⟩ := h.core
  have he := hc.endE
  subst he
  have hc' := hc
  rw [← h.same] at hc'
  refine ⟨r, hr, openB_core hc' hl, fun n ks m => ?_⟩
  have hd : Dv (((d.arm n ks).lose m).start) f (· = r) (16 + (formsB r).length) r :=
    ⟨⟨h.len.nl, h.len.nf⟩, rfl, hc'.vw, ⟨r, _, rfl, Nat.le_refl _, hc'⟩, Sv.clean (fun p hp => by have hq : p ∈ d.queue := hp; rw [h.q] at hq; cases hq) hc rfl (Nat.le_refl _)⟩
  exact ⟨hd.mono fun x hx => by simp [hx], rfl, Nat.le_refl _, fun _ => hd⟩
end Go.Proofs.Y

/- JLa: JournalLasts: the lists of rows that may be found, and what follows a deed. -/
namespace Go.Proofs.Y
open Go Go.HL Go.Proofs

theorem sl80 : SlTy Try.prog 80 40 1 24 (.slice none 0 0) := ⟨by kernel_rfl, by kernel_rfl, rfl, by decide⟩
theorem dk_file_le {d : Dk} (ok : d.OK) (f : Nat) : (d.file f).length ≤ 16777216 := by
  by_cases hf : f < 12
  · have : d.file f = d.files[f]'(by rw [ok.nf]; exact hf) := by simp [Dk.file, ok.nf, hf]
    rw [this]; exact ok.bf _ (List.getElem_mem _)
  · have : d.file f = [] := by simp [Dk.file, ok.nf, hf]
    simp [this]

/-- one list of rows among those -/
def It (w0 w : World) (mv : Value) (K : Nat → Prop) (v : Value) (r : List Bytes) : Prop :=
  Sl w v 1 r.length (r.map str) ∧ ∀ k, 0 < r.length → v.ownBlock = some k → (k < w0.heap.size ∨ K k) ∧ mv.ownBlock ≠ some k
structure MB (w0 w : World) (mv : Value) (M : List (List Bytes)) (K : Nat → Prop) : Prop where
  inv : ∃ vs, vs.length = M.length ∧ Own w mv 40 1 M.length vs ∧ ∀ i (h : i < M.length), ∃ v, vs[i]? = some v ∧ It w0 w mv K v M[i]
  kb : ∀ k, mv.ownBlock = some k → K k
  lt : ∀ k, K k → w0.heap.size ≤ k ∧ k < w.heap.size
theorem MB.mod {w0 w w' : World} {mv : Value} {M : List (List Bytes)} {K X : Nat → Prop} (h : MB w0 w mv M K) (m : Mod X w w') (hK : ∀ k, K k → ¬ X k) (h0 : ∀ k, k < w0.heap.size → ¬ X k) : MB w0 w' mv M K := by
  obtain ⟨⟨vs, hl, ho, hi⟩, kb, lt⟩ := h
  have := m.size
  refine ⟨⟨vs, hl, ho.mod m fun k hk => hK k (kb k hk), fun i hh => ?_⟩, kb, fun k hk => ⟨(lt k hk).1, by have := (lt k hk).2; omega⟩⟩
  obtain ⟨v, e, hs, hk⟩ := hi i hh
  refine ⟨v, e, hs.mod' m fun hn k hb => ?_, hk⟩
  rcases (hk k hn hb).1 with h | h
  · exact h0 k h
  · exact hK k h
theorem MB.mod0 {w0 w w' : World} {mv : Value} {M : List (List Bytes)} {K : Nat → Prop} (h : MB w0 w mv M K) (m : Mod none' w w') : MB w0 w' mv M K := h.mod m (fun _ _ h => h) fun _ _ h => h
theorem MB.nil (w0 w : World) : MB w0 w (.slice none 0 0) [] none' := ⟨⟨[], rfl, Own.nil _ _ _, fun i h => absurd h (by simp)⟩, fun k hk => (nomatch (hk : none = some k)), fun k hk => hk.elim⟩

section
variable {w w0 : World} {next : Value → World → Prop} {QP : List PanicEntry → World → Prop}

theorem found_ {va mv : Value} {r : List Bytes} {n : Nat} {M : List (List Bytes)} {K : Nat → Prop} (hv : Sl w va 1 n (r.map str)) (hn : n ≤ 1000000000000) (hm : MB w0 w mv M K) (hM : M.length ≤ 1000) (k : ∀ w', Mod none' w w' → next (.bool (decide (r ∈ M))) w') :
    callvK Try.prog (.func (.func 62) #[] #[]) [va, mv] w next QP := by
  refine r62 rfl ?_
  obtain ⟨vs, hl, ho, hi⟩ := hm.inv
  obtain ⟨ma, mc, rfl, hmc, hcell⟩ := ho.sl.form
  obtain ⟨a, c, rfl, -⟩ := hv.form
  unfold h62
  try simp only [go_sem]
  refine loopN M.length (fun i τ w' => τ 0 = .slice a n c ∧ τ 1 = .slice ma M.length mc ∧ τ 5 = .int .i64 i ∧ Mod none' w w' ∧ r ∉ M.take i) ⟨0, by omega, rfl, rfl, rfl, Mod.refl _ _, by simp⟩ ?_
  rintro i τ w1 hi1 ⟨t0, t1, t5, m1, hno⟩
  unfold h62_1
  try simp only [go_sem, t0, t1, t5]
  refine ⟨fun hlt => ?_, fun hge => ?_⟩
  · have him : i < M.length := by
      have : (i : Int) < M.length := by simpa using hlt
      omega
    obtain ⟨v, ev, hs, -⟩ := hi i him
    obtain ⟨gb, o, rfl, hc⟩ := hcell (by omega)
    have hci : w1.cell? ⟨gb, o + i, none⟩ = some v := m1.cell ((hc i (by omega)).trans ev) fun h => h
    have hvl : r.length = n := by have := hv.len; simpa using this
    unfold h62_2
    try simp only [go_sem, t0, t1, t5, hci]
    repeat refine ⟨⟨by omega, by omega⟩, ?_⟩
    refine same__ (hv.mod m1 fun _ _ h => h) (hs.mod m1 fun _ _ h => h) hn ?_
    intro w2 m2
    have m12 := m1.trans' m2
    try simp only [go_sem, t0, t1, t5]
    refine ⟨fun he => ?_, fun he => ?_⟩
    · have he : r = M[i] := by simpa using he
      have := k w2 m12
      rw [decide_eq_true (show r ∈ M by rw [he]; exact List.getElem_mem _)] at this
      exact this
    · have he : ¬ r = M[i] := by simpa using he
      unfold h62_3
      try simp only [go_sem, t0, t1, t5]
      rw [w64 (by omega) (by omega)]
      refine ⟨i + 1, by omega, by omega, rfl, m12, ?_⟩
      rw [List.take_succ_eq_append_getElem him]
      simp only [List.mem_append, List.mem_singleton, not_or]
      exact ⟨hno, he⟩
  · have hio : i = M.length := by
      have : ¬ (i : Int) < M.length := by simpa using hge
      omega
    subst hio
    rw [List.take_length] at hno
    unfold h62_4
    try simp only [go_sem]
    have := k w1 m1
    rw [decide_eq_false hno] at this
    exact this

theorem slice_one {v : Value} {r : List Bytes} {n : Nat} {xs : List Value} (h : Sl w v 1 n xs) : v.oneCell' = true := by
  obtain ⟨a, c, rfl, -⟩ := h.form; rfl
theorem mb_push {mv xv v : Value} {M : List (List Bytes)} {K V : Nat → Prop} {r : List Bytes} (h : MB w0 w mv M K) (hx : Sl w xv 1 1 [v]) (hv : Sl w v 1 r.length (r.map str)) (hk : ∀ k, 0 < r.length → v.ownBlock = some k → k < w0.heap.size ∨ V k)
    (hV : ∀ k, V k → w0.heap.size ≤ k ∧ k < w.heap.size ∧ mv.ownBlock ≠ some k) (hM : M.length ≤ 1000)
    (hw0 : w0.heap.size ≤ w.heap.size) (k : ∀ mv' w' K', MB w0 w' mv' (M ++ [r]) K' → (∀ k, K' k → K k ∨ V k ∨ w.heap.size ≤ k) → Mod (ownS mv) w w' → next mv' w') : appK Try.prog #[80, 80] 80 mv xv w next QP := by
  obtain ⟨vs, hl, ho, hi⟩ := h.inv
  have hw1 : ∀ k, mv.ownBlock = some k → w0.heap.size ≤ k := fun k hk => (h.lt k (h.kb k hk)).1
  have hlen : (M ++ [r]).length = M.length + 1 := by simp
  refine append_ sl80 ho hx (by intro u hu; rw [List.mem_singleton.1 hu]; obtain ⟨a, c, rfl, -⟩ := hv.form; rfl) (by omega) (by unfold maxLen; omega) ?_
  intro mv' w' own' m' hb' _
  have hs := m'.size
  refine k mv' w' (fun k => (K k ∨ V k) ∨ (mv'.ownBlock = some k ∧ w.heap.size ≤ k)) ⟨⟨vs ++ [v], by simp [hl], by rw [hlen]; exact own', fun i hh => ?_⟩, fun k hk => ?_, fun k hk => ?_⟩ (fun k hk => ?_) m'
  · by_cases h1 : i < M.length
    · obtain ⟨u, e, hsu, hku⟩ := hi i h1
      rw [List.getElem?_append_left (by omega), List.getElem_append_left h1]
      refine ⟨u, e, hsu.mod' m' fun hn k hb => (hku k hn hb).2, fun k hn hb => ⟨(hku k hn hb).1.imp id fun h => .inl (.inl h), fun hb2 => ?_⟩⟩
      rcases hb' k hb2 with h2 | h2
      · exact (hku k hn hb).2 h2
      · have := hsu.lt (by omega) hn k hb; omega
    · obtain rfl : i = M.length := by omega
      rw [List.getElem?_append_right (by omega), hl, Nat.sub_self]
      have e1 : (M ++ [r])[M.length]'hh = r := by simp
      rw [e1]
      have hne : ∀ k, 0 < r.length → v.ownBlock = some k → mv.ownBlock ≠ some k := fun k hn hb hm => by
        rcases hk k hn hb with h2 | h2
        · have := hw1 k hm; omega
        · exact (hV k h2).2.2 hm
      refine ⟨v, rfl, hv.mod' m' fun hn k hb => hne k hn hb, fun k hn hb => ⟨(hk k hn hb).imp id fun h => .inl (.inr h), fun hb2 => ?_⟩⟩
      rcases hb' k hb2 with h2 | h2
      · exact hne k hn hb h2
      · have := hv.lt (by omega) hn k hb; omega
  · rcases hb' k hk with h2 | h2
    · exact .inl (.inl (h.kb k h2))
    · exact .inr ⟨hk, h2⟩
  · rcases hk with (h2 | h2) | ⟨h2, h3⟩
    · have := h.lt k h2; omega
    · have := hV k h2; omega
    · have hw := own'.lt k h2
      omega
  · rcases hk with (h2 | h2) | ⟨h2, h3⟩
    · exact .inl h2
    · exact .inr (.inl h2)
    · exact .inr (.inr h3)

theorem JS.left {w0 : World} {p q f : Nat} {d : Dk} {L : Lg} {F : FP} {S B : Nat → Prop} (h : JS w0 w p q f d L F S) (hA : ∀ k, B k → ¬ F.R k ∧ ¬ S k) (hB : ∀ k, B k → k < w.heap.size) :
    ∃ b0 : Base, GS b0 w p q f d L F S ∧ ∀ w' q' d' L', GT b0 w' p q' f d' L' → ∃ F' S', JS w0 w' p q' f d' L' F' S' ∧ (∀ k, B k → ¬ F'.R k ∧ ¬ S' k) ∧ Mod (fun k => ¬ (k < w0.heap.size ∨ B k)) w w' := by
  refine ⟨_, h.base hA h.m.size hB, ?_⟩
  rintro w' q' d' L' ⟨F', S', g⟩
  exact ⟨F', S', g.back h.m⟩

/-- everything between two deeds -/
structure JM (w0 w : World) (p q : Nat) (d : Dk) (L : Lg) (mv : Value) (M : List (List Bytes)) (F : FP) (S K : Nat → Prop) : Prop where
  js : JS w0 w p q 3 d L F S
  mb : MB w0 w mv M K
  ap : ∀ k, K k → ¬ F.R k ∧ ¬ S k
structure Sm (n b c : Nat) (d : Dk) (L : Lg) (M : List (List Bytes)) : Prop where
  q : d.queue.length ≤ n
  l : (formsB L.rows).length ≤ b
  m : ∀ r ∈ M, (formsB r).length ≤ b
  c : M.length ≤ c
theorem JM.mod0 {w0 w w' : World} {p q : Nat} {d : Dk} {L : Lg} {mv : Value} {M : List (List Bytes)} {F : FP} {S K : Nat → Prop} (h : JM w0 w p q d L mv M F S K) (m : Mod none' w w') : JM w0 w' p q d L mv M F S K := ⟨h.js.mod0 m, h.mb.mod0 m, h.ap⟩

/-- behind each deed -/
theorem lasts9 {p q i n b c a : Nat} {d : Dk} {L : Lg} {e : Int} {mv v0 v1 : Value} {M : List (List Bytes)} {F : FP} {S K : Nat → Prop} {w1 : World} {τ : Env} {X : HX → Env → World → Prop} (h : JM w w1 p q d L mv M F S K) (ho : Out d L 3 e M) (hs : Sm n b c d L M) (hi : i ≤ 30) (hb : b ≤ 100000) (hc : 1 ≤ c) (hc2 : c ≤ 1000)
    (hn : n ≤ 1000000) (t0 : τ 0 = v0) (t1 : τ 1 = v1) (t5 : τ 5 = .bool true) (t7 : τ 7 = ptr p) (t8 : τ 8 = ptr q) (t9 : τ 9 = .int .i64 e) (t10 : τ 10 = mv) (t11 : τ 11 = .int .i64 a) (t12 : τ 12 = .int .i64 i)
    (k : ∀ σ' w' q' d' L' mv' M' F' S' K', JM w w' p q' d' L' mv' M' F' S' K' → Jv d' L' 3 M' → Sm n b c d' L' M' → σ' 0 = v0 → σ' 1 = v1 → σ' 5 = .bool true → σ' 7 = ptr p → σ' 8 = ptr q' → σ' 10 = mv' → σ' 11 = .int .i64 a → σ' 12 = .int .i64 ((i + 1 : Nat) : Int) → X .normal σ' w') :
    hw Try.prog noPanic h15_9 (blockX 1 (seqX (hw Try.prog noPanic h15_16 X) X)) τ w1 := by
  unfold h15_9
  try simp only [go_sem, t9]
  refine ⟨fun h8 => ?_, fun h8 => ?_⟩
  · have h8 : e ≠ 8 := by simpa using h8
    unfold h15_16
    try simp only [go_sem, t12]
    rw [w64 (by omega) (by omega)]
    rcases ho with ⟨h, -⟩ | ⟨-, hj⟩
    · exact absurd h h8
    · exact k _ _ _ _ _ _ _ _ _ _ h hj hs t0 t1 t5 t7 t8 t10 t11 rfl
  · have h8 : e = 8 := by simpa using h8
    obtain ⟨-, hfl⟩ : e = 8 ∧ Fl d 3 (· ∈ M) := by
      rcases ho with h | ⟨h, -⟩
      · exact h
      · exact absurd h8 h
    have hfile := dk_file_le h.js.dr.ok 3
    obtain ⟨r, hr, hO, hJ⟩ := hfl.again (by omega)
    have hJ := hJ 0 [] 0
    have hrb := hs.m r hr
    have hdq := hfl.q
    have hrl := formsB_rows r
    obtain ⟨b0, g0, back⟩ := h.js.left h.ap fun k hk => (h.mb.lt k hk).2
    unfold h15_10
    try simp only [go_sem, t7]
    refine arm_ (l := []) (m := 0) g0.dr (by omega) ⟨rfl, none, 0, rfl, Nat.le_refl _, fun h => absurd h (by omega)⟩ (by omega) ?_
    intro w2 st2
    have g2 := g0.disk st2
    try simp only [go_sem, t7]
    refine lose_ g2.dr (by omega) ?_
    intro w3 dr3 m3 _
    have g3 := g2.disk (.of dr3 m3)
    try simp only [go_sem, t7]
    refine start_ g3.dr ?_
    intro w4 dr4 m4 _
    have g4 := g3.disk (.of dr4 m4)
    have hO' : openB ((((d.arm 0 []).lose 0).start).file 3) = some ⟨r, r.length, 16 + (formsB r).length⟩ := hO
    have hq4 : (((d.arm 0 []).lose 0).start).queue.length ≤ n := by
      show d.queue.length ≤ n
      exact hs.q
    have hd4 : (((d.arm 0 []).lose 0).start).down = false := rfl
    generalize (((d.arm 0 []).lose 0).start) = D at *
    try simp only [go_sem, t7]
    refine open_ g4.dr (fun w5 m5 he => ?_) (fun g L5 hg hg6 hm hL q5 w5 S5 lg5 hS5 m5 => ?_)
    · exfalso
      apply he
      have hm := may_up hd4 (f := 3) (by omega)
      simp only [openE]
      rw [if_neg (by omega), if_neg (by simpa using hm), if_neg (by simp [hO'])]
    obtain rfl : g = 3 := by omega
    obtain rfl : L5 = ⟨r, r.length, 16 + (formsB r).length⟩ := by rw [hO'] at hL; exact (Option.some.inj hL).symm
    obtain ⟨F5, S5', j5, ap5, mm5⟩ := back _ _ _ _ (g4.opened lg5 hS5 m5).jt
    have mb5 := h.mb.mod mm5 (fun k hk hx => hx (.inr hk)) fun k hk hx => hx (.inl hk)
    unfold h15_11
    try simp only [go_sem, t0, t1, t5, t7, t8, t9, t10, t11, t12]
    refine jsure_ j5.lg ?_
    unfold l15_13
    try simp only [go_sem, t0, t1, t5, t7, t10, t11, t12]
    refine jall_ j5.lg ?_
    intro v6 w6 own6 m6 hv6
    have j6 := j5.mod0 m6
    obtain ⟨va6, vc6, rfl, -⟩ := own6.form
    unfold l15_12
    try simp only [go_sem, t0, t1, t5, t7, t10, t11, t12]
    unfold h15_14
    try simp only [go_sem, t0, t1, t5, t7, t10, t11, t12]
    refine jall_ j6.lg ?_
    intro v7 w7 own7 m7 hv7
    have j7 := j6.mod0 m7
    have mb7 := (mb5.mod0 m6).mod0 m7
    try simp only [go_sem, t0, t1, t5, t7, t10, t11, t12]
    refine found_ own7.sl (by dsimp only; omega) mb7 (by have := hs.c; omega) ?_
    intro w8 m8
    rw [decide_eq_true hr]
    have j8 := j7.mod0 m8
    have own8 := own7.mod m8 fun _ _ h => h
    have s5 := j5.m.size
    have s6 := m6.size
    have s7 := m7.size
    have s8 := m8.size
    unfold h15_15
    try simp only [go_sem, t0, t1, t5, t7, t10, t11, t12]
    refine bsl1 sl80 (v := v7) (cs := [v7]) (by obtain ⟨a, c, rfl, -⟩ := own7.form; rfl) rfl (by omega) ?_
    intro b9 w9 hb9 own9 _ m9 hs9
    have j9 := j8.mod0 m9
    have s9 := m9.size
    unfold h15_16
    try simp only [go_sem, t0, t1, t5, t7, t10, t11, t12]
    rw [w64 (by omega) (by omega)]
    refine k _ _ _ _ _ _ [r] F5 S5' (fun k => k = b9 ∨ v7.ownBlock = some k) ⟨j9, ⟨⟨[v7], rfl, own9, fun i hh => ?_⟩, fun k hk => ?_, fun k hk => ?_⟩, fun k hk => ?_⟩ hJ ⟨hq4, hrb, by simpa using hrb, by simpa using hc⟩ t0 t1 t5 t7 rfl rfl t11 rfl
    · obtain rfl : i = 0 := by simp at hh; omega
      refine ⟨v7, rfl, (own8.mod m9 fun _ _ h => h).sl, fun k hn hk => ⟨.inr (.inr hk), fun hb => ?_⟩⟩
      have e : b9 = k := by simpa [Value.ownBlock] using hb
      have := own7.lt k hk
      omega
    · have e : b9 = k := by simpa [Value.ownBlock] using hk
      exact .inl e.symm
    · rcases hk with rfl | hk
      · omega
      · have := own7.lt k hk; have := hv7 k hk; omega
    · rcases hk with rfl | hk
      · exact ⟨fun hR => by have := j8.dr.lt k hR; omega, fun hS => by have := j8.lg.lt k hS; omega⟩
      · have := hv7 k hk
        exact ⟨fun hR => by have := j6.dr.lt k hR; omega, fun hS => by have := j6.lg.lt k hS; omega⟩
end
end Go.Proofs.Y

/- JLb: JournalLasts: the walk. -/
namespace Go.Proofs.Y
open Go Go.HL Go.Proofs

section
variable {w : World} {next : Value → World → Prop} {QP : List PanicEntry → World → Prop}

theorem JM.push {w1 : World} {next : Value → Value → World → Prop} {p q : Nat} {d : Dk} {L : Lg} {mv v : Value} {M : List (List Bytes)} {r : List Bytes} {F : FP} {S K V : Nat → Prop} (h : JM w w1 p q d L mv M F S K) (hv : Sl w1 v 1 r.length (r.map str)) (hvk : ∀ k, 0 < r.length → v.ownBlock = some k → k < w.heap.size ∨ V k)
    (hV : ∀ k, V k → w.heap.size ≤ k ∧ k < w1.heap.size ∧ (¬ F.R k ∧ ¬ S k) ∧ mv.ownBlock ≠ some k) (hM : M.length ≤ 1000) (k : ∀ xv mv' w' K', JM w w' p q d L mv' (M ++ [r]) F S K' → next xv mv' w') :
    bslK Try.prog 80 1 [(0, v)] w1 (fun xv w' => appK Try.prog #[80, 80] 80 mv xv w' (next xv) QP) QP := by
  refine bsl1 sl80 (v := v) (cs := [v]) (by obtain ⟨a, c, rfl, -⟩ := hv.form; rfl) rfl (by omega) ?_
  intro b2 w2 hb2 own2 _ m2 hs2
  have h2 := h.mod0 m2
  have hw := h.js.m.size
  have hw2 := m2.size
  refine mb_push h2.mb own2.sl (hv.mod m2 fun _ _ h => h) hvk (fun k hk => ⟨(hV k hk).1, by have := (hV k hk).2.1; omega, (hV k hk).2.2.2⟩) hM (by omega) ?_
  intro mv' w3 K' mb3 hK m3
  have hap : Apart w mv F S := fun k hk => ⟨(h2.mb.lt k (h2.mb.kb k hk)).1, h2.ap k (h2.mb.kb k hk)⟩
  refine k _ mv' w3 K' ⟨h2.js.held hap m3, mb3, fun k hk => ?_⟩
  rcases hK k hk with h' | h' | h'
  · exact h2.ap k h'
  · exact (hV k h').2.2.1
  · exact ⟨fun hR => by have := h2.js.dr.lt k hR; omega, fun hS => by have := h2.js.lg.lt k hS; omega⟩

theorem lasts6 {w1 : World} {p q : Nat} {d : Dk} {L : Lg} {mv v : Value} {M : List (List Bytes)} {r : List Bytes} {F : FP} {S K : Nat → Prop} {τ : Env} {X : HX → Env → World → Prop} (h : JM w w1 p q d L mv M F S K) (own : Own w1 v 9 1 r.length (r.map str))
    (hV : ∀ k, v.ownBlock = some k → w.heap.size ≤ k ∧ (¬ F.R k ∧ ¬ S k) ∧ mv.ownBlock ≠ some k) (hM : M.length ≤ 1000) (t10 : τ 10 = mv) (t14 : τ 14 = v)
    (k : ∀ σ' w' mv' K', JM w w' p q d L mv' (M ++ [r]) F S K' → (∀ j, j < 13 → j ≠ 10 → σ' j = τ j) → σ' 10 = mv' → X .normal σ' w') : hw Try.prog noPanic h15_6 X τ w1 := by
  unfold h15_6
  try simp only [go_sem, t10, t14]
  refine h.push (V := fun k => v.ownBlock = some k) own.sl (fun k _ hk => .inr hk) (fun k hk => ⟨(hV k hk).1, own.lt k hk, (hV k hk).2⟩) hM ?_
  intro xv mv' w' K' h'
  try simp only [go_sem]
  refine k _ _ mv' K' h' (fun j hj hn => ?_) rfl
  simp only [upd]
  repeat rw [if_neg (by omega)]

theorem lasts8 {w1 : World} {p q b : Nat} {d : Dk} {L : Lg} {mv v : Value} {M : List (List Bytes)} {r : List Bytes} {F : FP} {S K : Nat → Prop} {τ : Env} {X : HX → Env → World → Prop} (h : JM w w1 p q d L mv M F S K) (hv : Sl w1 v 1 r.length (r.map str)) (hlt : 0 < r.length → ∀ k, v.ownBlock = some k → k < w.heap.size)
    (hM : M.length ≤ 1000) (y2 : w1.cell? ⟨b, 2, none⟩ = some v) (t10 : τ 10 = mv) (t13 : τ 13 = ptr b)
    (k : ∀ σ' w' mv' K', JM w w' p q d L mv' (M ++ [r]) F S K' → (∀ j, j < 13 → j ≠ 10 → σ' j = τ j) → σ' 10 = mv' → X .normal σ' w') : hw Try.prog noPanic h15_8 X τ w1 := by
  unfold h15_8
  try simp only [go_sem, t10, t13, y2]
  refine h.push (V := fun _ => False) hv (fun k hn hk => .inl (hlt hn k hk)) (fun k hk => hk.elim) hM ?_
  intro xv mv' w' K' h'
  try simp only [go_sem]
  refine k _ _ mv' K' h' (fun j hj hn => ?_) rfl
  simp only [upd]
  repeat rw [if_neg (by omega)]

theorem lasts7 {w1 : World} {p q b : Nat} {d : Dk} {L : Lg} {mv v x : Value} {M : List (List Bytes)} {r s : List Bytes} {F : FP} {S K : Nat → Prop} {τ : Env} {X : HX → Env → World → Prop} (h : JM w w1 p q d L mv M F S K) (hv : Sl w1 v 1 r.length (r.map str)) (hx : Sl w1 x 1 s.length (s.map str)) (hr : r.length ≤ 1000000) (hsl : s.length ≤ 1000000)
    (hM : M.length ≤ 1000) (y2 : w1.cell? ⟨b, 2, none⟩ = some x) (t10 : τ 10 = mv) (t13 : τ 13 = ptr b) (t14 : τ 14 = v)
    (k : ∀ σ' w' mv' K', JM w w' p q d L mv' (M ++ [r ++ s]) F S K' → (∀ j, j < 13 → j ≠ 10 → σ' j = τ j) → σ' 10 = mv' → X .normal σ' w') : hw Try.prog noPanic h15_7 X τ w1 := by
  have hw := h.js.m.size
  unfold h15_7
  try simp only [go_sem, t10, t13, t14, y2]
  refine bsl0 sl40 ?_
  intro b2 w2 hb2 own2 m2 hs2
  have hb2' : w1.heap.size = b2 := hb2
  have y22 := m2.cell (show w1.drew.cell? ⟨b, 2, none⟩ = _ from y2) fun h => h
  have m02 : Mod none' w1 w2 := (Mod.drew none' w1).trans' m2
  try simp only [go_sem, t10, t13, t14, y22]
  refine append_ sl40 (xs := []) own2 (hv.mod m02 fun _ _ h => h) (by intro u hu; obtain ⟨x, -, rfl⟩ := List.mem_map.1 hu; rfl) (by omega) (by unfold maxLen; omega) ?_
  intro v3 w3 own3 m3 hb3 _
  rw [Nat.zero_add, List.nil_append] at own3
  have m03 : Mod none' w1 w3 := m02.trans m3 fun k hk hS => by
    have e : b2 = k := by simpa [ownS, Value.ownBlock] using hS
    omega
  have hf3 : ∀ k, v3.ownBlock = some k → w1.heap.size ≤ k := fun k hk => by
    have := m02.size
    rcases hb3 k hk with h' | h'
    · have e : b2 = k := by simpa [Value.ownBlock] using h'
      omega
    · omega
  have y23 := m03.cell y2 fun h => h
  try simp only [go_sem, t10, t13, t14, y23]
  refine append_ sl40 own3 (hx.mod m03 fun _ _ h => h) (by intro u hu; obtain ⟨x, -, rfl⟩ := List.mem_map.1 hu; rfl) (by omega) (by unfold maxLen; omega) ?_
  intro v4 w4 own4 m4 hb4 _
  have m04 : Mod none' w1 w4 := m03.trans m4 fun k hk hS => by have := hf3 k hS; omega
  have hf4 : ∀ k, v4.ownBlock = some k → w1.heap.size ≤ k := fun k hk => by
    have := m03.size
    rcases hb4 k hk with h' | h'
    · exact hf3 k h'
    · omega
  rw [← List.map_append, ← List.length_append] at own4
  try simp only [go_sem, t10, t13, t14]
  refine (h.mod0 m04).push (V := fun k => v4.ownBlock = some k) own4.sl (fun k _ hk => .inr hk) (fun k hk => ⟨by have := hf4 k hk; omega, own4.lt k hk, ⟨fun hR => ?_, fun hS => ?_⟩, fun hb => ?_⟩) hM ?_
  · have := hf4 k hk; have := h.js.dr.lt k hR; omega
  · have := hf4 k hk; have := h.js.lg.lt k hS; omega
  · have := hf4 k hk; have := h.mb.lt k (h.mb.kb k hb); omega
  intro xv mv' w' K' h'
  try simp only [go_sem]
  refine k _ _ mv' K' h' (fun j hj hn => ?_) rfl
  simp only [upd]
  repeat rw [if_neg (by omega)]

theorem nxt_zero (M : List (List Bytes)) (x : List Bytes) : nxt 0 M x = [] ++ [x] := rfl
theorem nxt_ne {e : Int} (h : ¬ e = 0) (M : List (List Bytes)) (x : List Bytes) : nxt e M x = M ++ [x] := if_neg h
theorem Sm.nxt {n b c n' b' : Nat} {d d' : Dk} {L L' : Lg} {M : List (List Bytes)} (h : Sm n b c d L M) (hb : b ≤ b') {e : Int} {x : List Bytes} (hx : (formsB x).length ≤ b') (hq : d'.queue.length ≤ n') (hl : (formsB L'.rows).length ≤ b') : Sm n' b' (c + 1) d' L' (nxt e M x) := by
  refine ⟨hq, hl, fun r hr => ?_, ?_⟩
  · unfold Y.nxt at hr
    split at hr
    · rw [List.mem_singleton.1 hr]; exact hx
    · rcases List.mem_append.1 hr with h' | h'
      · have := h.m r h'; omega
      · rw [List.mem_singleton.1 h']; exact hx
  · have := h.c
    unfold Y.nxt; split <;> simp; omega

theorem lasts5 {p q i b2 a' : Nat} {d : Dk} {L : Lg} {mv v0 v1 : Value} {M : List (List Bytes)} {F : FP} {S K : Nat → Prop} {a : Deed} {w1 : World} {τ : Env} {X : HX → Env → World → Prop} (h : JM w w1 p q d L mv M F S K) (hj : Jv d L 3 M) (hs : Sm (i * 1400) (i * 1296) (i + 1) d L M) (hi : i ≤ 30)
    (hok : a.OK w) (hfe : a.few1 = true) (nb : (¬ F.R b2 ∧ ¬ S b2) ∧ ¬ K b2 ∧ w.heap.size ≤ b2 ∧ b2 < w1.heap.size)
    (y0 : w1.cell? ⟨b2, 0, none⟩ = some (.int .i64 a.Do)) (y1 : w1.cell? ⟨b2, 1, none⟩ = some (str a.Row)) (y2 : w1.cell? ⟨b2, 2, none⟩ = some a.rv) (y3 : w1.cell? ⟨b2, 3, none⟩ = some a.kv) (y4 : w1.cell? ⟨b2, 4, none⟩ = some (.int .i64 a.N))
    (t0 : τ 0 = v0) (t1 : τ 1 = v1) (t5 : τ 5 = .bool true) (t7 : τ 7 = ptr p) (t8 : τ 8 = ptr q) (t10 : τ 10 = mv) (t11 : τ 11 = .int .i64 a') (t12 : τ 12 = .int .i64 i) (t13 : τ 13 = ptr b2)
    (k : ∀ σ' w' q' d' L' mv' M' F' S' K', JM w w' p q' d' L' mv' M' F' S' K' → Jv d' L' 3 M' → Sm ((i + 1) * 1400) ((i + 1) * 1296) (i + 2) d' L' M' → σ' 0 = v0 → σ' 1 = v1 → σ' 5 = .bool true → σ' 7 = ptr p → σ' 8 = ptr q' → σ' 10 = mv' → σ' 11 = .int .i64 a' → σ' 12 = .int .i64 ((i + 1 : Nat) : Int) → X .normal σ' w') :
    hw Try.prog noPanic h15_5 (blockX 1 (seqX (hw Try.prog noPanic h15_16 X) X)) τ w1 := by
  obtain ⟨hf1, hf2, hf3, hf4, hf5⟩ := Deed.few1_le hfe
  obtain ⟨sq, sl, sm, sc⟩ := id hs
  have hend := hj.end_
  have hwm := h.js.m
  have hw1 := hwm.size
  have lr := fun hn => hok.r.lt (by omega) hn
  have lk := fun hn => hok.k.lt (by omega) hn
  have nF : ∀ k, k < w.heap.size → ¬ F.R k := fun k hk hR => by have := h.js.f0 k hR; omega
  have hlrows := formsB_rows a.rows
  have hlL := formsB_rows L.rows
  unfold h15_5
  try simp only [go_sem, t0, t1, t5, t7, t8, t10, t11, t12, t13]
  refine jall_ h.js.lg ?_
  intro v14 w2 own2 m2 hv2
  have h2 := h.mod0 m2
  have hm2 := hwm.trans' m2
  have s2 := m2.size
  have z0 := m2.cell y0 fun h => h
  have z1 := m2.cell y1 fun h => h
  have z2 := m2.cell y2 fun h => h
  have z3 := m2.cell y3 fun h => h
  have z4 := m2.cell y4 fun h => h
  have hr2 := hok.r.mod hm2 fun _ _ h => h
  have hk2 := hok.k.mod hm2 fun _ _ h => h
  obtain ⟨t, ht⟩ := and_i64 a.Do 7
  -- what is let alone
  have hB : ∀ k, (K k ∨ k = b2 ∨ v14.ownBlock = some k) → k < w2.heap.size := by
    rintro k (hk | rfl | hk)
    · exact (h2.mb.lt k hk).2
    · omega
    · exact own2.lt k hk
  have hA : ∀ k, (K k ∨ k = b2 ∨ v14.ownBlock = some k) → ¬ F.R k ∧ ¬ S k := by
    rintro k (hk | rfl | hk)
    · exact h2.ap k hk
    · exact nb.1
    · have := hv2 k hk
      exact ⟨fun hR => by have := h.js.dr.lt k hR; omega, fun hS => by have := h.js.lg.lt k hS; omega⟩
  obtain ⟨b0, g0, back⟩ := h2.js.left hA hB
  have hmv : ∀ k, v14.ownBlock = some k → mv.ownBlock ≠ some k := fun k hk hb => by
    have := hv2 k hk
    have := h.mb.lt k (h.mb.kb k hb)
    omega
  -- what stands behind a step
  have hJM : ∀ {w4 : World} {q' : Nat} {d' : Dk} {L' : Lg} {F' : FP} {S' : Nat → Prop}, JS w w4 p q' 3 d' L' F' S' → (∀ k, (K k ∨ k = b2 ∨ v14.ownBlock = some k) → ¬ F'.R k ∧ ¬ S' k) → Mod (fun k => ¬ (k < w.heap.size ∨ (K k ∨ k = b2 ∨ v14.ownBlock = some k))) w2 w4 →
      JM w w4 p q' d' L' mv M F' S' K ∧ JM w w4 p q' d' L' (.slice none 0 0) [] F' S' none' ∧ Own w4 v14 9 1 L.rows.length (L.rows.map str) ∧ (∀ k, v14.ownBlock = some k → w.heap.size ≤ k ∧ (¬ F'.R k ∧ ¬ S' k) ∧ mv.ownBlock ≠ some k) ∧ w4.cell? ⟨b2, 2, none⟩ = some a.rv ∧ Sl w4 a.rv 1 a.rows.length (a.rows.map str) := by
    intro w4 q' d' L' F' S' j ap m
    refine ⟨⟨j, h2.mb.mod m (fun k hk hx => hx (.inr (.inl hk))) fun k hk hx => hx (.inl hk), fun k hk => ap k (.inl hk)⟩, ⟨j, MB.nil _ _, fun k hk => hk.elim⟩, own2.mod m fun k hk hx => hx (.inr (.inr (.inr hk))), fun k hk => ⟨by have := hv2 k hk; omega, ap k (.inr (.inr hk)), hmv k hk⟩, m.cell z2 fun hx => hx (.inr (.inr (.inl rfl))), hr2.mod' m fun hn k hk hx => hx (.inl (lr hn k hk))⟩
  have key : ∀ {σ : Env} {w5 : World} {q5 : Nat} {d5 : Dk} {L5 : Lg} {e : Int} {mv5 : Value} {M5 : List (List Bytes)} {F5 : FP} {S5 K5 : Nat → Prop}, JM w w5 p q5 d5 L5 mv5 M5 F5 S5 K5 → Out d5 L5 3 e M5 → Sm ((i + 1) * 1400) ((i + 1) * 1296) (i + 2) d5 L5 M5 →
      σ 0 = v0 → σ 1 = v1 → σ 5 = .bool true → σ 7 = ptr p → σ 8 = ptr q5 → σ 9 = .int .i64 e → σ 10 = mv5 → σ 11 = .int .i64 a' → σ 12 = .int .i64 i → hw Try.prog noPanic h15_9 (blockX 1 (seqX (hw Try.prog noPanic h15_16 X) X)) σ w5 :=
    fun h5 o5 s5 u0 u1 u5 u7 u8 u9 u10 u11 u12 => lasts9 h5 o5 s5 hi (by omega) (by omega) (by omega) (by omega) u0 u1 u5 u7 u8 u9 u10 u11 u12 k
  try simp only [go_sem, t0, t1, t5, t7, t8, t10, t11, t12, t13, z0, ht]
  refine ⟨fun c3 => ?_, fun c3 => ?_⟩
  · refine gflushJ_ g0 (by omega) ?_
    intro w4 gt
    obtain ⟨F4, S4, j4, ap4, m4⟩ := back _ _ _ _ gt
    obtain ⟨er, out⟩ := hj.flushJ (by omega)
    obtain ⟨jm, jn, own4, hV4, -, -⟩ := hJM j4 ap4 m4
    have hq4 := flushJ_queue d L 3
    have sm4 := hs.nxt (n' := (i + 1) * 1400) (b' := (i + 1) * 1296) (d' := (flushJ d L 3).1) (L' := (flushJ d L 3).2.1) (by omega) (e := (flushJ d L 3).2.2) (x := L.rows) (by omega) (by omega) (by rw [er]; omega)
    generalize (flushJ d L 3).1 = d4 at *
    generalize (flushJ d L 3).2.1 = L4 at *
    generalize (flushJ d L 3).2.2 = e4 at *
    try simp only [go_sem, t0, t1, t5, t7, t8, t10, t11, t12, t13]
    refine ⟨fun he => ?_, fun he => ?_⟩
    · have he : e4 = 0 := by simpa using he
      subst he
      rw [nxt_zero] at out sm4
      refine lasts6 jn own4 (fun k hk => ⟨(hV4 k hk).1, (hV4 k hk).2.1, fun hb => nomatch (hb : none = some k)⟩) (by simp) rfl rfl ?_
      intro σ' w' mv' K' h' eq e10
      refine key h' out sm4 ?_ ?_ ?_ ?_ ?_ ?_ e10 ?_ ?_
      · exact (eq 0 (by omega) (by omega)).trans t0
      · exact (eq 1 (by omega) (by omega)).trans t1
      · exact (eq 5 (by omega) (by omega)).trans t5
      · exact (eq 7 (by omega) (by omega)).trans t7
      · exact (eq 8 (by omega) (by omega)).trans t8
      · exact (eq 9 (by omega) (by omega)).trans rfl
      · exact (eq 11 (by omega) (by omega)).trans t11
      · exact (eq 12 (by omega) (by omega)).trans t12
    · have he : ¬ e4 = 0 := by simpa using he
      rw [nxt_ne he] at out sm4
      refine lasts6 jm own4 hV4 (by omega) t10 rfl ?_
      intro σ' w' mv' K' h' eq e10
      refine key h' out sm4 ?_ ?_ ?_ ?_ ?_ ?_ e10 ?_ ?_
      · exact (eq 0 (by omega) (by omega)).trans t0
      · exact (eq 1 (by omega) (by omega)).trans t1
      · exact (eq 5 (by omega) (by omega)).trans t5
      · exact (eq 7 (by omega) (by omega)).trans t7
      · exact (eq 8 (by omega) (by omega)).trans t8
      · exact (eq 9 (by omega) (by omega)).trans rfl
      · exact (eq 11 (by omega) (by omega)).trans t11
      · exact (eq 12 (by omega) (by omega)).trans t12
  refine ⟨fun c4 => ?_, fun c4 => ?_⟩
  · try simp only [go_sem, t0, t1, t5, t7, t8, t10, t11, t12, t13, z2]
    refine gbatch_ g0 hr2 (fun hn k hk => nF k (lr hn k hk)) (by omega) ?_
    intro w4 gt
    obtain ⟨F4, S4, j4, ap4, m4⟩ := back _ _ _ _ gt
    obtain ⟨er, out⟩ := hj.batchJ (by omega) a.rows (by omega)
    obtain ⟨jm, jn, own4, hV4, y24, hr4⟩ := hJM j4 ap4 m4
    have hq4 := batchJ_queue d L 3 a.rows
    have hfl := congrArg List.length (formsB_app L.rows a.rows)
    rw [List.length_append] at hfl
    have sm4 := hs.nxt (n' := (i + 1) * 1400) (b' := (i + 1) * 1296) (d' := (batchJ d L 3 a.rows).1) (L' := (batchJ d L 3 a.rows).2.1) (by omega) (e := (batchJ d L 3 a.rows).2.2) (x := L.rows ++ a.rows) (by omega) (by omega) (by rcases er with er | er <;> rw [er] <;> omega)
    generalize (batchJ d L 3 a.rows).1 = d4 at *
    generalize (batchJ d L 3 a.rows).2.1 = L4 at *
    generalize (batchJ d L 3 a.rows).2.2 = e4 at *
    try simp only [go_sem, t0, t1, t5, t7, t8, t10, t11, t12, t13]
    refine ⟨fun he => ?_, fun he => ?_⟩
    · have he : e4 = 0 := by simpa using he
      subst he
      rw [nxt_zero] at out sm4
      refine lasts7 jn own4.sl hr4 (by omega) (by omega) (by simp) y24 rfl t13 rfl ?_
      intro σ' w' mv' K' h' eq e10
      refine key h' out sm4 ?_ ?_ ?_ ?_ ?_ ?_ e10 ?_ ?_
      · exact (eq 0 (by omega) (by omega)).trans t0
      · exact (eq 1 (by omega) (by omega)).trans t1
      · exact (eq 5 (by omega) (by omega)).trans t5
      · exact (eq 7 (by omega) (by omega)).trans t7
      · exact (eq 8 (by omega) (by omega)).trans t8
      · exact (eq 9 (by omega) (by omega)).trans rfl
      · exact (eq 11 (by omega) (by omega)).trans t11
      · exact (eq 12 (by omega) (by omega)).trans t12
    · have he : ¬ e4 = 0 := by simpa using he
      rw [nxt_ne he] at out sm4
      refine lasts7 jm own4.sl hr4 (by omega) (by omega) (by omega) y24 t10 t13 rfl ?_
      intro σ' w' mv' K' h' eq e10
      refine key h' out sm4 ?_ ?_ ?_ ?_ ?_ ?_ e10 ?_ ?_
      · exact (eq 0 (by omega) (by omega)).trans t0
      · exact (eq 1 (by omega) (by omega)).trans t1
      · exact (eq 5 (by omega) (by omega)).trans t5
      · exact (eq 7 (by omega) (by omega)).trans t7
      · exact (eq 8 (by omega) (by omega)).trans t8
      · exact (eq 9 (by omega) (by omega)).trans rfl
      · exact (eq 11 (by omega) (by omega)).trans t11
      · exact (eq 12 (by omega) (by omega)).trans t12
  refine ⟨fun c5 => ?_, fun c5 => ?_⟩
  · try simp only [go_sem, t0, t1, t5, t7, t8, t10, t11, t12, t13, z2]
    refine grewrite_ g0 (by omega) hr2 (fun hn k hk => ⟨nF k (lr hn k hk), by have := lr hn k hk; omega⟩) (by omega) ?_
    intro w4 gt
    obtain ⟨F4, S4, j4, ap4, m4⟩ := back _ _ _ _ gt
    obtain ⟨er, out⟩ := hj.rewriteJ (by omega) a.rows (by omega)
    obtain ⟨jm, jn, own4, hV4, y24, hr4⟩ := hJM j4 ap4 m4
    have hq4 : (rewriteJ d L 3 a.rows).1.queue.length ≤ d.queue.length + 16 + (formsB a.rows).length := rewr_queue d 3 a.rows
    have sm4 := hs.nxt (n' := (i + 1) * 1400) (b' := (i + 1) * 1296) (d' := (rewriteJ d L 3 a.rows).1) (L' := (rewriteJ d L 3 a.rows).2.1) (by omega) (e := (rewriteJ d L 3 a.rows).2.2) (x := a.rows) (by omega) (by omega) (by rcases er with er | er <;> rw [er] <;> omega)
    generalize (rewriteJ d L 3 a.rows).1 = d4 at *
    generalize (rewriteJ d L 3 a.rows).2.1 = L4 at *
    generalize (rewriteJ d L 3 a.rows).2.2 = e4 at *
    try simp only [go_sem, t0, t1, t5, t7, t8, t10, t11, t12, t13]
    refine ⟨fun he => ?_, fun he => ?_⟩
    · have he : e4 = 0 := by simpa using he
      subst he
      rw [nxt_zero] at out sm4
      refine lasts8 jn hr4 lr (by simp) y24 rfl t13 ?_
      intro σ' w' mv' K' h' eq e10
      refine key h' out sm4 ?_ ?_ ?_ ?_ ?_ ?_ e10 ?_ ?_
      · exact (eq 0 (by omega) (by omega)).trans t0
      · exact (eq 1 (by omega) (by omega)).trans t1
      · exact (eq 5 (by omega) (by omega)).trans t5
      · exact (eq 7 (by omega) (by omega)).trans t7
      · exact (eq 8 (by omega) (by omega)).trans t8
      · exact (eq 9 (by omega) (by omega)).trans rfl
      · exact (eq 11 (by omega) (by omega)).trans t11
      · exact (eq 12 (by omega) (by omega)).trans t12
    · have he : ¬ e4 = 0 := by simpa using he
      rw [nxt_ne he] at out sm4
      refine lasts8 jm hr4 lr (by omega) y24 t10 t13 ?_
      intro σ' w' mv' K' h' eq e10
      refine key h' out sm4 ?_ ?_ ?_ ?_ ?_ ?_ e10 ?_ ?_
      · exact (eq 0 (by omega) (by omega)).trans t0
      · exact (eq 1 (by omega) (by omega)).trans t1
      · exact (eq 5 (by omega) (by omega)).trans t5
      · exact (eq 7 (by omega) (by omega)).trans t7
      · exact (eq 8 (by omega) (by omega)).trans t8
      · exact (eq 9 (by omega) (by omega)).trans rfl
      · exact (eq 11 (by omega) (by omega)).trans t11
      · exact (eq 12 (by omega) (by omega)).trans t12
  refine ⟨fun c6 => ?_, fun c6 => ?_⟩
  · try simp only [go_sem, t0, t1, t5, t7, t8, t10, t11, t12, t13, z3]
    refine crash_ g0.dr hk2 (fun hn hk => ?_) (by omega) ?_
    · have := lk hn p hk
      have := h.js.f0 p (h.js.dr.sub p h.js.dr.self)
      omega
    intro w4 st4
    obtain ⟨F4, S4, j4, ap4, m4⟩ := back _ _ _ _ (g0.disk st4).jt
    obtain ⟨jm, -, -, -, -, -⟩ := hJM j4 ap4 m4
    have hq4 := crash_queue d a.ks
    try simp only [go_sem, t0, t1, t5, t7, t8, t10, t11, t12, t13]
    exact key jm (.inl ⟨rfl, hj.dv.crash (by omega) a.ks⟩) ⟨by omega, by omega, fun r hr => by have := sm r hr; omega, by omega⟩ t0 t1 t5 t7 t8 rfl t10 t11 t12
  refine ⟨fun c7 => ?_, fun c7 => ?_⟩
  · try simp only [go_sem, t0, t1, t5, t7, t8, t10, t11, t12, t13, z4]
    refine jpick_ hok.n (by omega) ?_
    try simp only [go_sem, t0, t1, t5, t7, t8, t10, t11, t12, t13, z4]
    refine lose_ g0.dr (by omega) ?_
    intro w4 dr4 m4 _
    obtain ⟨F4, S4, j4, ap4, m4⟩ := back _ _ _ _ (g0.disk (.of dr4 m4)).jt
    obtain ⟨jm, -, -, -, -, -⟩ := hJM j4 ap4 m4
    try simp only [go_sem, t0, t1, t5, t7, t8, t10, t11, t12, t13]
    exact key jm (.inr ⟨by omega, hj.lose _⟩) ⟨show d.queue.length ≤ _ by omega, by omega, fun r hr => by have := sm r hr; omega, by omega⟩ t0 t1 t5 t7 t8 rfl t10 t11 t12
  · have hf1' : (formsB [a.Row]).length = 16 + a.Row.length := by simp [formsB, formB_len]
    have hfl := congrArg List.length (formsB_app L.rows [a.Row])
    rw [List.length_append] at hfl
    try simp only [go_sem, t0, t1, t5, t7, t8, t10, t11, t12, t13, z1]
    refine gappend1_ g0 (by omega) ?_
    intro w4 gt
    obtain ⟨F4, S4, j4, ap4, m4⟩ := back _ _ _ _ gt
    obtain ⟨jm, -, -, -, -, -⟩ := hJM j4 ap4 m4
    have hq4 := addJ_queue d L 3 [a.Row]
    try simp only [go_sem, t0, t1, t5, t7, t8, t10, t11, t12, t13]
    rcases hj.add (by omega) (new := [a.Row]) (by simp) (by omega) with ⟨e, hfa⟩ | ⟨e, hja⟩
    · rw [e] at jm ⊢
      rw [if_neg (by omega)] at jm
      exact key jm (.inl ⟨rfl, hfa⟩) ⟨by omega, by omega, fun r hr => by have := sm r hr; omega, by omega⟩ t0 t1 t5 t7 t8 rfl t10 t11 t12
    · rw [e] at jm ⊢
      rw [if_pos rfl] at jm
      exact key jm (.inr ⟨by omega, hja⟩) ⟨by omega, by show (formsB (L.rows ++ [a.Row])).length ≤ _; omega, fun r hr => by have := sm r hr; omega, by omega⟩ t0 t1 t5 t7 t8 rfl t10 t11 t12

theorem lasts4 {al : List Deed} {ats : List Int} {gb o c i p q a' : Nat} {d : Dk} {L : Lg} {mv v1 : Value} {M : List (List Bytes)} {F : FP} {S K : Nat → Prop} {w1 : World} {τ : Env} {X : HX → Env → World → Prop} (hi : i < al.length) (hl : Sl w (.slice (some ⟨gb, o, none⟩) al.length c) 5 al.length (rows Deed.cells al)) (ha : ∀ a ∈ al, a.OK w) (hn : al.length ≤ 30) (hfe : ∀ a ∈ al, a.few1 = true)
    (hv1 : Sl w v1 1 ats.length (ints ats)) (hats : ∀ n ∈ ats, i64 n) (hal : ats.length ≤ 10) (haa : a' ≤ ats.length)
    (h : JM w w1 p q d L mv M F S K) (hj : Jv d L 3 M) (hs : Sm (i * 1400) (i * 1296) (i + 1) d L M)
    (t0 : τ 0 = .slice (some ⟨gb, o, none⟩) al.length c) (t1 : τ 1 = v1) (t5 : τ 5 = .bool true) (t7 : τ 7 = ptr p) (t8 : τ 8 = ptr q) (t10 : τ 10 = mv) (t11 : τ 11 = .int .i64 a') (t12 : τ 12 = .int .i64 i)
    (k : ∀ σ' w' q' d' L' mv' M' F' S' K' a', a' ≤ ats.length → JM w w' p q' d' L' mv' M' F' S' K' → Jv d' L' 3 M' → Sm ((i + 1) * 1400) ((i + 1) * 1296) (i + 2) d' L' M' → σ' 0 = .slice (some ⟨gb, o, none⟩) al.length c → σ' 1 = v1 → σ' 5 = .bool true → σ' 7 = ptr p → σ' 8 = ptr q' → σ' 10 = mv' → σ' 11 = .int .i64 (a' : Nat) → σ' 12 = .int .i64 ((i + 1 : Nat) : Int) → X .normal σ' w') :
    hw Try.prog noPanic h15_4 X τ w1 := by
  obtain ⟨gb', o', c', hva, hA⟩ := deed_at hl hi
  simp only [Value.slice.injEq, Option.some.injEq, Addr.mk.injEq] at hva
  obtain ⟨⟨rfl, rfl, -⟩, -, rfl⟩ := hva
  have hwm := h.js.m
  obtain ⟨x0, xs, x1, x2, x3⟩ := hA w1 hwm
  have hmem := List.getElem_mem hi
  have hok := ha _ hmem
  have hfe := hfe _ hmem
  have hone := Deed.one (ha _ hmem)
  generalize al[i] = a at *
  obtain ⟨va, vc, rfl, hvc, hcell⟩ := hv1.form
  have hw1 := hwm.size
  unfold h15_4
  try simp only [go_sem, t0, t12, x0]
  refine ⟨⟨by omega, by omega⟩, xs, ?_⟩
  refine alloc_ (z := .agg #[.int .i64 0, str [], .slice none 0 0, .slice none 0 0, .int .i64 0]) (cs := [.int .i64 0, str [], .slice none 0 0, .slice none 0 0, .int .i64 0]) (by kernel_rfl) rfl ?_
  intro b2 w2 hb2 blk2 m2 hs2
  refine storeN (n := 5) (vs := a.cells) (by kernel_rfl) rfl blk2 (by simp) hone ?_
  intro w3 blk3 m3 hs3
  have m13 : Mod none' w1 w3 := m2.trans m3 fun k hk (e : k = b2) => by omega
  simp only [List.take_zero, List.nil_append, Nat.zero_add, List.drop_of_length_le (show ([Value.int IntKind.i64 0, str [], .slice none 0 0, .slice none 0 0, .int .i64 0] : List Value).length ≤ 5 by simp), List.append_nil] at blk3
  have y0 : w3.cell? ⟨b2, 0, none⟩ = some (.int .i64 a.Do) := by rw [blk3.cell]; rfl
  have y1 : w3.cell? ⟨b2, 1, none⟩ = some (str a.Row) := by rw [blk3.cell]; rfl
  have y2 : w3.cell? ⟨b2, 2, none⟩ = some a.rv := by rw [blk3.cell]; rfl
  have y3 : w3.cell? ⟨b2, 3, none⟩ = some a.kv := by rw [blk3.cell]; rfl
  have y4 : w3.cell? ⟨b2, 4, none⟩ = some (.int .i64 a.N) := by rw [blk3.cell]; rfl
  have h3 := h.mod0 m13
  have hm3 := hwm.trans' m13
  have nb : (¬ F.R b2 ∧ ¬ S b2) ∧ ¬ K b2 ∧ w.heap.size ≤ b2 ∧ b2 < w3.heap.size := ⟨⟨fun hR => by have := h.js.dr.lt _ hR; omega, fun hS => by have := h.js.lg.lt _ hS; omega⟩, fun hK => by have := h.mb.lt _ hK; omega, by omega, by omega⟩
  have hk3 := hok.k.mod hm3 fun _ _ h => h
  obtain ⟨hf1, hf2, hf3, hf4, hf5⟩ := Deed.few1_le hfe
  have sq := hs.q
  try simp only [go_sem, t0, t1, t5, t7, t8, t10, t11, t12]
  refine ⟨by decide, fun hc => ?_, fun hc => ?_⟩
  · have hlt : a' < ats.length := by
      split at hc
      · simpa using hc
      · cases hc
    obtain ⟨g1, o1, rfl, hcl⟩ := hcell (by omega)
    have x1 : w3.cell? ⟨g1, o1 + a', none⟩ = some (.int .i64 ats[a']) := by
      have e := hcl a' (by omega)
      rw [ints, List.getElem?_map, List.getElem?_eq_getElem hlt] at e
      exact hm3.cell e fun h => h
    have hB : ∀ k, (K k ∨ k = b2) → k < w3.drew.heap.size := by
      rintro k (hk | rfl)
      · exact ((h3.mod0 (Mod.drew none' w3)).mb.lt k hk).2
      · exact nb.2.2.2
    have hA : ∀ k, (K k ∨ k = b2) → ¬ F.R k ∧ ¬ S k := by
      rintro k (hk | rfl)
      · exact h3.ap k hk
      · exact nb.1
    have h4 := h3.mod0 (Mod.drew none' w3)
    obtain ⟨b0, g0, back⟩ := h4.js.left hA hB
    try simp only [go_sem, t0, t1, t5, t7, t8, t10, t11, t12, x1, y3]
    repeat refine ⟨⟨by omega, by omega⟩, ?_⟩
    refine arm_ g0.dr (hats _ (List.getElem_mem hlt)).2 (hk3.mod (Mod.drew none' w3) fun _ _ h => h) (by omega) ?_
    intro w5 st5
    obtain ⟨F5, S5, j5, ap5, m5⟩ := back _ _ _ _ (g0.disk st5).jt
    have s5 := m5.size
    have s34 : w3.drew.heap.size = w3.heap.size := rfl
    have jm5 : JM w w5 p q (d.arm ats[a'] a.ks) L mv M F5 S5 K := ⟨j5, h4.mb.mod m5 (fun k hk hx => hx (.inr (.inl hk))) fun k hk hx => hx (.inl hk), fun k hk => ap5 k (.inl hk)⟩
    rw [w64 (by omega) (by omega)]
    have hbb : ∀ {j v}, w3.cell? ⟨b2, j, none⟩ = some v → w5.cell? ⟨b2, j, none⟩ = some v := fun {j v} hc => m5.cell (show w3.drew.cell? ⟨b2, j, none⟩ = some v from hc) fun hx => hx (.inr (.inr rfl))
    refine lasts5 (a' := a' + 1) jm5 (hj.arm _ _) ⟨hs.q, hs.l, hs.m, hs.c⟩ (by omega) hok hfe ⟨ap5 b2 (.inr rfl), nb.2.1, nb.2.2.1, by omega⟩ (hbb y0) (hbb y1) (hbb y2) (hbb y3) (hbb y4) t0 t1 t5 t7 t8 t10 rfl t12 rfl ?_
    intro σ' w' q' d' L' mv' M' F' S' K' hJ hV hS z0 z1 z5 z7 z8 z10 z11 z12
    exact k σ' w' q' d' L' mv' M' F' S' K' (a' + 1) (by omega) hJ hV hS z0 z1 z5 z7 z8 z10 z11 z12
  · refine lasts5 (a' := a') h3 hj hs (by omega) hok hfe nb y0 y1 y2 y3 y4 t0 t1 t5 t7 t8 t10 t11 t12 rfl ?_
    intro σ' w' q' d' L' mv' M' F' S' K' hJ hV hS z0 z1 z5 z7 z8 z10 z11 z12
    exact k σ' w' q' d' L' mv' M' F' S' K' a' haa hJ hV hS z0 z1 z5 z7 z8 z10 z11 z12

theorem jlasts_ {v v1 : Value} {al : List Deed} {ats : List Int} (hl : Sl w v 5 al.length (rows Deed.cells al)) (ha : ∀ a ∈ al, a.OK w) (hv1 : Sl w v1 1 ats.length (ints ats)) (hats : ∀ n ∈ ats, i64 n) (k : ∀ w', Mod none' w w' → next (.bool true) w') : callK Try.prog 15 [v, v1] w next QP := by
  refine q15 rfl ?_
  obtain ⟨va, vc, rfl, -, hvc⟩ := hl.form
  obtain ⟨ta, tc, rfl, -⟩ := hv1.form
  unfold h15
  try simp only [go_sem]
  refine jsmall_ ?_
  intro w1 m1
  try simp only [go_sem]
  refine fewJ_ (hl.mod m1 fun _ _ h => h) (fun a h => (ha a h).mod0 m1) ?_
  try simp only [go_sem]
  refine ⟨fun _ => k _ m1, fun hf => ?_⟩
  have hf : fewJ al = true ∧ ats.length ≤ 10 := by
    cases hx : fewJ al with
    | false => rw [hx] at hf; simp at hf
    | true => rw [hx] at hf; simp at hf; exact ⟨rfl, by omega⟩
  obtain ⟨hf, h10⟩ := hf
  simp only [fewJ, Bool.and_eq_true, decide_eq_true_eq, List.all_eq_true] at hf
  unfold h15_1
  try simp only [go_sem]
  refine jnew_ ?_
  intro p w3 F3 dr3 f3 m3
  have s1 := m1.size
  try simp only [go_sem]
  refine jopen_ (g := 3) dr3 (fun k hk => by have := f3 k hk; omega) (m1.trans' m3) rfl (by omega) rfl (openB_core (s := []) .nil (by decide)) ?_
  intro q4 w4 S4 h4 m4
  try simp only [go_sem]
  unfold h15_2
  try simp only [go_sem]
  refine bsl1 sl80 (v := .slice none 0 0) (cs := [.slice none 0 0]) rfl rfl (by omega) ?_
  intro b5 w5 hb5 own5 _ m5 hs5
  have h5 := h4.mod0 m5
  have s5 := h5.m.size
  try simp only [go_sem]
  refine loopN al.length (fun i τ w' => ∃ q d L mv M F S K, ∃ a' : Nat, a' ≤ ats.length ∧ JM w w' p q d L mv M F S K ∧ Jv d L 3 M ∧ Sm (i * 1400) (i * 1296) (i + 1) d L M ∧ τ 0 = .slice va al.length vc ∧ τ 1 = .slice ta ats.length tc ∧ τ 5 = .bool true ∧ τ 7 = ptr p ∧ τ 8 = ptr q ∧ τ 10 = mv ∧ τ 11 = .int .i64 a' ∧ τ 12 = .int .i64 i)
    ⟨0, by omega, q4, Dk.new, ⟨[], 0, 16⟩, .slice (some ⟨b5, 0, none⟩) 1 1, [[]], F3, S4, fun k => k = b5, 0, by omega, ⟨h5, ⟨⟨[.slice none 0 0], rfl, own5, fun i hh => ?_⟩, fun k hk => ?_, fun k hk => ?_⟩, fun k hk => ?_⟩, Jv.new, ⟨by decide, by decide, by decide, by decide⟩, rfl, rfl, rfl, rfl, rfl, rfl, rfl, rfl⟩ ?_
  · obtain rfl : i = 0 := by simp at hh; omega
    exact ⟨_, rfl, (Own.nil _ 9 1).sl, fun k hn => by simp at hn⟩
  · have e : b5 = k := by simpa [Value.ownBlock] using hk
    exact e.symm
  · have hs4 := h4.m.size
    omega
  · subst hk
    exact ⟨fun hR => by have := h4.dr.lt _ hR; omega, fun hS => by have := h4.lg.lt _ hS; omega⟩
  rintro i τ w7 hi ⟨q, d, L, mv, M, F, S, K, a', haa, hJ, hV, hS, t0, t1, t5, t7, t8, t10, t11, t12⟩
  unfold h15_3
  try simp only [go_sem, t0, t12]
  refine ⟨fun hlt => ?_, fun hge => ?_⟩
  · have hil : i < al.length := by
      have : (i : Int) < al.length := by simpa using hlt
      omega
    obtain ⟨gb, o, rfl, -⟩ := hvc (by omega)
    refine lasts4 hil hl ha hf.1 hf.2 hv1 hats h10 haa hJ hV hS t0 t1 t5 t7 t8 t10 t11 t12 ?_
    intro σ' w' q' d' L' mv' M' F' S' K' a'' haa' hJ' hV' hS' z0 z1 z5 z7 z8 z10 z11 z12
    exact ⟨i + 1, by omega, by omega, q', d', L', mv', M', F', S', K', a'', haa', hJ', hV', hS', z0, z1, z5, z7, z8, z10, z11, z12⟩
  · unfold h15_17
    try simp only [go_sem, t5]
    exact k _ hJ.js.m
end
end Go.Proofs.Y

/- JV: deeds that came in with a call. -/
namespace Go.Proofs.Y
open Go Go.HL Go.Proofs Go.ChangeShapes Go.WideShapes Go.Deep

noncomputable def fs65 : Array Field := match Try.prog.underlying 65 with | some (.struct fs) => fs | _ => #[]
theorem u65 : Try.prog.underlying 65 = some (.struct fs65) := by kernel_rfl
theorem fs65_size : fs65.size = 5 := by kernel_rfl
theorem cells65 : Try.prog.cellsOf 65 = 5 := by kernel_rfl
theorem cells40 : Try.prog.cellsOf 40 = 1 := by kernel_rfl
theorem fld65 (i o t : Nat) (h : (fs65[i]?).map (fun f => (f.offset, f.type)) = some (o, t)) : ∃ f, fs65[i]? = some f ∧ f.offset = o ∧ f.type = t := by
  obtain ⟨f, hf, he⟩ := Option.map_eq_some_iff.1 h
  simp only [Prod.mk.injEq] at he
  exact ⟨f, hf, he.1, he.2⟩

section
variable {H : Type} {enc : TypeId × Value → H} {w : World}

theorem deed_in {fuel : Nat} {cs : List Value} {x : DataW H × List MemPlace} (h : DataW.trod enc Try.prog w 0 (fun _ => true) true fuel 65 cs = some x) :
    ∃ a : Deed, cs = a.cells ∧ a.OK w := by
  obtain ⟨xs, n, rfl, rfl, hlen, hxl, hf⟩ := DataW.trod_struct u65 h
  rw [cells65] at hlen
  rw [fs65_size] at hxl
  match cs, hlen with
  | [c0, c1, c2, c3, c4], _ =>
  match xs, hxl with
  | [y0, y1, y2, y3, y4], _ =>
  obtain ⟨f0, g0, o0, e0⟩ := fld65 0 0 3 (by kernel_rfl)
  obtain ⟨f1, g1, o1, e1⟩ := fld65 1 1 9 (by kernel_rfl)
  obtain ⟨f2, g2, o2, e2⟩ := fld65 2 2 40 (by kernel_rfl)
  obtain ⟨f3, g3, o3, e3⟩ := fld65 3 3 22 (by kernel_rfl)
  obtain ⟨f4, g4, o4, e4⟩ := fld65 4 4 3 (by kernel_rfl)
  have h0 := hf 0 f0 g0
  have h1 := hf 1 f1 g1
  have h2 := hf 2 f2 g2
  have h3 := hf 3 f3 g3
  have h4 := hf 4 f4 g4
  rw [o0, e0, cells3] at h0
  rw [o1, e1, cells9] at h1
  rw [o2, e2, cells40] at h2
  rw [o3, e3, cells22] at h3
  rw [o4, e4, cells3] at h4
  obtain ⟨n0, k0, rfl, w0⟩ := DataW.trod_int (x := y0) Try.underlying3 h0
  obtain ⟨s1, k1, rfl, w1⟩ := DataW.trod_string (x := y1) Try.underlying9 h1
  obtain ⟨n4, k4, rfl, w4⟩ := DataW.trod_int (x := y4) Try.underlying3 h4
  have hs2 : ∃ a len cap, c2 = .slice a len cap := by
    rcases open_strings (x := y2) Try.underlying40 Try.underlying9 (by kernel_rfl) h2 with ⟨hcs, -⟩ | ⟨x, l, c, ss, hcs, -⟩
    · simp at hcs; exact ⟨_, _, _, hcs⟩
    · simp at hcs; exact ⟨_, _, _, hcs⟩
  have hs3 : ∃ a len cap, c3 = .slice a len cap := by
    rcases open_ints (x := y3) Try.underlying22 Try.underlying3 (by kernel_rfl) h3 with ⟨hcs, -⟩ | ⟨x, l, c, ss, hcs, -⟩
    · simp at hcs; exact ⟨_, _, _, hcs⟩
    · simp at hcs; exact ⟨_, _, _, hcs⟩
  have hc2 : c2.cells.toList = [c2] := by obtain ⟨a, l, c, rfl⟩ := hs2; rfl
  have hc3 : c3.cells.toList = [c3] := by obtain ⟨a, l, c, rfl⟩ := hs3; rfl
  obtain ⟨ls, hls, -⟩ := strs_in (enc := enc) (w := w) (d := y2.1) (ps := y2.2) Try.underlying40 Try.underlying9 (by kernel_rfl) hs2 ⟨n, by rw [hc2]; exact h2⟩
  obtain ⟨zs, hz, -, -⟩ := ints_in (enc := enc) (w := w) (d := y3.1) (ps := y3.2) Try.underlying22 Try.underlying3 (by kernel_rfl) hs3 ⟨n, by rw [hc3]; exact h3⟩
  simp at k0 k1 k4
  subst k0 k1 k4
  exact ⟨⟨n0, s1.data.toList, c2, ls, c3, zs, n4⟩, rfl, wf64 w0, wf64 w4, hls, by simpa [ints] using hz⟩

theorem deeds_in {v : Value} {d : DataW H} {ps : List MemPlace} (hv : ∃ a len cap, v = .slice a len cap) (h : DataW.Trod enc Try.prog w 0 (fun _ => true) true 66 v d ps) :
    ∃ al : List Deed, Sl w v 5 al.length (rows Deed.cells al) ∧ (∀ a ∈ al, a.OK w) := by
  obtain ⟨a, len, cap, rfl⟩ := hv
  obtain ⟨fuel, hf⟩ := h
  rcases open_slice Try.underlying66 hf with ⟨hcs, -⟩ | ⟨x, l, c, m, n, D, Pl, hcs, -, hl, -, hm, hx, hall⟩
  · simp [Value.cells] at hcs
    obtain ⟨rfl, rfl, rfl⟩ := hcs
    exact ⟨[], (Own.nil w 0 5).sl, fun n hn => (nomatch hn)⟩
  · simp [Value.cells] at hcs
    obtain ⟨rfl, rfl, rfl⟩ := hcs
    have hm : m = cap := by simpa using hm
    subst hm
    simp only [cells65] at hall
    obtain ⟨al, hal, hR⟩ := list_of (R := fun i (a : Deed) => (∀ j, j < 5 → w.cell? ((x.add (i * 5)).add j) = a.cells[j]?) ∧ a.OK w) len fun i hi => by
      obtain ⟨cs', h1, h2⟩ := hall i (by omega)
      obtain ⟨a, rfl, a1⟩ := deed_in h2
      obtain ⟨-, -, hc⟩ := World.cells?_some h1
      exact ⟨a, hc, a1⟩
    refine ⟨al, ?_, fun a ha => ?_⟩
    · subst hal
      refine ⟨rows_len Deed.cells_len al, some x, m, rfl, hl, fun h0 => ?_⟩
      have hs : x.spot = none := by
        have := (hR 0 h0).1 0 (by omega)
        have e : (x.add (0 * 5)).add 0 = x := rfl
        rw [e] at this
        exact World.cell?_spot this
      obtain ⟨b, o, s⟩ := x
      simp only at hs
      subst hs
      refine ⟨b, o, rfl, fun j hj => ?_⟩
      have hj6 : j / 5 < al.length := by omega
      have := (hR (j / 5) hj6).1 (j % 5) (Nat.mod_lt _ (by omega))
      rw [e_add, e_add] at this
      rw [show o + j = o + j / 5 * 5 + j % 5 by omega, this, ← rows_get Deed.cells_len al (j / 5) (j % 5) hj6 (Nat.mod_lt _ (by omega))]
      congr 1; omega
    · obtain ⟨i, hi, rfl⟩ := List.getElem_of_mem ha
      exact (hR i hi).2
end
end Go.Proofs.Y
