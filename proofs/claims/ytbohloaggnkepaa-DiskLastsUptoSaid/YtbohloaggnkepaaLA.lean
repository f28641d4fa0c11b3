/- LA: plain laws for DiskLasts. -/
import Derived.Test.YtbohloaggnkepaaDU
import Derived.Test.YtbohloaggnkepaaDV
import Derived.Test.YtbohloaggnkepaaDP
set_option linter.unusedSimpArgs false
set_option linter.unusedVariables false
namespace Go.Proofs.Y
open Go Go.HL

/-- byte i of a file is what operation a wrote there -/
def wrote (a : Act) (f : Int) (i : Nat) (b : UInt8) : Prop := a.F = f ∧ 0 ≤ (i : Int) - a.N ∧ (i : Int) - a.N < a.S.length ∧ a.S[((i : Int) - a.N).toNat]? = some b

/-- what a crash may leave -/
def okAt (safe : Bytes) (al : List Act) (f : Int) (i : Nat) (b : UInt8) : Prop := (i < safe.length ∧ safe[i]? = some b) ∨ (safe.length ≤ i ∧ b = 0) ∨ ∃ a ∈ al, wrote a f i b
def Here (s safe : Bytes) (al : List Act) (f : Int) : Prop := safe.length ≤ s.length ∧ ∀ i b, s[i]? = some b → okAt safe al f i b

theorem put_get {s t : Bytes} {o i : Nat} {b : UInt8} (h : (put s o t)[i]? = some b) : (o ≤ i ∧ i < o + t.length ∧ t[i - o]? = some b) ∨ (i < s.length ∧ s[i]? = some b) ∨ (s.length ≤ i ∧ b = 0) := by
  unfold put lay at h
  have hz : ∀ j c, (s ++ List.replicate (max s.length (o + t.length) - s.length) 0)[j]? = some c → (j < s.length ∧ s[j]? = some c) ∨ (s.length ≤ j ∧ c = 0) := by
    intro j c hc
    rcases Nat.lt_or_ge j s.length with hj | hj
    · rw [List.getElem?_append_left hj] at hc; exact .inl ⟨hj, hc⟩
    · rw [List.getElem?_append_right hj, List.getElem?_replicate] at hc
      split at hc
      · exact .inr ⟨hj, (Option.some.inj hc).symm⟩
      · cases hc
  have hlen : (s ++ List.replicate (max s.length (o + t.length) - s.length) (0 : UInt8)).length = max s.length (o + t.length) := by rw [List.length_append, List.length_replicate]; omega
  generalize s ++ List.replicate (max s.length (o + t.length) - s.length) (0 : UInt8) = z at h hz hlen
  have hto : (z.take o).length = o := by rw [List.length_take]; omega
  rw [List.append_assoc] at h
  rcases Nat.lt_or_ge i o with hi | hi
  · rw [List.getElem?_append_left (by omega), List.getElem?_take_of_lt hi] at h
    exact .inr (hz i b h)
  · rw [List.getElem?_append_right (by omega), hto] at h
    rcases Nat.lt_or_ge (i - o) t.length with ht | ht
    · rw [List.getElem?_append_left ht] at h
      exact .inl ⟨hi, by omega, h⟩
    · rw [List.getElem?_append_right ht, List.getElem?_drop] at h
      rw [show o + t.length + (i - o - t.length) = i by omega] at h
      exact .inr (hz i b h)

/-- a pending write whose bytes the operations wrote -/
def Backed (al : List Act) (p : Pd) : Prop := ∀ j b, p.bytes[j]? = some b → ∃ a ∈ al, wrote a p.file (p.at_ + j) b

theorem kept_pre {k : Option Int} {s t : Bytes} (h : kept k s = some t) : ∀ (j : Nat) (b : UInt8), t[j]? = some b → s[j]? = some b := by
  intro j b hj
  unfold kept at h
  split at h
  · cases h
  · split at h
    · cases h; exact hj
    · split at h
      · cases h
        rw [List.getElem?_take] at hj
        split at hj
        · exact hj
        · cases hj
      · cases h

theorem here_surv {L : List Bytes} {p : Pd} {k : Option Int} {safe : Bytes} {al : List Act} {g : Nat} (h : Here (L.getD g []) safe al g) (hp : p.file = g → Backed al p) : Here ((surv L p k).getD g []) safe al g := by
  by_cases hg : p.file = g
  · unfold surv
    split
    · exact h
    · rename_i c hc
      rcases Nat.lt_or_ge p.file L.length with hl | hl
      · rw [← hg] at h ⊢
        simp only [List.getD_eq_getElem?_getD, List.getElem?_set_self hl, Option.getD_some] at h ⊢
        refine ⟨by rw [put_len]; have := h.1; omega, fun i b hb => ?_⟩
        rcases put_get hb with ⟨h1, h2, h3⟩ | ⟨h1, h2⟩ | ⟨h1, h2⟩
        · have := hp hg (i - p.at_) b (kept_pre hc _ _ h3)
          rw [show p.at_ + (i - p.at_) = i by omega] at this
          exact .inr (.inr this)
        · exact h.2 i b h2
        · exact .inr (.inl ⟨by have := h.1; omega, h2⟩)
      · rw [List.set_eq_of_length_le hl]; exact h
  · rw [surv_other hg]; exact h
theorem here_survs {safe : Bytes} {al : List Act} {g : Nat} : ∀ (q : List Pd) (L : List Bytes) (ks : List Int), Here (L.getD g []) safe al g → (∀ p ∈ q, p.file = g → Backed al p) → Here ((survs L q ks).getD g []) safe al g
  | [], _, _, h, _ => h
  | p :: q, L, ks, h, hq => here_survs q _ _ (here_surv h (hq p (by simp))) fun x hx => hq x (by simp [hx])
theorem here_self (s : Bytes) (al : List Act) (f : Int) : Here s s al f := ⟨Nat.le_refl _, fun i b h => .inl ⟨(List.getElem?_eq_some_iff.1 h).1, h⟩⟩

/-- the pieces of a write are backed by it -/
theorem pieces_backed (a : Act) (f : Nat) (hf : a.F = f) : ∀ (n at_ : Nat) (s : Bytes), (∀ j b, s[j]? = some b → wrote a f (at_ + j) b) → ∀ p ∈ pieces f n at_ s, Backed [a] p
  | 0, _, _, _, p, h => by simp [pieces] at h
  | n + 1, at_, s, hs, p, h => by
    simp only [pieces] at h
    split at h
    · cases h
    · rcases List.mem_cons.1 h with rfl | h
      · intro j b hj
        rw [List.getElem?_take] at hj
        split at hj
        · exact ⟨a, by simp, hs j b hj⟩
        · cases hj
      · refine pieces_backed a f hf n _ _ (fun j b hj => ?_) p h
        rw [List.getElem?_drop] at hj
        have := hs _ b hj
        rw [← Nat.add_assoc] at this; exact this
theorem Backed.mono {al bl : List Act} {p : Pd} (h : Backed al p) (hs : ∀ a ∈ al, a ∈ bl) : Backed bl p := fun j b hj => by
  obtain ⟨a, ha, hw⟩ := h j b hj; exact ⟨a, hs a ha, hw⟩
/-- the operations on other files -/
def without (al : List Act) (f : Int) : List Act := al.filter fun a => !decide (a.F = f)
theorem Backed.without {al : List Act} {p : Pd} {f : Int} (h : Backed al p) (hf : (p.file : Int) ≠ f) : Backed (without al f) p := fun j b hj => by
  obtain ⟨a, ha, hw⟩ := h j b hj
  exact ⟨a, List.mem_filter.2 ⟨ha, by rw [hw.1]; simp [hf]⟩, hw⟩
end Go.Proofs.Y
