/- RA: plain laws for the reference's disk: files out of the durable parts and what is pending. -/
import Derived.Test.YtgalileklafbbaaDK
set_option linter.unusedSimpArgs false
set_option linter.unusedVariables false
set_option maxRecDepth 100000
namespace Go.Proofs.Y
open Go Go.HL

/-- the pending writes laid over a file -/
def putAll (s : Bytes) : List Pd → Nat → Bytes
  | [], _ => s
  | p :: q, f => putAll (if p.file = f then put s p.at_ p.bytes else s) q f
def Sync (d : Dk) : Prop := ∀ f, f < 12 → d.file f = putAll (d.last f) d.queue f

theorem putAll_app {f : Nat} : ∀ (q r : List Pd) (s : Bytes), putAll s (q ++ r) f = putAll (putAll s q f) r f
  | [], _, _ => rfl
  | p :: q, r, s => by simp only [List.cons_append, putAll, putAll_app q r]
theorem putAll_other {f : Nat} : ∀ (q : List Pd) (s : Bytes), (∀ p ∈ q, p.file ≠ f) → putAll s q f = s
  | [], _, _ => rfl
  | p :: q, s, h => by
    simp only [putAll]
    rw [if_neg (h p (by simp)), putAll_other q s fun p hp => h p (by simp [hp])]
theorem putAll_filter {f g : Nat} (h : g ≠ f) : ∀ (q : List Pd) (s : Bytes), putAll s (q.filter fun p => !decide (p.file = f)) g = putAll s q g
  | [], _ => rfl
  | p :: q, s => by
    by_cases hp : p.file = f
    · rw [List.filter_cons_of_neg (by simp [hp]), putAll_filter h q]
      simp only [putAll]
      rw [if_neg (by omega)]
    · rw [List.filter_cons_of_pos (by simp [hp])]
      simp only [putAll, putAll_filter h q]
theorem putAll_le {f : Nat} {N : Nat} : ∀ (q : List Pd) (s : Bytes), s.length ≤ N → (∀ p ∈ q, p.at_ + p.bytes.length ≤ N) → (putAll s q f).length ≤ N
  | [], _, hs, _ => hs
  | p :: q, s, hs, h => by
    simp only [putAll]
    refine putAll_le q _ ?_ fun p hp => h p (by simp [hp])
    split
    · rw [put_len]; have := h p (by simp); omega
    · exact hs

theorem put_at (s : Bytes) (o : Nat) (t : Bytes) (i : Nat) : (put s o t)[i]? = if o ≤ i ∧ i < o + t.length then t[i - o]? else if i < s.length then s[i]? else if i < o + t.length then some 0 else none := by
  unfold put lay
  have hlen : (s ++ List.replicate (max s.length (o + t.length) - s.length) (0 : UInt8)).length = max s.length (o + t.length) := by rw [List.length_append, List.length_replicate]; omega
  have hz : ∀ j, (s ++ List.replicate (max s.length (o + t.length) - s.length) (0 : UInt8))[j]? = if j < s.length then s[j]? else if j < o + t.length then some 0 else none := by
    intro j
    by_cases hj : j < s.length
    · rw [List.getElem?_append_left hj, if_pos hj]
    · rw [List.getElem?_append_right (by omega), if_neg hj, List.getElem?_replicate]
      by_cases h2 : j < o + t.length
      · rw [if_pos (by omega), if_pos h2]
      · rw [if_neg (by omega), if_neg h2]
  generalize s ++ List.replicate (max s.length (o + t.length) - s.length) (0 : UInt8) = z at hz hlen
  have hto : (z.take o).length = o := by rw [List.length_take]; omega
  rw [List.append_assoc]
  by_cases h1 : i < o
  · have hn : ¬ (o ≤ i ∧ i < o + t.length) := by omega
    rw [List.getElem?_append_left (by omega), List.getElem?_take_of_lt h1, hz, if_neg hn]
  · rw [List.getElem?_append_right (by omega), hto]
    by_cases h2 : i - o < t.length
    · rw [List.getElem?_append_left h2, if_pos (by omega)]
    · have hn : ¬ (o ≤ i ∧ i < o + t.length) := by omega
      rw [List.getElem?_append_right (by omega), List.getElem?_drop, show o + t.length + (i - o - t.length) = i by omega, hz, if_neg hn]

theorem put_put (s : Bytes) (a : Nat) (x y : Bytes) (hy : y ≠ []) : put (put s a x) (a + x.length) y = put s a (x ++ y) := by
  have hy' : 0 < y.length := List.length_pos_iff.2 hy
  apply List.ext_getElem?
  intro i
  simp only [put_at, put_len, List.length_append]
  repeat' split
  all_goals first
    | rfl
    | (exfalso; omega)
    | (rw [List.getElem?_append_right (by omega)]; congr 1; omega)
    | rw [List.getElem?_append_left (by omega)]

theorem putAll_pieces {f : Nat} : ∀ (n a : Nat) (t s : Bytes), t ≠ [] → t.length ≤ n → putAll s (pieces f n a t) f = put s a t
  | 0, _, t, _, h, hn => absurd (List.eq_nil_of_length_eq_zero (by omega)) h
  | n + 1, a, t, s, h, hn => by
    have h0 : 0 < t.length := List.length_pos_iff.2 h
    have hp := piece_pos (a := a) h0
    have hl := piece_le (n := t.length) (a := a)
    simp only [pieces, if_neg h, putAll, if_true]
    generalize piece t.length a = k at hp hl
    by_cases hd : t.drop k = []
    · have hk : k = t.length := by have := congrArg List.length hd; simp at this; omega
      rw [hd, pieces_none, hk, List.take_length]; rfl
    · rw [putAll_pieces n (a + k) (t.drop k) _ hd (by simp; omega)]
      have := put_put s a (t.take k) (t.drop k) hd
      rw [List.take_append_drop, List.length_take, Nat.min_eq_left hl] at this
      exact this

section
variable {d : Dk}
theorem Sync.writeD (h : Sync d) (ok : d.OK) (f a : Int) (s : Bytes) : Sync (d.writeD f a s) := by
  unfold Dk.writeD
  split
  · exact h
  · rename_i hc
    have hs : s ≠ [] := fun e => hc (.inr e)
    intro g hg
    have hb := h g hg
    show (d.files.set f.toNat _).getD g [] = putAll (d.last g) (d.queue ++ _) g
    rw [putAll_app, ← hb]
    by_cases hgf : g = f.toNat
    · subst hgf
      rw [putAll_pieces _ _ _ _ hs (Nat.le_refl _)]
      simp [ok.nf, hg]
    · rw [putAll_other _ _ fun p hp => by rw [pieces_file _ _ _ _ p hp]; exact fun e => hgf e.symm]
      simp [List.getElem?_set_ne (Ne.symm hgf), Dk.file]
theorem Sync.settle (h : Sync d) (ok : d.OK) {f : Nat} (hf : f < 12) (s : Bytes) : Sync (d.settle f s) := by
  intro g hg
  by_cases hgf : g = f
  · subst hgf
    have : (d.settle g s).file g = s := by simp [Dk.settle, Dk.file, ok.nf, hg]
    rw [this, putAll_other]
    · simp [Dk.settle, Dk.last, ok.nl, hg]
    · intro p hp
      have := (List.mem_filter.1 hp).2
      simpa using this
  · have e1 : (d.settle f s).file g = d.file g := by simp [Dk.settle, Dk.file, List.getElem?_set_ne (Ne.symm hgf)]
    have e2 : (d.settle f s).last g = d.last g := by simp [Dk.settle, Dk.last, List.getElem?_set_ne (Ne.symm hgf)]
    rw [e1, e2, h g hg]
    exact (putAll_filter hgf _ _).symm
theorem Sync.crash (h : Sync d) (ks : List Int) : Sync (d.crash ks) := by
  unfold Dk.crash
  split
  · exact h
  · intro g _; rfl
theorem Sync.tick (h : Sync d) : Sync d.tick := by unfold Dk.tick; split <;> exact h
theorem Sync.endW (h : Sync d) (e : Bool) : Sync (Dk.endW e d) := by unfold Dk.endW; split; exact h.crash _; exact h
theorem Sync.new : Sync Dk.new := by
  intro f hf
  rfl

/-- a file behind a crash, worked out alone -/
def survF (s : Bytes) : List Pd → List Int → Nat → Bytes
  | [], _, _ => s
  | p :: q, ks, f => survF (if p.file = f then (match kept ks[0]? p.bytes with | none => s | some b => put s p.at_ b) else s) q ks.tail f
theorem survF_eq {f : Nat} (hf : f < 12) : ∀ (q : List Pd) (lasts : List Bytes) (ks : List Int), lasts.length = 12 → (survs lasts q ks).getD f [] = survF (lasts.getD f []) q ks f
  | [], _, _, _ => rfl
  | p :: q, lasts, ks, hl => by
    simp only [survs, survF]
    rw [survF_eq hf q _ _ (by rw [surv_len]; exact hl)]
    congr 1
    unfold surv
    by_cases hp : p.file = f
    · subst hp
      rw [if_pos rfl]
      split <;> rename_i hk <;> simp only [hk]
      simp [hl, hf]
    · rw [if_neg hp]
      split
      · rfl
      · simp [List.getElem?_set_ne hp]
theorem survF_snoc {f : Nat} (p : Pd) : ∀ (q : List Pd) (s : Bytes) (ks : List Int), survF s (q ++ [p]) ks f = (if p.file = f then (match kept ks[q.length]? p.bytes with | none => survF s q ks f | some b => put (survF s q ks f) p.at_ b) else survF s q ks f)
  | [], s, ks => rfl
  | x :: q, s, ks => by
    simp only [List.cons_append, survF, survF_snoc p q, List.length_cons]
    cases ks <;> simp
theorem survF_le {f N : Nat} : ∀ (q : List Pd) (s : Bytes) (ks : List Int), s.length ≤ N → (∀ p ∈ q, p.at_ + p.bytes.length ≤ N) → (survF s q ks f).length ≤ N
  | [], _, _, hs, _ => hs
  | p :: q, s, ks, hs, h => by
    simp only [survF]
    refine survF_le q _ _ ?_ fun p hp => h p (by simp [hp])
    split
    · have := h p (by simp)
      split
      · exact hs
      · rename_i b hb
        have := kept_le hb
        rw [put_len]; omega
    · exact hs
end
end Go.Proofs.Y
