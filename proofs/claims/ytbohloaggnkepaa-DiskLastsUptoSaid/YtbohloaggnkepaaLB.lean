/- LB: what the rounds of DiskLasts keep. -/
import Derived.Test.YtbohloaggnkepaaLA
set_option linter.unusedSimpArgs false
set_option linter.unusedVariables false
namespace Go.Proofs.Y
open Go Go.HL

structure LInv (d : Dk) (safe : List Bytes) (al : List Act) : Prop where
  nl : d.lasts.length = 12
  nf : d.files.length = 12
  last : d.lasts = safe
  q : ∀ p ∈ d.queue, p.file < 12 ∧ Backed al p ∧ p.at_ + p.bytes.length ≤ (d.file p.file).length
  fl : ∀ f, f < 12 → (d.last f).length ≤ (d.file f).length

variable {d : Dk} {safe : List Bytes} {al : List Act}

theorem LInv.mono {bl : List Act} (h : LInv d safe al) (hs : ∀ a ∈ al, a ∈ bl) : LInv d safe bl := ⟨h.nl, h.nf, h.last, fun p hp => ⟨(h.q p hp).1, (h.q p hp).2.1.mono hs, (h.q p hp).2.2⟩, h.fl⟩
theorem LInv.tick (h : LInv d safe al) : LInv d.tick safe al := by
  unfold Dk.tick; split
  · exact h
  · exact ⟨h.nl, h.nf, h.last, h.q, h.fl⟩

/-- the survivors of a crash -/
theorem LInv.here (h : LInv d safe al) (ks : List Int) {f : Nat} (hf : f < 12) : Here ((survs d.lasts d.queue ks).getD f []) (safe.getD f []) al f := by
  refine here_survs _ _ _ (by rw [h.last]; exact here_self _ _ _) fun p hp _ => (h.q p hp).2.1
theorem LInv.short (h : LInv d safe al) (ks : List Int) {f : Nat} (hf : f < 12) : ((survs d.lasts d.queue ks).getD f []).length ≤ (d.file f).length :=
  survs_le _ _ _ (h.fl f hf) fun p hp hg => by have := (h.q p hp).2.2; rw [hg] at this; exact this
theorem crash_eq (hd : d.down = false) (ks : List Int) : d.crash ks = ⟨survs d.lasts d.queue ks, survs d.lasts d.queue ks, [], d.lost, true, 0, d.keep⟩ := by simp [Dk.crash, hd]
/-- a machine that went down, taken up, read and taken down -/
theorem LInv.rest {e : Dk} (nl : e.lasts.length = 12) (hf : e.files = e.lasts) (hq : e.queue = []) : LInv e e.lasts [] :=
  ⟨nl, by rw [hf]; exact nl, rfl, fun p hp => (by rw [hq] at hp; cases hp), fun f _ => by unfold Dk.last Dk.file; rw [hf]; exact Nat.le_refl _⟩

theorem LInv.settle (h : LInv d safe al) {f : Nat} (hf : f < 12) (s : Bytes) : LInv (d.settle f s) (safe.set f s) (without al f) := by
  refine ⟨by simp [Dk.settle, h.nl], by simp [Dk.settle, h.nf], by simp [Dk.settle, h.last], fun p hp => ?_, fun g hg => ?_⟩
  · obtain ⟨hp1, hp2⟩ := List.mem_filter.1 hp
    have hne : p.file ≠ f := by simpa using hp2
    obtain ⟨h1, h2, h3⟩ := h.q p hp1
    refine ⟨h1, h2.without (by omega), ?_⟩
    have : (d.settle f s).file p.file = d.file p.file := by
      simp only [Dk.settle, Dk.file, List.getD_eq_getElem?_getD]; rw [List.getElem?_set_ne (Ne.symm hne)]
    rw [this]; exact h3
  · by_cases hgf : g = f
    · subst hgf
      simp [Dk.settle, Dk.last, Dk.file, h.nl, h.nf, hg]
    · have e1 : (d.settle f s).last g = d.last g := by
        simp only [Dk.settle, Dk.last, List.getD_eq_getElem?_getD]; rw [List.getElem?_set_ne (Ne.symm hgf)]
      have e2 : (d.settle f s).file g = d.file g := by
        simp only [Dk.settle, Dk.file, List.getD_eq_getElem?_getD]; rw [List.getElem?_set_ne (Ne.symm hgf)]
      rw [e1, e2]; exact h.fl g hg

theorem LInv.writeD (h : LInv d safe al) {a : Act} (hfit : fits a = true) {bl : List Act} (hs : ∀ x ∈ al, x ∈ bl) (ha : d.down = false → 0 ≤ a.N → a.N < 4000 → a ∈ bl) : LInv (d.writeD a.F a.N a.S) safe bl := by
  unfold Dk.writeD
  by_cases hE : d.writeE a.F a.N a.S ≠ 0 ∨ a.S = []
  · rw [if_pos hE]; exact h.mono hs
  rw [if_neg hE]
  have hE0 : d.writeE a.F a.N a.S = 0 := by
    rcases Classical.em (d.writeE a.F a.N a.S = 0) with h | h
    · exact h
    · exact absurd (.inl h) hE
  unfold Dk.writeE at hE0
  split at hE0
  · rename_i hm; exact absurd hE0 hm
  rename_i hm
  have hm : d.may [a.F] = 0 := by simpa using hm
  split at hE0
  · exact absurd hE0 (by decide)
  rename_i hN0
  split at hE0
  · exact absurd hE0 (by decide)
  rename_i hN1
  have hd : d.down = false ∧ isF a.F = true := by
    rcases hdn : d.down with _ | _ <;> rcases hF : isF a.F with _ | _ <;> simp [Dk.may, hdn, hF] at hm ⊢
  have hF : 0 ≤ a.F ∧ a.F < 12 := by have := hd.2; simpa [isF] using this
  have hN : a.N < 4000 := by
    simp only [fits, Bool.not_eq_true', Bool.and_eq_false_iff, decide_eq_false_iff_not] at hfit
    omega
  have hab := ha hd.1 (by omega) hN
  obtain ⟨f, hf⟩ : ∃ f : Nat, a.F = f := ⟨a.F.toNat, by omega⟩
  obtain ⟨n, hn⟩ : ∃ n : Nat, a.N = n := ⟨a.N.toNat, by omega⟩
  rw [hf, hn]
  simp only [Int.toNat_natCast]
  have hf12 : f < 12 := by omega
  have hfile : ∀ g, Dk.file { d with files := d.files.set f (put (d.file f) n a.S), queue := d.queue ++ pieces f a.S.length n a.S } g = if g = f then put (d.file f) n a.S else d.file g := by
    intro g
    simp only [Dk.file, List.getD_eq_getElem?_getD]
    by_cases hg : g = f
    · subst hg; simp [h.nf, hf12]
    · rw [List.getElem?_set_ne (Ne.symm hg), if_neg hg]
  refine ⟨h.nl, by simp [h.nf], h.last, fun p hp => ?_, fun g hg => ?_⟩
  · rw [hfile]
    rcases List.mem_append.1 hp with hp | hp
    · obtain ⟨h1, h2, h3⟩ := h.q p hp
      refine ⟨h1, h2.mono hs, ?_⟩
      split
      · rename_i e; rw [e] at h3; rw [put_len]; omega
      · exact h3
    · have hpf := pieces_file _ _ _ _ p hp
      have hpb := pieces_bound _ _ _ _ p hp
      refine ⟨by omega, (pieces_backed a f hf _ _ _ (fun j b hj => ?_) p hp).mono fun x hx => by rw [List.mem_singleton.1 hx]; exact hab, ?_⟩
      · have hjl := (List.getElem?_eq_some_iff.1 hj).1
        refine ⟨hf, by omega, by omega, ?_⟩
        rw [show ((n + j : Nat) : Int) - a.N = (j : Int) by omega, Int.toNat_natCast]; exact hj
      · rw [if_pos hpf, put_len]; omega
  · rw [hfile]
    have := h.fl g hg
    split
    · rename_i e
      rw [put_len]
      show (d.last g).length ≤ _
      rw [e] at this ⊢; omega
    · exact this

/-- what a machine that just went down shows -/
structure Fell (e : Dk) (safe : List Bytes) (al : List Act) : Prop where
  nl : e.lasts.length = 12
  files : e.files = e.lasts
  queue : e.queue = []
  down : e.down = true
  here : ∀ f, f < 12 → Here (e.file f) (safe.getD f []) al f

theorem LInv.fell (h : LInv d safe al) (hd : d.down = false) (ks : List Int) : Fell (d.crash ks) safe al := by
  rw [crash_eq hd]
  exact ⟨by simp [survs_len, h.nl], rfl, rfl, rfl, fun f hf => h.here ks hf⟩

/-- the crash that is counted down ahead of a call -/
theorem LInv.pre (h : LInv d safe al) : (d.down = d.pre.down ∧ LInv d.pre safe al) ∨ (d.down = false ∧ Fell d.pre safe al) := by
  unfold Dk.pre Dk.endW
  have htd : d.tick.down = d.down := by unfold Dk.tick; split <;> rfl
  cases he : d.ends
  · exact .inl ⟨htd.symm, h.tick⟩
  · have hd : d.down = false := by
      unfold Dk.ends at he
      cases hd : d.down
      · rfl
      · rw [hd] at he; cases he
    exact .inr ⟨hd, h.tick.fell (by rw [htd]; exact hd) _⟩
theorem Fell.may {e : Dk} (h : Fell e safe al) (l : List Int) : e.may l = 8 := by simp [Dk.may, h.down]
end Go.Proofs.Y
