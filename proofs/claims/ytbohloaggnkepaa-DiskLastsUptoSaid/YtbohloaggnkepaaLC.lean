/- LC: a round of DiskLasts. -/
import Derived.Test.YtbohloaggnkepaaLB
set_option linter.unusedSimpArgs false
set_option linter.unusedVariables false
namespace Go.Proofs.Y
open Go Go.HL

def safe2 (safe : List Bytes) (k e F G : Int) (r : Bytes) : List Bytes :=
  if (k = 2 ∨ k = 3) ∧ e = 0 then safe.set F.toNat r
  else if k = 4 ∧ e = 0 then (safe.set F.toNat (safe.getD G.toNat [])).set G.toNat [] else safe
def al2 (al : List Act) (k e F G : Int) : List Act :=
  if (k = 2 ∨ k = 3) ∧ e = 0 then without al F else if k = 4 ∧ e = 0 then without (without al F) G else al

variable {d : Dk} {safe : List Bytes} {al bl : List Act}
theorem updn {b : Bool} : ¬ (b = false ∧ b = true) := by cases b <;> simp
theorem tick_down (d : Dk) : d.tick.down = d.down := by unfold Dk.tick; split <;> rfl
theorem writeD_down (d : Dk) (f a : Int) (s : Bytes) : (d.writeD f a s).down = d.down := by unfold Dk.writeD; split <;> rfl
theorem settle_read {f : Nat} (hf : f < 12) (nf : d.files.length = 12) (hd : d.down = false) (s : Bytes) : (d.settle f s).read f = s := by
  have hm : (d.settle f s).may [(f : Int)] = 0 := by
    have : isF (f : Int) = true := by simp [isF]; omega
    simp [Dk.may, Dk.settle, hd, this]
  simp only [Dk.read, hm]
  simp [Dk.settle, Dk.file, nf, hf]
theorem may_up {f : Int} {l : List Int} (h : d.may (f :: l) = 0) : d.down = false := by
  cases hd : d.down
  · rfl
  · simp [Dk.may, hd] at h

/-- what a round comes to: the machine fell in it, or all is kept -/
def Round (d d' : Dk) (k e F G : Int) (safe : List Bytes) (al : List Act) : Prop :=
  (d.down = false ∧ d'.down = true ∧ Fell d' safe al ∧ ¬ (e = 0 ∧ (k = 2 ∨ k = 3 ∨ k = 4))) ∨ (¬ (d.down = false ∧ d'.down = true) ∧ LInv d' (safe2 safe k e F G (d'.read F)) (al2 al k e F G))

theorem round_write (h : LInv d safe al) {a : Act} (hfit : fits a = true) (hs : ∀ x ∈ al, x ∈ bl) (ha : d.down = false → 0 ≤ a.N → a.N < 4000 → a ∈ bl) {k : Int} (hk : k = 0 ∨ k = 1) :
    Round d (d.write a.F a.N a.S) k (d.writeR a.F a.N a.S) a.F a.G safe bl := by
  have hw := h.tick.writeD hfit hs (fun hd => ha (by rw [tick_down] at hd; exact hd))
  have hdn : (d.tick.writeD a.F a.N a.S).down = d.down := by rw [writeD_down, tick_down]
  unfold Round Dk.write Dk.endW
  cases he : d.ends
  · refine .inr ⟨by simp only [Bool.false_eq_true, if_false, hdn]; exact updn, ?_⟩
    simp only [Bool.false_eq_true, if_false]
    rw [safe2, al2, if_neg (by omega), if_neg (by omega), if_neg (by omega), if_neg (by omega)]
    exact hw
  · have hd : d.down = false := by
      unfold Dk.ends at he
      cases hd : d.down
      · rfl
      · rw [hd] at he; cases he
    have hf := hw.fell (by rw [hdn]; exact hd) (d.tick.writeD a.F a.N a.S).keep
    exact .inl ⟨hd, hf.down, hf, by omega⟩

theorem round_flush (h : LInv d safe al) (F G : Int) : Round d (d.flush F) 2 (d.flushR F) F G safe al := by
  unfold Round
  rcases h.pre with ⟨hd, hp⟩ | ⟨hd, hf⟩
  · right
    have hdn : (d.flush F).down = d.down := by
      rw [hd]; unfold Dk.flush; dsimp only; split
      · rfl
      · split <;> rfl
    refine ⟨by rw [hdn]; exact updn, ?_⟩
    by_cases hm : d.pre.may [F] ≠ 0
    · have e1 : d.flush F = d.pre := by simp [Dk.flush, hm]
      have e2 : d.flushR F = d.pre.may [F] := by simp [Dk.flushR, hm]
      rw [e1, e2, safe2, al2, if_neg (fun h => hm h.2), if_neg (by omega), if_neg (fun h => hm h.2), if_neg (by omega)]
      exact hp
    have hm : d.pre.may [F] = 0 := by simpa using hm
    by_cases hl : 0 < d.pre.lost
    · have e1 : d.flush F = { d.pre with lost := d.pre.lost - 1 } := by simp [Dk.flush, hm, hl]
      have e2 : d.flushR F = 9 := by simp [Dk.flushR, hm, hl]
      rw [e1, e2, safe2, al2, if_neg (by omega), if_neg (by omega), if_neg (by omega), if_neg (by omega)]
      exact ⟨hp.nl, hp.nf, hp.last, hp.q, hp.fl⟩
    · have e1 : d.flush F = d.pre.settle F.toNat (d.pre.file F.toNat) := by simp [Dk.flush, hm, hl]
      have e2 : d.flushR F = 0 := by simp [Dk.flushR, hm, hl]
      have hup := may_up hm
      have hF : isF F = true := by
        cases hF : isF F
        · simp [Dk.may, hup, hF] at hm
        · rfl
      have hF' : 0 ≤ F ∧ F < 12 := by simpa [isF] using hF
      obtain ⟨f, rfl⟩ : ∃ f : Nat, F = f := ⟨F.toNat, by omega⟩
      rw [e1, e2, safe2, al2, if_pos (by omega), if_pos (by omega), Int.toNat_natCast, settle_read (by omega) hp.nf hup]
      exact hp.settle (by omega) _
  · left
    have e1 : d.flush F = d.pre := by simp [Dk.flush, hf.may]
    have e2 : d.flushR F = 8 := by simp [Dk.flushR, hf.may]
    rw [e1, e2]
    exact ⟨hd, hf.down, hf, by omega⟩

theorem round_cut (h : LInv d safe al) (F n G : Int) : Round d (d.cut F n) 3 (d.cutR F n) F G safe al := by
  unfold Round
  rcases h.pre with ⟨hd, hp⟩ | ⟨hd, hf⟩
  · right
    have hdn : (d.cut F n).down = d.down := by
      rw [hd]; unfold Dk.cut; dsimp only; split
      · rfl
      · split <;> rfl
    refine ⟨by rw [hdn]; exact updn, ?_⟩
    by_cases hm : d.pre.may [F] ≠ 0
    · have e1 : d.cut F n = d.pre := by simp [Dk.cut, hm]
      have e2 : d.cutR F n = d.pre.may [F] := by simp [Dk.cutR, hm]
      rw [e1, e2, safe2, al2, if_neg (fun h => hm h.2), if_neg (by omega), if_neg (fun h => hm h.2), if_neg (by omega)]
      exact hp
    have hm : d.pre.may [F] = 0 := by simpa using hm
    by_cases hl : n < 0 ∨ d.pre.size F < n
    · have e1 : d.cut F n = d.pre := by simp only [Dk.cut, hm, hl]; simp
      have e2 : d.cutR F n = 1 := by simp only [Dk.cutR, hm, hl]; simp
      rw [e1, e2, safe2, al2, if_neg (by omega), if_neg (by omega), if_neg (by omega), if_neg (by omega)]
      exact hp
    · have e1 : d.cut F n = d.pre.settle F.toNat ((d.pre.file F.toNat).take n.toNat) := by simp only [Dk.cut, hm, hl]; simp
      have e2 : d.cutR F n = 0 := by simp only [Dk.cutR, hm, hl]; simp
      have hup := may_up hm
      have hF : isF F = true := by
        cases hF : isF F
        · simp [Dk.may, hup, hF] at hm
        · rfl
      have hF' : 0 ≤ F ∧ F < 12 := by simpa [isF] using hF
      obtain ⟨f, rfl⟩ : ∃ f : Nat, F = f := ⟨F.toNat, by omega⟩
      rw [e1, e2, safe2, al2, if_pos (by omega), if_pos (by omega), Int.toNat_natCast, settle_read (by omega) hp.nf hup]
      exact hp.settle (by omega) _
  · left
    have e1 : d.cut F n = d.pre := by simp [Dk.cut, hf.may]
    have e2 : d.cutR F n = 8 := by simp [Dk.cutR, hf.may]
    rw [e1, e2]
    exact ⟨hd, hf.down, hf, by omega⟩

theorem round_turn (h : LInv d safe al) (F G : Int) : Round d (d.turn F G) 4 (d.turnR F G) F G safe al := by
  unfold Round
  rcases h.pre with ⟨hd, hp⟩ | ⟨hd, hf⟩
  · right
    have hdn : (d.turn F G).down = d.down := by
      rw [hd]; unfold Dk.turn; dsimp only; split
      · rfl
      · split
        · rfl
        · split <;> rfl
    refine ⟨by rw [hdn]; exact updn, ?_⟩
    by_cases hm : d.pre.may [F, G] ≠ 0
    · have e1 : d.turn F G = d.pre := by simp [Dk.turn, hm]
      have e2 : d.turnR F G = d.pre.may [F, G] := by simp [Dk.turnR, hm]
      rw [e1, e2, safe2, al2, if_neg (by omega), if_neg (fun h => hm h.2), if_neg (by omega), if_neg (fun h => hm h.2)]
      exact hp
    have hm : d.pre.may [F, G] = 0 := by simpa using hm
    by_cases hfg : F = G
    · have e1 : d.turn F G = d.pre := by simp [Dk.turn, hm, hfg]
      have e2 : d.turnR F G = 1 := by rw [hfg] at hm; simp [Dk.turnR, hm, hfg]
      rw [e1, e2, safe2, al2, if_neg (by omega), if_neg (by omega), if_neg (by omega), if_neg (by omega)]
      exact hp
    by_cases hpd : d.pre.pends G = true
    · have e1 : d.turn F G = d.pre := by simp [Dk.turn, hpd]
      have e2 : d.turnR F G = 7 := by simp [Dk.turnR, hm, hfg, hpd]
      rw [e1, e2, safe2, al2, if_neg (by omega), if_neg (by omega), if_neg (by omega), if_neg (by omega)]
      exact hp
    · have e1 : d.turn F G = (d.pre.settle F.toNat (d.pre.last G.toNat)).settle G.toNat [] := by simp [Dk.turn, hm, hfg, hpd]
      have e2 : d.turnR F G = 0 := by simp [Dk.turnR, hm, hfg, hpd]
      have hup := may_up hm
      have hF : isF F = true ∧ isF G = true := by
        cases hF : isF F <;> cases hG : isF G <;> simp [Dk.may, hup, hF, hG] at hm ⊢
      have hF' : 0 ≤ F ∧ F < 12 := by simpa [isF] using hF.1
      have hG' : 0 ≤ G ∧ G < 12 := by simpa [isF] using hF.2
      obtain ⟨f, rfl⟩ : ∃ f : Nat, F = f := ⟨F.toNat, by omega⟩
      obtain ⟨g, rfl⟩ : ∃ g : Nat, G = g := ⟨G.toNat, by omega⟩
      rw [e1, e2, safe2, al2, if_neg (by omega), if_pos (by omega), if_neg (by omega), if_pos (by omega), Int.toNat_natCast, Int.toNat_natCast]
      have hl : d.pre.last g = safe.getD g [] := by unfold Dk.last; rw [hp.last]
      rw [hl]
      exact (hp.settle (by omega) _).settle (by omega) _
  · left
    have e1 : d.turn F G = d.pre := by simp [Dk.turn, hf.may]
    have e2 : d.turnR F G = 8 := by simp [Dk.turnR, hf.may]
    rw [e1, e2]
    exact ⟨hd, hf.down, hf, by omega⟩

theorem round (h : LInv d safe al) {a : Act} (hfit : fits a = true) (hs : ∀ x ∈ al, x ∈ bl) (ha : d.down = false → pk a.Do ≤ 1 → 0 ≤ a.N → a.N < 4000 → a ∈ bl) : Round d (d.act a) (pk a.Do) (d.actE a) a.F a.G safe bl := by
  have hb := h.mono hs
  have hr := pk_range a.Do
  have keep : ∀ {d' : Dk} {k e : Int}, ¬ (d.down = false ∧ d'.down = true) → LInv d' safe bl → ¬ (k = 2 ∨ k = 3 ∨ k = 4) → Round d d' k e a.F a.G safe bl := by
    intro d' k e h1 h2 h3
    refine .inr ⟨h1, ?_⟩
    rw [safe2, al2, if_neg (by omega), if_neg (by omega), if_neg (by omega), if_neg (by omega)]
    exact h2
  unfold Dk.act Dk.actE
  by_cases h01 : pk a.Do = 0 ∨ pk a.Do = 1
  · rw [if_pos h01, if_pos h01]; exact round_write h hfit hs (fun h1 h2 h3 => ha h1 (by omega) h2 h3) h01
  rw [if_neg h01, if_neg h01]
  by_cases h2 : pk a.Do = 2
  · rw [h2]; exact round_flush hb _ _
  rw [if_neg h2, if_neg h2]
  by_cases h3 : pk a.Do = 3
  · rw [h3]; exact round_cut hb _ _ _
  rw [if_neg h3, if_neg h3]
  by_cases h4 : pk a.Do = 4
  · rw [h4]; exact round_turn hb _ _
  rw [if_neg h4, if_neg h4]
  by_cases h5 : pk a.Do = 5
  · rw [if_pos h5, if_neg (by omega)]
    cases hd : d.down
    · have hf := hb.fell hd a.ks
      exact .inl ⟨hd, hf.down, hf, by omega⟩
    · rw [Dk.dn_crash hd]; exact keep (by rw [hd]; rintro ⟨h, _⟩; cases h) hb (by omega)
  rw [if_neg h5]
  by_cases h6 : pk a.Do = 6
  · rw [if_pos h6, if_neg (by omega)]
    exact keep (by rintro ⟨h1, h2⟩; have : d.down = true := h2; rw [h1] at this; cases this) ⟨hb.nl, hb.nf, hb.last, hb.q, hb.fl⟩ (by omega)
  rw [if_neg h6]
  by_cases h7 : pk a.Do = 7
  · rw [if_pos h7, if_neg (by omega)]
    exact keep (by rintro ⟨h1, h2⟩; cases (h2 : false = true)) ⟨hb.nl, hb.nf, hb.last, hb.q, hb.fl⟩ (by omega)
  rw [if_neg h7]
  have same : ¬ (d.down = false ∧ d.down = true) := by rintro ⟨h1, h2⟩; rw [h1] at h2; cases h2
  by_cases h8 : pk a.Do = 8
  · rw [if_pos h8, if_pos h8]; exact keep same hb (by omega)
  rw [if_neg h8, if_neg h8]
  by_cases h10 : pk a.Do = 10
  · rw [if_pos h10]
    exact keep (by rintro ⟨h1, h2⟩; have : d.down = true := h2; rw [h1] at this; cases this) ⟨hb.nl, hb.nf, hb.last, hb.q, hb.fl⟩ (by omega)
  rw [if_neg h10]; exact keep same hb (by omega)
end Go.Proofs.Y
