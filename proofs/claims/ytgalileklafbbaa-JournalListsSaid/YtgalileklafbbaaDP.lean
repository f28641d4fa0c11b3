/- DP: plain laws for DiskLoses. -/
import Derived.Test.YtgalileklafbbaaDK
set_option linter.unusedSimpArgs false
set_option linter.unusedVariables false
set_option maxRecDepth 100000
namespace Go.Proofs.Y
open Go Go.HL
theorem survs_nil : ∀ (q : List Pd) (l : List Bytes), survs l q [] = l
  | [], _ => rfl
  | p :: q, l => by
    have : surv l p ([] : List Int)[0]? = l := rfl
    rw [survs, this]; exact survs_nil q l
namespace Loses
def L (s : Bytes) (m : Nat) : Dk := { Dk.new with files := Dk.new.files.set 0 s, queue := pieces 0 s.length 0 s, lost := m }
def E (s : Bytes) : Dk := { Dk.new with lasts := Dk.new.lasts.set 0 s, files := Dk.new.files.set 0 s }
variable {s : Bytes} {m : Nat}
theorem wE (hs : s.length ≤ 50000) (n : Int) : (Dk.new.lose n).writeR 0 0 s = 0 := by
  rw [Dk.writeR_idle rfl]
  unfold Dk.writeE
  rw [show (Dk.new.lose n).may [0] = 0 from rfl, if_neg (by simp), if_neg (by omega), if_neg (by omega)]
theorem w (hs : s.length ≤ 50000) (n : Int) : (Dk.new.lose n).write 0 0 s = L s n.toNat := by
  have h0 : (Dk.new.lose n).writeE 0 0 s = 0 := by rw [← Dk.writeR_idle rfl]; exact wE hs n
  rw [Dk.write_idle rfl]
  unfold Dk.writeD
  by_cases hn : s = []
  · subst hn; rw [if_pos (.inr rfl)]; rfl
  · rw [if_neg (by simp [h0, hn])]
    have h4 : (Dk.new.lose n).file (0 : Int).toNat = [] := rfl
    have hz : (0 : Int).toNat = 0 := rfl
    rw [h4, hz, put_nil]; rfl
theorem fR : (L s (m + 1)).flushR 0 = 9 := by
  rw [Dk.flushR_idle rfl, if_neg (fun h => h rfl), if_pos (show 0 < (L s (m + 1)).lost from Nat.succ_pos m)]
theorem f : (L s (m + 1)).flush 0 = L s m := by
  rw [Dk.flush_idle rfl, if_neg (fun h => h rfl), if_pos (show 0 < (L s (m + 1)).lost from Nat.succ_pos m)]; rfl
theorem f0R : (L s 0).flushR 0 = 0 := rfl
theorem f0 : (L s 0).flush 0 = E s := by
  rw [Dk.flush_idle rfl, if_neg (fun h => h rfl), if_neg (show ¬ 0 < (L s 0).lost from Nat.lt_irrefl 0)]
  have : (L s 0).file (0 : Int).toNat = s := rfl
  rw [this, show (0 : Int).toNat = 0 from rfl]
  simp only [Dk.settle, L, E]
  rw [List.set_set]
  congr 1
  exact pieces_filter
theorem lost : (((L s m).crash []).start).read 0 = [] ∧ (((L s m).crash []).start).may [0] = 0 := by
  have e : ((L s m).crash []).start = ⟨survs Dk.new.lasts (pieces 0 s.length 0 s) [], survs Dk.new.lasts (pieces 0 s.length 0 s) [], [], m, false, 0, []⟩ := rfl
  rw [e, survs_nil]
  exact ⟨rfl, rfl⟩
theorem kept : (((E s).crash []).start).read 0 = s ∧ (((E s).crash []).start).may [0] = 0 := ⟨rfl, rfl⟩
end Loses
end Go.Proofs.Y
