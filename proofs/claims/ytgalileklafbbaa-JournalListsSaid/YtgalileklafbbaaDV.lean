/- DV: plain laws of a machine that is down, and of invalid file numbers. -/
import Derived.Test.YtgalileklafbbaaDK
set_option linter.unusedSimpArgs false
set_option linter.unusedVariables false
set_option maxRecDepth 100000
namespace Go.Proofs.Y
open Go Go.HL
namespace Dk
section
variable {d : Dk} (hd : d.down = true)
include hd
theorem dn_tick : d.tick = d := by simp [tick, hd]
theorem dn_ends : d.ends = false := by simp [ends, hd]
theorem dn_pre : d.pre = d := by simp [pre, endW, dn_ends hd, dn_tick hd]
theorem dn_may (l : List Int) : d.may l = 8 := by simp [may, hd]
theorem dn_write (f a : Int) (s : Bytes) : d.write f a s = d ∧ d.writeR f a s = 8 := by
  have hE : d.writeE f a s = 8 := by simp [writeE, dn_may hd]
  simp [write, writeR, endW, dn_ends hd, dn_tick hd, writeD, hE]
theorem dn_flush (f : Int) : d.flush f = d ∧ d.flushR f = 8 := by simp [flush, flushR, dn_pre hd, dn_may hd]
theorem dn_cut (f n : Int) : d.cut f n = d ∧ d.cutR f n = 8 := by simp [cut, cutR, dn_pre hd, dn_may hd]
theorem dn_turn (f g : Int) : d.turn f g = d ∧ d.turnR f g = 8 := by simp [turn, turnR, dn_pre hd, dn_may hd]
theorem dn_crash (ks : List Int) : d.crash ks = d := by simp [crash, hd]
theorem dn_read (f : Int) : d.read f = [] := by simp [read, dn_may hd]
end
section
variable {d : Dk} (hd : d.down = false) (ha : d.armed = 0) {f : Int} (hf : isF f = false)
include hd ha hf
theorem bad_write (a : Int) (s : Bytes) : d.write f a s = d ∧ d.writeR f a s = 1 := by
  have hm : d.may [f] = 1 := by simp [may, hd, hf]
  have hE : d.writeE f a s = 1 := by simp [writeE, hm]
  rw [write_idle ha, writeR_idle ha]
  simp [writeD, hE]
theorem bad_flush : d.flush f = d ∧ d.flushR f = 1 := by
  have hm : d.may [f] = 1 := by simp [may, hd, hf]
  rw [flush_idle ha, flushR_idle ha]; simp [hm]
theorem bad_cut (n : Int) : d.cut f n = d ∧ d.cutR f n = 1 := by
  have hm : d.may [f] = 1 := by simp [may, hd, hf]
  rw [cut_idle ha, cutR_idle ha]; simp [hm]
theorem bad_turn (g : Int) : d.turn f g = d ∧ d.turnR f g = 1 := by
  have hm : d.may [f, g] = 1 := by simp [may, hd, hf]
  rw [turn_idle ha, turnR_idle ha]; simp [hm]
theorem bad_turn2 (g : Int) : d.turn g f = d ∧ d.turnR g f = 1 := by
  have hm : d.may [g, f] = 1 := by simp [may, hd, hf]
  rw [turn_idle ha, turnR_idle ha]; simp [hm]
end
theorem bad_size {d : Dk} {f : Int} (hf : isF f = false) : d.size f = 0 := by simp [size, hf]
end Dk
end Go.Proofs.Y
