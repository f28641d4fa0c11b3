/- DE: the walks of settle, write and the crash. -/
import Derived.Test.YtgalileklafbbaaDD
set_option linter.unusedSimpArgs false
set_option linter.unusedVariables false
set_option maxRecDepth 100000
namespace Go.Proofs.Y
open Go Go.HL Go.Proofs
section
variable {w : World} {next : Value → World → Prop} {QP : List PanicEntry → World → Prop}

theorem Dk.OK.settle {d : Dk} (ok : d.OK) (f : Nat) {s : Bytes} (hs : s.length ≤ 16777216) : (d.settle f s).OK := by
  refine ⟨by simp [Dk.settle, ok.nl], by simp [Dk.settle, ok.nf], fun t ht => ?_, fun t ht => ?_, fun p hp => ?_, ok.lost, ok.armed⟩
  · rcases List.mem_or_eq_of_mem_set ht with h | h
    · exact ok.bl t h
    · rw [h]; exact hs
  · rcases List.mem_or_eq_of_mem_set ht with h | h
    · exact ok.bf t h
    · rw [h]; exact hs
  · exact ok.bq p (List.mem_filter.1 hp).1

theorem settle_ {p : Nat} {d : Dk} {S : FP} (h : DR w p d S) {f : Nat} (hf : f < 12) {s : Bytes} (hs : s.length ≤ 16777216) (hqn : d.queue.length ≤ 9000000000000)
    (k : ∀ w', St S w w' p (d.settle f s) → next (.tuple #[]) w') :
    callvK Try.prog (.func (.func 66) #[] #[]) [ptr p, .int .i64 f, str s] w next QP := by
  refine r66 rfl ?_
  unfold h66
  simp only [go_sem, ↓reduceIte, Nat.reduceEqDiff, Nat.reduceAdd]
  refine box_ (cs := [.int .i64 f]) rfl ?_
  intro b w1 hb0 hbb m1 hsz1
  have ok := h.ok
  have h' := (h.mod0 m1).drew
  have hbb' : Blk w1.drew b 3 [.int .i64 f] := hbb
  have hsz' : w1.drew.heap.size = b + 1 := hsz1
  have m1' : Mod none' w w1.drew := m1.trans' (Mod.drew _ _)
  generalize w1.drew = w2 at h' hbb' hsz' m1'
  clear hbb hsz1 m1
  obtain ⟨qv, kv, hb, hq, hk, h1, h2, c24, c25, c26, c27, c28⟩ := h'.parts
  have cb : w2.cell? ⟨b, 0, none⟩ = some (.int .i64 f) := by rw [hbb'.cell]; rfl
  have hpb : p ≠ b := fun e => by have := h.plt; omega
  simp only [go_sem, ↓reduceIte, Nat.reduceEqDiff, Nat.reduceAdd, cb, Nat.mul_one]
  refine ⟨⟨by omega, by omega⟩, ?_⟩
  refine store1 sz9 hb (by rw [cells_len ok.nl ok.nf]; omega) rfl ?_
  intro w3 hb3 m3 hsz3
  rw [cells_set_last ok.nl hf] at hb3
  have hbb3 := hbb'.mod m3 fun e => hpb e.symm
  have cb3 : w3.cell? ⟨b, 0, none⟩ = some (.int .i64 f) := by rw [hbb3.cell]; rfl
  simp only [go_sem, ↓reduceIte, Nat.reduceEqDiff, Nat.reduceAdd, cb, cb3, Nat.mul_one]
  refine ⟨⟨by omega, by omega⟩, ?_⟩
  refine store1 sz9 hb3 (by rw [cells_len (by simp [ok.nl]) (by simp [ok.nf])]; omega) rfl ?_
  intro w4 hb4 m4 hsz4
  rw [cells_set_file (by simp [ok.nl]) (by simp [ok.nf]) hf] at hb4
  have hbb4 := hbb3.mod m4 fun e => hpb e.symm
  have m24 := m3.trans' m4
  have hq4 := hq.mod m24 fun k hk => (h1 k hk).2
  have hk4 := hk.mod' m24 fun hn k hk (e : k = p) => (h2 hn k hk).2 (e ▸ h.self)
  have c24' : w4.cell? ⟨p, 24, none⟩ = some qv := by rw [hb4.cell, cells_tail (by simp [ok.nl]) (by simp [ok.nf]) 0]; rfl
  simp only [go_sem, ↓reduceIte, Nat.reduceEqDiff, Nat.reduceAdd, cb, cb3, c24', Nat.mul_one, List.nil_append]
  have hqb : qv.ownBlock ≠ some b := fun e => by have := h.lt b (h.sub b (h1 b e).1); omega
  refine delete_ (test57 b f) hbb4 hq4 hqn hqb ?_
  intro w5 v' own5 hvb5 m5
  have hqp : ∀ k, ownS qv k → k ≠ p := fun k hk => (h1 k hk).2
  have hb5 := hb4.mod m5 fun e => (h1 p e).2 rfl
  have hk5 := hk4.mod' m5 fun hn k hk e => (h2 hn k hk).2 (h1 k e).1
  obtain ⟨av, cv, rfl, -⟩ := own5.form
  refine store1 sz84 hb5 (by rw [cells_len (by simp [ok.nl]) (by simp [ok.nf])]; omega) rfl ?_
  intro w6 hb6 m6 hsz6
  have hfil : (d.queue.filter fun p => !decide ((p.file : Int) = (f : Int))) = (d.settle f s).queue := by
    simp only [Dk.settle]; congr 1; funext p; congr 1; congr 1; apply propext; omega
  rw [hfil] at own5 hb6
  have hcs : ({ { d with lasts := d.lasts.set f s } with files := d.files.set f s }.cells qv kv).set 24 (.slice av (d.settle f s).queue.length cv) = (d.settle f s).cells (.slice av (d.settle f s).queue.length cv) kv := by
    rw [show 24 = 24 + 0 from rfl, cells_set_tail (by simp [ok.nl]) (by simp [ok.nf])]; rfl
  rw [hcs] at hb6
  have hp := h.self
  have mS : ∀ k, ownS qv k → S.W k := fun k hk => (h1 k hk).1
  have mm : Mod S.W w w6 := ((((m1'.mono (T := S.W) fun _ _ h => h.elim).trans m24 fun i _ (e : i = p) => e ▸ hp).trans m5 fun i _ e => mS i e).trans m6 fun i _ (e : i = p) => e ▸ hp)
  rw [hfil] at hvb5
  refine k w6 (.of ⟨ok.settle f hs, ⟨_, kv, hb6, own5.mod m6 fun k hk (e : k = p) => ?_, hk5.mod' m6 fun hn k hk (e : k = p) => (h2 hn k hk).2 (e ▸ hp), fun k hk => ?_, h2⟩, hp, h.sub, fun k hk => Nat.lt_of_lt_of_le (h.lt k hk) mm.size⟩ mm)
  · rw [hvb5] at hk; exact (h1 k hk).2 e
  · rw [hvb5] at hk; exact (h1 k hk).1
end
end Go.Proofs.Y
