/- DH: the walks of the disk's calls. -/
import Derived.Test.YtgalileklafbbaaDG
set_option linter.unusedSimpArgs false
set_option linter.unusedVariables false
set_option maxRecDepth 100000
namespace Go.Proofs.Y
open Go Go.HL Go.Proofs

theorem tick_queue (d : Dk) : d.tick.queue = d.queue := by unfold Dk.tick; split <;> rfl
theorem tick_keep (d : Dk) : d.tick.keep = d.keep := by unfold Dk.tick; split <;> rfl
theorem writeD_keep (d : Dk) (f a : Int) (s : Bytes) : (d.writeD f a s).keep = d.keep := by unfold Dk.writeD; split <;> rfl
theorem writeD_queue (d : Dk) (f a : Int) (s : Bytes) : (d.writeD f a s).queue.length ≤ d.queue.length + s.length := by
  unfold Dk.writeD; split
  · omega
  · simp only [List.length_append]; have := pieces_len f.toNat s.length a.toNat s; omega
theorem crash_queue (d : Dk) (ks : List Int) : (d.crash ks).queue.length ≤ d.queue.length := by
  unfold Dk.crash; split
  · omega
  · simp
theorem pre_queue (d : Dk) : d.pre.queue.length ≤ d.queue.length := by
  unfold Dk.pre Dk.endW; split
  · exact Nat.le_trans (crash_queue _ _) (by rw [tick_queue]; omega)
  · rw [tick_queue]; omega

theorem may_ok {d : Dk} {f : Int} (h : d.may [f] = 0) : ∃ g : Nat, f = g ∧ g < 12 := by
  rw [may1] at h
  rcases hd : d.down with _ | _ <;> rcases hf : isF f with _ | _ <;> simp [hd, hf] at h
  have hf' : 0 ≤ f ∧ f < 12 := by simpa [isF] using hf
  exact ⟨f.toNat, by omega, by omega⟩
theorem may2 {d : Dk} {f g : Int} : d.may [f, g] = if d.down then 8 else if isF f && isF g then 0 else 1 := by simp [Dk.may]
theorem may_ok2 {d : Dk} {f g : Int} (h : d.may [f, g] = 0) : (∃ n : Nat, f = n ∧ n < 12) ∧ ∃ n : Nat, g = n ∧ n < 12 := by
  rw [may2] at h
  rcases hd : d.down with _ | _ <;> rcases hf : isF f with _ | _ <;> rcases hg : isF g with _ | _ <;> simp [hd, hf, hg] at h
  have hf' : 0 ≤ f ∧ f < 12 := by simpa [isF] using hf
  have hg' : 0 ≤ g ∧ g < 12 := by simpa [isF] using hg
  exact ⟨⟨f.toNat, by omega, by omega⟩, g.toNat, by omega, by omega⟩

section
variable {w : World} {next : Value → World → Prop} {QP : List PanicEntry → World → Prop}

/-- a crash with the disk's own parts -/
theorem crashK_ {p : Nat} {d : Dk} {S : FP} (h : DR w p d S) (hqn : d.queue.length ≤ 9000000000000) (k : ∀ w', St S w w' p (d.crash d.keep) → next (.tuple #[]) w') :
    (w.cell? ⟨p, 28, none⟩).isSome = true ∧ callvK Try.prog (.func (.func 21) #[] #[]) [ptr p, (w.cell? ⟨p, 28, none⟩).getD undef] w next QP := by
  obtain ⟨qv, kv, hb, hq, hk, h1, h2, c24, c25, c26, c27, c28⟩ := h.parts
  rw [c28]
  exact ⟨rfl, crash_ h hk (fun hn e => (h2 hn p e).2 h.self) hqn k⟩

theorem write_ {p : Nat} {d : Dk} {S : FP} (h : DR w p d S) {f a : Int} (ha : -9223372036854775808 ≤ a) (ha' : a ≤ 9223372036854775807) {s : Bytes} (hqn : d.queue.length + s.length ≤ 1000000000000)
    (k : ∀ w', St S w w' p (d.write f a s) → next (.int .i64 (d.writeR f a s)) w') :
    callvK Try.prog (.func (.func 18) #[] #[]) [ptr p, .int .i64 f, .int .i64 a, str s] w next QP := by
  refine r18 rfl ?_
  unfold h18
  try simp only [go_sem, ↓reduceIte, Nat.reduceEqDiff, Nat.reduceAdd]
  refine ends_ h ?_
  intro w1 dr1 m1 _
  have st1 : St S w w1 p d.tick := .of dr1 m1
  try simp only [go_sem, ↓reduceIte, Nat.reduceEqDiff, Nat.reduceAdd]
  refine write1_ st1.dr ha ha' (by rw [tick_queue]; omega) (by omega) ?_
  intro w2 st2'
  have st2 := st1.trans st2'
  try simp only [go_sem, ↓reduceIte, Nat.reduceEqDiff, Nat.reduceAdd]
  refine ⟨fun he => ?_, fun he => ?_⟩
  · refine crashK_ st2.dr (by have := writeD_queue d.tick f a s; rw [tick_queue] at this; omega) ?_
    intro w3 st3'
    have st3 := st2.trans st3'
    try simp only [go_sem, ↓reduceIte, Nat.reduceEqDiff, Nat.reduceAdd]
    have e1 : d.write f a s = (d.tick.writeD f a s).crash (d.tick.writeD f a s).keep := by simp [Dk.write, Dk.endW, he, writeD_keep, tick_keep]
    have e2 : d.writeR f a s = 8 := by simp [Dk.writeR, he]
    rw [e1, e2] at k
    exact k _ st3
  · unfold h18_1
    try simp only [go_sem, ↓reduceIte, Nat.reduceEqDiff, Nat.reduceAdd]
    have e1 : d.write f a s = d.tick.writeD f a s := by simp [Dk.write, Dk.endW, he]
    have e2 : d.writeR f a s = d.tick.writeE f a s := by simp [Dk.writeR, he]
    rw [e1, e2] at k
    exact k _ st2

theorem flush_ {p : Nat} {d : Dk} {S : FP} (h : DR w p d S) {f : Int} (hqn : d.queue.length ≤ 1000000000000)
    (k : ∀ w', St S w w' p (d.flush f) → next (.int .i64 (d.flushR f)) w') :
    callvK Try.prog (.func (.func 19) #[] #[]) [ptr p, .int .i64 f] w next QP := by
  refine r19 rfl ?_
  unfold h19
  try simp only [go_sem, ↓reduceIte, Nat.reduceEqDiff, Nat.reduceAdd]
  refine ends_ h ?_
  intro w1 dr1 m1 _
  have st1 : St S w w1 p d.tick := .of dr1 m1
  have hpq := pre_queue d
  -- what follows the crash
  have rest : ∀ (τ : Env) w2, τ 0 = ptr p → τ 1 = .int .i64 f → St S w w2 p d.pre → hw Try.prog noPanic h19_1 (endV [.tmp 4] next) τ w2 := by
    intro τ w2 t0 t1 st2
    unfold h19_1
    try simp only [go_sem, ↓reduceIte, Nat.reduceEqDiff, Nat.reduceAdd, t0, t1]
    refine bsl1 sl22 rfl rfl (by omega) ?_
    intro b w3 hbb own3 blk3 m3 hsz3
    have st3 := st2.mod0 m3
    refine may_ st3.dr (by omega) (l := [f]) own3.sl ?_
    try simp only [go_sem, ↓reduceIte, Nat.reduceEqDiff, Nat.reduceAdd, t0, t1]
    refine ⟨fun he => ?_, fun he => ?_⟩
    · have he : d.pre.may [f] ≠ 0 := by simpa using he
      have := k w3
      simp only [Dk.flush, Dk.flushR, if_pos he] at this
      exact this st3
    have he : d.pre.may [f] = 0 := by simpa using he
    simp only [Dk.flush, Dk.flushR, he, ne_eq, not_true, if_false] at k
    obtain ⟨g, rfl, hg⟩ := may_ok he
    simp only [Int.toNat_natCast] at k
    have ok := st3.dr.ok
    obtain ⟨qv, kv, hb, hq, hk, h1, h2, c24, c25, c26, c27, c28⟩ := st3.dr.parts
    unfold h19_2
    try simp only [go_sem, ↓reduceIte, Nat.reduceEqDiff, Nat.reduceAdd, t0, t1, c25]
    refine ⟨fun hl => ?_, fun hl => ?_⟩
    · have hl : 0 < d.pre.lost := by simpa using hl
      simp only [if_pos hl] at k
      have hlo := ok.lost
      rw [w64 (by omega) (by omega)]
      refine store1 sz3 hb (by rw [cells_len ok.nl ok.nf]; omega) rfl ?_
      intro w4 hb4 m4 hsz4
      have hcs : (d.pre.cells qv kv).set 25 (.int .i64 ((d.pre.lost : Int) - 1)) = ({ d.pre with lost := d.pre.lost - 1 } : Dk).cells qv kv := by
        rw [show 25 = 24 + 1 from rfl, cells_set_tail ok.nl ok.nf, show (d.pre.lost : Int) - 1 = ((d.pre.lost - 1 : Nat) : Int) by omega]; rfl
      rw [hcs] at hb4
      have dr4 : DR w4 p { d.pre with lost := d.pre.lost - 1 } st3.foot := st3.dr.again m4 ⟨ok.nl, ok.nf, ok.bl, ok.bf, ok.bq, by show d.pre.lost - 1 ≤ _; omega, ok.armed⟩ hb4 hq hk h1 h2
      exact k w4 (st3.trans (.of dr4 (m4.mono fun k _ (e : k = p) => e ▸ st3.dr.self)))
    · have hl : ¬ 0 < d.pre.lost := by simpa using hl
      simp only [if_neg hl] at k
      have cf : w3.cell? ⟨p, 12 + g, none⟩ = some (str (d.pre.file g)) := by rw [hb.cell, cells_file ok.nl ok.nf hg]
      unfold h19_3
      try simp only [go_sem, ↓reduceIte, Nat.reduceEqDiff, Nat.reduceAdd, Nat.mul_one, t0, t1, cf]
      refine ⟨⟨by omega, by omega⟩, ?_⟩
      refine settle_ st3.dr hg (getD_le ok.bf g) (by omega) ?_
      intro w4 st4
      try simp only [go_sem, ↓reduceIte, Nat.reduceEqDiff, Nat.reduceAdd]
      exact k w4 (st3.trans st4)
  try simp only [go_sem, ↓reduceIte, Nat.reduceEqDiff, Nat.reduceAdd]
  refine ⟨fun he => ?_, fun he => ?_⟩
  · refine crashK_ st1.dr (by rw [tick_queue]; omega) ?_
    intro w2 st2'
    have st2 := st1.trans st2'
    have e1 : d.tick.crash d.tick.keep = d.pre := by simp [Dk.pre, Dk.endW, he, tick_keep]
    rw [e1] at st2
    exact rest _ _ rfl rfl st2
  · have e1 : d.tick = d.pre := by simp [Dk.pre, Dk.endW, he]
    rw [e1] at st1
    exact rest _ _ rfl rfl st1
end
end Go.Proofs.Y
