/- JN: deeds: few, pick, found. -/
import Derived.Test.YtgalileklafbbaaRB
import Derived.Test.YtgalileklafbbaaJC
set_option linter.unusedSimpArgs false
set_option linter.unusedVariables false
set_option maxRecDepth 100000
namespace Go.Proofs.Y
open Go Go.HL Go.Proofs

structure Deed where
  Do : Int
  Row : Bytes
  rv : Value
  rows : List Bytes
  kv : Value
  ks : List Int
  N : Int
def Deed.cells (a : Deed) : List Value := [.int .i64 a.Do, str a.Row, a.rv, a.kv, .int .i64 a.N]
theorem Deed.cells_len (a : Deed) : a.cells.length = 5 := rfl
structure Deed.OK (w : World) (a : Deed) : Prop where
  d : i64 a.Do
  n : i64 a.N
  r : Sl w a.rv 1 a.rows.length (a.rows.map str)
  k : Sl w a.kv 1 a.ks.length (ints a.ks)
theorem Deed.OK.mod0 {w w' : World} {a : Deed} (h : a.OK w) (m : Mod none' w w') : a.OK w' := ⟨h.d, h.n, h.r.mod m fun _ _ h => h, h.k.mod m fun _ _ h => h⟩
theorem Deed.one {w : World} {a : Deed} (h : a.OK w) : ∀ v ∈ a.cells, v.oneCell' = true := by
  obtain ⟨x, c, hk, -⟩ := h.k.form
  obtain ⟨y, c', hr, -⟩ := h.r.form
  intro v hv
  simp only [Deed.cells, List.mem_cons, List.not_mem_nil, or_false] at hv
  rcases hv with rfl | rfl | rfl | rfl | rfl
  · rfl
  · rfl
  · rw [hr]; rfl
  · rw [hk]; rfl
  · rfl

def Deed.few1 (a : Deed) : Bool := decide (a.Row.length ≤ 200) && decide (a.rows.length ≤ 6) && decide (a.ks.length ≤ 60) && a.rows.all fun r => decide (r.length ≤ 200)
def fewJ (l : List Deed) : Bool := decide (l.length ≤ 30) && l.all Deed.few1

theorem deed_at {w : World} {v : Value} {l : List Deed} {i : Nat} (hv : Sl w v 5 l.length (rows Deed.cells l)) (hi : i < l.length) : ∃ gb o c, v = .slice (some ⟨gb, o, none⟩) l.length c ∧
    ∀ w', Mod none' w w' → loadN w' ⟨gb, o + i * 5, none⟩ 5 = l[i].cells.toArray ∧ (∀ j, j < 5 → (w'.cell? ⟨gb, o + i * 5 + j, none⟩).isSome = true) ∧ w'.cell? ⟨gb, o + i * 5 + 1, none⟩ = some (str l[i].Row) ∧ w'.cell? ⟨gb, o + i * 5 + 2, none⟩ = some l[i].rv ∧ w'.cell? ⟨gb, o + i * 5 + 3, none⟩ = some l[i].kv := by
  obtain ⟨gb, o, c, hva, hcc, hcell⟩ := hv.get Deed.cells_len rfl (by omega)
  refine ⟨gb, o, c, hva, fun w' m => ?_⟩
  have hc : ∀ j, j < 5 → w'.cell? ⟨gb, o + i * 5 + j, none⟩ = l[i].cells[j]? := fun j hj => by
    have h1 := hcell i j hi hj
    rw [List.getElem?_eq_getElem (by rw [Deed.cells_len]; exact hj)] at h1 ⊢
    exact m.cell h1 fun h => h
  exact ⟨loadN_of rfl fun j hj => by rw [e_add]; exact hc j hj, fun j hj => by rw [hc j hj]; simp [Deed.cells_len, hj], hc 1 (by omega), hc 2 (by omega), hc 3 (by omega)⟩

section
variable {w : World} {next : Value → World → Prop} {QP : List PanicEntry → World → Prop}

theorem fewJ_ {v : Value} {l : List Deed} (hv : Sl w v 5 l.length (rows Deed.cells l)) (ha : ∀ a ∈ l, a.OK w) (k : next (.bool (fewJ l)) w) : callvK Try.prog (.func (.func 48) #[] #[]) [v] w next QP := by
  refine r48 rfl ?_
  obtain ⟨va, vc, rfl, hvc, -⟩ := hv.form
  unfold h48
  try simp only [go_sem]
  refine ⟨fun h30 => ?_, fun h30 => ?_⟩
  · have h30 : 30 < l.length := by
      have : (30 : Int) < l.length := by simpa using h30
      omega
    have : fewJ l = false := by simp only [fewJ, decide_eq_false (show ¬ l.length ≤ 30 by omega), Bool.false_and]
    rw [this] at k; exact k
  have h30 : l.length ≤ 30 := by
    have : ¬ (30 : Int) < l.length := by simpa using h30
    omega
  unfold h48_1
  try simp only [go_sem]
  refine loopN l.length (fun i τ w' => w' = w ∧ τ 0 = .slice va l.length vc ∧ τ 3 = .int .i64 i ∧ (l.take i).all Deed.few1 = true) ⟨0, by omega, rfl, rfl, rfl, by simp⟩ ?_
  rintro i τ w1 hi ⟨rfl, t0, t3, hall⟩
  unfold h48_2
  try simp only [go_sem, t0, t3]
  refine ⟨fun hlt => ?_, fun hge => ?_⟩
  · have hil : i < l.length := by
      have : (i : Int) < l.length := by simpa using hlt
      omega
    obtain ⟨gb, o, c', hva, hA⟩ := deed_at hv hil
    simp only [Value.slice.injEq] at hva
    obtain ⟨rfl, -, rfl⟩ := hva
    obtain ⟨-, -, x1, x2, x3⟩ := hA w1 (Mod.refl _ _)
    have hok := ha _ (List.getElem_mem hil)
    obtain ⟨ra, rc, hrv, -, hrcell⟩ := hok.r.form
    obtain ⟨ka, kc, hkv, -, -⟩ := hok.k.form
    rw [hrv] at x2
    rw [hkv] at x3
    have bad : Deed.few1 l[i] = false → fewJ l = false := by
      intro h
      simp only [fewJ, Bool.and_eq_false_iff]
      right
      rw [List.all_eq_false]
      exact ⟨l[i], List.getElem_mem hil, by simp [h]⟩
    have eb : (if (if decide ((200 : Int) < l[i].Row.length) = true then true else decide ((6 : Int) < l[i].rows.length)) = true then true else decide ((60 : Int) < l[i].ks.length)) = decide (200 < l[i].Row.length ∨ 6 < l[i].rows.length ∨ 60 < l[i].ks.length) := by
      have g1 : decide ((200 : Int) < l[i].Row.length) = decide (200 < l[i].Row.length) := by congr 1; apply propext; omega
      have g2 : decide ((6 : Int) < l[i].rows.length) = decide (6 < l[i].rows.length) := by congr 1; apply propext; omega
      have g3 : decide ((60 : Int) < l[i].ks.length) = decide (60 < l[i].ks.length) := by congr 1; apply propext; omega
      rw [g1, g2, g3]
      by_cases c1 : 200 < l[i].Row.length <;> by_cases c2 : 6 < l[i].rows.length <;> by_cases c3 : 60 < l[i].ks.length <;> simp [c1, c2, c3]
    unfold h48_3
    try simp only [go_sem, t0, t3, x1, x2, x3, eb]
    repeat refine ⟨⟨by omega, by omega⟩, ?_⟩
    refine ⟨fun _ => ⟨by omega, by omega⟩, fun _ => ⟨by omega, by omega⟩, fun hb => ?_, fun hb => ?_⟩
    · have hb : 200 < l[i].Row.length ∨ 6 < l[i].rows.length ∨ 60 < l[i].ks.length := by simpa using hb
      have : Deed.few1 l[i] = false := by
        simp only [Deed.few1, Bool.and_eq_false_iff, decide_eq_false_iff_not]
        rcases hb with h | h | h
        · left; left; left; omega
        · left; left; right; omega
        · left; right; omega
      rw [bad this] at k; exact k
    have hb : ¬ (200 < l[i].Row.length ∨ 6 < l[i].rows.length ∨ 60 < l[i].ks.length) := by simpa using hb
    unfold h48_4
    try simp only [go_sem, t0, t3]
    refine loopN l[i].rows.length (fun j τ w' => w' = w1 ∧ τ 0 = .slice (some ⟨gb, o, none⟩) l.length vc ∧ τ 3 = .int .i64 i ∧ τ 4 = .int .i64 j ∧ (l[i].rows.take j).all (fun r => decide (r.length ≤ 200)) = true) ⟨0, by omega, rfl, t0, t3, rfl, by simp⟩ ?_
    rintro j τ w2 hj ⟨rfl, t0, t3, t4, hallj⟩
    unfold h48_5
    try simp only [go_sem, t0, t3, t4, x2]
    repeat refine ⟨⟨by omega, by omega⟩, ?_⟩
    refine ⟨fun hltj => ?_, fun hgej => ?_⟩
    · have hjl : j < l[i].rows.length := by
        have : (j : Int) < l[i].rows.length := by simpa using hltj
        omega
      obtain ⟨gr, or, rfl, hrc⟩ := hrcell (by omega)
      have xr : w2.cell? ⟨gr, or + j, none⟩ = some (str l[i].rows[j]) := by
        rw [hrc j (by omega), List.getElem?_map, List.getElem?_eq_getElem hjl]; rfl
      unfold h48_6
      try simp only [go_sem, t0, t3, t4, x2, xr]
      repeat refine ⟨⟨by omega, by omega⟩, ?_⟩
      refine ⟨fun hg => ?_, fun hg => ?_⟩
      · have hg : 200 < l[i].rows[j].length := by
          have : (200 : Int) < l[i].rows[j].length := by simpa using hg
          omega
        have : Deed.few1 l[i] = false := by
          simp only [Deed.few1, Bool.and_eq_false_iff]
          right
          rw [List.all_eq_false]
          exact ⟨l[i].rows[j], List.getElem_mem hjl, by simp; omega⟩
        rw [bad this] at k; exact k
      · have hg : l[i].rows[j].length ≤ 200 := by
          have : ¬ (200 : Int) < l[i].rows[j].length := by simpa using hg
          omega
        unfold h48_7
        try simp only [go_sem, t0, t3, t4]
        rw [w64 (by omega) (by omega)]
        refine ⟨j + 1, by omega, by omega, rfl, ?_⟩
        rw [List.take_succ_eq_append_getElem hjl, List.all_append, hallj]
        simp [hg]
    · have hjo : j = l[i].rows.length := by
        have : ¬ (j : Int) < l[i].rows.length := by simpa using hgej
        omega
      subst hjo
      rw [List.take_length] at hallj
      unfold h48_8
      try simp only [go_sem, t0, t3]
      rw [w64 (by omega) (by omega)]
      refine ⟨i + 1, by omega, by omega, rfl, ?_⟩
      rw [List.take_succ_eq_append_getElem hil, List.all_append, hall]
      have h1 : Deed.few1 l[i] = true := by simp only [Deed.few1, hallj, Bool.and_true, Bool.and_eq_true, decide_eq_true_eq]; omega
      simp [h1]
  · have hio : i = l.length := by
      have : ¬ (i : Int) < l.length := by simpa using hge
      omega
    subst hio
    rw [List.take_length] at hall
    unfold h48_9
    try simp only [go_sem]
    have : fewJ l = true := by simp [fewJ, h30, hall]
    rw [this] at k; exact k

theorem jpick_ {n m : Int} (hn : i64 n) (hm : 0 < m ∧ m ≤ 1000) (k : next (.int .i64 (n % m)) w) : callvK Try.prog (.func (.func 50) #[] #[]) [.int .i64 n, .int .i64 m] w next QP := by
  refine r50 rfl ?_
  have h1 := hn.1
  have h2 := hn.2
  have hne : m ≠ 0 := by omega
  unfold h50
  try simp only [go_sem]
  refine ⟨hne, ?_⟩
  have hb1 : n.tmod m < m := Int.tmod_lt_of_pos _ (by omega)
  have hb2 : -m < n.tmod m := by
    have := Int.lt_tmod_of_pos n (show 0 < m by omega)
    exact this
  have hemod : n % m = if n.tmod m < 0 then n.tmod m + m else n.tmod m := by
    by_cases h0 : 0 ≤ n
    · rw [Int.tmod_eq_emod_of_nonneg h0, if_neg (by have := Int.emod_nonneg n hne; omega)]
    · have h3 := Int.tmod_add_mul_tdiv n m
      have e : n % m = (n.tmod m) % m := by
        conv => lhs; rw [← h3]
        rw [Int.add_mul_emod_self_left]
      rw [e]
      split
      · rw [← Int.add_emod_right, Int.emod_eq_of_lt (by omega) (by omega)]
      · exact Int.emod_eq_of_lt (by omega) hb1
  refine ⟨fun hneg => ?_, fun hpos => ?_⟩
  · have hneg : n.tmod m < 0 := by simpa using hneg
    rw [w64 (by omega) (by omega)]
    unfold h50_1
    try simp only [go_sem]
    rw [hemod, if_pos hneg] at k; exact k
  · have hpos : ¬ n.tmod m < 0 := by simpa using hpos
    unfold h50_1
    try simp only [go_sem]
    rw [hemod, if_neg hpos] at k; exact k
end
end Go.Proofs.Y

/- JO: plain laws: files left alone, and rewritings. -/
namespace Go.Proofs.Y
open Go Go.HL

/-- file f holds s, and all of it is durable -/
structure Clean (d : Dk) (f : Nat) (s : Bytes) : Prop where
  last : d.last f = s
  file : d.file f = s
  none : ∀ p ∈ d.queue, p.file ≠ f
structure Len (d : Dk) : Prop where
  nl : d.lasts.length = 12
  nf : d.files.length = 12

section
variable {d : Dk} {f : Nat} {s : Bytes}

theorem Len.tick (h : Len d) : Len d.tick := by unfold Dk.tick; split <;> exact ⟨h.nl, h.nf⟩
theorem Len.crash (h : Len d) (ks : List Int) : Len (d.crash ks) := by
  unfold Dk.crash; split
  · exact h
  · exact ⟨by simp only [survs_len]; exact h.nl, by simp only [survs_len]; exact h.nl⟩
theorem Len.endW (h : Len d) (e : Bool) : Len (Dk.endW e d) := by unfold Dk.endW; split; exact h.crash _; exact h
theorem Len.pre (h : Len d) : Len d.pre := h.tick.endW _
theorem Len.settle (h : Len d) (g : Nat) (t : Bytes) : Len (d.settle g t) := ⟨by simp [Dk.settle, h.nl], by simp [Dk.settle, h.nf]⟩
theorem Len.writeD (h : Len d) (g a : Int) (t : Bytes) : Len (d.writeD g a t) := by
  unfold Dk.writeD; split
  · exact h
  · exact ⟨h.nl, by simp [h.nf]⟩
theorem Len.write (h : Len d) (g a : Int) (t : Bytes) : Len (d.write g a t) := (h.tick.writeD g a t).endW _
theorem Len.flush (h : Len d) (g : Int) : Len (d.flush g) := by
  unfold Dk.flush; dsimp only; split
  · exact h.pre
  · split
    · exact ⟨h.pre.nl, h.pre.nf⟩
    · exact h.pre.settle _ _
theorem Len.cut (h : Len d) (g n : Int) : Len (d.cut g n) := by
  unfold Dk.cut; dsimp only; split
  · exact h.pre
  · split
    · exact h.pre
    · exact h.pre.settle _ _
theorem Len.turn (h : Len d) (g n : Int) : Len (d.turn g n) := by
  unfold Dk.turn; dsimp only; split
  · exact h.pre
  · split
    · exact h.pre
    · split
      · exact h.pre
      · exact (h.pre.settle _ _).settle _ _

theorem Clean.tick (h : Clean d f s) : Clean d.tick f s := by unfold Dk.tick; split <;> exact ⟨h.last, h.file, h.none⟩
theorem Clean.crash (h : Clean d f s) (ks : List Int) : Clean (d.crash ks) f s := by
  unfold Dk.crash; split
  · exact h
  · have : (survs d.lasts d.queue ks).getD f [] = s := (survs_other d.queue d.lasts ks h.none).trans h.last
    exact ⟨this, this, fun p hp => (nomatch hp)⟩
theorem Clean.endW (h : Clean d f s) (e : Bool) : Clean (Dk.endW e d) f s := by unfold Dk.endW; split; exact h.crash _; exact h
theorem Clean.pre (h : Clean d f s) : Clean d.pre f s := h.tick.endW _
theorem Clean.start (h : Clean d f s) : Clean d.start f s := ⟨h.last, h.file, h.none⟩
theorem Clean.arm (h : Clean d f s) (n : Int) (ks : List Int) : Clean (d.arm n ks) f s := ⟨h.last, h.file, h.none⟩
theorem Clean.lose (h : Clean d f s) (n : Int) : Clean (d.lose n) f s := ⟨h.last, h.file, h.none⟩
theorem Clean.settle (h : Clean d f s) {g : Nat} (hg : g ≠ f) (t : Bytes) : Clean (d.settle g t) f s := by
  refine ⟨?_, ?_, fun p hp => h.none p (List.mem_filter.1 hp).1⟩
  · have : (d.settle g t).last f = d.last f := by simp [Dk.settle, Dk.last, List.getElem?_set_ne hg]
    rw [this]; exact h.last
  · have : (d.settle g t).file f = d.file f := by simp [Dk.settle, Dk.file, List.getElem?_set_ne hg]
    rw [this]; exact h.file
theorem clean_settle (h : Len d) {g : Nat} (hg : g < 12) (t : Bytes) : Clean (d.settle g t) g t := by
  refine ⟨by simp [Dk.settle, Dk.last, h.nl, hg], by simp [Dk.settle, Dk.file, h.nf, hg], fun p hp => ?_⟩
  have := (List.mem_filter.1 hp).2
  simpa using this
theorem Clean.writeD (h : Clean d f s) {g : Nat} (hg : g ≠ f) (a : Int) (t : Bytes) : Clean (d.writeD g a t) f s := by
  unfold Dk.writeD; split
  · exact h
  · refine ⟨h.last, ?_, fun p hp => ?_⟩
    · have : (d.files.set (g : Int).toNat (put (d.file (g : Int).toNat) a.toNat t)).getD f [] = d.file f := by
        simp [Dk.file, List.getElem?_set_ne hg]
      exact this.trans h.file
    · rcases List.mem_append.1 hp with h' | h'
      · exact h.none p h'
      · rw [pieces_file _ _ _ _ p h']; simpa using hg
theorem Clean.write (h : Clean d f s) {g : Nat} (hg : g ≠ f) (a : Int) (t : Bytes) : Clean (d.write g a t) f s := (h.tick.writeD hg a t).endW _
theorem Clean.flush (h : Clean d f s) {g : Nat} (hg : g ≠ f) : Clean (d.flush g) f s := by
  unfold Dk.flush; dsimp only; split
  · exact h.pre
  · split
    · exact ⟨h.pre.last, h.pre.file, h.pre.none⟩
    · exact h.pre.settle (by simpa using hg) _
theorem Clean.cut (h : Clean d f s) {g : Nat} (hg : g ≠ f) (n : Int) : Clean (d.cut g n) f s := by
  unfold Dk.cut; dsimp only; split
  · exact h.pre
  · split
    · exact h.pre
    · exact h.pre.settle (by simpa using hg) _

theorem may_zero {d : Dk} {l : List Int} (h : d.may l = 0) : d.down = false := by
  unfold Dk.may at h; split at h
  · omega
  · rename_i hd; simpa using hd
/-- a call that is let through was no crash -/
theorem pre_up (h : d.pre.down = false) : d.pre = d.tick ∧ d.ends = false := by
  unfold Dk.pre Dk.endW at h ⊢
  cases he : d.ends with
  | false => exact ⟨rfl, rfl⟩
  | true =>
    rw [he] at h
    simp only [if_true] at h
    have hd : d.tick.down = false := by
      have : d.down = false := by unfold Dk.ends at he; simp at he; exact he.1
      unfold Dk.tick; split <;> exact this
    simp [Dk.crash, hd] at h
theorem tick_file : d.tick.file f = d.file f := by unfold Dk.tick; split <;> rfl
theorem tick_last : d.tick.last f = d.last f := by unfold Dk.tick; split <;> rfl

theorem cut_ok (hl : Len d) {g : Nat} (hg : g < 12) (h : d.cutR g 0 = 0) : Clean (d.cut g 0) g [] ∧ (d.cut g 0).down = false := by
  unfold Dk.cutR at h; dsimp only at h
  split at h
  · rename_i h1; exact absurd h h1
  · rename_i h1
    split at h
    · omega
    · rename_i h2
      have hm : d.pre.may [(g : Int)] = 0 := Decidable.byContradiction fun hn => h1 hn
      have hd := may_zero hm
      unfold Dk.cut; dsimp only
      rw [if_neg h1, if_neg h2]
      refine ⟨?_, hd⟩
      have := clean_settle hl.pre hg ((d.pre.file g).take 0)
      simpa using this
theorem write_ok (hl : Len d) {g : Nat} (hg : g < 12) {t : Bytes} (ht : t ≠ []) (h0 : d.file g = []) (h : d.writeR g 0 t = 0) : (d.write g 0 t).file g = t ∧ (d.write g 0 t).down = false := by
  unfold Dk.writeR at h
  split at h
  · omega
  · rename_i he
    have he : d.ends = false := by simpa using he
    have hm : d.tick.may [(g : Int)] = 0 := by
      unfold Dk.writeE at h; split at h
      · rename_i h1; exact absurd h h1
      · rename_i h1; exact Decidable.byContradiction fun hn => h1 hn
    have hd := may_zero hm
    unfold Dk.write Dk.endW
    rw [he]
    simp only [Bool.false_eq_true, if_false]
    unfold Dk.writeD
    rw [if_neg (by simp [h, ht])]
    refine ⟨?_, hd⟩
    have : d.tick.file g = [] := tick_file.trans h0
    have hgl : g < d.tick.files.length := by rw [hl.tick.nf]; exact hg
    show (d.tick.files.set g (put (d.tick.file g) (0 : Int).toNat t)).getD g [] = t
    rw [List.getD_eq_getElem?_getD, List.getElem?_set_self hgl, this]
    exact put_nil t
theorem flush_ok (hl : Len d) {g : Nat} (hg : g < 12) (h : d.flushR g = 0) : Clean (d.flush g) g (d.file g) ∧ (d.flush g).down = false := by
  unfold Dk.flushR at h; dsimp only at h
  split at h
  · rename_i h1; exact absurd h h1
  · rename_i h1
    split at h
    · omega
    · rename_i h2
      have hm : d.pre.may [(g : Int)] = 0 := Decidable.byContradiction fun hn => h1 hn
      have hd := may_zero hm
      unfold Dk.flush; dsimp only
      rw [if_neg h1, if_neg h2]
      refine ⟨?_, hd⟩
      have := clean_settle hl.pre hg (d.pre.file g)
      rw [(pre_up hd).1, tick_file] at this
      rw [(pre_up hd).1]
      simpa [tick_file] using this
theorem turn_ok (hl : Len d) {g : Nat} (hf : f < 12) (hg : g < 12) (hne : g ≠ f) (h : d.turnR f g = 0) : Clean (d.turn f g) f (d.last g) ∧ (d.turn f g).down = false := by
  unfold Dk.turnR at h; dsimp only at h
  split at h
  · rename_i h1; exact absurd h h1
  · rename_i h1
    split at h
    · omega
    · rename_i h2
      split at h
      · omega
      · rename_i h3
        have hm : d.pre.may [(f : Int), (g : Int)] = 0 := Decidable.byContradiction fun hn => h1 hn
        have hd := may_zero hm
        unfold Dk.turn; dsimp only
        rw [if_neg h1, if_neg h2, if_neg h3]
        refine ⟨?_, hd⟩
        have h4 := clean_settle hl.pre hf (d.pre.last g)
        have h5 := h4.settle hne []
        rw [(pre_up hd).1, tick_last] at h5
        rw [(pre_up hd).1]
        simpa [tick_last] using h5
theorem turn_no (hc : Clean d f s) {g : Nat} (h : d.turnR f g ≠ 0) : Clean (d.turn f g) f s := by
  unfold Dk.turnR at h; unfold Dk.turn; dsimp only at h ⊢
  split at h
  · rename_i h1; rw [if_pos h1]; exact hc.pre
  · rename_i h1
    rw [if_neg h1]
    split at h
    · rename_i h2; rw [if_pos h2]; exact hc.pre
    · rename_i h2
      rw [if_neg h2]
      split at h
      · rename_i h3; rw [if_pos h3]; exact hc.pre
      · exact absurd rfl h

theorem head_ne (e m : Int) (t : Bytes) : header e m ++ t ≠ [] := by
  intro h
  have := congrArg List.length h
  rw [List.length_append, header_len] at this
  simp at this

/-- a rewriting: the old rows or the new ones -/
theorem rewr_clean (hl : Len d) (hf : f ≤ 6) (hc : Clean d f s) (rows : List Bytes) : ((rewr d f rows).2 = 0 → Clean (rewr d f rows).1 f (header (16 + (formsB rows).length : Nat) rows.length ++ formsB rows) ∧ (rewr d f rows).1.down = false) ∧ ((rewr d f rows).2 ≠ 0 → Clean (rewr d f rows).1 f s) ∧ Len (rewr d f rows).1 := by
  have hne : f + 1 ≠ f := by omega
  unfold rewr
  dsimp only
  generalize ht : header (16 + (formsB rows).length : Nat) rows.length ++ formsB rows = t
  have htn : t ≠ [] := ht ▸ head_ne _ _ _
  have c1 := hc.cut hne 0
  have l1 := hl.cut (f + 1 : Nat) 0
  split
  · rename_i h1; exact ⟨fun h => absurd h h1, fun _ => c1, l1⟩
  · rename_i h1
    have h1 : d.cutR (f + 1 : Nat) 0 = 0 := Decidable.byContradiction fun hn => h1 hn
    obtain ⟨g1, -⟩ := cut_ok hl (g := f + 1) (by omega) h1
    have c2 := c1.write hne 0 t
    have l2 := l1.write (f + 1 : Nat) 0 t
    split
    · rename_i h2; exact ⟨fun h => absurd h h2, fun _ => c2, l2⟩
    · rename_i h2
      have h2 : (d.cut (f + 1 : Nat) 0).writeR (f + 1 : Nat) 0 t = 0 := Decidable.byContradiction fun hn => h2 hn
      obtain ⟨g2, -⟩ := write_ok l1 (g := f + 1) (by omega) htn g1.file h2
      have c3 := c2.flush hne
      have l3 := l2.flush (f + 1 : Nat)
      split
      · rename_i h3; exact ⟨fun h => absurd h h3, fun _ => c3, l3⟩
      · rename_i h3
        have h3 : ((d.cut (f + 1 : Nat) 0).write (f + 1 : Nat) 0 t).flushR (f + 1 : Nat) = 0 := Decidable.byContradiction fun hn => h3 hn
        obtain ⟨g3, -⟩ := flush_ok l2 (g := f + 1) (by omega) h3
        rw [g2] at g3
        refine ⟨fun h4 => ?_, fun h4 => turn_no c3 h4, l3.turn _ _⟩
        have := turn_ok l3 (f := f) (g := f + 1) (by omega) (by omega) hne h4
        rw [g3.last] at this
        exact this
end
end Go.Proofs.Y

/- JP: plain laws: the errors of a rewriting. -/
namespace Go.Proofs.Y
open Go Go.HL
section
variable {d : Dk} {f : Nat} {s : Bytes}

theorem may_range {l : List Int} (hl : l.all isF = true) : d.may l = 0 ∨ d.may l = 8 := by
  cases hd : d.down <;> simp [Dk.may, hd, hl]
theorem may_two' {f g : Int} : d.may [f, g] = if d.may [f] ≠ 0 then d.may [f] else d.may [g] := by
  unfold Dk.may
  cases d.down <;> cases hf : isF f <;> cases hg : isF g <;> simp [hf, hg]
theorem isF_nat {g : Nat} (h : g < 12) : isF (g : Int) = true := by simp [isF]; omega
theorem pre_idle' (hd : d.down = false) (he : d.ends = false) : d.pre = d.tick ∧ d.tick.down = false := by
  refine ⟨by simp [Dk.pre, Dk.endW, he], ?_⟩
  unfold Dk.tick; split <;> exact hd
theorem pre_lost : d.pre.lost = d.lost := by
  unfold Dk.pre Dk.endW
  have ht : d.tick.lost = d.lost := by unfold Dk.tick; split <;> rfl
  split
  · unfold Dk.crash; split
    · exact ht
    · exact ht
  · exact ht
theorem tick_lost : d.tick.lost = d.lost := by unfold Dk.tick; split <;> rfl
theorem writeD_lost (g a : Int) (t : Bytes) : (d.writeD g a t).lost = d.lost := by unfold Dk.writeD; split <;> rfl
theorem crash_lost (ks : List Int) : (d.crash ks).lost = d.lost := by unfold Dk.crash; split <;> rfl
theorem write_lost (g a : Int) (t : Bytes) : (d.write g a t).lost = d.lost := by
  unfold Dk.write Dk.endW; split
  · rw [crash_lost, writeD_lost, tick_lost]
  · rw [writeD_lost, tick_lost]
theorem cut_lost (g n : Int) : (d.cut g n).lost = d.lost := by
  unfold Dk.cut; dsimp only; split
  · exact pre_lost
  · split
    · exact pre_lost
    · exact pre_lost
theorem turn_lost (g n : Int) : (d.turn g n).lost = d.lost := by
  unfold Dk.turn; dsimp only; split
  · exact pre_lost
  · split
    · exact pre_lost
    · split
      · exact pre_lost
      · exact pre_lost
theorem flush_lost (h : d.lost = 0) (g : Int) : (d.flush g).lost = 0 := by
  have hp : d.pre.lost = 0 := pre_lost.trans h
  unfold Dk.flush; dsimp only; split
  · exact hp
  · split
    · omega
    · exact hp

theorem cutR_cases {g : Nat} (hg : g < 12) : (d.cutR g 0 = 0 ∨ d.cutR g 0 = 8) ∧ (d.down = false → d.ends = false → d.cutR g 0 = 0) := by
  have hm := may_range (d := d.pre) (l := [(g : Int)]) (by simp [isF_nat hg])
  have key : d.pre.may [(g : Int)] = 0 → d.cutR g 0 = 0 := by
    intro h
    unfold Dk.cutR; dsimp only
    rw [if_neg (by simp [h]), if_neg (by omega)]
  refine ⟨?_, fun hd he => key ?_⟩
  · rcases hm with h | h
    · exact .inl (key h)
    · right; unfold Dk.cutR; dsimp only; rw [if_pos (by rw [h]; decide), h]
  · obtain ⟨h1, h2⟩ := pre_idle' hd he
    rw [h1]; exact may_up h2 hg
theorem writeR_cases {g : Nat} (hg : g < 12) {t : Bytes} (hd : d.down = false) (ht : t.length ≤ 16777216) : (d.writeR g 0 t = 0 ∨ d.writeR g 0 t = 8) ∧ (d.ends = false → d.writeR g 0 t = 0) := by
  have key : d.ends = false → d.writeR g 0 t = 0 := by
    intro he
    obtain ⟨-, h2⟩ := pre_idle' hd he
    unfold Dk.writeR Dk.writeE
    rw [he]
    rw [if_neg (by decide), if_neg (by simp [may_up h2 hg]), if_neg (by omega), if_neg (by omega)]
  refine ⟨?_, key⟩
  cases he : d.ends with
  | false => exact .inl (key he)
  | true => right; simp [Dk.writeR, he]
theorem flushR_cases {g : Nat} (hg : g < 12) (hl : d.lost = 0) : (d.flushR g = 0 ∨ d.flushR g = 8) ∧ (d.down = false → d.ends = false → d.flushR g = 0) := by
  have hm := may_range (d := d.pre) (l := [(g : Int)]) (by simp [isF_nat hg])
  have hpl : d.pre.lost = 0 := pre_lost.trans hl
  have key : d.pre.may [(g : Int)] = 0 → d.flushR g = 0 := by
    intro h
    unfold Dk.flushR; dsimp only
    rw [if_neg (by simp [h]), if_neg (by omega)]
  refine ⟨?_, fun hd he => key ?_⟩
  · rcases hm with h | h
    · exact .inl (key h)
    · right; unfold Dk.flushR; dsimp only; rw [if_pos (by rw [h]; decide), h]
  · obtain ⟨h1, h2⟩ := pre_idle' hd he
    rw [h1]; exact may_up h2 hg
theorem turnR_cases {g : Nat} (hf : f < 12) (hg : g < 12) (hne : g ≠ f) (hn : ∀ p ∈ d.queue, p.file ≠ g) : (d.turnR f g = 0 ∨ d.turnR f g = 8) ∧ (d.down = false → d.ends = false → d.turnR f g = 0) := by
  have hm := may_range (d := d.pre) (l := [(f : Int), (g : Int)]) (by simp [isF_nat hg, isF_nat hf])
  have hnp : d.pre.pends g = false := by
    unfold Dk.pends
    rw [List.any_eq_false]
    intro p hp
    have hpq : p ∈ d.queue := by
      unfold Dk.pre Dk.endW at hp
      split at hp
      · unfold Dk.crash at hp; split at hp
        · rwa [tick_queue] at hp
        · cases hp
      · rwa [tick_queue] at hp
    have := hn p hpq
    simp; omega
  have key : d.pre.may [(f : Int), (g : Int)] = 0 → d.turnR f g = 0 := by
    intro h
    unfold Dk.turnR; dsimp only
    rw [if_neg (by simp [h]), if_neg (by omega), hnp]; rfl
  refine ⟨?_, fun hd he => key ?_⟩
  · rcases hm with h | h
    · exact .inl (key h)
    · right; unfold Dk.turnR; dsimp only; rw [if_pos (by rw [h]; decide), h]
  · obtain ⟨h1, h2⟩ := pre_idle' hd he
    rw [h1, may_two', may_up h2 hf]
    simp [may_up h2 hg]

theorem ends_of (h : d.armed = 0) : d.ends = false := Dk.ends_idle h
theorem tick_armed (h : d.armed = 0) : d.tick.armed = 0 := by rw [Dk.tick_idle h]; exact h
theorem cut_armed (h : d.armed = 0) (g n : Int) : (d.cut g n).armed = 0 := by
  rw [Dk.cut_idle h]; split
  · exact h
  · split
    · exact h
    · exact h
theorem write_armed (h : d.armed = 0) (g a : Int) (t : Bytes) : (d.write g a t).armed = 0 := by
  rw [Dk.write_idle h]; unfold Dk.writeD; split <;> exact h
theorem flush_armed (h : d.armed = 0) (g : Int) : (d.flush g).armed = 0 := by
  rw [Dk.flush_idle h]; split
  · exact h
  · split <;> exact h
theorem turn_armed (h : d.armed = 0) (g n : Int) : (d.turn g n).armed = 0 := by
  rw [Dk.turn_idle h]; split
  · exact h
  · split
    · exact h
    · split <;> exact h

theorem rewr_err (hl : Len d) (hf : f ≤ 6) (hlost : d.lost = 0) (rows : List Bytes) (hsz : (formsB rows).length ≤ 1000000) : ((rewr d f rows).2 = 0 ∨ (rewr d f rows).2 = 8) ∧ (d.down = false → d.armed = 0 → (rewr d f rows).2 = 0 ∧ (rewr d f rows).1.armed = 0) ∧ (rewr d f rows).1.lost = 0 := by
  have hne : f + 1 ≠ f := by omega
  have hh := header_len (16 + (formsB rows).length : Nat) rows.length
  unfold rewr
  dsimp only
  generalize ht : header (16 + (formsB rows).length : Nat) rows.length ++ formsB rows = t
  have htl : t.length ≤ 16777216 := by rw [← ht, List.length_append, hh]; omega
  have htn : t ≠ [] := ht ▸ head_ne _ _ _
  obtain ⟨r1, i1⟩ := cutR_cases (d := d) (g := f + 1) (by omega)
  have s1 : (d.cut (f + 1 : Nat) 0).lost = 0 := (cut_lost _ _).trans hlost
  have l1 := hl.cut (f + 1 : Nat) 0
  split
  · rename_i h1
    refine ⟨r1, fun hd ha => absurd (i1 hd (ends_of ha)) h1, s1⟩
  · rename_i h1
    have h1 : d.cutR (f + 1 : Nat) 0 = 0 := Decidable.byContradiction fun hn => h1 hn
    obtain ⟨g1, u1⟩ := cut_ok hl (g := f + 1) (by omega) h1
    obtain ⟨r2, i2⟩ := writeR_cases (d := d.cut (f + 1 : Nat) 0) (g := f + 1) (by omega) u1 htl
    have s2 : ((d.cut (f + 1 : Nat) 0).write (f + 1 : Nat) 0 t).lost = 0 := (write_lost _ _ _).trans s1
    have l2 := l1.write (f + 1 : Nat) 0 t
    split
    · rename_i h2
      exact ⟨r2, fun hd ha => absurd (i2 (ends_of (cut_armed ha _ _))) h2, s2⟩
    · rename_i h2
      have h2 : (d.cut (f + 1 : Nat) 0).writeR (f + 1 : Nat) 0 t = 0 := Decidable.byContradiction fun hn => h2 hn
      obtain ⟨-, u2⟩ := write_ok l1 (g := f + 1) (by omega) htn g1.file h2
      obtain ⟨r3, i3⟩ := flushR_cases (d := (d.cut (f + 1 : Nat) 0).write (f + 1 : Nat) 0 t) (g := f + 1) (by omega) s2
      have s3 := flush_lost s2 (f + 1 : Nat)
      split
      · rename_i h3
        exact ⟨r3, fun hd ha => absurd (i3 u2 (ends_of (write_armed (cut_armed ha _ _) _ _ _))) h3, s3⟩
      · rename_i h3
        have h3 : ((d.cut (f + 1 : Nat) 0).write (f + 1 : Nat) 0 t).flushR (f + 1 : Nat) = 0 := Decidable.byContradiction fun hn => h3 hn
        obtain ⟨g3, u3⟩ := flush_ok l2 (g := f + 1) (by omega) h3
        obtain ⟨r4, i4⟩ := turnR_cases (d := ((d.cut (f + 1 : Nat) 0).write (f + 1 : Nat) 0 t).flush (f + 1 : Nat)) (f := f) (g := f + 1) (by omega) (by omega) hne g3.none
        exact ⟨r4, fun hd ha => ⟨i4 u3 (ends_of (flush_armed (write_armed (cut_armed ha _ _) _ _ _) _)), turn_armed (flush_armed (write_armed (cut_armed ha _ _) _ _ _) _) _ _⟩, (turn_lost _ _).trans s3⟩
end
end Go.Proofs.Y

/- JQ: JournalTurns. -/
namespace Go.Proofs.Y
open Go Go.HL Go.Proofs

theorem sl66 : SlTy Try.prog 66 65 5 80 (.agg #[.int .i64 0, str [], .slice none 0 0, .slice none 0 0, .int .i64 0]) := ⟨by kernel_rfl, by kernel_rfl, rfl, by decide⟩
def image (rows : List Bytes) : Bytes := header (16 + (formsB rows).length : Nat) rows.length ++ formsB rows
theorem openB_image {rows : List Bytes} (h : (formsB rows).length ≤ 1000000) : openB (image rows) = some ⟨rows, rows.length, 16 + (formsB rows).length⟩ := by
  have := openB_core (Core.full rows []) (by rw [List.append_nil, List.length_append, header_len]; omega)
  rw [List.append_nil] at this
  exact this
theorem forms_le : ∀ {l : List Bytes}, (∀ r ∈ l, r.length ≤ 200) → (formsB l).length ≤ l.length * 216
  | [], _ => by simp [formsB]
  | x :: l, h => by
    have := forms_le (l := l) fun r hr => h r (List.mem_cons_of_mem _ hr)
    have hx := h x (List.mem_cons_self ..)
    simp only [formsB, List.flatMap_cons, List.length_append, List.length_cons, formB_len] at this ⊢
    omega
theorem Deed.few1_le {a : Deed} (h : a.few1 = true) : a.Row.length ≤ 200 ∧ a.rows.length ≤ 6 ∧ a.ks.length ≤ 60 ∧ (∀ r ∈ a.rows, r.length ≤ 200) ∧ (formsB a.rows).length ≤ 1296 := by
  simp only [Deed.few1, Bool.and_eq_true, decide_eq_true_eq, List.all_eq_true] at h
  obtain ⟨⟨⟨h1, h2⟩, h3⟩, h4⟩ := h
  have := forms_le h4
  exact ⟨h1, h2, h3, h4, by omega⟩
theorem rewr_queue (d : Dk) (f : Nat) (rows : List Bytes) : (rewr d f rows).1.queue.length ≤ d.queue.length + 16 + (formsB rows).length := by
  have hh := header_len (16 + (formsB rows).length : Nat) rows.length
  have h1 := cut_queue d (f + 1 : Nat) 0
  unfold rewr
  dsimp only
  generalize ht : header (16 + (formsB rows).length : Nat) rows.length ++ formsB rows = t
  have htl : t.length = 16 + (formsB rows).length := by rw [← ht, List.length_append, hh]
  have h2 := write_queue (d.cut (f + 1 : Nat) 0) (f + 1 : Nat) 0 t
  have h3 := flush_queue ((d.cut (f + 1 : Nat) 0).write (f + 1 : Nat) 0 t) (f + 1 : Nat)
  have h4 := turn_queue (((d.cut (f + 1 : Nat) 0).write (f + 1 : Nat) 0 t).flush (f + 1 : Nat)) f (f + 1 : Nat)
  repeat' split
  all_goals dsimp only
  all_goals omega

section
variable {w w0 : World} {next : Value → World → Prop} {QP : List PanicEntry → World → Prop}

theorem fill_rec {place : Nat → Option (Nat × Nat)} {cells : Array Value} {i o n : Nat} {v : Value} {cs : List Value} {rest : List (Nat × Value)} (hp : place i = some (o, n)) (hv : v.cells = cs.toArray) (hl : cs.length = n) (ho : o + n ≤ cells.size) :
    Instr.fill place cells ((i, v) :: rest) = Instr.fill place (cells.toList.take o ++ cs ++ cells.toList.drop (o + n)).toArray rest := by
  rw [Instr.fill, hp]
  simp only [hv, List.size_toArray, hl]
  rw [if_neg (by simp; omega)]
  congr 1
  rw [← Array.foldl_toList]
  simp only [Array.toList_zipIdx, List.toList_toArray]
  have key : ∀ (l : List Value) (k : Nat) (Z : Array Value), o + k + l.length ≤ Z.size → (l.zipIdx k).foldl (fun cs (x : Value × Nat) => cs.setIfInBounds (o + x.2) x.1) Z = (Z.toList.take (o + k) ++ l ++ Z.toList.drop (o + k + l.length)).toArray := by
    intro l
    induction l with
    | nil => intro k Z hk; simp
    | cons x r ih =>
      intro k Z hk
      rw [List.zipIdx_cons, List.foldl_cons, ih _ _ (by simp at hk ⊢; omega)]
      apply Array.toList_inj.1
      apply List.ext_getElem?
      intro j
      simp only [List.length_cons] at hk
      simp only [Array.toList_setIfInBounds, List.append_assoc, List.getElem?_append, List.length_take, List.length_set, Array.length_toList, List.getElem?_take, List.getElem?_set, List.getElem?_drop, List.length_cons, List.getElem?_cons]
      repeat' split
      all_goals first
        | rfl
        | (exfalso; omega)
        | (congr 1; omega)
        | (exfalso; simp_all; omega)
  have := key cs 0 cells (by omega)
  simpa [hl] using this
theorem bsl2d {a b : Deed} (k : ∀ q w', w.heap.size = q → Own w' (.slice (some ⟨q, 0, none⟩) 2 2) 65 5 2 (rows Deed.cells [a, b]) → Mod none' w w' → next (.slice (some ⟨q, 0, none⟩) 2 2) w') :
    bslK Try.prog 66 2 [(0, .agg #[.int .i64 a.Do, str a.Row, a.rv, a.kv, .int .i64 a.N]), (1, .agg #[.int .i64 b.Do, str b.Row, b.rv, b.kv, .int .i64 b.N])] w next QP := by
  refine bsl_ sl66 (cs := rows Deed.cells [a, b]) rfl (by omega) ?_ ?_
  · have f1 := fill_rec (place := fun i => some (i * 5, 5)) (cells := (Array.range (2 * 5)).map ((Value.agg #[.int .i64 0, str [], .slice none 0 0, .slice none 0 0, .int .i64 0]).cells[· % (Value.agg #[.int .i64 0, str [], .slice none 0 0, .slice none 0 0, .int .i64 0]).cells.size]!)) (i := 0) (o := 0) (n := 5) (v := .agg #[.int .i64 a.Do, str a.Row, a.rv, a.kv, .int .i64 a.N]) (cs := a.cells) (rest := [(1, .agg #[.int .i64 b.Do, str b.Row, b.rv, b.kv, .int .i64 b.N])]) rfl rfl rfl (by simp)
    rw [f1, fill_rec (i := 1) (o := 5) (n := 5) (cs := b.cells) rfl rfl rfl (by simp [Deed.cells]), Instr.fill]
    congr 1
    apply Array.toList_inj.1
    simp [rows, Deed.cells]
  intro q w' hq own _ m _
  exact k q w' hq own m

theorem jopen_ {p g : Nat} {d : Dk} {F : FP} {L : Lg} {f : Int} (dr : DR w p d F) (f0 : ∀ k, F.R k → w0.heap.size ≤ k) (m : Mod none' w0 w) (hf : f = g) (hg : g ≤ 6) (hd : d.down = false) (hO : openB (d.file g) = some L)
    (k : ∀ q w' S, JS w0 w' p q g d L F S → Mod none' w w' → next (.tuple #[ptr q, .int .i64 0]) w') : callvK Try.prog (.func (.func 44) #[] #[]) [ptr p, .int .i64 f] w next QP := by
  subst hf
  have hm := may_up hd (f := g) (by omega)
  have hE : openE d g = 0 := by
    have h1 : ¬ ((g : Int) < 0 ∨ (6 : Int) < g) := by omega
    simp only [openE, if_neg h1, hm, Int.toNat_natCast, hO]; rfl
  refine open_ dr (fun w9 m9 hne => absurd hE hne) ?_
  intro g' L' hg' _ _ hL q w' S lg hS m'
  obtain rfl : g' = g := by omega
  rw [hO] at hL
  obtain rfl := Option.some.inj hL
  exact k q w' S (JS.opened dr f0 m lg hS m') m'
theorem jnew_ (k : ∀ p w' F, DR w' p Dk.new F → (∀ k, F.R k → w.heap.size ≤ k) → Mod none' w w' → next (ptr p) w') : callvK Try.prog (.func (.func 17) #[] #[]) [] w next QP := by
  refine new_ ?_
  intro p w' _ st
  exact k p w' st.foot st.dr (fun k hk => by rcases st.footR k hk with h | h; exact h.elim; exact h) (st.mod.mono fun _ _ h => h)

/-- at rest: up, no crash armed, no flush lost, with this file durable -/
structure Rest (d : Dk) (f : Nat) (s : Bytes) : Prop where
  len : Len d
  clean : Clean d f s
  down : d.down = false
  armed : d.armed = 0
  lost : d.lost = 0
theorem Rest.rewr {d : Dk} {f : Nat} {s : Bytes} (h : Rest d f s) (hf : f ≤ 6) (rows : List Bytes) (hsz : (formsB rows).length ≤ 1000000) : (rewr d f rows).2 = 0 ∧ Rest (rewr d f rows).1 f (image rows) := by
  obtain ⟨c1, c2, c3⟩ := rewr_clean h.len hf h.clean rows
  obtain ⟨e1, e2, e3⟩ := rewr_err h.len hf h.lost rows hsz
  obtain ⟨e4, e5⟩ := e2 h.down h.armed
  obtain ⟨c4, c5⟩ := c1 e4
  exact ⟨e4, c3, c4, c5, e5, e3⟩

theorem jturns2 {p q : Nat} {d : Dk} {L : Lg} {F : FP} {S : Nat → Prop} {s : Bytes} {e : Int} {v0 v1 v3 : Value} {old nw : List Bytes} {keep : List Int} {σ : Env} {w1 : World} (h : JS w w1 p q 5 d L F S) (hr : Rest d 5 s) (hq : d.queue.length ≤ 10000)
    (h0 : Sl w v0 1 old.length (old.map str)) (h1 : Sl w v1 1 nw.length (nw.map str)) (h3 : Sl w v3 1 keep.length (ints keep)) (b0 : (formsB old).length ≤ 1296) (b1 : (formsB nw).length ≤ 1296) (b3 : keep.length ≤ 60)
    (he : (e = 0 ∧ L.rows = nw) ∨ (e = 8 ∧ L.rows = old)) (s0 : σ 0 = v0) (s1 : σ 1 = v1) (s3 : σ 3 = v3) (s9 : σ 9 = .bool true) (s11 : σ 11 = ptr p) (s13 : σ 13 = .int .i64 e) (s14 : σ 14 = ptr q)
    (k : ∀ w', Mod none' w w' → next (.bool true) w') : hw Try.prog noPanic h11_5 (endV [.tmp 8] next) σ w1 := by
  have hrb := h.lg.rb
  have hbd := h.lg.bd
  have l1 := formsB_rows nw
  have l0 := formsB_rows old
  have lt1 := fun hn => h1.lt (by omega) hn
  have lt3 := fun hn => h3.lt (by omega) hn
  unfold h11_5
  try simp only [go_sem, s0, s1, s3, s9, s11, s13, s14]
  refine jall_ h.lg ?_
  intro v2 w2 own2 m2 _
  try simp only [go_sem, s0, s1, s3, s9, s11, s13, s14]
  refine same__ own2.sl ((h0.mod h.m fun _ _ h => h).mod m2 fun _ _ h => h) (by omega) ?_
  intro w3 m3
  try simp only [go_sem, s0, s1, s3, s9, s11, s13, s14]
  refine jall_ ((h.mod0 m2).mod0 m3).lg ?_
  intro v4 w4 own4 m4 _
  try simp only [go_sem, s0, s1, s3, s9, s11, s13, s14]
  refine same__ own4.sl ((((h1.mod h.m fun _ _ h => h).mod m2 fun _ _ h => h).mod m3 fun _ _ h => h).mod m4 fun _ _ h => h) (by omega) ?_
  intro w5 m5
  have h5 := (((h.mod0 m2).mod0 m3).mod0 m4).mod0 m5
  try simp only [go_sem, s0, s1, s3, s9, s11, s13, s14]
  have hc : (if (if decide (e = 0) = true then !decide (L.rows = nw) else false) = true then true else if (!decide (L.rows = old)) = true then !decide (L.rows = nw) else false) = false := by
    rcases he with ⟨rfl, h⟩ | ⟨rfl, h⟩ <;> simp [h]
  obtain ⟨re, rr⟩ := hr.rewr (by omega) nw (by omega)
  have rq := rewr_queue d 5 nw
  unfold h11_6
  try simp only [go_sem, s0, s1, s3, s9, s11, s13, s14, hc]
  refine rewrite_ h5 (by omega) (h1.mod h5.m fun _ _ h => h) (fun hn k hk => ?_) (by omega) ?_
  · have := lt1 hn k hk
    have := h5.m.size
    exact ⟨fun hR => by have := h5.f0 k hR; omega, by omega⟩
  intro w6 ⟨F6, S6, h6⟩
  have e6 : (rewriteJ d L 5 nw).2.2 = 0 := re
  rw [e6]
  have h6 : JS w w6 p q 5 (rewr d 5 nw).1 _ F6 S6 := h6
  generalize (rewr d 5 nw).1 = d6 at *
  try simp only [go_sem, s0, s1, s3, s9, s11, s13, s14, hc]
  unfold h11_7
  try simp only [go_sem, s0, s1, s3, s9, s11, s13, s14]
  refine crash_ h6.dr (h3.mod h6.m fun _ _ h => h) (fun hn hk => ?_) (by omega) ?_
  · have := lt3 hn p hk
    have := h6.f0 p (h6.dr.sub p h6.dr.self)
    omega
  intro w7 st7
  have h7 := h6.disk st7
  try simp only [go_sem, s0, s1, s3, s9, s11, s13, s14]
  refine start_ h7.dr ?_
  intro w8 dr8 m8 _
  have h8 := h7.disk (.of dr8 m8)
  try simp only [go_sem, s0, s1, s3, s9, s11, s13, s14]
  have hcl : Clean (d6.crash keep).start 5 (image nw) := (rr.clean.crash _).start
  refine jopen_ (g := 5) h8.dr h8.f0 h8.m rfl (by omega) rfl (by rw [hcl.file]; exact openB_image (by omega)) ?_
  intro q9 w9 S9 h9 m9
  try simp only [go_sem, s0, s1, s3, s9, s11, s13, s14]
  unfold h11_8
  try simp only [go_sem, s0, s1, s3, s9, s11, s13, s14]
  refine jall_ h9.lg ?_
  intro v10 w10 own10 m10 _
  try simp only [go_sem, s0, s1, s3, s9, s11, s13, s14]
  refine same__ own10.sl ((h1.mod h9.m fun _ _ h => h).mod m10 fun _ _ h => h) (by dsimp only; omega) ?_
  intro w11 m11
  try simp only [go_sem, s0, s1, s3, s9, s11, s13, s14]
  exact k _ ((h9.m.trans' m10).trans' m11)

theorem i64_0 : i64 0 := ⟨by decide, by decide⟩
theorem jturns_ {v0 v1 v3 : Value} {old nw : List Bytes} {n : Int} {keep : List Int} (hn : i64 n) (h0 : Sl w v0 1 old.length (old.map str)) (h1 : Sl w v1 1 nw.length (nw.map str)) (h3 : Sl w v3 1 keep.length (ints keep))
    (k : ∀ w', Mod none' w w' → next (.bool true) w') : callK Try.prog 11 [v0, v1, .int .i64 n, v3] w next QP := by
  refine q11 rfl ?_
  obtain ⟨a0, c0, hv0, -, -⟩ := h0.form
  obtain ⟨a1, c1, hv1, -, -⟩ := h1.form
  obtain ⟨a3, c3, hv3, -, -⟩ := h3.form
  unfold h11
  try simp only [go_sem]
  refine jsmall_ ?_
  intro w1 m1
  have ok1 : (⟨0, [], v0, old, v3, keep, 0⟩ : Deed).OK w1 := ⟨i64_0, i64_0, h0.mod m1 fun _ _ h => h, h3.mod m1 fun _ _ h => h⟩
  have ok2 : (⟨0, [], v1, nw, .slice none 0 0, [], 0⟩ : Deed).OK w1 := ⟨i64_0, i64_0, h1.mod m1 fun _ _ h => h, sl_nil⟩
  have e1 : v2 (.put 3 1) (v2 (.put 2 1) (.agg #[.int .i64 0, str [], .slice none 0 0, .slice none 0 0, .int .i64 0]) v0) v3 = .agg #[.int .i64 0, str [], v0, v3, .int .i64 0] := by rw [hv0, hv3]; rfl
  have e2 : v2 (.put 2 1) (.agg #[.int .i64 0, str [], .slice none 0 0, .slice none 0 0, .int .i64 0]) v1 = .agg #[.int .i64 0, str [], v1, .slice none 0 0, .int .i64 0] := by rw [hv1]; rfl
  have f1 : c2 (.put 2 1) (.agg #[.int .i64 0, str [], .slice none 0 0, .slice none 0 0, .int .i64 0]) v0 := by rw [hv0]; simp [c2, Value.cells]
  have f2 : c2 (.put 3 1) (v2 (.put 2 1) (.agg #[.int .i64 0, str [], .slice none 0 0, .slice none 0 0, .int .i64 0]) v0) v3 := by
    have : v2 (.put 2 1) (.agg #[.int .i64 0, str [], .slice none 0 0, .slice none 0 0, .int .i64 0]) v0 = .agg #[.int .i64 0, str [], v0, .slice none 0 0, .int .i64 0] := by rw [hv0]; rfl
    rw [this, hv3]; simp [c2, Value.cells]
  have f3 : c2 (.put 2 1) (.agg #[.int .i64 0, str [], .slice none 0 0, .slice none 0 0, .int .i64 0]) v1 := by rw [hv1]; simp [c2, Value.cells]
  try simp only [go_sem]
  refine ⟨f1, f2, f3, ?_⟩
  rw [e1, e2]
  refine bsl2d (a := ⟨0, [], v0, old, v3, keep, 0⟩) (b := ⟨0, [], v1, nw, .slice none 0 0, [], 0⟩) ?_
  intro b2 w2 _ own2 m2
  try simp only [go_sem]
  refine fewJ_ (l := [⟨0, [], v0, old, v3, keep, 0⟩, ⟨0, [], v1, nw, .slice none 0 0, [], 0⟩]) own2.sl (fun a ha => ?_) ?_
  · simp only [List.mem_cons, List.not_mem_nil, or_false] at ha
    rcases ha with rfl | rfl
    · exact ok1.mod0 m2
    · exact ok2.mod0 m2
  try simp only [go_sem]
  refine ⟨fun hf => k _ (m1.trans' m2), fun hf => ?_⟩
  have hf : (Deed.few1 ⟨0, [], v0, old, v3, keep, 0⟩ = true) ∧ (Deed.few1 ⟨0, [], v1, nw, .slice none 0 0, [], 0⟩ = true) := by simpa [fewJ] using hf
  obtain ⟨-, hl0, hlk, -, b0⟩ := Deed.few1_le hf.1
  obtain ⟨-, hl1, -, -, b1⟩ := Deed.few1_le hf.2
  dsimp only at hl0 hlk b0 hl1 b1
  unfold h11_1
  try simp only [go_sem]
  refine jnew_ ?_
  intro p w3 F3 dr3 f3 m3
  have M3 := (m1.trans' m2).trans' m3
  have s12 := (m1.trans' m2).size
  have f3 : ∀ k, F3.R k → w.heap.size ≤ k := fun k hk => by have := f3 k hk; omega
  try simp only [go_sem]
  refine jopen_ (g := 5) dr3 f3 M3 rfl (by omega) rfl (openB_core (s := []) .nil (by decide)) ?_
  intro q4 w4 S4 h4 m4
  try simp only [go_sem]
  have r0 : Rest Dk.new 5 [] := ⟨⟨rfl, rfl⟩, ⟨rfl, rfl, fun p hp => (nomatch hp)⟩, rfl, rfl, rfl⟩
  obtain ⟨re1, rr1⟩ := r0.rewr (by omega) old (by omega)
  have rq1 := rewr_queue Dk.new 5 old
  have hq0 : Dk.new.queue.length = 0 := rfl
  refine rewrite_ h4 (by omega) (h0.mod h4.m fun _ _ h => h) (fun hn k hk => ?_) (by omega) ?_
  · have := h0.lt (by omega) hn k hk
    have := h4.m.size
    exact ⟨fun hR => by have := h4.f0 k hR; omega, by omega⟩
  intro w5 ⟨F5, S5, h5⟩
  have e5 : ∀ L, (rewriteJ Dk.new L 5 old).2.2 = 0 := fun _ => re1
  rw [e5]
  have h5 : JS w w5 p q4 5 (rewr Dk.new 5 old).1 _ F5 S5 := h5
  generalize (rewr Dk.new 5 old).1 = d5 at *
  try simp only [go_sem]
  unfold h11_2
  try simp only [go_sem]
  refine jpick_ hn (by omega) ?_
  have hp1 := Int.emod_nonneg n (show (5 : Int) ≠ 0 by omega)
  have hp2 := Int.emod_lt_of_pos n (show (0 : Int) < 5 by omega)
  try simp only [go_sem]
  rw [w64 (by omega) (by omega)]
  refine arm_ h5.dr (by omega) (h3.mod h5.m fun _ _ h => h) (by omega) ?_
  intro w6 st6
  have h6 := h5.disk st6
  try simp only [go_sem]
  have l6 : Len (d5.arm (1 + n % 5) keep) := ⟨rr1.len.nl, rr1.len.nf⟩
  have lost6 : (d5.arm (1 + n % 5) keep).lost = 0 := rr1.lost
  have hq6 : (d5.arm (1 + n % 5) keep).queue.length = d5.queue.length := rfl
  obtain ⟨c1, c2, c3⟩ := rewr_clean l6 (by omega) (rr1.clean.arm (1 + n % 5) keep) nw
  obtain ⟨x1, -, x3⟩ := rewr_err l6 (by omega) lost6 nw (f := 5) (by omega)
  have rq6 := rewr_queue (d5.arm (1 + n % 5) keep) 5 nw
  refine rewrite_ h6 (by omega) (h1.mod h6.m fun _ _ h => h) (fun hn k hk => ?_) (by omega) ?_
  · have := h1.lt (by omega) hn k hk
    have := h6.m.size
    exact ⟨fun hR => by have := h6.f0 k hR; omega, by omega⟩
  intro w7 ⟨F7, S7, h7⟩
  have e7 : ∀ L, (rewriteJ (d5.arm (1 + n % 5) keep) L 5 nw).2.2 = (rewr (d5.arm (1 + n % 5) keep) 5 nw).2 := fun _ => rfl
  rw [e7]
  have h7 : JS w w7 p q4 5 (rewr (d5.arm (1 + n % 5) keep) 5 nw).1 _ F7 S7 := h7
  generalize (rewr (d5.arm (1 + n % 5) keep) 5 nw).1 = d7 at *
  generalize (rewr (d5.arm (1 + n % 5) keep) 5 nw).2 = e at *
  try simp only [go_sem]
  refine arm_ h7.dr (by omega) sl_nil (by omega) ?_
  intro w8 st8
  have h8 := h7.disk st8
  try simp only [go_sem]
  unfold h11_3
  try simp only [go_sem]
  refine ⟨fun he => ?_, fun he => ?_⟩
  · have he : e ≠ 0 := by simpa using he
    have he8 : e = 8 := by omega
    have cc := c2 he
    refine start_ h8.dr ?_
    intro w9 dr9 m9 _
    have h9 := h8.disk (.of dr9 m9)
    try simp only [go_sem]
    unfold h11_4
    try simp only [go_sem]
    refine jopen_ (g := 5) h9.dr h9.f0 h9.m rfl (by omega) rfl (L := ⟨old, old.length, 16 + (formsB old).length⟩) ?_ ?_
    · have := ((cc.arm 0 []).start).file
      rw [this]; exact openB_image (by omega)
    intro q10 w10 S10 h10 m10
    try simp only [go_sem, he8]
    exact jturns2 h10 ⟨⟨c3.nl, c3.nf⟩, (cc.arm 0 []).start, rfl, rfl, x3⟩ (by show d7.queue.length ≤ _; omega) h0 h1 h3 b0 b1 hlk (.inr ⟨rfl, rfl⟩) rfl rfl rfl rfl rfl rfl rfl k
  · have he : e = 0 := by simpa using he
    subst he
    obtain ⟨cc, hd⟩ := c1 rfl
    unfold h11_4
    try simp only [go_sem]
    refine jopen_ (g := 5) h8.dr h8.f0 h8.m rfl (by omega) hd (L := ⟨nw, nw.length, 16 + (formsB nw).length⟩) ?_ ?_
    · rw [(cc.arm 0 []).file]; exact openB_image (by omega)
    intro q10 w10 S10 h10 m10
    try simp only [go_sem]
    exact jturns2 h10 ⟨⟨c3.nl, c3.nf⟩, cc.arm 0 [], hd, rfl, x3⟩ (by show d7.queue.length ≤ _; omega) h0 h1 h3 b0 b1 hlk (.inl ⟨rfl, rfl⟩) rfl rfl rfl rfl rfl rfl rfl k
end
end Go.Proofs.Y

/- JR: plain laws: a log over a disk at rest. -/
namespace Go.Proofs.Y
open Go Go.HL Go.Proofs

/-- up, no crash armed, no flush lost -/
structure At (d : Dk) : Prop where
  len : Len d
  down : d.down = false
  armed : d.armed = 0
  lost : d.lost = 0
theorem at_new : At Dk.new := ⟨⟨rfl, rfl⟩, rfl, rfl, rfl⟩

theorem rewr_done {d : Dk} {f : Nat} (hl : Len d) (hf : f ≤ 6) (rows : List Bytes) (h : (rewr d f rows).2 = 0) : Clean (rewr d f rows).1 f (image rows) ∧ (rewr d f rows).1.down = false := by
  have hne : f + 1 ≠ f := by omega
  unfold image
  unfold rewr at h ⊢
  dsimp only at h ⊢
  generalize ht : header (16 + (formsB rows).length : Nat) rows.length ++ formsB rows = t at *
  have htn : t ≠ [] := ht ▸ head_ne _ _ _
  have l1 := hl.cut (f + 1 : Nat) 0
  split at h
  · rename_i h1; exact absurd h h1
  · rename_i h1
    rw [if_neg h1]
    have h1 : d.cutR (f + 1 : Nat) 0 = 0 := Decidable.byContradiction fun hn => h1 hn
    obtain ⟨g1, -⟩ := cut_ok hl (g := f + 1) (by omega) h1
    have l2 := l1.write (f + 1 : Nat) 0 t
    split at h
    · rename_i h2; exact absurd h h2
    · rename_i h2
      rw [if_neg h2]
      have h2 : (d.cut (f + 1 : Nat) 0).writeR (f + 1 : Nat) 0 t = 0 := Decidable.byContradiction fun hn => h2 hn
      obtain ⟨g2, -⟩ := write_ok l1 (g := f + 1) (by omega) htn g1.file h2
      have l3 := l2.flush (f + 1 : Nat)
      split at h
      · rename_i h3; exact absurd h h3
      · rename_i h3
        rw [if_neg h3]
        have h3 : ((d.cut (f + 1 : Nat) 0).write (f + 1 : Nat) 0 t).flushR (f + 1 : Nat) = 0 := Decidable.byContradiction fun hn => h3 hn
        obtain ⟨g3, -⟩ := flush_ok l2 (g := f + 1) (by omega) h3
        rw [g2] at g3
        have := turn_ok l3 (f := f) (g := f + 1) (by omega) (by omega) hne h
        rw [g3.last] at this
        exact this
theorem rewr_len {d : Dk} {f : Nat} (hl : Len d) (rows : List Bytes) : Len (rewr d f rows).1 := by
  unfold rewr
  dsimp only
  split
  · exact hl.cut _ _
  · split
    · exact (hl.cut _ _).write _ _ _
    · split
      · exact ((hl.cut _ _).write _ _ _).flush _
      · exact (((hl.cut _ _).write _ _ _).flush _).turn _ _

section
variable {d : Dk} {f : Nat}
theorem At.rewr (h : At d) (hf : f ≤ 6) (rows : List Bytes) (hsz : (formsB rows).length ≤ 1000000) : (rewr d f rows).2 = 0 ∧ At (rewr d f rows).1 := by
  obtain ⟨-, e2, e3⟩ := rewr_err h.len hf h.lost rows hsz
  obtain ⟨e4, e5⟩ := e2 h.down h.armed
  exact ⟨e4, rewr_len h.len rows, (rewr_done h.len hf rows e4).2, e5, e3⟩
theorem At.write (h : At d) (hf : f < 12) {a : Nat} {s : Bytes} (hfit : a + s.length ≤ 16777216) : d.writeR f a s = 0 ∧ At (d.write f a s) := by
  have hm := may_up h.down hf
  obtain ⟨h1, h2, -⟩ := idle_same h.armed hm (a := a) (s := s) (by omega) (by omega)
  exact ⟨idle_writeR h.armed hm (by omega) (by omega), h.len.write _ _ _, h2.trans h.down, h1, (write_lost _ _ _).trans h.lost⟩
theorem At.flush (h : At d) (hf : f < 12) : d.flushR f = 0 ∧ At (d.flush f) := by
  have h1 := (flushR_cases (d := d) hf h.lost).2 h.down (ends_of h.armed)
  exact ⟨h1, h.len.flush _, (flush_ok h.len hf h1).2, flush_armed h.armed _, flush_lost h.lost _⟩
theorem At.flushJ (h : At d) (hf : f < 12) (L : Lg) : (flushJ d L f).2.2 = 0 ∧ (flushJ d L f).2.1 = ⟨L.rows, L.rows.length, L.end_⟩ ∧ At (flushJ d L f).1 := by
  obtain ⟨f1, a1⟩ := h.flush hf
  obtain ⟨f2, a2⟩ := a1.write hf (a := 0) (s := header L.end_ L.rows.length) (by rw [header_len]; omega)
  obtain ⟨f3, a3⟩ := a2.flush hf
  have f2 : (d.flush f).writeR f 0 (header L.end_ L.rows.length) = 0 := f2
  have e : flush3 d L f = (((d.flush f).write f 0 (header L.end_ L.rows.length)).flush f, 0) := by
    unfold flush3
    rw [if_neg (fun hn => hn f1), if_neg (fun hn => hn f2)]
    exact congrArg (Prod.mk _) f3
  unfold Y.flushJ
  split
  · rename_i hs
    refine ⟨by simp [h.down], ?_, h⟩
    show L = _
    rw [← hs]
  · rw [e]
    exact ⟨rfl, rfl, a3⟩
theorem At.add (h : At d) (hf : f < 12) (L : Lg) (rows : List Bytes) (hfit : L.end_ + (formsB rows).length ≤ 16777216) : addE d L f rows = 0 ∧ At (addD' d L f rows) := h.write hf hfit
theorem At.batch (h : At d) (hf : f < 12) (L : Lg) (rows : List Bytes) (hfit : L.end_ + (formsB rows).length ≤ 16777216) : (batchJ d L f rows).2.2 = 0 ∧ (batchJ d L f rows).2.1 = ⟨L.rows ++ rows, (L.rows ++ rows).length, L.end_ + (formsB rows).length⟩ ∧ At (batchJ d L f rows).1 := by
  unfold batchJ
  split
  · rename_i h0
    subst h0
    obtain ⟨e1, e2, e3⟩ := h.flushJ hf L
    exact ⟨e1, by rw [e2]; simp [formsB], e3⟩
  · obtain ⟨a1, a2⟩ := h.add hf L rows hfit
    rw [if_neg (fun hn => hn a1)]
    obtain ⟨e1, e2, e3⟩ := a2.flushJ hf (L.add rows)
    exact ⟨e1, e2, e3⟩
theorem flushJ_queue (d : Dk) (L : Lg) (f : Nat) : (flushJ d L f).1.queue.length ≤ d.queue.length + 16 := by
  unfold flushJ
  split
  · dsimp only; omega
  · dsimp only
    have h1 := flush_queue d f
    have h2 := write_queue (d.flush f) f 0 (header L.end_ L.rows.length)
    have h3 := flush_queue ((d.flush f).write f 0 (header L.end_ L.rows.length)) f
    rw [header_len] at h2
    unfold flush3
    split
    · dsimp only; omega
    · split <;> (dsimp only; omega)
theorem addJ_queue (d : Dk) (L : Lg) (f : Nat) (rows : List Bytes) : (addD' d L f rows).queue.length ≤ d.queue.length + (formsB rows).length := write_queue _ _ _ _
theorem batchJ_queue (d : Dk) (L : Lg) (f : Nat) (rows : List Bytes) : (batchJ d L f rows).1.queue.length ≤ d.queue.length + 16 + (formsB rows).length := by
  unfold batchJ
  have h1 := flushJ_queue d L f
  have h2 := addJ_queue d L f rows
  have h3 := flushJ_queue (addD' d L f rows) (L.add rows) f
  split
  · omega
  · split
    · dsimp only; omega
    · omega
end
end Go.Proofs.Y

/- JU: JournalLists. -/
namespace Go.Proofs.Y
open Go Go.HL Go.Proofs

def base (w0 w : World) (B : Nat → Prop) (hw : w0.heap.size ≤ w.heap.size) (hB : ∀ k, B k → k < w.heap.size) : Base := ⟨w, fun k => k < w0.heap.size ∨ B k, fun k hk => by rcases hk with hk | hk; omega; exact hB k hk⟩
/-- a value's block, apart from disk and log -/
def Apart (w0 : World) (v : Value) (F : FP) (S : Nat → Prop) : Prop := ∀ k, v.ownBlock = some k → w0.heap.size ≤ k ∧ ¬ F.R k ∧ ¬ S k

section
variable {w0 w w' : World} {p q f : Nat} {d d' : Dk} {L L' : Lg} {F F' : FP} {S S' B : Nat → Prop} {v v' : Value}
theorem JS.base (h : JS w0 w p q f d L F S) (ha : ∀ k, B k → ¬ F.R k ∧ ¬ S k) (hw : w0.heap.size ≤ w.heap.size) (hB : ∀ k, B k → k < w.heap.size) : GS (base w0 w B hw hB) w p q f d L F S :=
  ⟨h.dr, h.lg, h.ap, fun k hk hA => hA.elim (fun h1 => by have := h.f0 k hk; omega) fun h1 => (ha k h1).1 hk, fun k hk hA => hA.elim (fun h1 => by have := h.s0 k hk; omega) fun h1 => (ha k h1).2 hk, Mod.refl _ _⟩
theorem GS.back {hw : w0.heap.size ≤ w.heap.size} {hB : ∀ k, B k → k < w.heap.size} (g : GS (Y.base w0 w B hw hB) w' p q f d' L' F' S') (m : Mod none' w0 w) :
    JS w0 w' p q f d' L' F' S' ∧ (∀ k, B k → ¬ F'.R k ∧ ¬ S' k) ∧ Mod (fun k => ¬ (k < w0.heap.size ∨ B k)) w w' := by
  refine ⟨⟨g.dr, g.lg, g.ap, fun k hk => Nat.not_lt.1 fun h => g.f0 k hk (.inl h), fun k hk => Nat.not_lt.1 fun h => g.s0 k hk (.inl h), m.trans g.m fun k hk h => h (.inl hk)⟩, fun k hk => ⟨fun h => g.f0 k h (.inr hk), fun h => g.s0 k h (.inr hk)⟩, g.m⟩
theorem JS.held (h : JS w0 w p q f d L F S) (ha : Apart w0 v F S) (m : Mod (ownS v) w w') : JS w0 w' p q f d L F S :=
  ⟨h.dr.mod m fun k hk hT => (ha k hT).2.1 hk, h.lg.mod m fun k hk hT => (ha k hT).2.2 hk, h.ap, h.f0, h.s0, h.m.trans m fun k hk hT => by have := (ha k hT).1; omega⟩
theorem Apart.next (h : JS w0 w p q f d L F S) (ha : Apart w0 v F S) (hb : ∀ k, v'.ownBlock = some k → v.ownBlock = some k ∨ w.heap.size ≤ k) : Apart w0 v' F S := by
  intro k hk
  rcases hb k hk with h' | h'
  · exact ha k h'
  · have := h.m.size
    exact ⟨by omega, fun hR => by have := h.dr.lt k hR; omega, fun hS => by have := h.lg.lt k hS; omega⟩
end

/-- disk, log, and the rows that were kept by -/
def Tr (w0 w : World) (p q f : Nat) (L : Lg) (v : Value) (b n : Nat) : Prop :=
  ∃ F S d, JS w0 w p q f d L F S ∧ At d ∧ Own w v 9 1 L.rows.length (L.rows.map str) ∧ Apart w0 v F S ∧ L.end_ = 16 + (formsB L.rows).length ∧ (formsB L.rows).length ≤ b ∧ d.queue.length ≤ n

section
variable {w : World} {next : Value → World → Prop} {QP : List PanicEntry → World → Prop}

theorem and_i64 (a b : Int) : ∃ t, intV .and .i64 a b = .int .i64 t := ⟨_, rfl⟩

theorem Tr.mod0 {w0 w w' : World} {p q f b n : Nat} {L : Lg} {v : Value} (h : Tr w0 w p q f L v b n) (m : Mod none' w w') : Tr w0 w' p q f L v b n := by
  obtain ⟨F, S, d, h, a, o, ap, r⟩ := h
  exact ⟨F, S, d, h.mod0 m, a, o.mod m fun _ _ h => h, ap, r⟩

theorem jlists6 {p q b n : Nat} {L : Lg} {v7 : Value} {w1 : World} {τ : Env} {X : HX → Env → World → Prop} (hT : Tr w w1 p q 0 L v7 b n) (t5 : τ 5 = ptr q) (t6 : τ 6 = .int .i64 0) (t7 : τ 7 = v7) (t8 : τ 8 = .int .i64 L.sure)
    (k : ∀ σ' w', Tr w w' p q 0 L v7 b n → (∀ j, j < 10 → σ' j = τ j) → X .normal σ' w') : hw Try.prog noPanic h12_6 X τ w1 := by
  have hT' := hT
  obtain ⟨F, S, d, h, hat, own7, hap, hend, hb, hq⟩ := hT'
  have hrb := h.lg.rb
  have hbd := h.lg.bd
  unfold h12_6
  try simp only [go_sem, t5, t6, t7, t8]
  refine jall_ h.lg ?_
  intro v2 w2 own2 m2 _
  try simp only [go_sem, t5, t6, t7, t8]
  refine same__ own2.sl (own7.mod m2 fun _ _ h => h).sl (by omega) ?_
  intro w3 m3
  try simp only [go_sem, t5, t6, t7, t8]
  refine jsure_ ((h.lg.mod0 m2).mod0 m3) ?_
  try simp only [go_sem, t5, t6, t7, t8, bne_self_eq_false]
  refine k _ _ ((hT.mod0 m2).mod0 m3) fun j hj => ?_
  simp only [upd]
  repeat rw [if_neg (by omega)]

theorem jlists67 {p q b n i m : Nat} {L : Lg} {v7 v0 : Value} {w1 : World} {τ : Env} {X : HX → Env → World → Prop} (hT : Tr w w1 p q 0 L v7 b n) (hi : i ≤ 30) (t0 : τ 0 = v0) (t3 : τ 3 = .bool true) (t5 : τ 5 = ptr q) (t6 : τ 6 = .int .i64 0) (t7 : τ 7 = v7) (t8 : τ 8 = .int .i64 L.sure) (t9 : τ 9 = .int .i64 i)
    (k : ∀ σ' w' L' v', Tr w w' p q 0 L' v' b n → σ' 0 = v0 → σ' 3 = .bool true → σ' 5 = ptr q → σ' 7 = v' → σ' 8 = .int .i64 L'.sure → σ' 9 = .int .i64 ((i + 1 : Nat) : Int) → X .normal σ' w') : hw Try.prog noPanic h12_6 (blockX m (seqX (hw Try.prog noPanic h12_7 X) X)) τ w1 := by
  refine jlists6 hT t5 t6 t7 t8 ?_
  intro σ' w' T' e
  show hw Try.prog noPanic h12_7 X σ' w'
  have e9 := (e 9 (by omega)).trans t9
  have e0 := (e 0 (by omega)).trans t0
  have e3 := (e 3 (by omega)).trans t3
  have e5 := (e 5 (by omega)).trans t5
  have e7 := (e 7 (by omega)).trans t7
  have e8 := (e 8 (by omega)).trans t8
  unfold h12_7
  try simp only [go_sem, e9]
  rw [w64 (by omega) (by omega)]
  exact k _ _ _ _ T' e0 e3 e5 e7 e8 rfl

theorem jlists4 {al : List Deed} {gb o c i p q : Nat} {L : Lg} {v7 : Value} {w1 : World} {τ : Env} {X : HX → Env → World → Prop} (hi : i < al.length) (hl : Sl w (.slice (some ⟨gb, o, none⟩) al.length c) 5 al.length (rows Deed.cells al)) (ha : ∀ a ∈ al, a.OK w) (hn : al.length ≤ 30) (hf : ∀ a ∈ al, a.few1 = true)
    (hT : Tr w w1 p q 0 L v7 (i * 1296) (i * 1400)) (t0 : τ 0 = .slice (some ⟨gb, o, none⟩) al.length c) (t3 : τ 3 = .bool true) (t5 : τ 5 = ptr q) (t7 : τ 7 = v7) (t8 : τ 8 = .int .i64 L.sure) (t9 : τ 9 = .int .i64 i)
    (k : ∀ σ' w' L' v', Tr w w' p q 0 L' v' ((i + 1) * 1296) ((i + 1) * 1400) → σ' 0 = .slice (some ⟨gb, o, none⟩) al.length c → σ' 3 = .bool true → σ' 5 = ptr q → σ' 7 = v' → σ' 8 = .int .i64 L'.sure → σ' 9 = .int .i64 ((i + 1 : Nat) : Int) → X .normal σ' w') :
    hw Try.prog noPanic h12_4 X τ w1 := by
  obtain ⟨F, S, d, h, hat, own7, hap, hend, hb, hq⟩ := hT
  obtain ⟨gb', o', c', hva, hA⟩ := deed_at hl hi
  simp only [Value.slice.injEq, Option.some.injEq, Addr.mk.injEq] at hva
  obtain ⟨⟨rfl, rfl, -⟩, -, rfl⟩ := hva
  obtain ⟨x0, xs, x1, x2, x3⟩ := hA w1 h.m
  have hmem := List.getElem_mem hi
  have hok := (ha _ hmem).mod0 h.m
  have hfe := Deed.few1_le (hf _ hmem)
  have hone := Deed.one (ha _ hmem)
  generalize al[i] = a at *
  obtain ⟨hf1, hf2, hf3, hf4, hf5⟩ := hfe
  unfold h12_4
  try simp only [go_sem, t0, t9, x0]
  refine ⟨⟨by omega, by omega⟩, xs, ?_⟩
  refine alloc_ (z := .agg #[.int .i64 0, str [], .slice none 0 0, .slice none 0 0, .int .i64 0]) (cs := [.int .i64 0, str [], .slice none 0 0, .slice none 0 0, .int .i64 0]) (by kernel_rfl) rfl ?_
  intro b2 w2 hb2 blk2 m2 hs2
  refine storeN (n := 5) (vs := a.cells) (by kernel_rfl) rfl blk2 (by simp) hone ?_
  intro w3 blk3 m3 hs3
  have m13 : Mod none' w1 w3 := m2.trans m3 fun k hk (e : k = b2) => by omega
  simp only [List.take_zero, List.nil_append, Nat.zero_add, List.drop_of_length_le (show ([Value.int IntKind.i64 0, str [], .slice none 0 0, .slice none 0 0, .int .i64 0] : List Value).length ≤ 5 by simp), List.append_nil] at blk3
  have y0 : w3.cell? ⟨b2, 0, none⟩ = some (.int .i64 a.Do) := by rw [blk3.cell]; rfl
  have y1 : w3.cell? ⟨b2, 1, none⟩ = some (str a.Row) := by rw [blk3.cell]; rfl
  have y2 : w3.cell? ⟨b2, 2, none⟩ = some a.rv := by rw [blk3.cell]; rfl
  have h3 := h.mod0 m13
  have own3 := own7.mod m13 fun _ _ h => h
  have hw3 := h3.m.size
  have hB3 : ∀ k, (v7.ownBlock = some k ∨ k = b2) → k < w3.heap.size := fun k hk => by
    rcases hk with hk | rfl
    · exact own3.lt k hk
    · omega
  have hA3 : ∀ k, (v7.ownBlock = some k ∨ k = b2) → ¬ F.R k ∧ ¬ S k := fun k hk => by
    rcases hk with hk | rfl
    · exact (hap k hk).2
    · exact ⟨fun hR => by have := h.dr.lt k hR; omega, fun hS => by have := h.lg.lt k hS; omega⟩
  have g3 := h3.base hA3 hw3 hB3
  have hr3 := hok.r.mod m13 fun _ _ h => h
  obtain ⟨t, ht⟩ := and_i64 a.Do 7
  try simp only [go_sem, t0, t3, t5, t7, t8, t9, y0, ht]
  obtain ⟨va, vc, rfl, -⟩ := own7.form
  have lr := fun hn => (ha a hmem).r.lt (by omega) hn
  have nF : ∀ k, k < w.heap.size → ¬ F.R k := fun k hk hR => by have := h.f0 k hR; omega
  have hlrows := formsB_rows a.rows
  have hrr := h.lg.rb
  have hbd := h.lg.bd
  have bb : ∀ {w4 : World} {F4 : FP} {S4 : Nat → Prop}, (∀ k, ((Value.slice va L.rows.length vc).ownBlock = some k ∨ k = b2) → ¬ F4.R k ∧ ¬ S4 k) → Mod (fun k => ¬ (k < w.heap.size ∨ ((Value.slice va L.rows.length vc).ownBlock = some k ∨ k = b2))) w3 w4 →
      Apart w (.slice va L.rows.length vc) F4 S4 ∧ Own w4 (.slice va L.rows.length vc) 9 1 L.rows.length (L.rows.map str) ∧ w4.cell? ⟨b2, 1, none⟩ = some (str a.Row) ∧ w4.cell? ⟨b2, 2, none⟩ = some a.rv ∧ Sl w4 a.rv 1 a.rows.length (a.rows.map str) := by
    intro w4 F4 S4 ha4 m4
    exact ⟨fun k hk => ⟨(hap k hk).1, ha4 k (.inl hk)⟩, own3.mod m4 fun k hk h => h (.inr (.inl hk)), m4.cell y1 fun h => h (.inr (.inr rfl)), m4.cell y2 fun h => h (.inr (.inr rfl)), hr3.mod' m4 fun hn k hk h => h (.inl (lr hn k hk))⟩
  refine ⟨fun c3 => ?_, fun c3 => ?_⟩
  · refine gflushJ_ g3 (by omega) ?_
    intro w4 ⟨F4, S4, g4⟩
    obtain ⟨e1, e2, e3⟩ := hat.flushJ (f := 0) (by omega) L
    rw [e2] at g4
    obtain ⟨h4, ap4, m4⟩ := g4.back h3.m
    obtain ⟨ap4, own4, -, -, -⟩ := bb ap4 m4
    have hq4 := flushJ_queue d L 0
    rw [e1]
    try simp only [go_sem, t0, t3, t5, t7, t8, t9]
    exact jlists67 (L := ⟨L.rows, L.rows.length, L.end_⟩) ⟨F4, S4, _, h4, e3, own4, ap4, hend, by dsimp only; omega, by omega⟩ (by omega) t0 t3 t5 rfl t7 rfl t9 k
  refine ⟨fun c4 => ?_, fun c4 => ?_⟩
  · try simp only [go_sem, t0, t3, t5, t7, t8, t9, y2]
    refine gbatch_ g3 hr3 (fun hn k hk => nF k (lr hn k hk)) (by omega) ?_
    intro w4 ⟨F4, S4, g4⟩
    obtain ⟨e1, e2, e3⟩ := hat.batch (f := 0) (by omega) L a.rows (by omega)
    rw [e2] at g4
    obtain ⟨h4, ap4, m4⟩ := g4.back h3.m
    obtain ⟨ap4, own4, -, z2, hr4⟩ := bb ap4 m4
    have hq4 := batchJ_queue d L 0 a.rows
    rw [e1]
    try simp only [go_sem, t0, t3, t5, t7, t8, t9, z2]
    refine append_ sl40 own4 hr4 (by intro u hu; obtain ⟨x, -, rfl⟩ := List.mem_map.1 hu; rfl) (by omega) (by unfold maxLen; omega) ?_
    intro v5 w5 own5 m5 hv5 _
    have h5 := h4.held ap4 m5
    have ap5 := Apart.next h4 ap4 hv5
    rw [← List.length_append, ← List.map_append] at own5
    obtain ⟨va5, vc5, rfl, -⟩ := own5.form
    try simp only [go_sem, t0, t3, t5, t7, t8, t9]
    have hfa := formsB_app L.rows a.rows
    have hfl := congrArg List.length hfa
    rw [List.length_append] at hfl
    exact jlists67 (L := ⟨L.rows ++ a.rows, (L.rows ++ a.rows).length, L.end_ + (formsB a.rows).length⟩) ⟨F4, S4, _, h5, e3, own5, ap5, by dsimp only; omega, by dsimp only; omega, by omega⟩ (by omega) t0 t3 t5 rfl rfl rfl t9 k
  refine ⟨fun c5 => ?_, fun c5 => ?_⟩
  · try simp only [go_sem, t0, t3, t5, t7, t8, t9, y2]
    refine grewrite_ g3 (by omega) hr3 (fun hn k hk => ⟨nF k (lr hn k hk), by have := lr hn k hk; omega⟩) (by omega) ?_
    intro w4 ⟨F4, S4, g4⟩
    obtain ⟨e1, e3⟩ := hat.rewr (f := 0) (by omega) a.rows (by omega)
    have e2 : (rewriteJ d L 0 a.rows).2.1 = ⟨a.rows, a.rows.length, 16 + (formsB a.rows).length⟩ := if_pos e1
    have e4 : (rewriteJ d L 0 a.rows).2.2 = 0 := e1
    rw [e2] at g4
    obtain ⟨h4, ap4, m4⟩ := g4.back h3.m
    obtain ⟨ap4, own4, -, z2, hr4⟩ := bb ap4 m4
    have hq4 := rewr_queue d 0 a.rows
    rw [e4]
    try simp only [go_sem, t0, t3, t5, t7, t8, t9, z2]
    refine bsl0 sl40 ?_
    intro b5 w5 hb5 own5 m5 hs5
    have z5 := m5.cell z2 fun h => h
    have h5 := h4.mod0 m5
    have ap5 : Apart w (.slice (some ⟨b5, 0, none⟩) 0 0) F4 S4 := fun k hk => by
      have e : b5 = k := by simpa [Value.ownBlock] using hk
      have := h4.m.size
      exact ⟨by omega, fun hR => by have := h4.dr.lt k hR; omega, fun hS => by have := h4.lg.lt k hS; omega⟩
    try simp only [go_sem, t0, t3, t5, t7, t8, t9, z5]
    refine append_ sl40 (xs := []) own5 (hr4.mod m5 fun _ _ h => h) (by intro u hu; obtain ⟨x, -, rfl⟩ := List.mem_map.1 hu; rfl) (by omega) (by unfold maxLen; omega) ?_
    intro v6 w6 own6 m6 hv6 _
    rw [Nat.zero_add, List.nil_append] at own6
    have h6 := h5.held ap5 m6
    have ap6 := Apart.next h5 ap5 hv6
    obtain ⟨va6, vc6, rfl, -⟩ := own6.form
    try simp only [go_sem, t0, t3, t5, t7, t8, t9]
    exact jlists67 (L := ⟨a.rows, a.rows.length, 16 + (formsB a.rows).length⟩) ⟨F4, S4, _, h6, e3, own6, ap6, rfl, by dsimp only; omega, by show (rewr d 0 a.rows).1.queue.length ≤ _; omega⟩ (by omega) t0 t3 t5 rfl rfl rfl t9 k
  have T3 : Tr w w3 p q 0 L (.slice va L.rows.length vc) ((i + 1) * 1296) ((i + 1) * 1400) := ⟨F, S, d, h3, hat, own3, hap, hend, by omega, by omega⟩
  refine ⟨fun c6 => ?_, fun c6 => ?_⟩
  · unfold h12_5
    have c6 : t = 6 := by simpa using c6
    try simp only [go_sem, t0, t3, t5, t7, t8, t9, c6]
    exact jlists67 T3 (by omega) t0 t3 t5 rfl t7 t8 t9 k
  unfold h12_5
  try simp only [go_sem, t0, t3, t5, t7, t8, t9, y1]
  refine ⟨fun c7 => ?_, fun c7 => ?_⟩
  · exact jlists67 T3 (by omega) t0 t3 t5 rfl t7 t8 t9 k
  have hf1' : (formsB [a.Row]).length = 16 + a.Row.length := by simp [formsB, formB_len]
  refine gappend1_ g3 (by omega) ?_
  intro w4 ⟨F4, S4, g4⟩
  obtain ⟨e1, e3⟩ := hat.add (f := 0) (by omega) L [a.Row] (by omega)
  rw [if_pos e1] at g4
  obtain ⟨h4, ap4, m4⟩ := g4.back h3.m
  obtain ⟨ap4, own4, z1, -, -⟩ := bb ap4 m4
  have hq4 := addJ_queue d L 0 [a.Row]
  rw [e1]
  try simp only [go_sem, t0, t3, t5, t7, t8, t9, z1]
  refine bsl1 sl40 (cs := [str a.Row]) rfl rfl (by omega) ?_
  intro b5 w5 hb5 own5 _ m5 hs5
  have h5 := h4.mod0 m5
  try simp only [go_sem, t0, t3, t5, t7, t8, t9]
  refine append_ sl40 (own4.mod m5 fun _ _ h => h) own5.sl (by intro u hu; rw [List.mem_singleton.1 hu]; rfl) (by omega) (by unfold maxLen; omega) ?_
  intro v6 w6 own6 m6 hv6 _
  have e6 : L.rows.map str ++ [str a.Row] = (L.rows ++ [a.Row]).map str := by simp
  have e7 : L.rows.length + 1 = (L.rows ++ [a.Row]).length := by simp
  rw [e6, e7] at own6
  have h6 := h5.held ap4 m6
  have ap6 := Apart.next h5 ap4 hv6
  have hfa := formsB_app L.rows [a.Row]
  have hfl := congrArg List.length hfa
  rw [List.length_append] at hfl
  try simp only [go_sem, t0, t3, t5, t7, t8, t9]
  exact jlists67 (L := L.add [a.Row]) ⟨F4, S4, _, h6, e3, own6, ap6, by show L.end_ + (formsB [a.Row]).length = 16 + (formsB (L.rows ++ [a.Row])).length; omega, by show (formsB (L.rows ++ [a.Row])).length ≤ _; omega, by omega⟩ (by omega) t0 t3 t5 rfl rfl t8 t9 k

theorem jlists_ {v : Value} {al : List Deed} (hl : Sl w v 5 al.length (rows Deed.cells al)) (ha : ∀ a ∈ al, a.OK w) (k : ∀ w', Mod none' w w' → next (.bool true) w') : callK Try.prog 12 [v] w next QP := by
  refine q12 rfl ?_
  unfold h12
  try simp only [go_sem]
  refine jsmall_ ?_
  intro w1 m1
  try simp only [go_sem]
  refine fewJ_ (hl.mod m1 fun _ _ h => h) (fun a h => (ha a h).mod0 m1) ?_
  try simp only [go_sem]
  refine ⟨fun _ => k _ m1, fun hf => ?_⟩
  have hf : fewJ al = true := by simpa using hf
  simp only [fewJ, Bool.and_eq_true, decide_eq_true_eq, List.all_eq_true] at hf
  unfold h12_1
  try simp only [go_sem]
  refine jnew_ ?_
  intro p w3 F3 dr3 f3 m3
  have s1 := m1.size
  try simp only [go_sem]
  refine jopen_ (g := 0) dr3 (fun k hk => by have := f3 k hk; omega) (m1.trans' m3) rfl (by omega) rfl (openB_core (s := []) .nil (by decide)) ?_
  intro q4 w4 S4 h4 m4
  try simp only [go_sem]
  unfold h12_2
  try simp only [go_sem]
  obtain ⟨va, vc, rfl, -, hvc⟩ := hl.form
  refine loopN al.length (fun i τ w' => ∃ L v7, Tr w w' p q4 0 L v7 (i * 1296) (i * 1400) ∧ τ 0 = .slice va al.length vc ∧ τ 3 = .bool true ∧ τ 5 = ptr q4 ∧ τ 7 = v7 ∧ τ 8 = .int .i64 L.sure ∧ τ 9 = .int .i64 i)
    ⟨0, by omega, ⟨[], 0, 16⟩, .slice none 0 0, ⟨F3, S4, Dk.new, h4, at_new, Own.nil _ _ _, (by intro k hk; exact nomatch (hk : none = some k)), rfl, Nat.le_refl _, Nat.le_refl _⟩, rfl, rfl, rfl, rfl, rfl, rfl⟩ ?_
  rintro i τ w5 hi ⟨L, v7, hT, t0, t3, t5, t7, t8, t9⟩
  unfold h12_3
  try simp only [go_sem, t0, t9]
  refine ⟨fun hlt => ?_, fun hge => ?_⟩
  · have hil : i < al.length := by
      have : (i : Int) < al.length := by simpa using hlt
      omega
    obtain ⟨gb, o, rfl, -⟩ := hvc (by omega)
    refine jlists4 hil hl ha hf.1 hf.2 hT t0 t3 t5 t7 t8 t9 ?_
    intro σ' w' L' v' T' x0 x3 x5 x7 x8 x9
    exact ⟨i + 1, by omega, by omega, L', v', T', x0, x3, x5, x7, x8, x9⟩
  · unfold h12_8
    try simp only [go_sem, t3]
    obtain ⟨F, S, d, h, -⟩ := hT
    exact k _ h.m
end
end Go.Proofs.Y

/- JW: plain laws: a byte changed is found. -/
namespace Go.Proofs.Y
open Go Go.HL

def valU (s : Bytes) : Nat → Int
  | 0 => 0
  | k + 1 => valU s k * 256 + valAt s (7 - k)
theorem valAt_range (s : Bytes) (i : Nat) : 0 ≤ valAt s i ∧ valAt s i < 256 := by
  unfold valAt
  have := ((s[i]?).getD 0).toNat_lt
  omega
theorem wr_wr (x b : Int) : wr (wr x * 256 + b) = wr (x * 256 + b) := by
  simp only [wr, wrap_i64]; omega
theorem valU_from (s : Bytes) : ∀ k, valFrom s k = wr (valU s k)
  | 0 => by simp [valFrom, valU, wr, wrap_i64]
  | k + 1 => by
    show wr (valFrom s k * 256 + valAt s (7 - k)) = wr (valU s k * 256 + valAt s (7 - k))
    rw [valU_from s k, wr_wr]
theorem valU_range (s : Bytes) : ∀ k, 0 ≤ valU s k ∧ valU s k < 256 ^ k
  | 0 => by simp [valU]
  | k + 1 => by
    have ih := valU_range s k
    have hb := valAt_range s (7 - k)
    have hp : (256 : Int) ^ (k + 1) = 256 ^ k * 256 := Int.pow_succ ..
    simp only [valU]
    omega
theorem valU_inj (s t : Bytes) : ∀ k, k ≤ 8 → valU s k = valU t k → ∀ i, 8 - k ≤ i → i < 8 → valAt s i = valAt t i
  | 0, _, _, i, h1, h2 => by omega
  | k + 1, hk, h, i, h1, h2 => by
    have hb := valAt_range s (7 - k)
    have hc := valAt_range t (7 - k)
    simp only [valU] at h
    by_cases hi : i = 7 - k
    · subst hi; omega
    · exact valU_inj s t k (by omega) (by omega) i (by omega) h2
theorem val_inj {s t : Bytes} (h : val s = val t) : ∀ i, i < 8 → valAt s i = valAt t i := by
  have h1 := valU_range s 8
  have h2 := valU_range t 8
  unfold val at h
  rw [valU_from, valU_from, wr, wr, wrap_i64, wrap_i64] at h
  intro i hi
  exact valU_inj s t 8 (by omega) (by omega) i (by omega) hi
theorem valAt_set {s : Bytes} {i j : Nat} {b : UInt8} : valAt (s.set i b) j = if i = j ∧ j < s.length then (b.toNat : Int) else valAt s j := by
  unfold valAt
  rw [List.getElem?_set]
  by_cases h : i = j
  · subst h
    by_cases hl : i < s.length
    · simp [hl]
    · simp [hl]
  · simp [h]
theorem val_changed {s : Bytes} {i : Nat} {b : UInt8} (hi : i < 8) (hl : i < s.length) (hb : s[i] ≠ b) : val (s.set i b) ≠ val s := by
  intro h
  have := val_inj h i hi
  rw [valAt_set, if_pos ⟨rfl, hl⟩] at this
  unfold valAt at this
  rw [List.getElem?_eq_getElem hl] at this
  simp only [Option.getD_some] at this
  exact hb (UInt8.toNat_inj.1 (by omega))
theorem val_eq_of {s t : Bytes} (h : ∀ i, i < 8 → s[i]? = t[i]?) : val s = val t := by
  have key : ∀ k, k ≤ 8 → valU s k = valU t k := by
    intro k
    induction k with
    | zero => intro _; rfl
    | succ k ih =>
      intro hk
      simp only [valU, ih (by omega), valAt, h (7 - k) (by omega)]
  unfold val
  rw [valU_from, valU_from, key 8 (by omega)]
theorem val_set_far {s : Bytes} {i : Nat} {b : UInt8} (hi : 8 ≤ i) : val (s.set i b) = val s := val_eq_of fun j hj => by rw [List.getElem?_set_ne (by omega)]
theorem val_zero_iff {s : Bytes} (h8 : 8 ≤ s.length) : val s = 0 ↔ s.take 8 = List.replicate 8 0 := by
  have hz : val (List.replicate 16 (0 : UInt8) ++ []) = 0 := val_zero []
  constructor
  · intro h
    have := val_inj (h.trans hz.symm)
    apply List.ext_getElem?
    intro i
    by_cases hi : i < 8
    · have h1 := this i hi
      unfold valAt at h1
      rw [List.getElem?_take_of_lt hi, List.getElem?_replicate, if_pos hi]
      rw [List.append_nil, List.getElem?_replicate, if_pos (by omega), List.getElem?_eq_getElem (by omega)] at h1
      simp only [Option.getD_some] at h1
      rw [List.getElem?_eq_getElem (by omega)]
      congr 1
      exact UInt8.toNat_inj.1 (by omega)
    · rw [List.getElem?_eq_none (by simp; omega), List.getElem?_eq_none (by simp; omega)]
  · intro h
    rw [← hz]
    refine val_eq_of fun i hi => ?_
    have := congrArg (fun l => l[i]?) h
    simp only [List.getElem?_take_of_lt hi] at this
    rw [this, List.append_nil, List.getElem?_replicate, List.getElem?_replicate, if_pos hi, if_pos (by omega)]

/-- rows ahead are read as they are -/
theorem splitB_app : ∀ (l : List Bytes) (x : Bytes), (∀ r ∈ l, r.length ≤ 1000000000) → splitB (formsB l ++ x) = (splitB x).map (l ++ ·)
  | [], x, _ => by simp [formsB]
  | r :: l, x, h => by
    have e : formsB (r :: l) ++ x = formB r ++ (formsB l ++ x) := by simp [formsB]
    have hl := formB_len r
    have hr := h r (List.mem_cons_self ..)
    have ih := splitB_app l x fun r hr => h r (List.mem_cons_of_mem _ hr)
    have hne : formB r ++ (formsB l ++ x) ≠ [] := by intro h; have := congrArg List.length h; simp [hl] at this
    rw [e, splitB, dif_neg hne, dif_neg (by rw [List.length_append, hl]; omega), val_form r (by omega), drop_form, val_form8, Int.toNat_natCast]
    have h1 : ¬ (((r.length : Nat) : Int) < 0 ∨ ((r ++ (formsB l ++ x)).length : Int) < ((r.length : Nat) : Int)) := by rw [List.length_append]; omega
    rw [if_neg h1, List.take_left, List.drop_left, if_neg (by simp), ih]
    cases splitB x <;> simp

/-- a row's form with a changed byte behind its length -/
theorem splitB_bad {r : Bytes} {k : Nat} {b : UInt8} (hr : r.length ≤ 1000000000) (hk : 8 ≤ k) (hl : k < (formB r).length) (hb : (formB r)[k] ≠ b) (t : Bytes) : splitB ((formB r).set k b ++ t) = none := by
  have hfl := formB_len r
  have hset : (formB r).set k b ++ t = (formB r ++ t).set k b := by rw [List.set_append, if_pos hl]
  have hk' : k < (formB r ++ t).length := by rw [List.length_append]; omega
  have hne : (formB r).set k b ++ t ≠ [] := by intro h; have := congrArg List.length h; simp [hfl] at this
  have hv : val ((formB r).set k b ++ t) = r.length := by rw [hset, val_set_far hk]; exact val_form r (by omega) t
  have hd16 : ((formB r).set k b ++ t).drop 16 = if k < 16 then r ++ t else (r ++ t).set (k - 16) b := by
    rw [hset, List.drop_set, drop_form]
  have hd8 : val (((formB r).set k b ++ t).drop 8) = if k < 16 then val (((formB r ++ t).drop 8).set (k - 8) b) else (crc r : Nat) := by
    rw [hset, List.drop_set, if_neg (by omega)]
    split
    · rfl
    · rw [val_set_far (by omega), val_form8]
  rw [splitB, dif_neg hne, dif_neg (by rw [List.length_append, List.length_set, hfl]; omega), hv, hd8, hd16, Int.toNat_natCast]
  have hln : (if k < 16 then r ++ t else (r ++ t).set (k - 16) b).length = r.length + t.length := by split <;> simp
  rw [if_neg (by rw [hln]; omega)]
  by_cases h16 : k < 16
  · simp only [if_pos h16, List.take_left]
    rw [if_pos]
    have hc := val_form8 r t
    intro he
    have hlt : k - 8 < ((formB r ++ t).drop 8).length := by rw [List.length_drop, List.length_append]; omega
    refine val_changed (s := (formB r ++ t).drop 8) (i := k - 8) (b := b) (by omega) hlt ?_ (by rw [← he, hc])
    rw [List.getElem_drop]
    have : 8 + (k - 8) = k := by omega
    simp only [this]
    rw [List.getElem_append_left hl]
    exact hb
  · simp only [if_neg h16]
    rw [if_pos]
    intro he
    have hkr : k - 16 < r.length := by omega
    have e2 : ((r ++ t).set (k - 16) b).take r.length = r.set (k - 16) b := by rw [List.set_append, if_pos hkr, List.take_left' (by simp)]
    rw [e2] at he
    refine crc_changed hkr ?_ (by exact_mod_cast he)
    have h3 := drop_form r []
    simp only [List.append_nil] at h3
    intro h4
    apply hb
    rw [← h4]
    have h5 : ((formB r).drop 16)[k - 16]? = r[k - 16]? := by rw [h3]
    rw [List.getElem?_drop, show 16 + (k - 16) = k by omega, List.getElem?_eq_getElem hl, List.getElem?_eq_getElem hkr] at h5
    exact Option.some.inj h5

/-- what is cut off is missed -/
theorem splitB_short : ∀ (rows : List Bytes) (m : Nat) (l : List Bytes), (∀ r ∈ rows, r.length ≤ 1000000000) → m < (formsB rows).length → splitB ((formsB rows).take m) = some l → l.length < rows.length
  | [], m, l, _, hm, _ => by simp [formsB] at hm
  | r :: rows, m, l, h, hm, hs => by
    have e : formsB (r :: rows) = formB r ++ formsB rows := by simp [formsB]
    have hl := formB_len r
    have hr := h r (List.mem_cons_self ..)
    rw [e] at hm hs
    rw [List.length_append, hl] at hm
    rw [splitB] at hs
    split at hs
    · simp at hs; subst hs; simp
    · rename_i h0
      have hm0 : m ≠ 0 := fun h => h0 (by rw [h, List.take_zero])
      split at hs
      · cases hs
      · rename_i h16
        rw [List.length_take, List.length_append, hl] at h16
        have hm16 : 16 ≤ m := by omega
        have hv : val ((formB r ++ formsB rows).take m) = r.length := by
          rw [← val_form r (by omega) (formsB rows)]
          exact val_eq_of fun i hi => List.getElem?_take_of_lt (by omega)
        have hv8 : val (((formB r ++ formsB rows).take m).drop 8) = (crc r : Nat) := by
          rw [← val_form8 r (formsB rows)]
          exact val_eq_of fun i hi => by rw [List.getElem?_drop, List.getElem?_drop, List.getElem?_take_of_lt (by omega)]
        have hd : ((formB r ++ formsB rows).take m).drop 16 = (r ++ formsB rows).take (m - 16) := by rw [List.drop_take, drop_form]
        rw [hv, hv8, hd, Int.toNat_natCast] at hs
        split at hs
        · cases hs
        · rename_i hlen
          rw [List.length_take, List.length_append] at hlen
          have hmr : r.length ≤ m - 16 := by omega
          have ht : ((r ++ formsB rows).take (m - 16)).take r.length = r := by rw [List.take_take, Nat.min_eq_left hmr, List.take_left]
          have hdd : ((r ++ formsB rows).take (m - 16)).drop r.length = (formsB rows).take (m - 16 - r.length) := by rw [List.drop_take, List.drop_left]
          rw [ht, hdd, if_neg (by simp)] at hs
          obtain ⟨l', hl', rfl⟩ := Option.map_eq_some_iff.1 hs
          have := splitB_short rows (m - 16 - r.length) l' (fun r hr => h r (List.mem_cons_of_mem _ hr)) (by omega) hl'
          simp only [List.length_cons]; omega

/-- where the form of row i begins in the file -/
def beginOf (rows : List Bytes) (i : Nat) : Nat := 16 + (formsB (rows.take i)).length
theorem row_at : ∀ (rows : List Bytes) (k : Nat), k < (formsB rows).length → ∃ i, ∃ hi : i < rows.length, (formsB (rows.take i)).length ≤ k ∧ k < (formsB (rows.take i)).length + 16 + rows[i].length
  | [], k, h => by simp [formsB] at h
  | r :: rows, k, h => by
    have hl := formB_len r
    have e : ∀ l, formsB (r :: l) = formB r ++ formsB l := fun l => by simp [formsB]
    rw [e, List.length_append, hl] at h
    by_cases hk : k < 16 + r.length
    · exact ⟨0, by simp, by simp [formsB], by simp [formsB]; omega⟩
    · obtain ⟨i, hi, h1, h2⟩ := row_at rows (k - (16 + r.length)) (by omega)
      refine ⟨i + 1, by simpa using hi, ?_, ?_⟩
      · rw [List.take_succ_cons, e, List.length_append, hl]; omega
      · rw [List.take_succ_cons, e, List.length_append, hl, List.getElem_cons_succ]; omega

theorem image_len (rows : List Bytes) : (image rows).length = 16 + (formsB rows).length := by
  unfold image; rw [List.length_append, header_len]
theorem image_val (rows : List Bytes) (h : (formsB rows).length ≤ 1000000) : val (image rows) = (16 + (formsB rows).length : Nat) := by
  unfold image header
  rw [List.append_assoc]
  exact val_num (by omega) (by omega) _
theorem image_val8 (rows : List Bytes) (h : (formsB rows).length ≤ 1000000) : val ((image rows).drop 8) = rows.length := by
  have hfr := formsB_rows rows
  unfold image header
  rw [List.append_assoc, List.drop_append_of_le_length (by rw [num_len]; exact Nat.le_refl _), List.drop_of_length_le (by rw [num_len]; exact Nat.le_refl _), List.nil_append]
  exact val_num (by omega) (by omega) _
theorem image_drop (rows : List Bytes) : (image rows).drop 16 = formsB rows := by
  unfold image
  rw [List.drop_append_of_le_length (by rw [header_len]; exact Nat.le_refl _), List.drop_of_length_le (by rw [header_len]; exact Nat.le_refl _), List.nil_append]

/-- one byte changed, not in a row's length: found, or the file begins with zeros -/
theorem spoil {rows : List Bytes} {at_ : Nat} {b : UInt8} (hs : (formsB rows).length ≤ 1000000) (hr : ∀ r ∈ rows, r.length ≤ 200) (hl : at_ < (image rows).length) (hb : (image rows)[at_] ≠ b)
    (hn : ∀ i, i < rows.length → ¬ (beginOf rows i ≤ at_ ∧ at_ < beginOf rows i + 8)) : openB ((image rows).set at_ b) = if ((image rows).set at_ b).take 8 = List.replicate 8 0 then some ⟨[], 0, 16⟩ else none := by
  have hlen := image_len rows
  have hr' : ∀ r ∈ rows, r.length ≤ 1000000000 := fun r h => by have := hr r h; omega
  have hz := val_zero_iff (s := (image rows).set at_ b) (by rw [List.length_set]; omega)
  by_cases h0 : val ((image rows).set at_ b) = 0
  · rw [if_pos (hz.1 h0), openB, if_pos (.inr h0)]
  · rw [if_neg (fun h => h0 (hz.2 h)), openB, if_neg (by rw [List.length_set]; omega)]
    by_cases h1 : val ((image rows).set at_ b) < 16 ∨ (((image rows).set at_ b).length : Int) < val ((image rows).set at_ b)
    · rw [if_pos h1]
    · rw [if_neg h1]
      rw [List.length_set, hlen] at h1
      by_cases h8 : at_ < 8
      · have hne := val_changed h8 hl hb
        rw [image_val rows hs] at hne
        obtain ⟨e, he⟩ : ∃ e : Nat, val ((image rows).set at_ b) = e := ⟨(val ((image rows).set at_ b)).toNat, by omega⟩
        have hd : (((image rows).set at_ b).take e).drop 16 = (formsB rows).take (e - 16) := by
          rw [List.drop_take, List.drop_set, if_pos (by omega), image_drop]
        have hc : val (((image rows).set at_ b).drop 8) = rows.length := by rw [List.drop_set, if_pos h8, image_val8 rows hs]
        rw [he, Int.toNat_natCast, hd, hc]
        cases hx : splitB ((formsB rows).take (e - 16)) with
        | none => rfl
        | some l =>
          have := splitB_short rows (e - 16) l hr' (by omega) hx
          simp only
          rw [if_neg (by omega)]
      · rw [val_set_far (by omega), image_val rows hs, Int.toNat_natCast, List.take_of_length_le (by rw [List.length_set]; omega)]
        by_cases h16 : at_ < 16
        · have hne : val (((image rows).set at_ b).drop 8) ≠ rows.length := by
            rw [List.drop_set, if_neg (by omega), ← image_val8 rows hs]
            have hlt : at_ - 8 < ((image rows).drop 8).length := by rw [List.length_drop]; omega
            refine val_changed (by omega) hlt ?_
            rw [List.getElem_drop]
            have : 8 + (at_ - 8) = at_ := by omega
            simp only [this]; exact hb
          have hd : ((image rows).set at_ b).drop 16 = formsB rows := by rw [List.drop_set, if_pos h16, image_drop]
          rw [hd, splitB_forms rows (by omega)]
          simp only
          rw [if_neg (fun h => hne h.symm)]
        · obtain ⟨i, hi, k1, k2⟩ := row_at rows (at_ - 16) (by omega)
          have hni := hn i hi
          unfold beginOf at hni
          have hsplit : formsB rows = formsB (rows.take i) ++ (formB rows[i] ++ formsB (rows.drop (i + 1))) := by
            conv => lhs; rw [← List.take_append_drop i rows]
            rw [formsB_app]
            have h2 : formsB (rows.drop i) = formB rows[i] ++ formsB (rows.drop (i + 1)) := by rw [List.drop_eq_getElem_cons hi]; rfl
            rw [h2]
          have hfl := formB_len rows[i]
          have hd : ((image rows).set at_ b).drop 16 = formsB (rows.take i) ++ ((formB rows[i]).set (at_ - 16 - (formsB (rows.take i)).length) b ++ formsB (rows.drop (i + 1))) := by
            rw [List.drop_set, if_neg (by omega), image_drop, hsplit, List.set_append, if_neg (by omega), List.set_append, if_pos (by omega)]
          have hbb : (formB rows[i])[at_ - 16 - (formsB (rows.take i)).length]'(by omega) ≠ b := by
            intro h
            apply hb
            rw [← h]
            have h1 : ((image rows).drop 16)[at_ - 16]? = (formsB rows)[at_ - 16]? := by rw [image_drop]
            rw [List.getElem?_drop, show 16 + (at_ - 16) = at_ by omega, List.getElem?_eq_getElem hl] at h1
            rw [hsplit, List.getElem?_append_right (by omega), List.getElem?_append_left (by omega), List.getElem?_eq_getElem (by omega)] at h1
            exact Option.some.inj h1
          rw [hd, splitB_app _ _ (fun r h => hr' r (List.mem_of_mem_take h)), splitB_bad (hr' _ (List.getElem_mem hi)) (by omega) (by omega) hbb]
          rfl
end Go.Proofs.Y

/- JJx: plain: what was split is the forms again. -/
namespace Go.Proofs.Y
open Go Go.HL Go.Proofs

theorem val_bounds (s : Bytes) : -9223372036854775808 ≤ val s ∧ val s ≤ 9223372036854775807 := by
  unfold val
  rw [valU_from, wr, wrap_i64]
  omega
theorem num_val {s : Bytes} (h : 8 ≤ s.length) : num (val s) = s.take 8 := by
  obtain ⟨b1, b2⟩ := val_bounds s
  have h1 := val_num b1 b2 []
  rw [List.append_nil] at h1
  have h2 := val_inj h1
  apply List.ext_getElem
  · rw [num_len, List.length_take]; omega
  · intro i h3 h4
    rw [num_len] at h3
    have h5 := h2 i h3
    unfold valAt at h5
    rw [List.getElem?_eq_getElem (by rw [num_len]; exact h3), List.getElem?_eq_getElem (by omega)] at h5
    rw [List.getElem_take]
    simp only [Option.getD_some] at h5
    exact UInt8.toNat_inj.1 (by omega)
theorem splitB_inv : ∀ (n : Nat) (s : Bytes) (l : List Bytes), s.length ≤ n → splitB s = some l → formsB l = s
  | 0, s, l, hn, h => by
    obtain rfl : s = [] := List.eq_nil_of_length_eq_zero (by omega)
    rw [splitB] at h; simp at h; subst h; rfl
  | n + 1, s, l, hn, h => by
    rw [splitB] at h
    by_cases h0 : s = []
    · rw [dif_pos h0] at h; simp at h; subst h; exact h0.symm
    rw [dif_neg h0] at h
    by_cases h1 : s.length < 16
    · rw [dif_pos h1] at h; cases h
    rw [dif_neg h1] at h
    split at h
    · cases h
    rename_i h2
    split at h
    · cases h
    rename_i h3
    obtain ⟨l', h4, rfl⟩ := Option.map_eq_some_iff.1 h
    have ih := splitB_inv n _ l' (by simp; omega) h4
    obtain ⟨x, hx⟩ := Int.eq_ofNat_of_zero_le (show 0 ≤ val s by omega)
    rw [hx] at h2 h3 ih
    simp only [Int.toNat_natCast] at h3 ih ⊢
    have hxl : ((s.drop 16).take x).length = x := by rw [List.length_take]; omega
    have h3 : (crc ((s.drop 16).take x) : Int) = val (s.drop 8) := Decidable.byContradiction h3
    have e1 : num ((((s.drop 16).take x).length : Nat) : Int) = s.take 8 := by rw [hxl, ← hx]; exact num_val (by omega)
    have e2 : num (crc ((s.drop 16).take x) : Nat) = (s.drop 8).take 8 := by rw [h3]; exact num_val (by rw [List.length_drop]; omega)
    rw [hx, Int.toNat_natCast]
    show formB _ ++ formsB l' = s
    rw [ih]
    unfold formB
    rw [e1, e2]
    have e3 : s.drop 16 = (s.drop 8).drop 8 := by rw [List.drop_drop]
    rw [List.append_assoc, List.append_assoc, List.take_append_drop, e3, List.take_append_drop, List.take_append_drop]
theorem openB_end {s : Bytes} {L : Lg} (h : openB s = some L) (hs : s.length ≤ 16777216) : L.end_ = 16 + (formsB L.rows).length ∧ L.end_ ≤ 16777216 ∧ L.sure = L.rows.length := by
  unfold openB at h
  split at h
  · simp only [Option.some.injEq] at h; subst h; exact ⟨rfl, by decide, rfl⟩
  · split at h
    · cases h
    · rename_i h1 h2
      split at h
      · cases h
      · rename_i l hl
        split at h
        · simp only [Option.some.injEq] at h; subst h
          have := splitB_inv _ _ _ (Nat.le_refl _) hl
          dsimp only
          rw [this, List.length_drop, List.length_take]
          exact ⟨by omega, by omega, rfl⟩
        · cases h
end Go.Proofs.Y

/- JTb: the reference's log in memory, over the reference's disk. -/
namespace Go.Proofs.Y
open Go Go.HL Go.Proofs

structure RLg (w : World) (q p f : Nat) (L : Lg) (S : Nat → Prop) : Prop where
  inv : ∃ rv, Blk w q 78 [ptr p, .int .i64 f, rv, .int .i64 L.sure] ∧ Own w rv 9 1 L.rows.length (L.rows.map str) ∧ (∀ k, rv.ownBlock = some k → S k)
  self : S q
  lt : ∀ k, S k → k < w.heap.size
  en : L.end_ = 16 + (formsB L.rows).length
  bd : L.end_ ≤ 16777216

theorem RLg.mod {w w' : World} {q p f : Nat} {L : Lg} {S T : Nat → Prop} (h : RLg w q p f L S) (m : Mod T w w') (hd : ∀ k, S k → ¬ T k) : RLg w' q p f L S := by
  obtain ⟨⟨rv, hb, ho, h1⟩, hs, hl, b1, b2⟩ := h
  exact ⟨⟨rv, hb.mod m (hd _ hs), ho.mod m fun k hk => hd _ (h1 k hk), h1⟩, hs, fun k hk => Nat.lt_of_lt_of_le (hl k hk) m.size, b1, b2⟩
theorem RLg.mod0 {w w' : World} {q p f : Nat} {L : Lg} {S : Nat → Prop} (h : RLg w q p f L S) (m : Mod none' w w') : RLg w' q p f L S := h.mod m fun _ _ h => h
theorem RLg.parts {w : World} {q p f : Nat} {L : Lg} {S : Nat → Prop} (h : RLg w q p f L S) : ∃ rv, Blk w q 78 [ptr p, .int .i64 f, rv, .int .i64 L.sure] ∧ Own w rv 9 1 L.rows.length (L.rows.map str) ∧ (∀ k, rv.ownBlock = some k → S k ∧ k ≠ q) ∧
    w.cell? ⟨q, 0, none⟩ = some (ptr p) ∧ w.cell? ⟨q, 1, none⟩ = some (.int .i64 f) ∧ w.cell? ⟨q, 2, none⟩ = some rv ∧ w.cell? ⟨q, 3, none⟩ = some (.int .i64 L.sure) := by
  obtain ⟨⟨rv, hb, ho, h1⟩, hs, hl, -, -⟩ := h
  refine ⟨rv, hb, ho, fun k hk => ⟨h1 k hk, ?_⟩, hb.cell 0, hb.cell 1, hb.cell 2, hb.cell 3⟩
  rintro rfl; exact own_neb ho hb (by decide) hk

/-- disk and log of the reference, some blocks left alone -/
structure RS (w0 : Base) (w : World) (p q f : Nat) (d : Dk) (L : Lg) (R S : Nat → Prop) : Prop where
  rr : RR w p d R
  lg : RLg w q p f L S
  ap : ∀ k, R k → ¬ S k
  f0 : ∀ k, R k → ¬ w0.A k
  s0 : ∀ k, S k → ¬ w0.A k
  m : Mod (fun k => ¬ w0.A k) w0.w w

section
variable {w0 : Base} {w w' : World} {p q f : Nat} {d d' : Dk} {L L' : Lg} {R S : Nat → Prop}
theorem RS.disk (h : RS w0 w p q f d L R S) (st : RT R w w' p d') : RS w0 w' p q f d' L st.foot S := by
  have hs := h.m.size
  refine ⟨st.rr, h.lg.mod st.mod fun k hk hW => h.ap k hW hk, fun k hk hS => ?_, fun k hk => ?_, h.s0, h.m.trans st.mod fun k hk hW => h.f0 k hW⟩
  · rcases st.footS k hk with h' | h'
    · exact h.ap k h' hS
    · have := h.lg.lt k hS; omega
  · rcases st.footS k hk with h' | h'
    · exact h.f0 k h'
    · intro hA; have := w0.lt k hA; omega
theorem RS.log (h : RS w0 w p q f d L R S) {S' : Nat → Prop} (lg : RLg w' q p f L' S') (hS : ∀ k, S' k → S k ∨ w.heap.size ≤ k) (m : Mod S w w') : RS w0 w' p q f d L' R S' := by
  have hs := h.m.size
  refine ⟨h.rr.mod m fun k hk hS => h.ap k hk hS, lg, fun k hk hS' => ?_, h.f0, fun k hk => ?_, h.m.trans m fun k hk hS => h.s0 k hS⟩
  · rcases hS k hS' with h' | h'
    · exact h.ap k hk h'
    · have := h.rr.lt k hk; omega
  · rcases hS k hk with h' | h'
    · exact h.s0 k h'
    · intro hA; have := w0.lt k hA; omega
theorem RS.mod0 (h : RS w0 w p q f d L R S) (m : Mod none' w w') : RS w0 w' p q f d L R S := ⟨h.rr.mod0 m, h.lg.mod0 m, h.ap, h.f0, h.s0, h.m.trans m fun _ _ h => h.elim⟩
end
def RU (w0 : Base) (w' : World) (p q f : Nat) (d : Dk) (L : Lg) : Prop := ∃ R S, RS w0 w' p q f d L R S
theorem RS.ju {w0 : Base} {w' : World} {p q f : Nat} {d : Dk} {L : Lg} {R S : Nat → Prop} (h : RS w0 w' p q f d L R S) : RU w0 w' p q f d L := ⟨R, S, h⟩

section
variable {w : World} {next : Value → World → Prop} {QP : List PanicEntry → World → Prop}
theorem sz3r : szOf Try.prog 3 = some 1 := by kernel_rfl

theorem ropen_ {p : Nat} {d : Dk} {R : Nat → Prop} (h : RR w p d R) (hqn : d.queue.length ≤ 1000000000000) {f : Int}
    (kn : ∀ w', Mod none' w w' → openE d f ≠ 0 → next (.tuple #[.pointer none, .int .i64 (openE d f)]) w')
    (ks : ∀ (g : Nat) (L : Lg), f = g → g ≤ 6 → d.may [f] = 0 → openB (d.file g) = some L → ∀ q w' S, RLg w' q p g L S → (∀ k, S k → w.heap.size ≤ k) → Mod none' w w' → next (.tuple #[ptr q, .int .i64 0]) w') :
    callvK Try.prog (.func (.func 55) #[] #[]) [ptr p, .int .i64 f] w next QP := by
  refine r55 rfl ?_
  have ef : (if decide (f < 0) = true then true else decide (6 < f)) = decide (f < 0 ∨ 6 < f) := by by_cases h : f < 0 <;> simp [h]
  unfold h55
  try simp only [go_sem, ef]
  refine ⟨fun hf => ?_, fun hf => ?_⟩
  · have hf : f < 0 ∨ 6 < f := by simpa using hf
    have := kn w (Mod.refl _ _)
    simp only [openE, if_pos hf] at this
    exact this (by decide)
  have hf : ¬ (f < 0 ∨ 6 < f) := by simpa using hf
  obtain ⟨g, rfl⟩ := Int.eq_ofNat_of_zero_le (show 0 ≤ f by omega)
  unfold h55_1
  try simp only [go_sem]
  refine rread_ h g hqn ?_
  intro w1 m1
  try simp only [go_sem]
  refine ⟨fun hm => ?_, fun hm => ?_⟩
  · have hm : ¬ d.may [(g : Int)] = 0 := by simpa using hm
    have := kn w1 m1
    simp only [openE, if_neg hf, if_pos hm] at this
    exact this hm
  have hm : d.may [(g : Int)] = 0 := by simpa using hm
  have hne : ¬ (d.may [(g : Int)] ≠ 0) := fun h => h hm
  have hr : d.read g = d.file g := by simp only [Dk.read, if_neg hne, Int.toNat_natCast]
  rw [hr]
  have hfl : (d.file g).length ≤ 16777216 := file_le h.ok g
  unfold h55_2
  try simp only [go_sem]
  refine rrows_ (d.file g) (by omega) (fun hn w2 v2 m2 => ?_) (fun L hL v2 w2 m2 own2 hv2 => ?_)
  · try simp only [go_sem]
    have := kn w2 (m1.trans' m2)
    simp only [openE, if_neg hf, if_neg hne, Int.toNat_natCast, hn, Option.isNone_none, if_true] at this
    exact this (by decide)
  · obtain ⟨va, vc, rfl, -⟩ := own2.form
    have hen := openB_end hL hfl
    unfold h55_3
    try simp only [go_sem]
    refine ⟨by omega, by simp, by simp, by simp, ?_⟩
    refine box_ (cs := [ptr p, .int .i64 g, .slice va L.rows.length vc, .int .i64 L.rows.length]) rfl ?_
    intro q w3 hq blk3 m3 hs3
    try simp only [go_sem]
    have hs1 := m1.size
    have hs2 := m2.size
    have hlt := own2.lt
    refine ks g L rfl (by omega) hm hL q w3 (fun k => k = q ∨ (Value.slice va L.rows.length vc).ownBlock = some k) ⟨⟨_, by rw [hen.2.2]; exact blk3, own2.mod m3 fun _ _ h => h, fun k hk => .inr hk⟩, .inl rfl, ?_, hen.1, hen.2.1⟩ ?_ ((m1.trans' m2).trans' m3)
    · rintro k (rfl | hk)
      · omega
      · have := hlt k hk; omega
    · rintro k (rfl | hk)
      · omega
      · have := hv2 k hk; omega

variable {w0 : Base} {p q f : Nat} {d : Dk} {L : Lg} {R S : Nat → Prop}
theorem Lg.en_add {L : Lg} (h : L.end_ = 16 + (formsB L.rows).length) (rows : List Bytes) : (L.add rows).end_ = 16 + (formsB (L.add rows).rows).length := by
  show L.end_ + _ = 16 + (formsB (L.rows ++ rows)).length
  rw [formsB_app, List.length_append]; omega
/-- what ends each adding: the rows taken into the log -/
theorem radd_end {v : Value} {rows : List Bytes} {n : Nat} {QP : List PanicEntry → World → Prop} {next : Value → Value → World → Prop} {rv : Value} (h : RS w0 w p q f d L R S) (c : w.cell? ⟨q, 2, none⟩ = some rv) (hv : Sl w v 1 n (rows.map str)) (hfit : L.end_ + (formsB rows).length ≤ 16777216)
    (k : ∀ w' u u', RU w0 w' p q f d (L.add rows) → next u u' w') :
    appK Try.prog #[40, 40] 40 rv v w (fun u w' => storeK Try.prog 40 (.pointer (some ⟨q, 2, none⟩)) u w' (next u) QP) QP := by
  have hfr := formsB_rows rows
  have hfl := formsB_rows L.rows
  have hen := h.lg.en
  have hbd := h.lg.bd
  have hrn : rows.length = n := by have := hv.len; simpa using this
  obtain ⟨rv', hb, ho, ho1, c0, c1, c2, c3⟩ := h.lg.parts
  obtain rfl : rv' = rv := by rw [c] at c2; exact (Option.some.inj c2).symm
  refine append_ sl40 ho hv (by intro u hu; obtain ⟨x, -, rfl⟩ := List.mem_map.1 hu; rfl) (by omega) (by unfold maxLen; omega) ?_
  intro v4 w4 own4 m4 hb4 _
  have hbb4 := hb.mod m4 fun hS => (ho1 q hS).2 rfl
  obtain ⟨ua, uc, rfl, -, -⟩ := own4.form
  refine store1 sz40 hbb4 (by simp) rfl ?_
  intro w5 hb5 m5 hs5
  have hs4 := m4.size
  have hnew : ∀ k, (Value.slice ua (L.rows.length + n) uc).ownBlock = some k → (S k ∨ w.heap.size ≤ k) ∧ k ≠ q := by
    intro k hk
    rcases hb4 k hk with h' | h'
    · exact ⟨.inl (ho1 k h').1, (ho1 k h').2⟩
    · have := hb.lt; exact ⟨.inr h', by omega⟩
  have hself := h.lg.self
  have hlen : (L.rows ++ rows).length = L.rows.length + n := by rw [List.length_append, hrn]
  refine k _ _ _ (RS.ju (S := fun k => S k ∨ (w.heap.size ≤ k ∧ k < w5.heap.size)) (h.log (w' := w5) (L' := L.add rows) ⟨⟨.slice ua (L.rows.length + n) uc, ?_, ?_, fun k hk => ?_⟩, .inl hself, fun k hk => ?_, Lg.en_add hen _, hfit⟩ (fun k hk => hk.imp id fun h => h.1) ?_))
  · simpa [Lg.add] using hb5
  · simp only [Lg.add, hlen, List.map_append]
    exact own4.mod m5 fun k hk (e : k = q) => (hnew k hk).2 e
  · rcases (hnew k hk).1 with h' | h'
    · exact .inl h'
    · have := own4.lt k hk; have := m5.size; exact .inr ⟨h', by omega⟩
  · rcases hk with h' | h'
    · have := h.lg.lt k h'; have := m5.size; omega
    · exact h'.2
  · refine m4.mono (T := S) (fun k hk hS => (ho1 k hS).1) |>.trans m5 fun k hk (e : k = q) => e ▸ hself

theorem rappend_ (h : RS w0 w p q f d L R S) {row : Bytes} (hqn : d.queue.length + (formsB [row]).length ≤ 1000000000)
    (k : ∀ w', RU w0 w' p q f (addD' d L f [row]) (if addE d L f [row] = 0 then L.add [row] else L) → next (.int .i64 (addE d L f [row])) w') :
    callvK Try.prog (.func (.func 61) #[] #[]) [ptr q, str row] w next QP := by
  refine r61 rfl ?_
  have hen := h.lg.en
  have hbd := h.lg.bd
  obtain ⟨rv, hb, ho, ho1, c0, c1, c2, c3⟩ := h.lg.parts
  have hE : d.writeR f L.end_ (formsB [row]) = addE d L f [row] := rfl
  have fin : ∀ (w2 : World) (τ : Env) (R' : Nat → Prop), RS w0 w2 p q f (addD' d L f [row]) L R' S → τ 0 = ptr q → τ 1 = str row → τ 5 = .int .i64 (addE d L f [row]) → hw Try.prog noPanic h61_3 (endV [.tmp 4] next) τ w2 := by
    intro w2 τ R' h2 t0 t1 t5
    unfold h61_3
    try simp only [go_sem, t0, t1, t5]
    refine ⟨fun he => ?_, fun he => ?_⟩
    · have he : addE d L f [row] = 0 := by simpa using he
      have hfit := writeR_fit (show d.writeR f L.end_ (formsB [row]) = 0 from he)
      obtain ⟨rv, hb, ho, ho1, c0, c1, c2, c3⟩ := h2.lg.parts
      try simp only [go_sem, t0, t1, t5, c2]
      refine bsl1 sl40 (cs := [str row]) rfl rfl (by omega) ?_
      intro b3 w3 hb3 own3 _ m3 hs3
      have c2' := m3.cell c2 fun h => h
      try simp only [go_sem, t0, t1, t5, c2]
      refine radd_end (rows := [row]) (h2.mod0 m3) c2' (by simpa using own3.sl) (by omega) ?_
      intro w4 u u' hu
      unfold h61_4
      try simp only [go_sem, t5, he]
      have := k w4
      rw [if_pos he, he] at this
      exact this hu
    · have he : ¬ addE d L f [row] = 0 := by simpa using he
      unfold h61_4
      try simp only [go_sem, t5]
      have := k w2
      rw [if_neg he] at this
      exact this h2.ju
  have en' : ((L.end_ : Nat) : Int) = 16 + (formsB L.rows).length := by omega
  have m0 : Mod none' w w.drew := Mod.drew none' w
  unfold h61
  try simp only [go_sem, c0, c1, c2]
  refine ⟨?_, ?_⟩
  · unfold t61_1
    try simp only [go_sem, c0, c1, c2]
    refine rforms_ (ho.mod m0 fun _ _ h => h).sl (by omega) ?_
    intro w1 m1
    have m1 := m0.trans' m1
    have c0' := m1.cell c0 fun h => h
    have c1' := m1.cell c1 fun h => h
    have c2' := m1.cell c2 fun h => h
    try simp only [go_sem, c0', c1', c2']
    refine bsl1 sl40 (cs := [str row]) rfl rfl (by omega) ?_
    intro b2 w2 hb2 own2 _ m2 hs2
    have m2 := m1.trans' m2
    have c0' := m2.cell c0 fun h => h
    have c1' := m2.cell c1 fun h => h
    have c2' := m2.cell c2 fun h => h
    try simp only [go_sem, c0', c1', c2']
    refine rforms_ (l := [row]) (by simpa using own2.sl) (by omega) ?_
    intro w3 m3
    have m3 := m2.trans' m3
    have c0' := m3.cell c0 fun h => h
    have c1' := m3.cell c1 fun h => h
    try simp only [go_sem, c0', c1']
    rw [w64 (by omega) (by omega), ← en']
    refine rwrite_ (h.rr.mod0 m3) (by omega) ?_
    intro w4 st4
    exact fin w4 _ _ ((h.mod0 m3).disk st4) rfl rfl rfl
  · unfold t61_2
    try simp only [go_sem, c0, c1, c2]
    refine bsl1 sl40 (cs := [str row]) rfl rfl (by omega) ?_
    intro b2 w2 hb2 own2 _ m2 hs2
    have m2 := m0.trans' m2
    have c0' := m2.cell c0 fun h => h
    have c1' := m2.cell c1 fun h => h
    have c2' := m2.cell c2 fun h => h
    try simp only [go_sem, c0', c1', c2']
    refine rforms_ (ho.mod m2 fun _ _ h => h).sl (by omega) ?_
    intro w1 m1
    have own1 := own2.mod m1 fun _ _ h => h
    have m1 := m2.trans' m1
    have c0' := m1.cell c0 fun h => h
    have c1' := m1.cell c1 fun h => h
    try simp only [go_sem, c0', c1']
    refine rforms_ (l := [row]) (by simpa using own1.sl) (by omega) ?_
    intro w3 m3
    have m3 := m1.trans' m3
    have c0' := m3.cell c0 fun h => h
    have c1' := m3.cell c1 fun h => h
    try simp only [go_sem, c0', c1']
    rw [w64 (by omega) (by omega), ← en']
    refine rwrite_ (h.rr.mod0 m3) (by omega) ?_
    intro w4 st4
    exact fin w4 _ _ ((h.mod0 m3).disk st4) rfl rfl rfl

theorem rflushJ_ (h : RS w0 w p q f d L R S) (hqn : d.queue.length ≤ 1000000) (k : ∀ w', RU w0 w' p q f (flushJ d L f).1 (flushJ d L f).2.1 → next (.int .i64 (flushJ d L f).2.2) w') :
    callvK Try.prog (.func (.func 56) #[] #[]) [ptr q] w next QP := by
  refine r56 rfl ?_
  have hen := h.lg.en
  have hbd := h.lg.bd
  have hfl := formsB_rows L.rows
  obtain ⟨rv, hb, ho, ho1, c0, c1, c2, c3⟩ := h.lg.parts
  obtain ⟨ra, rc, rfl, -, -⟩ := ho.form
  have m0 : Mod none' w w.drew := Mod.drew none' w
  unfold h56
  try simp only [go_sem, c0, c2, c3]
  refine ⟨fun he => ?_, fun he => ?_⟩
  · have he : L.sure = L.rows.length := by
      have h0 : (L.sure : Int) = L.rows.length := by simpa using he
      omega
    have hJ : flushJ d L f = (d, L, if d.down = true then 8 else 0) := by rw [flushJ, if_pos he]
    rw [hJ] at k
    refine rdown_ (h.rr.mod0 m0) ?_
    try simp only [go_sem]
    refine ⟨fun hd => ?_, fun hd => ?_⟩
    · have := k _ (h.mod0 m0).ju
      rw [hd] at this; exact this
    · unfold h56_1
      try simp only [go_sem]
      have := k _ (h.mod0 m0).ju
      rw [hd] at this; exact this
  · have he : ¬ L.sure = L.rows.length := by
      have h0 : ¬ (L.sure : Int) = L.rows.length := by simpa using he
      omega
    have hJ : flushJ d L f = ((flush3 d L f).1, if (flush3 d L f).2 = 0 then ⟨L.rows, L.rows.length, L.end_⟩ else L, (flush3 d L f).2) := by rw [flushJ, if_neg he]
    rw [hJ] at k
    have h0 := h.mod0 m0
    have q1 := flush_queue d f
    have q2 := write_queue (d.flush f) f 0 (header L.end_ L.rows.length)
    have hhl := header_len L.end_ L.rows.length
    have en' : ((L.end_ : Nat) : Int) = 16 + (formsB L.rows).length := by omega
    -- the end
    have fin : ∀ (w4 : World) (τ : Env) (R' : Nat → Prop), RS w0 w4 p q f (flush3 d L f).1 L R' S → τ 0 = ptr q → τ 3 = .int .i64 (flush3 d L f).2 → hw Try.prog noPanic h56_4 (endV [.tmp 2] next) τ w4 := by
      intro w4 τ R' h4 t0 t3
      obtain ⟨rv, hb, ho, ho1, c0, c1, c2, c3⟩ := h4.lg.parts
      obtain ⟨ra, rc, rfl, -, -⟩ := ho.form
      unfold h56_4
      try simp only [go_sem, t0, t3]
      refine ⟨fun he => ?_, fun he => ?_⟩
      · have he : (flush3 d L f).2 = 0 := by simpa using he
        try simp only [go_sem, t0, t3, c2]
        refine store1 sz3 hb (by simp) rfl ?_
        intro w5 hb5 m5 hs5
        unfold h56_5
        try simp only [go_sem, t3, he]
        have := k w5
        rw [if_pos he, he] at this
        refine this (RS.ju (h4.log (S' := S) ⟨⟨.slice ra L.rows.length rc, by simpa using hb5, ho.mod m5 fun k hk (e : k = q) => (ho1 k hk).2 e, fun k hk => (ho1 k hk).1⟩, h4.lg.self, fun k hk => ?_, h4.lg.en, h4.lg.bd⟩ (fun k hk => .inl hk) (m5.mono fun k _ (e : k = q) => e ▸ h4.lg.self)))
        have := h4.lg.lt k hk; have := m5.size; omega
      · have he : ¬ (flush3 d L f).2 = 0 := by simpa using he
        unfold h56_5
        try simp only [go_sem, t3]
        have := k w4
        rw [if_neg he] at this
        exact this h4.ju
    unfold h56_2
    try simp only [go_sem, c0, c1]
    refine rflush_ (h0.mod0 (Mod.drew none' _)).rr (by omega) ?_
    intro w1 st1
    have h1 := (h0.mod0 (Mod.drew none' _)).disk st1
    try simp only [go_sem]
    refine ⟨fun e1 => ?_, fun e1 => ?_⟩
    · have e1 : d.flushR f = 0 := by simpa using e1
      have n1 : ¬ (d.flushR f ≠ 0) := fun h => h e1
      obtain ⟨rv, hb, ho, ho1, c0, c1, c2, c3⟩ := h1.lg.parts
      try simp only [go_sem, c0, c1, c2]
      refine rheader_ (ho.mod (Mod.drew none' w1) fun _ _ h => h).sl (by omega) ?_
      intro w2 m2
      have m2 := (Mod.drew none' w1).trans' m2
      have c0' := m2.cell c0 fun h => h
      have c1' := m2.cell c1 fun h => h
      try simp only [go_sem, c0', c1']
      have eh : ((16 + (formsB L.rows).length : Nat) : Int) = (L.end_ : Int) := by omega
      rw [eh]
      refine rwrite_ (h1.mod0 m2).rr (by omega) ?_
      intro w3 st3
      have h3 := (h1.mod0 m2).disk st3
      unfold h56_3
      try simp only [go_sem]
      refine ⟨fun e2 => ?_, fun e2 => ?_⟩
      · have e2 : (d.flush f).writeR f 0 (header L.end_ L.rows.length) = 0 := by simpa using e2
        have n2 : ¬ ((d.flush f).writeR f 0 (header L.end_ L.rows.length) ≠ 0) := fun h => h e2
        obtain ⟨rv, hb, ho, ho1, c0, c1, c2, c3⟩ := h3.lg.parts
        try simp only [go_sem, c0, c1]
        refine rflush_ (h3.mod0 (Mod.drew none' _)).rr (by omega) ?_
        intro w4 st4
        have h4 := (h3.mod0 (Mod.drew none' _)).disk st4
        refine fin w4 _ _ (by simp only [flush3, if_neg n1, if_neg n2]; exact h4) rfl ?_
        simp only [flush3, if_neg n1, if_neg n2]; rfl
      · have e2 : ¬ (d.flush f).writeR f 0 (header L.end_ L.rows.length) = 0 := by simpa using e2
        refine fin w3 _ _ (by simp only [flush3, if_neg n1, if_pos e2]; exact h3) rfl ?_
        simp only [flush3, if_neg n1, if_pos e2]; rfl
    · have e1 : ¬ d.flushR f = 0 := by simpa using e1
      have hbF : decide (d.flushR f = 0) = false := by simpa using e1
      unfold h56_3
      try simp only [go_sem, hbF]
      refine fin w1 _ _ (by simp only [flush3, if_pos e1]; exact h1) rfl ?_
      simp only [flush3, if_pos e1]; rfl

theorem rbatchJ_ (h : RS w0 w p q f d L R S) {v : Value} {rows : List Bytes} {n : Nat} (hv : Sl w v 1 n (rows.map str)) (hvd : 0 < n → ∀ k, v.ownBlock = some k → ¬ R k) (hqn : d.queue.length + (formsB rows).length ≤ 1000000)
    (k : ∀ w', RU w0 w' p q f (batchJ d L f rows).1 (batchJ d L f rows).2.1 → next (.int .i64 (batchJ d L f rows).2.2) w') :
    callvK Try.prog (.func (.func 57) #[] #[]) [ptr q, v] w next QP := by
  refine r57 rfl ?_
  have hen := h.lg.en
  have hbd := h.lg.bd
  have hrn : rows.length = n := by have := hv.len; simpa using this
  obtain ⟨va, vc, rfl, hvc, -⟩ := hv.form
  unfold h57
  try simp only [go_sem]
  refine ⟨fun hn => ?_, fun hn => ?_⟩
  · have hn : 0 < n := by
      have : (0 : Int) < n := by simpa using hn
      omega
    have hne : ¬ rows = [] := by rintro rfl; simp at hrn; omega
    obtain ⟨rv, hb, ho, ho1, c0, c1, c2, c3⟩ := h.lg.parts
    have m0 : Mod none' w w.drew := Mod.drew none' w
    have en' : ((L.end_ : Nat) : Int) = 16 + (formsB L.rows).length := by omega
    try simp only [go_sem, c0, c1, c2]
    refine rforms_ (ho.mod m0 fun _ _ h => h).sl (by omega) ?_
    intro w1 m1
    have m1 := m0.trans' m1
    have c0' := m1.cell c0 fun h => h
    have c1' := m1.cell c1 fun h => h
    try simp only [go_sem, c0', c1']
    refine rforms_ (hv.mod m1 fun _ _ h => h) (by omega) ?_
    intro w2 m2
    have m2 := m1.trans' m2
    have c0' := m2.cell c0 fun h => h
    have c1' := m2.cell c1 fun h => h
    try simp only [go_sem, c0', c1']
    rw [w64 (by omega) (by omega), ← en']
    refine rwrite_ (h.mod0 m2).rr (by omega) ?_
    intro w3 st3
    have h3 := (h.mod0 m2).disk st3
    have hE : d.writeR f L.end_ (formsB rows) = addE d L f rows := rfl
    rw [hE]
    try simp only [go_sem]
    refine ⟨fun he => ?_, fun he => ?_⟩
    · have he : ¬ addE d L f rows = 0 := by simpa using he
      have := k w3
      simp only [batchJ, if_neg hne, if_pos he] at this
      exact this h3.ju
    · have he : addE d L f rows = 0 := by simpa using he
      have hfit := writeR_fit (show d.writeR f L.end_ (formsB rows) = 0 from he)
      have hv3 : Sl w3 (.slice va n vc) 1 n (rows.map str) := (hv.mod m2 fun _ _ h => h).mod' st3.mod hvd
      obtain ⟨rv, hb, ho, ho1, c0, c1, c2, c3⟩ := h3.lg.parts
      unfold h57_1
      try simp only [go_sem, c2]
      refine radd_end h3 c2 hv3 (by omega) ?_
      rintro w4 u u' ⟨R4, S4, h4⟩
      unfold h57_2
      try simp only [go_sem]
      refine rflushJ_ h4 (by have := write_queue d f L.end_ (formsB rows); show (d.write f L.end_ (formsB rows)).queue.length ≤ _; omega) ?_
      intro w5 hu
      try simp only [go_sem]
      have := k w5
      simp only [batchJ, if_neg hne, if_neg (show ¬ (addE d L f rows ≠ 0) from fun h => h he)] at this
      exact this hu
  · have hn : n = 0 := by
      have : ¬ (0 : Int) < n := by simpa using hn
      omega
    have hne : rows = [] := List.eq_nil_of_length_eq_zero (by omega)
    subst hne
    unfold h57_2
    try simp only [go_sem]
    refine rflushJ_ h (by omega) ?_
    intro w5 hu
    try simp only [go_sem]
    have := k w5
    simp only [batchJ, if_true] at this
    exact this hu

theorem rrewrite_ (h : RS w0 w p q f d L R S) (hf : f ≤ 6) {v : Value} {rows : List Bytes} {n : Nat} (hv : Sl w v 1 n (rows.map str)) (hvd : 0 < n → ∀ k, v.ownBlock = some k → ¬ R k ∧ k < w.heap.size) (hqn : d.queue.length + (formsB rows).length ≤ 100000)
    (k : ∀ w', RU w0 w' p q f (rewriteJ d L f rows).1 (rewriteJ d L f rows).2.1 → next (.int .i64 (rewriteJ d L f rows).2.2) w') :
    callvK Try.prog (.func (.func 58) #[] #[]) [ptr q, v] w next QP := by
  refine r58 rfl ?_
  have hbd := h.lg.bd
  have hfr := formsB_rows rows
  have hrn : rows.length = n := by have := hv.len; simpa using this
  subst hrn
  obtain ⟨va, vc, rfl, hvc, -⟩ := hv.form
  have m0 : Mod none' w w.drew := Mod.drew none' w
  generalize hs : header (16 + (formsB rows).length : Nat) rows.length ++ formsB rows = s at *
  have hsl : s.length = 16 + (formsB rows).length := by rw [← hs, List.length_append, header_len]
  have q1 := cut_queue d (f + 1 : Nat) 0
  have q2 := write_queue (d.cut (f + 1 : Nat) 0) (f + 1 : Nat) 0 s
  have q3 := flush_queue ((d.cut (f + 1 : Nat) 0).write (f + 1 : Nat) 0 s) (f + 1 : Nat)
  -- the end
  have fin : ∀ (w4 : World) (τ : Env) (R' : Nat → Prop), RS w0 w4 p q f (rewr d f rows).1 L R' S → Sl w4 (.slice va rows.length vc) 1 rows.length (rows.map str) → τ 0 = ptr q → τ 1 = .slice va rows.length vc → τ 5 = .int .i64 (rewr d f rows).2 → hw Try.prog noPanic h58_3 (endV [.tmp 4] next) τ w4 := by
    intro w4 τ R' h4 hv4 t0 t1 t5
    unfold h58_3
    try simp only [go_sem, t0, t1, t5]
    refine ⟨fun he => ?_, fun he => ?_⟩
    · have he : (rewr d f rows).2 = 0 := by simpa using he
      have hfit := rewr_ok he
      refine bsl0 sl40 ?_
      intro b5 w5 hb5 own5 m5 hs5
      try simp only [go_sem, t0, t1, t5]
      refine append_ sl40 (xs := []) own5 (hv4.mod m5 fun _ _ h => h) (by intro u hu; obtain ⟨x, -, rfl⟩ := List.mem_map.1 hu; rfl) (by omega) (by unfold maxLen; omega) ?_
      intro v6 w6 own6 m6 hv6 _
      rw [Nat.zero_add, List.nil_append] at own6
      have m46 : Mod none' w4 w6 := m5.trans m6 fun k hk hS => by
        have e : b5 = k := by simpa [ownS, Value.ownBlock] using hS
        omega
      have h6 := h4.mod0 m46
      obtain ⟨rv, hb, ho, ho1, c0, c1, c2, c3⟩ := h6.lg.parts
      obtain ⟨ua, uc, rfl, -, -⟩ := own6.form
      have s5 := m5.size
      have s6 := m6.size
      have hnew : ∀ k, (Value.slice ua rows.length uc).ownBlock = some k → w4.heap.size ≤ k ∧ k < w6.heap.size ∧ k ≠ q := by
        intro k hk
        have hlt := own6.lt k hk
        have hq := h4.lg.lt q h4.lg.self
        rcases hv6 k hk with h' | h'
        · have e : b5 = k := by simpa [Value.ownBlock] using h'
          exact ⟨by omega, hlt, by omega⟩
        · exact ⟨by omega, hlt, by omega⟩
      try simp only [go_sem, t0, t1, t5]
      refine store1 sz40 hb (by simp) rfl ?_
      intro w7 hb7 m7 hs7
      try simp only [go_sem, t0, t1, t5]
      refine store1 sz3r hb7 (by simp) rfl ?_
      intro w8 hb8 m8 hs8
      have m78 : Mod (fun k => k = q) w6 w8 := m7.trans' m8
      unfold h58_4
      try simp only [go_sem, t5, he]
      have := k w8
      simp only [rewriteJ, if_pos he, he] at this
      refine this (RS.ju (S := fun k => k = q ∨ (Value.slice ua rows.length uc).ownBlock = some k) (h4.log (w' := w8) (L' := ⟨rows, rows.length, 16 + (formsB rows).length⟩) ⟨⟨.slice ua rows.length uc, ?_, ?_, fun k hk => .inr hk⟩, .inl rfl, fun i hi => ?_, rfl, hfit⟩ (fun i hi => ?_) ((m46.mono (T := S) fun _ _ h => h.elim).trans m78 fun i _ (e : i = q) => e ▸ h4.lg.self)))
      · simpa using hb8
      · dsimp only
        exact own6.mod m78 fun i hi (e : i = q) => (hnew i hi).2.2 e
      · have := m78.size
        rcases hi with e | hi
        · have := h4.lg.lt q h4.lg.self; omega
        · have := hnew i hi; omega
      · rcases hi with e | hi
        · exact .inl (e ▸ h4.lg.self)
        · exact .inr (hnew i hi).1
    · have he : ¬ (rewr d f rows).2 = 0 := by simpa using he
      unfold h58_4
      try simp only [go_sem, t5]
      have := k w4
      simp only [rewriteJ, if_neg he] at this
      exact this h4.ju
  obtain ⟨rv, hb, ho, ho1, c0, c1, c2, c3⟩ := h.lg.parts
  have f1 : IntKind.i64.wrap ((f : Int) + 1) = ((f + 1 : Nat) : Int) := by rw [w64 (by omega) (by omega)]; omega
  unfold h58
  try simp only [go_sem, c0, c1, f1]
  refine rcut_ (h.mod0 m0).rr (by omega) ?_
  intro w1 st1
  have h1 := (h.mod0 m0).disk st1
  have hv1 : Sl w1 (.slice va rows.length vc) 1 rows.length (rows.map str) := (hv.mod m0 fun _ _ h => h).mod' st1.mod fun hn k hk => (hvd hn k hk).1
  have nx : ∀ {R' : Nat → Prop} {wa : World}, (∀ k, R' k → R k ∨ wa.heap.size ≤ k) → w.heap.size ≤ wa.heap.size → 0 < rows.length → ∀ k, (Value.slice va rows.length vc).ownBlock = some k → ¬ R' k := by
    intro R' wa hR hs hn k hk hR'
    obtain ⟨n1, n2⟩ := hvd hn k hk
    rcases hR k hR' with h' | h'
    · exact n1 h'
    · omega
  have s0 : w.heap.size ≤ w.drew.heap.size := m0.size
  have s1 := st1.mod.size
  have r1 := st1.footS
  try simp only [go_sem]
  refine ⟨fun e1 => ?_, fun e1 => ?_⟩
  · have e1 : d.cutR (f + 1 : Nat) 0 = 0 := by simpa using e1
    have n1 : ¬ (d.cutR (f + 1 : Nat) 0 ≠ 0) := fun h => h e1
    obtain ⟨rv, hb, ho, ho1, c0, c1, c2, c3⟩ := h1.lg.parts
    try simp only [go_sem, c0, c1, f1]
    refine rheader_ (hv1.mod (Mod.drew none' w1) fun _ _ h => h) (by omega) ?_
    intro w2 m2
    have m2 := (Mod.drew none' w1).trans' m2
    have c0' := m2.cell c0 fun h => h
    have c1' := m2.cell c1 fun h => h
    try simp only [go_sem, c0', c1', f1]
    refine rforms_ (hv1.mod m2 fun _ _ h => h) (by omega) ?_
    intro w3 m3
    have m3 := m2.trans' m3
    have c0' := m3.cell c0 fun h => h
    have c1' := m3.cell c1 fun h => h
    try simp only [go_sem, c0', c1', f1]
    rw [header_len]
    refine ⟨by omega, ?_⟩
    rw [hs]
    refine rwrite_ (h1.mod0 m3).rr (by omega) ?_
    intro w4 st4
    have h4 := (h1.mod0 m3).disk st4
    have s3 := m3.size
    have s4 := st4.mod.size
    have r4 := st4.footS
    have hv4 := (hv1.mod m3 fun _ _ h => h).mod' st4.mod (nx (wa := w) (fun k hk => (r1 k hk).imp id fun h => by omega) (by omega))
    have r4' : ∀ k, st4.foot k → R k ∨ w.heap.size ≤ k := fun k hk => by
      rcases r4 k hk with h' | h'
      · rcases r1 k h' with h' | h'
        · exact .inl h'
        · exact .inr (by omega)
      · exact .inr (by omega)
    unfold h58_1
    try simp only [go_sem]
    refine ⟨fun e2 => ?_, fun e2 => ?_⟩
    · have e2 : (d.cut (f + 1 : Nat) 0).writeR (f + 1 : Nat) 0 s = 0 := by simpa using e2
      have n2 : ¬ ((d.cut (f + 1 : Nat) 0).writeR (f + 1 : Nat) 0 s ≠ 0) := fun h => h e2
      obtain ⟨rv, hb, ho, ho1, c0, c1, c2, c3⟩ := h4.lg.parts
      try simp only [go_sem, c0, c1, f1]
      have m5 := Mod.drew none' w4
      refine rflush_ (h4.mod0 m5).rr (by omega) ?_
      intro w5 st5
      have h5 := (h4.mod0 m5).disk st5
      have s45 : w4.heap.size ≤ w4.drew.heap.size := m5.size
      have s5 := st5.mod.size
      have hv5 := (hv4.mod m5 fun _ _ h => h).mod' st5.mod (nx (wa := w) r4' (by omega))
      have r5' : ∀ k, st5.foot k → R k ∨ w.heap.size ≤ k := fun k hk => by
        rcases st5.footS k hk with h' | h'
        · exact r4' k h'
        · exact .inr (by omega)
      unfold h58_2
      try simp only [go_sem]
      refine ⟨fun e3 => ?_, fun e3 => ?_⟩
      · have e3 : ((d.cut (f + 1 : Nat) 0).write (f + 1 : Nat) 0 s).flushR (f + 1 : Nat) = 0 := by simpa using e3
        have n3 : ¬ (((d.cut (f + 1 : Nat) 0).write (f + 1 : Nat) 0 s).flushR (f + 1 : Nat) ≠ 0) := fun h => h e3
        obtain ⟨rv, hb, ho, ho1, c0, c1, c2, c3⟩ := h5.lg.parts
        try simp only [go_sem, c0, c1, f1]
        have m6 := Mod.drew none' w5
        refine rturn_ (h5.mod0 m6).rr (by omega) ?_
        intro w6 st6
        have h6 := (h5.mod0 m6).disk st6
        have s56 : w5.heap.size ≤ w5.drew.heap.size := m6.size
        have hv6 := (hv5.mod m6 fun _ _ h => h).mod' st6.mod (nx (wa := w) r5' (by omega))
        refine fin w6 _ _ (by simp only [rewr, hs, if_neg n1, if_neg n2, if_neg n3]; exact h6) hv6 rfl rfl ?_
        simp only [rewr, hs, if_neg n1, if_neg n2, if_neg n3]; rfl
      · have e3 : ¬ ((d.cut (f + 1 : Nat) 0).write (f + 1 : Nat) 0 s).flushR (f + 1 : Nat) = 0 := by simpa using e3
        refine fin w5 _ _ (by simp only [rewr, hs, if_neg n1, if_neg n2, if_pos e3]; exact h5) hv5 rfl rfl ?_
        simp only [rewr, hs, if_neg n1, if_neg n2, if_pos e3]; rfl
    · have e2 : ¬ (d.cut (f + 1 : Nat) 0).writeR (f + 1 : Nat) 0 s = 0 := by simpa using e2
      have hb2 : decide ((d.cut (f + 1 : Nat) 0).writeR (f + 1 : Nat) 0 s = 0) = false := by simpa using e2
      unfold h58_2
      try simp only [go_sem, hb2]
      refine fin w4 _ _ (by simp only [rewr, hs, if_neg n1, if_pos e2]; exact h4) hv4 rfl rfl ?_
      simp only [rewr, hs, if_neg n1, if_pos e2]; rfl
  · have e1 : ¬ d.cutR (f + 1 : Nat) 0 = 0 := by simpa using e1
    have hb1 : decide (d.cutR (f + 1 : Nat) 0 = 0) = false := by simpa using e1
    unfold h58_1
    try simp only [go_sem, hb1]
    unfold h58_2
    try simp only [go_sem, hb1]
    refine fin w1 _ _ (by simp only [rewr, if_pos e1]; exact h1) hv1 rfl rfl ?_
    simp only [rewr, if_pos e1]; rfl
end
end Go.Proofs.Y

/- JX: JournalSpoils. -/
namespace Go.Proofs.Y
open Go Go.HL Go.Proofs

theorem wf8 {a : Int} (h : (Lit.int .u8 a).wf = true) : ∃ b : UInt8, a = b.toNat := by
  simp only [Lit.wf, Bool.and_eq_true, decide_eq_true_eq] at h
  have h1 : 0 ≤ a ∧ a ≤ 255 := h
  exact ⟨UInt8.ofNat a.toNat, by simp; omega⟩
theorem put_zeros (x : Bytes) : put [] 16 x = List.replicate 16 0 ++ x := by
  have hr : (List.replicate 16 (0 : UInt8)).length = 16 := rfl
  have hn : ([] : Bytes).length = 0 := rfl
  apply List.ext_getElem?
  intro i
  rw [put_at, hn]
  by_cases hi : i < 16
  · rw [List.getElem?_append_left (by omega), if_neg (by omega), if_neg (by omega), if_pos (by omega), List.getElem?_replicate, if_pos hi]
  · rw [List.getElem?_append_right (by omega), hr]
    by_cases hx : i < 16 + x.length
    · rw [if_pos ⟨by omega, hx⟩]
    · rw [if_neg (fun h => hx h.2), if_neg (by omega), if_neg hx, List.getElem?_eq_none (by omega)]
theorem put_head16 (x hd : Bytes) (h : hd.length = 16) : put (put [] 16 x) 0 hd = hd ++ x := by
  have hr : (List.replicate 16 (0 : UInt8)).length = 16 := rfl
  rw [put_zeros]
  apply List.ext_getElem?
  intro i
  rw [put_at, h, List.length_append, hr]
  by_cases hi : i < 16
  · rw [if_pos (by omega), List.getElem?_append_left (by omega)]; rfl
  · rw [if_neg (by omega), List.getElem?_append_right (show hd.length ≤ i by omega), h]
    by_cases hx : i < 16 + x.length
    · rw [if_pos hx, List.getElem?_append_right (by omega), hr]
    · rw [if_neg hx, if_neg (by omega), List.getElem?_eq_none (by omega)]
theorem put_one (s : Bytes) {i : Nat} (b : UInt8) (hi : i < s.length) : put s i [b] = s.set i b := by
  apply List.ext_getElem?
  intro j
  rw [put_at, List.getElem?_set]
  by_cases h : i = j
  · subst h
    rw [if_pos (by simp), if_pos rfl, if_pos hi, Nat.sub_self]; rfl
  · rw [if_neg (by simp; omega), if_neg h]
    by_cases hj : j < s.length
    · rw [if_pos hj]
    · rw [if_neg hj, List.getElem?_eq_none (by omega)]
      rw [if_neg (by simp; omega)]

section
variable {d : Dk} {f : Nat}
theorem At.flush_file (h : At d) (hf : f < 12) : (d.flush f).file f = d.file f := (flush_ok h.len hf (h.flush hf).1).1.file
theorem At.write_file (h : At d) (hf : f < 12) {a : Nat} {s : Bytes} (hs : s ≠ []) (hfit : a + s.length ≤ 16777216) : (d.write f a s).file f = put (d.file f) a s := by
  rw [idle_file h.armed hf h.len.nf (may_up h.down hf) hfit, if_neg hs]
theorem At.batch_file (h : At d) (hf : f < 12) {rows : List Bytes} (hne : rows ≠ []) (h0 : d.file f = []) (hsz : (formsB rows).length ≤ 1000000) : (batchJ d ⟨[], 0, 16⟩ f rows).1.file f = image rows := by
  have hfr := formsB_rows rows
  have hrl : 0 < rows.length := List.length_pos_iff.2 hne
  have hfne : formsB rows ≠ [] := fun h => by have := congrArg List.length h; simp only [List.length_nil] at this; omega
  obtain ⟨a1, a2⟩ := h.add hf ⟨[], 0, 16⟩ rows (by dsimp only; omega)
  have f1 : (addD' d ⟨[], 0, 16⟩ f rows).file f = put [] 16 (formsB rows) := by
    have := h.write_file hf (a := 16) hfne (by omega)
    rw [h0] at this
    exact this
  unfold batchJ
  rw [if_neg hne, if_neg (fun hn => hn a1)]
  generalize addD' d ⟨[], 0, 16⟩ f rows = d1 at *
  obtain ⟨b1, c1⟩ := a2.flush hf
  have hh := header_len (16 + (formsB rows).length : Nat) rows.length
  have hhne : header (16 + (formsB rows).length : Nat) rows.length ≠ [] := fun h => by have := congrArg List.length h; rw [hh] at this; simp at this
  obtain ⟨b2, c2⟩ := c1.write hf (a := 0) (s := header (16 + (formsB rows).length : Nat) rows.length) (by omega)
  have f2 := c1.write_file hf (a := 0) hhne (by omega)
  rw [a2.flush_file hf, f1, put_head16 _ _ hh] at f2
  have f3 := (c2.flush_file hf).trans f2
  have b2 : (d1.flush f).writeR f 0 (header (16 + (formsB rows).length : Nat) rows.length) = 0 := b2
  have eL : (Lg.add ⟨[], 0, 16⟩ rows) = ⟨rows, 0, 16 + (formsB rows).length⟩ := by simp [Lg.add]
  rw [eL]
  unfold Y.flushJ flush3
  dsimp only
  rw [if_neg (by omega), if_neg (fun hn => hn b1), if_neg (fun hn => hn b2)]
  exact f3
end

section
variable {w : World} {next : Value → World → Prop} {QP : List PanicEntry → World → Prop}
theorem bsl1d {a : Deed} (k : ∀ q w', w.heap.size = q → Own w' (.slice (some ⟨q, 0, none⟩) 1 1) 65 5 1 (rows Deed.cells [a]) → Mod none' w w' → next (.slice (some ⟨q, 0, none⟩) 1 1) w') :
    bslK Try.prog 66 1 [(0, .agg #[.int .i64 a.Do, str a.Row, a.rv, a.kv, .int .i64 a.N])] w next QP := by
  refine bsl1 sl66 (cs := a.cells) rfl rfl (by omega) ?_
  intro q w' hq own _ m _
  have e : rows Deed.cells [a] = a.cells := by simp [rows]
  exact k q w' hq (e ▸ own) m

theorem beginOf_succ (rs : List Bytes) {j : Nat} (hj : j < rs.length) : beginOf rs (j + 1) = beginOf rs j + 16 + rs[j].length := by
  unfold beginOf
  rw [formsB_take hj, List.length_append, formB_len]; omega
theorem jspoils3 {v0 : Value} {rs : List Bytes} {n : UInt8} {p i : Nat} {d : Dk} {F : FP} {w1 : World} {σ : Env} (dr : DR w1 p d F) (f0 : ∀ k, F.R k → w.heap.size ≤ k) (m : Mod none' w w1) (hat : At d) (hq : d.queue.length ≤ 10000) (hfl : d.file 4 = image rs) (hi : i < (image rs).length) (hb : (image rs)[i] ≠ n)
    (hr0 : ∀ r ∈ rs, r.length ≤ 200) (hl0 : rs.length ≤ 6) (b0 : (formsB rs).length ≤ 1296) (h0 : Sl w v0 1 rs.length (rs.map str)) (s0 : σ 0 = v0) (s1 : σ 1 = .int .i64 i) (s2 : σ 2 = .int .u8 n.toNat) (s7 : σ 7 = .bool true) (s9 : σ 9 = ptr p)
    (k : ∀ w', Mod none' w w' → next (.bool true) w') : hw Try.prog noPanic h13_3 (endV [.tmp 6] next) σ w1 := by
  obtain ⟨a0, c0, rfl, -, hc0⟩ := h0.form
  have hil := image_len rs
  have hfr := formsB_rows rs
  unfold h13_3
  try simp only [go_sem]
  refine loopN rs.length (fun j τ w' => w' = w1 ∧ τ 0 = .slice a0 rs.length c0 ∧ τ 1 = .int .i64 i ∧ τ 2 = .int .u8 n.toNat ∧ τ 7 = .bool true ∧ τ 9 = ptr p ∧ τ 14 = .int .i64 (beginOf rs j : Nat) ∧ τ 15 = .int .i64 j ∧ ∀ j', j' < j → ¬ (beginOf rs j' ≤ i ∧ i < beginOf rs j' + 8))
    ⟨0, by omega, rfl, s0, s1, s2, s7, s9, rfl, rfl, fun j' h => absurd h (by omega)⟩ ?_
  rintro j τ w2 hj ⟨rfl, t0, t1, t2, t7, t9, t14, t15, hno⟩
  unfold h13_4
  try simp only [go_sem, t0, t15]
  have hbj : beginOf rs j ≤ 16 + (formsB rs).length := by
    unfold beginOf
    have := formsB_le (l := rs) (i := j)
    omega
  refine ⟨fun hlt => ?_, fun hge => ?_⟩
  · have hjl : j < rs.length := by
      have : (j : Int) < rs.length := by simpa using hlt
      omega
    obtain ⟨gr, or_, rfl, hrc⟩ := hc0 (by omega)
    have xr : w2.cell? ⟨gr, or_ + j, none⟩ = some (str rs[j]) := by
      refine m.cell (hrc j (by omega) |>.trans ?_) fun h => h
      rw [List.getElem?_map, List.getElem?_eq_getElem hjl]; rfl
    unfold h13_5
    try simp only [go_sem, t0, t1, t7, t14, t15]
    rw [w64 (by omega) (by omega)]
    refine ⟨fun _ => k _ m, fun hn => ?_⟩
    have hn : ¬ (beginOf rs j ≤ i ∧ i < beginOf rs j + 8) := by
      intro ⟨h1, h2⟩
      rw [if_pos (by simp; omega)] at hn
      simp at hn; omega
    have hbs := beginOf_succ rs hjl
    have hrj := hr0 _ (List.getElem_mem hjl)
    unfold h13_6
    try simp only [go_sem, t0, t1, t7, t14, t15, xr]
    refine ⟨⟨by omega, by omega⟩, ?_⟩
    unfold h13_7
    try simp only [go_sem, t0, t1, t2, t7, t9, t14, t15]
    rw [w64 (show (-9223372036854775808 : Int) ≤ (j : Int) + 1 by omega) (by omega), w64 (show (-9223372036854775808 : Int) ≤ (beginOf rs j : Int) + 16 by omega) (by omega), w64 (by omega) (by omega)]
    refine ⟨j + 1, by omega, by omega, ?_, rfl, fun j' hj' => ?_⟩
    · rw [hbs]; congr 1
    · by_cases h : j' = j
      · subst h; exact hn
      · exact hno j' (by omega)
  · have hjo : j = rs.length := by
      have : ¬ (j : Int) < rs.length := by simpa using hge
      omega
    subst hjo
    have hsp := spoil (by omega) hr0 hi hb fun i' hi' => hno i' hi'
    unfold h13_8
    try simp only [go_sem, t0, t1, t2, t7, t9]
    refine bsl1 sl36 (cs := [.int .u8 n.toNat]) rfl rfl (by omega) ?_
    intro b3 w3 hb3 own3 _ m3 hs3
    try simp only [go_sem, t0, t1, t2, t7, t9]
    refine b2s u36 u9 u5 (n := 1) (l := [n]) own3.sl ?_
    try simp only [go_sem, t0, t1, t2, t7, t9]
    have dr3 := dr.mod0 m3
    obtain ⟨x1, x2⟩ := hat.write (f := 4) (by omega) (a := i) (s := [n]) (by simp; omega)
    have x3 := hat.write_file (f := 4) (by omega) (a := i) (s := [n]) (by simp) (by simp; omega)
    rw [hfl, put_one _ _ hi] at x3
    have x1 : d.writeR 4 i [n] = 0 := x1
    refine write_ dr3 (by omega) (by omega) (by simp; omega) ?_
    intro w4 st4
    rw [x1]
    try simp only [go_sem, t0, t1, t2, t7, t9]
    unfold h13_9
    try simp only [go_sem, t0, t1, t2, t7, t9]
    have dr4 := st4.dr
    have x2 : At (d.write 4 i [n]) := x2
    have x3 : (d.write 4 i [n]).file 4 = (image rs).set i n := x3
    have f4 : ∀ k, st4.foot.R k → w.heap.size ≤ k := fun k hk => by
      have := m.size
      have := m3.size
      rcases st4.footR k hk with h | h
      · exact f0 k h
      · omega
    have m04 : Mod none' w w4 := (m.trans' m3).trans st4.mod fun k hk hW => by have := f0 k (dr.sub k hW); omega
    generalize d.write 4 i [n] = d4 at *
    have hm4 : d4.may [(4 : Int)] = 0 := may_up x2.down (f := 4) (by omega)
    have hrd : d4.read 4 = (image rs).set i n := by
      unfold Dk.read; rw [if_neg (fun hn => hn hm4)]; exact x3
    have hE : openE d4 4 = if (openB ((image rs).set i n)).isNone then 2 else 0 := by
      have h1 : ¬ ((4 : Int) < 0 ∨ (6 : Int) < 4) := by decide
      simp only [openE, if_neg h1, hm4, show ((4 : Int)).toNat = 4 from rfl, x3]; rfl
    have hlen8 : 8 ≤ ((image rs).set i n).length := by rw [List.length_set]; omega
    by_cases hz : ((image rs).set i n).take 8 = List.replicate 8 0
    · rw [if_pos hz] at hsp
      refine jopen_ (g := 4) dr4 f4 m04 rfl (by omega) x2.down (by rw [x3]; exact hsp) ?_
      intro q5 w5 S5 h5 m5
      try simp only [go_sem, t0, t1, t2, t7, t9]
      refine read_ h5.dr 4 ?_
      intro w6 _ m6
      rw [hrd]
      try simp only [go_sem, t0, t1, t2, t7, t9]
      refine ⟨by omega, fun _ => ?_, fun h => absurd hz (of_decide_eq_false h)⟩
      refine jall_ (h5.mod0 m6).lg ?_
      intro v7 w7 own7 m7 _
      obtain ⟨va, vc, rfl, -⟩ := own7.form
      try simp only [go_sem, t0, t1, t2, t7, t9]
      exact k _ ((h5.m.trans' m6).trans' m7)
    · rw [if_neg hz] at hsp
      have hE : openE d4 4 = 2 := by rw [hE, hsp]; rfl
      refine open_ dr4 (fun w5 m5 hne => ?_) (fun g L hg _ _ hL q5 w5 S5 lg5 hS5 m5 => ?_)
      · rw [hE]
        try simp only [go_sem, t0, t1, t2, t7, t9]
        refine read_ (dr4.mod0 m5) 4 ?_
        intro w6 _ m6
        rw [hrd]
        try simp only [go_sem, t0, t1, t2, t7, t9]
        refine ⟨by omega, fun h => absurd (of_decide_eq_true h) hz, fun _ => ?_⟩
        unfold h13_10
        try simp only [go_sem, t0, t1, t2, t7, t9]
        exact k _ ((m04.trans' m5).trans' m6)
      · obtain rfl : g = 4 := by omega
        rw [x3, hsp] at hL; cases hL
theorem jspoils_ {v0 : Value} {rs : List Bytes} {a : Int} {n : UInt8} (ha : i64 a) (h0 : Sl w v0 1 rs.length (rs.map str))
    (k : ∀ w', Mod none' w w' → next (.bool true) w') : callK Try.prog 13 [v0, .int .i64 a, .int .u8 n.toNat] w next QP := by
  refine q13 rfl ?_
  obtain ⟨a0, c0, rfl, -, hc0⟩ := h0.form
  unfold h13
  try simp only [go_sem]
  refine jsmall_ ?_
  intro w1 m1
  have ok1 : (⟨0, [], .slice a0 rs.length c0, rs, .slice none 0 0, [], 0⟩ : Deed).OK w1 := ⟨i64_0, i64_0, h0.mod m1 fun _ _ h => h, sl_nil⟩
  try simp only [go_sem]
  refine ⟨by simp, ?_⟩
  refine bsl1d (a := ⟨0, [], .slice a0 rs.length c0, rs, .slice none 0 0, [], 0⟩) ?_
  intro b2 w2 _ own2 m2
  try simp only [go_sem]
  refine fewJ_ (l := [⟨0, [], .slice a0 rs.length c0, rs, .slice none 0 0, [], 0⟩]) own2.sl (fun x hx => ?_) ?_
  · rw [List.mem_singleton.1 hx]; exact ok1.mod0 m2
  try simp only [go_sem]
  have m12 := m1.trans' m2
  refine ⟨fun _ => k _ m12, fun hb => ?_⟩
  have hb : Deed.few1 ⟨0, [], .slice a0 rs.length c0, rs, .slice none 0 0, [], 0⟩ = true ∧ rs.length ≠ 0 := by
    by_cases h1 : Deed.few1 ⟨0, [], .slice a0 rs.length c0, rs, .slice none 0 0, [], 0⟩ = true
    · by_cases h2 : rs.length = 0
      · simp [fewJ, h1, h2] at hb
      · exact ⟨h1, h2⟩
    · simp [fewJ, h1] at hb
  obtain ⟨-, hl0, -, hr0, b0⟩ := Deed.few1_le hb.1
  dsimp only at hl0 hr0 b0
  have hne : rs ≠ [] := fun h => hb.2 (by rw [h]; rfl)
  unfold h13_1
  try simp only [go_sem]
  refine jnew_ ?_
  intro p w3 F3 dr3 f3 m3
  have s12 := m12.size
  try simp only [go_sem]
  refine jopen_ (g := 4) dr3 (fun k hk => by have := f3 k hk; omega) (m12.trans' m3) rfl (by omega) rfl (openB_core (s := []) .nil (by decide)) ?_
  intro q4 w4 S4 h4 m4
  try simp only [go_sem]
  have hq0 : Dk.new.queue.length = 0 := rfl
  refine batch_ h4 (h0.mod h4.m fun _ _ h => h) (fun hn k hk hR => ?_) (by omega) ?_
  · have := h0.lt (by omega) hn k hk
    have := h4.f0 k hR; omega
  intro w5 ⟨F5, S5, h5⟩
  obtain ⟨e1, e2, e3⟩ := at_new.batch (f := 4) (by omega) ⟨[], 0, 16⟩ rs (by dsimp only; omega)
  have hfl := at_new.batch_file (f := 4) (by omega) hne rfl (by omega)
  have hqb := batchJ_queue Dk.new ⟨[], 0, 16⟩ 4 rs
  have e1 : (batchJ Dk.new ⟨[], ([] : List Bytes).length, 16⟩ 4 rs).2.2 = 0 := e1
  have h5 : JS w w5 p q4 4 (batchJ Dk.new ⟨[], 0, 16⟩ 4 rs).1 _ F5 S5 := h5
  generalize (batchJ Dk.new ⟨[], 0, 16⟩ 4 rs).1 = d at *
  rw [e1]
  try simp only [go_sem]
  unfold h13_2
  try simp only [go_sem]
  have hm4 : d.may [(4 : Int)] = 0 := may_up e3.down (f := 4) (by omega)
  have hrd : d.read 4 = image rs := by
    unfold Dk.read; rw [if_neg (fun hn => hn hm4)]; exact hfl
  refine read_ h5.dr 4 ?_
  intro w6 _ m6
  have h6 := h5.mod0 m6
  have hil := image_len rs
  have hfr := formsB_rows rs
  rw [hrd]
  try simp only [go_sem]
  rw [w64 (by omega) (by omega)]
  by_cases hin : 0 ≤ a ∧ a < (image rs).length
  · obtain ⟨i, rfl⟩ : ∃ i : Nat, a = i := ⟨a.toNat, by omega⟩
    have hi : i < (image rs).length := by omega
    have x1 : decide ((i : Int) < 0) = false := by simp
    have x2 : decide (((image rs).length : Int) ≤ i) = false := by simp; omega
    have x3 : (if ((image rs).length : Int) - 1 < i then ((image rs).length : Int) - 1 else i) = i := if_neg (by omega)
    simp only [x1, x2, x3, Bool.false_eq_true, if_false, Int.toNat_natCast, List.getElem?_eq_getElem hi, Option.getD_some]
    refine ⟨fun _ => ⟨by omega, by omega⟩, fun _ => k _ h6.m, fun hb => ?_⟩
    have hb : (image rs)[i] ≠ n := by
      intro h
      rw [h] at hb
      simp at hb
    exact jspoils3 h6.dr h6.f0 h6.m e3 (by omega) hfl hi hb hr0 hl0 b0 h0 rfl rfl rfl rfl rfl k
  · have x2 : (if decide (a < 0) = true then true else decide (((image rs).length : Int) ≤ a)) = true := by
      by_cases h : a < 0
      · simp [h]
      · simp [h]; omega
    simp only [x2, if_true]
    exact ⟨fun h => absurd h (by simp), fun _ => k _ h6.m, fun h => absurd h (by simp)⟩
end
end Go.Proofs.Y
