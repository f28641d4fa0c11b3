/- DX: operations that came in with a call. -/
import Derived.Test.YtgalileklafbbaaDWa
import Derived.Test.YtgalileklafbbaaDZ
import Derived.Test.YtgalileklafbbaaHLV
import Derived.Deep.Slices
set_option linter.unusedSimpArgs false
set_option linter.unusedVariables false
set_option maxRecDepth 100000
namespace Go.Proofs.Y
open Go Go.HL Go.Proofs Go.ChangeShapes Go.WideShapes Go.Deep

noncomputable def fs42 : Array Field := match Try.prog.underlying 42 with | some (.struct fs) => fs | _ => #[]
theorem u42 : Try.prog.underlying 42 = some (.struct fs42) := by kernel_rfl
theorem fs42_size : fs42.size = 6 := by kernel_rfl
theorem cells42 : Try.prog.cellsOf 42 = 6 := by kernel_rfl
theorem cells3 : Try.prog.cellsOf 3 = 1 := by kernel_rfl
theorem cells9 : Try.prog.cellsOf 9 = 1 := by kernel_rfl
theorem cells22 : Try.prog.cellsOf 22 = 1 := by kernel_rfl
theorem fld (i o t : Nat) (h : (fs42[i]?).map (fun f => (f.offset, f.type)) = some (o, t)) : ∃ f, fs42[i]? = some f ∧ f.offset = o ∧ f.type = t := by
  obtain ⟨f, hf, he⟩ := Option.map_eq_some_iff.1 h
  simp only [Prod.mk.injEq] at he
  exact ⟨f, hf, he.1, he.2⟩

section
variable {H : Type} {enc : TypeId × Value → H} {w : World}

/-- what a record's reading holds -/
def ActD (a : Act) (d : DataW H) : Prop := ∃ x0 x1 x2 x3 x5, d = .agg [x0, x1, x2, x3, .lit (.string a.S), x5] ∧ (a.ks = [] ∨ ∃ sp, x5 = .slice (a.ks.map fun n => .lit (.int .i64 n)) sp)

theorem act_in {fuel : Nat} {cs : List Value} {x : DataW H × List MemPlace} (h : DataW.trod enc Try.prog w 0 (fun _ => true) true fuel 42 cs = some x) :
    ∃ a : Act, cs = a.cells ∧ i64 a.Do ∧ i64 a.F ∧ i64 a.G ∧ i64 a.N ∧ Sl w a.kv 1 a.ks.length (ints a.ks) ∧ ActD a x.1 := by
  obtain ⟨xs, n, rfl, rfl, hlen, hxl, hf⟩ := DataW.trod_struct u42 h
  rw [cells42] at hlen
  rw [fs42_size] at hxl
  match cs, hlen with
  | [c0, c1, c2, c3, c4, c5], _ =>
  match xs, hxl with
  | [y0, y1, y2, y3, y4, y5], _ =>
  obtain ⟨f0, g0, o0, e0⟩ := fld 0 0 3 (by kernel_rfl)
  obtain ⟨f1, g1, o1, e1⟩ := fld 1 1 3 (by kernel_rfl)
  obtain ⟨f2, g2, o2, e2⟩ := fld 2 2 3 (by kernel_rfl)
  obtain ⟨f3, g3, o3, e3⟩ := fld 3 3 3 (by kernel_rfl)
  obtain ⟨f4, g4, o4, e4⟩ := fld 4 4 9 (by kernel_rfl)
  obtain ⟨f5, g5, o5, e5⟩ := fld 5 5 22 (by kernel_rfl)
  have h0 := hf 0 f0 g0
  have h1 := hf 1 f1 g1
  have h2 := hf 2 f2 g2
  have h3 := hf 3 f3 g3
  have h4 := hf 4 f4 g4
  have h5 := hf 5 f5 g5
  rw [o0, e0, cells3] at h0
  rw [o1, e1, cells3] at h1
  rw [o2, e2, cells3] at h2
  rw [o3, e3, cells3] at h3
  rw [o4, e4, cells9] at h4
  rw [o5, e5, cells22] at h5
  obtain ⟨n0, k0, rfl, w0⟩ := DataW.trod_int (x := y0) Try.underlying3 h0
  obtain ⟨n1, k1, rfl, w1⟩ := DataW.trod_int (x := y1) Try.underlying3 h1
  obtain ⟨n2, k2, rfl, w2⟩ := DataW.trod_int (x := y2) Try.underlying3 h2
  obtain ⟨n3, k3, rfl, w3⟩ := DataW.trod_int (x := y3) Try.underlying3 h3
  obtain ⟨s4, k4, rfl, w4⟩ := DataW.trod_string (x := y4) Try.underlying9 h4
  have hs : ∃ a len cap, c5 = .slice a len cap := by
    rcases open_ints (x := y5) Try.underlying22 Try.underlying3 (by kernel_rfl) h5 with ⟨hcs, -⟩ | ⟨x, l, c, ss, hcs, -⟩
    · simp at hcs; exact ⟨_, _, _, hcs⟩
    · simp at hcs; exact ⟨_, _, _, hcs⟩
  have hc5 : c5.cells.toList = [c5] := by obtain ⟨a, l, c, rfl⟩ := hs; rfl
  obtain ⟨zs, hz, -, hd⟩ := ints_in (enc := enc) (w := w) (d := y5.1) (ps := y5.2) Try.underlying22 Try.underlying3 (by kernel_rfl) hs ⟨n, by rw [hc5]; exact h5⟩
  simp at k0 k1 k2 k3 k4
  subst k0 k1 k2 k3 k4
  refine ⟨⟨n0, n1, n2, n3, s4.data.toList, c5, zs⟩, rfl, wf64 w0, wf64 w1, wf64 w2, wf64 w3, by rw [← ints_len zs] at hz ⊢; simpa [ints] using hz, ⟨_, _, _, _, _, rfl, hd⟩⟩

theorem list_of {α : Type} {R : Nat → α → Prop} : ∀ n : Nat, (∀ i, i < n → ∃ a, R i a) → ∃ l : List α, l.length = n ∧ ∀ i (h : i < l.length), R i l[i]
  | 0, _ => ⟨[], rfl, fun i h => absurd h (Nat.not_lt_zero i)⟩
  | n + 1, h => by
    obtain ⟨l, hl, hr⟩ := list_of n fun i hi => h i (by omega)
    obtain ⟨a, ha⟩ := h n (by omega)
    refine ⟨l ++ [a], by simp [hl], fun i hi => ?_⟩
    rcases Nat.lt_or_ge i l.length with h' | h'
    · rw [List.getElem_append_left h']; exact hr i h'
    · have : i = n := by simp at hi; omega
      subst this
      rw [List.getElem_append_right h']
      simpa [hl] using ha

theorem acts_in {v : Value} {d : DataW H} {ps : List MemPlace} (hv : ∃ a len cap, v = .slice a len cap) (h : DataW.Trod enc Try.prog w 0 (fun _ => true) true 38 v d ps) :
    ∃ al : List Act, Sl w v 6 al.length (rows Act.cells al) ∧ (∀ a ∈ al, i64 a.Do ∧ i64 a.F ∧ i64 a.G ∧ i64 a.N ∧ Sl w a.kv 1 a.ks.length (ints a.ks)) ∧
      (al = [] ∨ ∃ (D : List (DataW H)) (sp : List (DataW H)), d = .slice D sp ∧ D.length = al.length ∧ ∀ i (h1 : i < al.length) (h2 : i < D.length), ActD al[i] D[i]) := by
  obtain ⟨a, len, cap, rfl⟩ := hv
  obtain ⟨fuel, hf⟩ := h
  rcases open_slice Try.underlying38 hf with ⟨hcs, -⟩ | ⟨x, l, c, m, n, D, Pl, hcs, -, hl, -, hm, hx, hall⟩
  · simp [Value.cells] at hcs
    obtain ⟨rfl, rfl, rfl⟩ := hcs
    exact ⟨[], (Own.nil w 0 6).sl, fun n hn => (nomatch hn), .inl rfl⟩
  · simp [Value.cells] at hcs
    obtain ⟨rfl, rfl, rfl⟩ := hcs
    have hm : m = cap := by simpa using hm
    subst hm
    simp only [cells42] at hall
    obtain ⟨al, hal, hR⟩ := list_of (R := fun i (a : Act) => (∀ j, j < 6 → w.cell? ((x.add (i * 6)).add j) = a.cells[j]?) ∧ (i64 a.Do ∧ i64 a.F ∧ i64 a.G ∧ i64 a.N ∧ Sl w a.kv 1 a.ks.length (ints a.ks)) ∧ ActD a (D i)) len fun i hi => by
      obtain ⟨cs', h1, h2⟩ := hall i (by omega)
      obtain ⟨a, rfl, a1, a2, a3, a4, a5, a6⟩ := act_in h2
      obtain ⟨-, -, hc⟩ := World.cells?_some h1
      exact ⟨a, hc, ⟨a1, a2, a3, a4, a5⟩, a6⟩
    refine ⟨al, ?_, fun a ha => ?_, ?_⟩
    · subst hal
      refine ⟨rows_len Act.cells_len al, some x, m, rfl, hl, fun h0 => ?_⟩
      have hs : x.spot = none := by
        have := (hR 0 h0).1 0 (by omega)
        have e : (x.add (0 * 6)).add 0 = x := rfl
        rw [e] at this
        exact World.cell?_spot this
      obtain ⟨b, o, s⟩ := x
      simp only at hs
      subst hs
      refine ⟨b, o, rfl, fun j hj => ?_⟩
      have hj6 : j / 6 < al.length := by omega
      have := (hR (j / 6) hj6).1 (j % 6) (Nat.mod_lt _ (by omega))
      rw [e_add, e_add] at this
      rw [show o + j = o + j / 6 * 6 + j % 6 by omega, this, ← rows_get Act.cells_len al (j / 6) (j % 6) hj6 (Nat.mod_lt _ (by omega))]
      congr 1; omega
    · obtain ⟨i, hi, rfl⟩ := List.getElem_of_mem ha
      exact (hR i hi).2.1
    · right
      have hd := congrArg Prod.fst hx
      simp only at hd
      refine ⟨_, _, hd, by simp [hal], fun i h1 h2 => ?_⟩
      have := (hR i h1).2.2
      simpa using this
end

theorem heft_mem : ∀ {al : List Act} {a : Act}, a ∈ al → a.S.length + a.ks.length ≤ heft al
  | x :: al, a, h => by
    simp only [heft, List.map_cons, List.sum_cons]
    rcases List.mem_cons.1 h with rfl | h
    · omega
    · have := heft_mem h; simp only [heft] at this; omega
theorem cells_agg {v : Value} {l : List Value} (h : v.cells.toList = l) (hl : l.length ≠ 1) : v = .agg l.toArray := by
  subst h
  cases v <;> first | rfl | exact absurd rfl hl | simp [Value.cells]
end Go.Proofs.Y
