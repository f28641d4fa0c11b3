/- HLJ: a function's rule, closures, rows of records, clear. -/
import Derived.Test.YtgalileklafbbaaHLI
set_option linter.unusedSimpArgs false
set_option linter.unusedVariables false
set_option maxRecDepth 100000
namespace Go.HL
open Go

/-- what a function's end asks, when its value goes on to next -/
def endV (rs : List RV) (next : Value → World → Prop) : HX → Env → World → Prop
  | .normal, σ, w => rvCs σ w rs ∧ next (retV (rs.map (rvV σ w))) w
  | .ret, σ, w => rvCs σ w rs ∧ next (retV (rs.map (rvV σ w))) w
  | .exit _, _, _ => False
attribute [go_sem] endV implies_true Option.isSome_some Option.getD_some Nat.reduceEqDiff Nat.zero_add Nat.add_zero Int.toNat_natCast

section
variable {P : Program} {w : World} {next : Value → World → Prop} {QP : List PanicEntry → World → Prop}

/-- a function whose code is known, called where it does not panic -/
theorem fn_rule {f : FuncId} {fn : Func} {h : HC} {N : Nat} {plans : List Plan} {rs : List RV} {na : Nat} (hf : P.funcs[f]? = some fn) (hm : P.follows .mixedOrders = true)
    (hk : fnOK P N plans rs na fn = some h) {args : List Value} (ha : args.length = na) (H : hw P noPanic h (endV rs next) (σ0 args) w) : callK P f args w next QP := by
  refine Calls.mono (calls_of_fn (R := fun e w' => match e with | .returned v => next v w' | .panicked _ => False | .outgrown => False) hf hm hk args ha ?_) ?_
  · have : endX rs (fun e w' => match e with | .returned v => next v w' | .panicked _ => False | .outgrown => False) = endV rs next := by
      funext x σ w'; cases x <;> rfl
    rw [this]; exact H
  · intro e w' he
    cases e with
    | returned v => exact he
    | panicked c => exact he.elim
    | outgrown => exact he

/-- the same with the panics -/
theorem fn_ruleQ {f : FuncId} {fn : Func} {h : HC} {N : Nat} {plans : List Plan} {rs : List RV} {na : Nat} (hf : P.funcs[f]? = some fn) (hm : P.follows .mixedOrders = true)
    (hk : fnOK P N plans rs na fn = some h) {args : List Value} (ha : args.length = na) (H : hw P QP h (endV rs next) (σ0 args) w) : callK P f args w next QP := by
  refine calls_of_fn (R := fun e w' => match e with | .returned v => next v w' | .panicked c => QP c w' | .outgrown => False) hf hm hk args ha ?_
  have : endX rs (fun e w' => match e with | .returned v => next v w' | .panicked c => QP c w' | .outgrown => False) = endV rs next := by
    funext x σ w'; cases x <;> rfl
  rw [this]; exact H

/-- a loop whose rounds lower a measure -/
theorem loop_ {body : (HX → Env → World → Prop) → Env → World → Prop} {Q : HX → Env → World → Prop} {σ : Env} (I : Env → World → Prop) (μ : Env → World → Nat) (h0 : I σ w)
    (h : ∀ σ w, I σ w → body (seqX (fun σ' w' => I σ' w' ∧ μ σ' w' < μ σ w) Q) σ w) : hloop body Q σ w := by
  refine ⟨fun i σ w => I σ w ∧ μ σ w = i, _, ⟨h0, rfl⟩, ?_⟩
  rintro i σ w ⟨hI, rfl⟩
  have hK : (fun σ' w' => ∃ j, j < μ σ w ∧ I σ' w' ∧ μ σ' w' = j) = (fun σ' w' => I σ' w' ∧ μ σ' w' < μ σ w) := by
    funext σ' w'; apply propext
    constructor
    · rintro ⟨j, h1, h2, rfl⟩; exact ⟨h2, h1⟩
    · rintro ⟨h1, h2⟩; exact ⟨_, h2, h1, rfl⟩
  rw [hK]; exact h σ w hI

/-- a loop that counts up to n -/
theorem loopN {body : (HX → Env → World → Prop) → Env → World → Prop} {Q : HX → Env → World → Prop} {σ : Env} (n : Nat) (J : Nat → Env → World → Prop) (h0 : ∃ i, i ≤ n ∧ J i σ w)
    (h : ∀ i σ w, i ≤ n → J i σ w → body (seqX (fun σ' w' => ∃ i', i < i' ∧ i' ≤ n ∧ J i' σ' w') Q) σ w) : hloop body Q σ w := by
  obtain ⟨i0, h1, h2⟩ := h0
  refine ⟨fun m σ w => ∃ i, i ≤ n ∧ J i σ w ∧ m = n - i, _, ⟨i0, h1, h2, rfl⟩, ?_⟩
  rintro m σ w ⟨i, hi, hJ, rfl⟩
  have hK : (fun σ' w' => ∃ j, j < n - i ∧ ∃ i', i' ≤ n ∧ J i' σ' w' ∧ j = n - i') = (fun σ' w' => ∃ i', i < i' ∧ i' ≤ n ∧ J i' σ' w') := by
    funext σ' w'; apply propext
    constructor
    · rintro ⟨j, h1, i', h2, h3, rfl⟩; exact ⟨i', by omega, h2, h3⟩
    · rintro ⟨i', h1, h2, h3⟩; exact ⟨_, by omega, i', h2, h3, rfl⟩
  rw [hK]; exact h i σ w hi hJ

theorem Own.blk {v : Value} {e sz n : Nat} {xs : List Value} (h : Own w v e sz n xs) : (v = .slice none 0 0 ∧ n = 0 ∧ xs = []) ∨
    ∃ g cap rest, v = .slice (some ⟨g, 0, none⟩) n cap ∧ Blk w g e (xs ++ rest) ∧ rest.length = (cap - n) * sz ∧ n ≤ cap ∧ cap ≤ maxLen := by
  rcases h.2 with ⟨hv, hn⟩ | ⟨g, cap, cur, fz, hv, hfz, hh, hc, hm, hcs, ht⟩
  · subst hn; exact .inl ⟨hv, rfl, List.eq_nil_of_length_eq_zero (by simpa using h.1)⟩
  · refine .inr ⟨g, cap, cur.toList.drop (n * sz), hv, ?_, ?_, hc, hm⟩
    · have : xs ++ cur.toList.drop (n * sz) = cur.toList := by rw [← ht]; exact List.take_append_drop _ _
      rw [this]; exact ⟨fz, by simpa using hh, by simpa using hfz⟩
    · simp [hcs, Nat.sub_mul]
theorem Own.of_blk {g e sz n cap : Nat} {xs rest : List Value} (hx : xs.length = n * sz) (hb : Blk w g e (xs ++ rest)) (hr : rest.length = (cap - n) * sz) (hc : n ≤ cap) (hm : cap ≤ maxLen) :
    Own w (.slice (some ⟨g, 0, none⟩) n cap) e sz n xs := by
  obtain ⟨fz, hb1, hb2⟩ := hb
  exact ⟨hx, .inr ⟨g, cap, _, fz, rfl, by simpa using hb2, hb1, hc, hm, by
    simp only [List.size_toArray, List.length_append, hx, hr, ← Nat.add_mul]; congr 1; omega, by simp [← hx]⟩⟩

/-- clear(s) -/
theorem clear_s {t e sz by_ : Nat} {z : Value} {ty : TypeId} (ht : SlTy P t e sz by_ z) (hz1 : ∀ u ∈ z.cells, u.oneCell' = true) {oa : Option Addr} {n c g o tb : Nat} {cs : List Value} (hb : Blk w g tb cs)
    (ha : 0 < n → oa = some ⟨g, o, none⟩) (hf : o + n * sz ≤ cs.length)
    (k : ∀ w' zs, zs.length = n * sz → Blk w' g tb (lay cs o zs) → Mod (fun k => k = g) w w' → w'.heap.size = w.heap.size → next (.tuple #[]) w') : clearK P #[t] ty (.slice oa n c) w next QP := by
  obtain ⟨i, hi, hz, hs, hby⟩ := ht.parts
  rcases Nat.eq_zero_or_pos n with h0 | h0
  · subst h0
    refine eff_value (v := .tuple #[]) (w' := w) ?_ (k w [] (by simp) (by rw [lay_nil]; exact hb) (Mod.refl _ _) rfl)
    cases oa <;> simp [Builtin.clear_, run_und ht.und]
  · obtain rfl := ha h0
    have hl : (Builtin.zeroCells z.cells n).toList.length = n * sz := by simp [Builtin.zeroCells, ht.zs]
    have h1 : ∀ u ∈ (Builtin.zeroCells z.cells n).toList, u.oneCell' = true := by
      intro u hu
      simp only [Builtin.zeroCells, Array.toList_map, List.mem_map] at hu
      obtain ⟨j, hj, rfl⟩ := hu
      have hp : 0 < z.cells.size := by rw [ht.zs]; exact ht.pos
      have hlt := Nat.mod_lt j hp
      refine hz1 _ ?_
      rw [getElem!_pos z.cells (j % z.cells.size) hlt]; exact Array.getElem_mem hlt
    obtain ⟨fz, hb1, hb2⟩ := id hb
    have hst := storeCells_h P g o tb fz (Builtin.zeroCells z.cells n).toList 0 cs.toArray w hb1 (by simpa using hb2) (by rw [hl]; simpa using hf) h1
    simp only [Nat.add_zero] at hst
    refine eff_value (v := .tuple #[]) (w' := w.setRow g (lay cs o (Builtin.zeroCells z.cells n).toList).toArray) ?_
      (k _ _ hl (setRow_blk hb (lay_len (by rw [hl]; exact hf))) ⟨rfl, rfl, rfl, by simp, fun i _ hi => setRow_other w g i _ hi⟩ (by simp))
    obtain ⟨m, rfl⟩ : ∃ m, n = m + 1 := ⟨n - 1, by omega⟩
    simp [Builtin.clear_, run_und ht.und, zeroValue, typeInfo, hi, hz, hst, lay]

/-- T{} -/
theorem bsl0 {t e sz by_ : Nat} {z : Value} (ht : SlTy P t e sz by_ z)
    (k : ∀ b w', w.heap.size = b → Own w' (.slice (some ⟨b, 0, none⟩) 0 0) e sz 0 [] → Mod none' w w' → w'.heap.size = b + 1 → next (.slice (some ⟨b, 0, none⟩) 0 0) w') : bslK P t 0 [] w next QP :=
  bsl_ ht (n := 0) (cs := []) (by simp) (by simp) (by simp [Instr.fill]) fun b w' h1 h2 _ h3 h4 => k b w' h1 h2 h3 h4

/-! ### rows of records -/
/-- the cells of records -/
def rows {α : Type} (f : α → List Value) (l : List α) : List Value := l.flatMap f
theorem rows_nil {α : Type} (f : α → List Value) : rows f [] = [] := rfl
theorem rows_cons {α : Type} (f : α → List Value) (x : α) (l : List α) : rows f (x :: l) = f x ++ rows f l := rfl
theorem rows_app {α : Type} (f : α → List Value) (l m : List α) : rows f (l ++ m) = rows f l ++ rows f m := by simp [rows]
theorem rows_len {α : Type} {f : α → List Value} {sz : Nat} (h : ∀ x, (f x).length = sz) : ∀ l : List α, (rows f l).length = l.length * sz
  | [] => by simp [rows]
  | x :: l => by rw [rows_cons, List.length_append, h, rows_len h l, List.length_cons, Nat.add_mul]; omega
theorem rows_get {α : Type} {f : α → List Value} {sz : Nat} (h : ∀ x, (f x).length = sz) : ∀ (l : List α) (i : Nat) (j : Nat), (hi : i < l.length) → j < sz → (rows f l)[i * sz + j]? = (f l[i])[j]?
  | x :: l, 0, j, _, hj => by
    rw [rows_cons, List.getElem?_append_left (by rw [h]; omega)]; simp
  | x :: l, i + 1, j, hi, hj => by
    rw [rows_cons, List.getElem?_append_right (by rw [h, Nat.add_mul]; omega), h]
    have : (i + 1) * sz + j - sz = i * sz + j := by rw [Nat.add_mul]; omega
    rw [this]
    exact rows_get h l i j (by simpa using hi) hj
theorem rows_one {α : Type} {f : α → Value} : ∀ (l : List α), rows (fun x => [f x]) l = l.map f
  | [] => rfl
  | x :: l => by rw [rows_cons, rows_one l]; rfl
theorem rows_set {α : Type} {f : α → List Value} {sz : Nat} (h : ∀ x, (f x).length = sz) : ∀ (l : List α) (i : Nat) (y : α), i < l.length → lay (rows f l) (i * sz) (f y) = rows f (l.set i y)
  | x :: l, 0, y, _ => by
    have e : (f y).length = (f x).length := by rw [h, h]
    simp only [lay, rows_cons, Nat.zero_mul, List.take_zero, List.nil_append, Nat.zero_add, e, List.drop_left, List.set_cons_zero]
  | x :: l, i + 1, y, hi => by
    have ih := rows_set h l i y (by simpa using hi)
    simp only [List.set_cons_succ, rows_cons, ← ih]
    unfold lay
    have e1 : (i + 1) * sz = (f x).length + i * sz := by rw [h, Nat.add_mul]; omega
    rw [e1, List.take_length_add_append, Nat.add_assoc, List.drop_length_add_append]
    simp

/-- a slice of records that can be read -/
theorem Sl.get {α : Type} {f : α → List Value} {sz n : Nat} {v : Value} {l : List α} (h : Sl w v sz n (rows f l)) (hf : ∀ x, (f x).length = sz) (hl : l.length = n) (h0 : 0 < n) :
    ∃ b o c, v = .slice (some ⟨b, o, none⟩) n c ∧ n ≤ c ∧ ∀ i j, (hi : i < l.length) → j < sz → w.cell? ⟨b, o + i * sz + j, none⟩ = (f l[i])[j]? := by
  obtain ⟨h1, a, c, hv, hc, h2⟩ := h
  obtain ⟨b, o, ha, h3⟩ := h2 h0
  subst ha
  refine ⟨b, o, c, hv, hc, fun i j hi hj => ?_⟩
  rw [Nat.add_assoc, h3 (i * sz + j) (by rw [← hl]; calc i * sz + j < i * sz + sz := by omega
    _ = (i + 1) * sz := by rw [Nat.add_mul]; omega
    _ ≤ l.length * sz := Nat.mul_le_mul_right _ hi), rows_get hf l i j hi hj]

/-- n cells read at once -/
theorem loadN_of {a : Addr} {cs : List Value} {n : Nat} (hn : cs.length = n) (h : ∀ j, j < n → w.cell? (a.add j) = cs[j]?) : loadN w a n = cs.toArray := by
  subst hn
  unfold loadN
  congr 1
  apply List.ext_getElem
  · simp
  · intro i h1 h2
    simp at h1
    simp [h i h1, h1]
theorem loadN_some {a : Addr} {cs : List Value} {n : Nat} (hn : cs.length = n) (h : ∀ j, j < n → w.cell? (a.add j) = cs[j]?) : ∀ i, i < n → (w.cell? (a.add i)).isSome = true := by
  intro i hi; rw [h i hi]; simp [hn, hi]

/-- a block's cells read at once -/
theorem Blk.loadN {b o n tb : Nat} {cs : List Value} (h : Blk w b tb cs) (hn : o + n ≤ cs.length) : loadN w ⟨b, o, none⟩ n = ((cs.drop o).take n).toArray := by
  refine loadN_of (by simp; omega) fun j hj => ?_
  rw [e_add, h.cell, List.getElem?_take_of_lt hj, List.getElem?_drop]
theorem Blk.some {b o n tb : Nat} {cs : List Value} (h : Blk w b tb cs) (hn : o + n ≤ cs.length) : ∀ i, i < n → (w.cell? ((⟨b, o, none⟩ : Addr).add i)).isSome = true := by
  intro i hi; rw [e_add, h.cell]; simp; omega
end
end Go.HL
