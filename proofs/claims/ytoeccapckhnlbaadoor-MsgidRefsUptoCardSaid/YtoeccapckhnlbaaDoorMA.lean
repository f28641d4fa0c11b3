/- MA: msgid: names of types; letters in lower case; lists of texts. -/
import Derived.Test.YtoeccapckhnlbaaDoorHLO
import Derived.Lib.AppendZeros
import Derived.RangeFuncBox
import Derived.RangeFuncLeaves
import Derived.Shelf.Abstract
import Derived.WalkKit
import Derived.OwnWalkIn
import Derived.TacticsInMore
import Derived.LoopNIn
import Derived.LoopIn
import Derived.RangeFuncCalls
import Derived.RangeFuncWrites
import Derived.ControlIn
import Derived.OrdersIn
import Derived.TacticsIn
set_option linter.unusedSimpArgs false
set_option linter.unusedVariables false
set_option maxRecDepth 100000
namespace Go.Proofs.Y
open Go Go.HL Go.Proofs

abbrev Bytes := List UInt8
abbrev ptr (p : Nat) : Value := .pointer (some ⟨p, 0, none⟩)
theorem u45 : Tryd.prog.underlying 45 = some (.slice 5) := by kernel_rfl
theorem u9 : Tryd.prog.underlying 9 = some .string := by kernel_rfl
theorem u5 : Tryd.prog.underlying 5 = some (.int .u8) := by kernel_rfl
theorem sz5 : szOf Tryd.prog 5 = some 1 := by kernel_rfl
theorem sz9 : szOf Tryd.prog 9 = some 1 := by kernel_rfl
theorem sl45 : SlTy Tryd.prog 45 5 1 1 (.int .u8 0) := ⟨by kernel_rfl, by kernel_rfl, rfl, by decide⟩
theorem sl31 : SlTy Tryd.prog 31 9 1 16 (str []) := ⟨by kernel_rfl, by kernel_rfl, rfl, by decide⟩
theorem sl22 : SlTy Tryd.prog 22 37 2 32 (.agg #[str [], str []]) := ⟨by kernel_rfl, by kernel_rfl, rfl, by decide⟩

def lowB (c : UInt8) : UInt8 := if 65 ≤ c ∧ c ≤ 90 then c + 32 else c
def lowerB (s : Bytes) : Bytes := s.map lowB
theorem lowerB_len (s : Bytes) : (lowerB s).length = s.length := by simp [lowerB]
theorem lowB_nat (c : UInt8) : ((lowB c).toNat : Int) = if 65 ≤ (c.toNat : Int) ∧ (c.toNat : Int) ≤ 90 then (c.toNat : Int) + 32 else c.toNat := by
  have h := c.toNat_lt
  have e1 : (65 ≤ c) ↔ 65 ≤ c.toNat := Iff.rfl
  have e2 : (c ≤ 90) ↔ c.toNat ≤ 90 := Iff.rfl
  unfold lowB
  by_cases hc : 65 ≤ c ∧ c ≤ 90
  · have hc' := hc
    rw [e1, e2] at hc'
    rw [if_pos hc, if_pos (by omega), UInt8.toNat_add]
    show (((c.toNat + 32) % 256 : Nat) : Int) = _
    omega
  · have hc' := hc
    rw [e1, e2] at hc'
    rw [if_neg hc, if_neg (by omega)]
theorem str_inj {a b : Bytes} : (a = b) ↔ (str a = str b) := by
  constructor
  · rintro rfl; rfl
  · intro h
    simp only [str, Value.string.injEq, ByteArray.mk.injEq] at h
    simpa using h

section
variable {w : World} {next : Value → World → Prop} {QP : List PanicEntry → World → Prop}

theorem lay_low (s : Bytes) (i : Nat) (hi : i < s.length) : (bys (lowerB (s.take i) ++ s.drop i)).set i (.int .u8 (lowB s[i]).toNat) = bys (lowerB (s.take (i + 1)) ++ s.drop (i + 1)) := by
  have h1 : (lowerB (s.take i)).length = i := by rw [lowerB_len, List.length_take]; omega
  rw [List.drop_eq_getElem_cons hi, List.take_succ_eq_append_getElem hi]
  simp only [bys, lowerB, List.map_append, List.map_cons, List.map_nil] at h1 ⊢
  rw [List.set_append_right _ _ (by simp; omega)]
  simp [List.length_map] at h1 ⊢
  rw [show i - min i s.length = 0 by omega, List.set_cons_zero]

theorem set_same {α : Type} {l : List α} {i : Nat} {v : α} (h : l[i]? = some v) : l.set i v = l := by
  obtain ⟨hi, rfl⟩ := List.getElem?_eq_some_iff.1 h
  exact List.set_getElem_self hi

theorem low_ (s : Bytes) (hs : s.length ≤ 1000000000) (k : ∀ w', Mod none' w w' → next (str (lowerB s)) w') : callvK Tryd.prog (.func (.func 71) #[] #[]) [str s] w next QP := by
  refine r71 rfl ?_
  unfold h71
  try simp only [go_sem]
  refine r76 rfl ?_
  unfold h76
  try simp only [go_sem]
  refine s2b u9 u45 u5 (by unfold maxLen; omega) ?_
  intro b c w1 hb own1 m1 hs1
  try simp only [go_sem]
  refine loopN s.length (fun i τ w' => τ 1 = .int .u8 65 ∧ τ 2 = .int .u8 90 ∧ τ 3 = .int .i64 32 ∧ τ 9 = .slice (some ⟨b, 0, none⟩) s.length c ∧ τ 14 = .slice (some ⟨b, 0, none⟩) s.length c ∧ τ 15 = .int .i64 s.length ∧ τ 16 = .int .i64 i ∧ Mod none' w w' ∧ HL.Own w' (.slice (some ⟨b, 0, none⟩) s.length c) 5 1 s.length (bys (lowerB (s.take i) ++ s.drop i))) ⟨0, by omega, rfl, rfl, rfl, rfl, rfl, rfl, rfl, m1, by simpa [lowerB] using own1⟩ ?_
  rintro i τ w2 hi ⟨t1, t2, t3, t9, t14, t15, t16, m2, own2⟩
  unfold h76_1
  try simp only [go_sem, t15, t16]
  refine ⟨fun hlt => ?_, fun hge => ?_⟩
  · have hil : i < s.length := by
      have : (i : Int) < s.length := by simpa using hlt
      omega
    have hce := own_at own2 hil
    have hl1 : (lowerB (s.take i)).length = i := by rw [lowerB_len, List.length_take]; omega
    have he : (bys (lowerB (s.take i) ++ s.drop i))[i]? = some (.int .u8 s[i].toNat) := by
      rw [bys, List.getElem?_map, List.getElem?_append_right (by omega), hl1, Nat.sub_self, List.drop_eq_getElem_cons hil]; rfl
    rw [he] at hce
    have hlow := lay_low s i hil
    have hn := lowB_nat s[i]
    have h256 := s[i].toNat_lt
    unfold h76_2
    try simp only [go_sem, t1, t2, t3, t9, t14, t15, t16, hce]
    repeat refine ⟨⟨by omega, by omega⟩, ?_⟩
    refine ⟨fun hc => ?_, fun hc => ?_⟩
    · have hc : 65 ≤ (s[i].toNat : Int) ∧ (s[i].toNat : Int) ≤ 90 := by
        split at hc
        · rename_i h1; exact ⟨by simpa using h1, by simpa using hc⟩
        · cases hc
      rw [if_pos hc] at hn
      rw [w64 (x := (s[i].toNat : Int)) (by omega) (by omega), w64 (by omega) (by omega), wrap_u8, show ((s[i].toNat : Int) + 32) % 256 = (lowB s[i]).toNat by omega]
      refine ⟨⟨by omega, by omega⟩, ?_⟩
      refine own_store sz5 own2 hil rfl ?_
      intro w3 own3 m3 hs3
      rw [hlow] at own3
      unfold h76_3
      try simp only [go_sem, t1, t2, t3, t9, t14, t15, t16]
      rw [w64 (by omega) (by omega)]
      exact ⟨i + 1, by omega, by omega, rfl, m2.trans m3 fun k hk (e : k = b) => by omega, own3⟩
    · have hc : ¬ (65 ≤ (s[i].toNat : Int) ∧ (s[i].toNat : Int) ≤ 90) := by
        split at hc
        · simp at hc; omega
        · rename_i h1; simp at h1; omega
      rw [if_neg hc] at hn
      have hn' : (lowB s[i]).toNat = s[i].toNat := by omega
      rw [hn', set_same he] at hlow
      rw [hlow] at own2
      unfold h76_3
      try simp only [go_sem, t1, t2, t3, t9, t14, t15, t16]
      rw [w64 (by omega) (by omega)]
      exact ⟨i + 1, by omega, by omega, rfl, m2, own2⟩
  · have hio : i = s.length := by
      have : ¬ (i : Int) < s.length := by simpa using hge
      omega
    subst hio
    unfold h76_4
    try simp only [go_sem, t9]
    rw [List.take_length, List.drop_length, List.append_nil] at own2
    refine b2s u45 u9 u5 (n := s.length) (l := lowerB s) own2.sl ?_
    try simp only [go_sem]
    exact k _ m2

theorem rlow1_ (c : UInt8) (k : next (.int .u8 (lowB c).toNat) w) : callvK Tryd.prog (.func (.func 73) #[] #[]) [.int .u8 c.toNat] w next QP := by
  refine r73 rfl ?_
  have hn := lowB_nat c
  have h256 := c.toNat_lt
  unfold h73
  try simp only [go_sem]
  refine ⟨fun hc => ?_, fun hc => ?_⟩
  · have hc : 65 ≤ (c.toNat : Int) ∧ (c.toNat : Int) ≤ 90 := by
      split at hc
      · rename_i h1; exact ⟨by simpa using h1, by simpa using hc⟩
      · cases hc
    rw [if_pos hc] at hn
    rw [wrap_u8, show ((c.toNat : Int) + 32) % 256 = (lowB c).toNat by omega]
    exact k
  · have hc : ¬ (65 ≤ (c.toNat : Int) ∧ (c.toNat : Int) ≤ 90) := by
      split at hc
      · simp at hc; omega
      · rename_i h1; simp at h1; omega
    rw [if_neg hc] at hn
    unfold h73_1
    try simp only [go_sem]
    rw [← hn]; exact k

theorem rlow_ (s : Bytes) (hs : s.length ≤ 1000000000) (k : ∀ w', Mod none' w w' → next (str (lowerB s)) w') : callvK Tryd.prog (.func (.func 64) #[] #[]) [str s] w next QP := by
  refine r64 rfl ?_
  unfold h64
  try simp only [go_sem]
  refine s2b u9 u45 u5 (by unfold maxLen; omega) ?_
  intro b c w1 hb own1 m1 hs1
  try simp only [go_sem]
  refine loopN s.length (fun i τ w' => τ 3 = .slice (some ⟨b, 0, none⟩) s.length c ∧ τ 4 = .int .i64 i ∧ Mod none' w w' ∧ HL.Own w' (.slice (some ⟨b, 0, none⟩) s.length c) 5 1 s.length (bys (lowerB (s.take i) ++ s.drop i))) ⟨0, by omega, rfl, rfl, m1, by simpa [lowerB] using own1⟩ ?_
  rintro i τ w2 hi ⟨t3, t4, m2, own2⟩
  unfold h64_1
  try simp only [go_sem, t3, t4]
  refine ⟨fun hlt => ?_, fun hge => ?_⟩
  · have hil : i < s.length := by
      have : (i : Int) < s.length := by simpa using hlt
      omega
    have hce := own_at own2 hil
    have hl1 : (lowerB (s.take i)).length = i := by rw [lowerB_len, List.length_take]; omega
    have he : (bys (lowerB (s.take i) ++ s.drop i))[i]? = some (.int .u8 s[i].toNat) := by
      rw [bys, List.getElem?_map, List.getElem?_append_right (by omega), hl1, Nat.sub_self, List.drop_eq_getElem_cons hil]; rfl
    rw [he] at hce
    have hlow := lay_low s i hil
    unfold h64_2
    try simp only [go_sem, t3, t4, hce]
    repeat refine ⟨⟨by omega, by omega⟩, ?_⟩
    refine rlow1_ s[i] ?_
    try simp only [go_sem, t3, t4]
    refine ⟨⟨by omega, by omega⟩, ?_⟩
    refine own_store sz5 own2 hil rfl ?_
    intro w3 own3 m3 hs3
    rw [hlow] at own3
    unfold h64_3
    try simp only [go_sem, t3, t4]
    rw [w64 (by omega) (by omega)]
    exact ⟨i + 1, by omega, by omega, rfl, m2.trans m3 fun k hk (e : k = b) => by omega, own3⟩
  · have hio : i = s.length := by
      have : ¬ (i : Int) < s.length := by simpa using hge
      omega
    subst hio
    unfold h64_4
    try simp only [go_sem, t3]
    rw [List.take_length, List.drop_length, List.append_nil] at own2
    refine b2s u45 u9 u5 (n := s.length) (l := lowerB s) own2.sl ?_
    try simp only [go_sem]
    exact k _ m2

def sameB (a b : Bytes) : Bool := decide (lowerB a = lowerB b)
theorem sameB_len {a b : Bytes} (h : a.length ≠ b.length) : sameB a b = false := by
  unfold sameB
  rw [decide_eq_false]
  intro e
  have := congrArg List.length e
  rw [lowerB_len, lowerB_len] at this
  exact h this
theorem tsame_ (a b : Bytes) (ha : a.length ≤ 1000000000) (hb : b.length ≤ 1000000000) (k : ∀ w', Mod none' w w' → next (.bool (sameB a b)) w') : callvK Tryd.prog (.func (.func 60) #[] #[]) [str a, str b] w next QP := by
  refine r60 rfl ?_
  unfold h60
  try simp only [go_sem]
  refine ⟨fun he => ?_, fun he => ?_⟩
  · refine low_ a ha ?_
    intro w1 m1
    unfold l60_2
    try simp only [go_sem, he]
    refine low_ b hb ?_
    intro w2 m2
    unfold l60_1
    try simp only [go_sem, he]
    have := k w2 (m1.trans' m2)
    simpa [sameB] using this
  · have he' : a.length ≠ b.length := by
      intro e; rw [e] at he; simp at he
    unfold l60_2
    try simp only [go_sem, he]
    unfold l60_1
    try simp only [go_sem, he]
    have := k w (Mod.refl _ _)
    rw [sameB_len he'] at this
    exact this
theorem rsame_ (a b : Bytes) (ha : a.length ≤ 1000000000) (hb : b.length ≤ 1000000000) (k : ∀ w', Mod none' w w' → next (.bool (sameB a b)) w') : callvK Tryd.prog (.func (.func 44) #[] #[]) [str a, str b] w next QP := by
  refine r44 rfl ?_
  unfold h44
  try simp only [go_sem]
  refine rlow_ a ha ?_
  intro w1 m1
  try simp only [go_sem]
  refine rlow_ b hb ?_
  intro w2 m2
  try simp only [go_sem]
  have := k w2 (m1.trans' m2)
  simpa [sameB] using this

theorem strs_at {v : Value} {l : List Bytes} {n : Nat} (h : Sl w v 1 n (l.map str)) {i : Nat} (hi : i < n) : ∃ hl : i < l.length, ∃ g o c, v = .slice (some ⟨g, o, none⟩) n c ∧ ∀ w', Mod none' w w' → w'.cell? ⟨g, o + i, none⟩ = some (str l[i]) := by
  have hln : l.length = n := by have := h.len; simpa using this
  obtain ⟨a, c, rfl, -, hc⟩ := h.form
  obtain ⟨g, o, rfl, hcell⟩ := hc (by omega)
  refine ⟨by omega, g, o, c, rfl, fun w' m => ?_⟩
  have h1 := hcell i (by omega)
  rw [List.getElem?_map, List.getElem?_eq_getElem (by omega)] at h1
  exact m.cell h1 fun h => h

theorem texts_ {va vb : Value} {a b : List Bytes} {n m : Nat} (ha : Sl w va 1 n (a.map str)) (hb : Sl w vb 1 m (b.map str)) (hn : n ≤ 1000000000000) (k : ∀ w', Mod none' w w' → next (.bool (decide (a = b))) w') :
    callvK Tryd.prog (.func (.func 17) #[] #[]) [va, vb] w next QP := by
  refine r17 rfl ?_
  have han : a.length = n := by have := ha.len; simpa using this
  have hbm : b.length = m := by have := hb.len; simpa using this
  obtain ⟨aa, ac, rfl, -, hac⟩ := ha.form
  obtain ⟨ba, bc, rfl, -, hbc⟩ := hb.form
  unfold h17
  try simp only [go_sem]
  refine ⟨fun hl => ?_, fun hl => ?_⟩
  · have hl : ¬ a = b := by
      have h0 : ¬ (n : Int) = m := by simpa using hl
      rintro rfl; omega
    have := k w (Mod.refl _ _)
    rw [decide_eq_false hl] at this
    exact this
  · have hl : n = m := by
      have h0 : (n : Int) = m := by simpa using hl
      omega
    subst hl
    unfold h17_1
    try simp only [go_sem]
    refine loopN n (fun i τ w' => τ 0 = .slice aa n ac ∧ τ 1 = .slice ba n bc ∧ τ 5 = .int .i64 i ∧ Mod none' w w' ∧ a.take i = b.take i) ⟨0, by omega, rfl, rfl, rfl, Mod.refl _ _, by simp⟩ ?_
    rintro i τ w1 hi ⟨t0, t1, t5, m1, heq⟩
    unfold h17_2
    try simp only [go_sem, t0, t1, t5]
    refine ⟨fun hlt => ?_, fun hge => ?_⟩
    · have hin : i < n := by
        have : (i : Int) < n := by simpa using hlt
        omega
      obtain ⟨ga, oa, rfl, hca⟩ := hac (by omega)
      obtain ⟨gb, ob, rfl, hcb⟩ := hbc (by omega)
      have xa : w1.cell? ⟨ga, oa + i, none⟩ = some (str (a[i]'(by omega))) := by
        have h1 := hca i (by omega)
        rw [List.getElem?_map, List.getElem?_eq_getElem (by omega)] at h1
        exact m1.cell h1 fun h => h
      have xb : w1.cell? ⟨gb, ob + i, none⟩ = some (str (b[i]'(by omega))) := by
        have h1 := hcb i (by omega)
        rw [List.getElem?_map, List.getElem?_eq_getElem (by omega)] at h1
        exact m1.cell h1 fun h => h
      unfold h17_3
      try simp only [go_sem, t0, t1, t5, xa, xb]
      repeat refine ⟨⟨by omega, by omega⟩, ?_⟩
      refine ⟨fun hne => ?_, fun heq1 => ?_⟩
      · have hne : ¬ a[i]'(by omega) = b[i]'(by omega) := by simpa using hne
        have := k w1.drew (m1.trans' (Mod.drew none' w1))
        rw [decide_eq_false (fun e => hne (by simp only [e]))] at this
        exact this
      · have heq1 : a[i]'(by omega) = b[i]'(by omega) := by simpa using heq1
        unfold h17_4
        try simp only [go_sem, t0, t1, t5]
        rw [w64 (by omega) (by omega)]
        refine ⟨i + 1, by omega, by omega, rfl, m1.trans' (Mod.drew none' w1), ?_⟩
        rw [List.take_succ_eq_append_getElem (by omega), List.take_succ_eq_append_getElem (by omega), heq, heq1]
    · have hio : i = n := by
        have : ¬ (i : Int) < n := by simpa using hge
        omega
      subst hio
      rw [List.take_of_length_le (by omega), List.take_of_length_le (by omega)] at heq
      unfold h17_5
      try simp only [go_sem]
      have := k w1 m1
      rw [decide_eq_true heq] at this
      exact this

/-- whether a text is among others: the reference's In -/
theorem in_ {v : Value} {l : List Bytes} {n : Nat} {s : Bytes} (hv : Sl w v 1 n (l.map str)) (hn : n ≤ 1000000000000) (k : next (.bool (decide (s ∈ l))) w) : callvK Tryd.prog (.func (.func 23) #[] #[]) [v, str s] w next QP := by
  refine r23 rfl ?_
  have hln : l.length = n := by have := hv.len; simpa using this
  obtain ⟨aa, ac, rfl, -, -⟩ := hv.form
  unfold h23
  try simp only [go_sem]
  refine loopN n (fun i τ w' => τ 0 = .slice aa n ac ∧ τ 1 = str s ∧ τ 5 = .int .i64 i ∧ w' = w ∧ s ∉ l.take i) ⟨0, by omega, rfl, rfl, rfl, rfl, by simp⟩ ?_
  rintro i τ w1 hi ⟨t0, t1, t5, rfl, hno⟩
  unfold h23_1
  try simp only [go_sem, t0, t1, t5]
  refine ⟨fun hlt => ?_, fun hge => ?_⟩
  · have hin : i < n := by
      have : (i : Int) < n := by simpa using hlt
      omega
    obtain ⟨hil, g, o, c, e, hc⟩ := strs_at hv hin
    simp only [Value.slice.injEq] at e
    obtain ⟨rfl, -, rfl⟩ := e
    have hc := hc w1 (Mod.refl _ _)
    unfold h23_2
    try simp only [go_sem, t0, t1, t5, hc]
    repeat refine ⟨⟨by omega, by omega⟩, ?_⟩
    refine ⟨fun he => ?_, fun he => ?_⟩
    · have he : l[i] = s := by simpa using he
      rw [decide_eq_true (show s ∈ l by rw [← he]; exact List.getElem_mem _)] at k
      exact k
    · have he : ¬ l[i] = s := by simpa using he
      unfold h23_3
      try simp only [go_sem, t0, t1, t5]
      rw [w64 (by omega) (by omega)]
      refine ⟨i + 1, by omega, by omega, rfl, ?_⟩
      rw [List.take_succ_eq_append_getElem hil]
      simp only [List.mem_append, List.mem_singleton, not_or]
      exact ⟨hno, fun e => he e.symm⟩
  · have hio : i = n := by
      have : ¬ (i : Int) < n := by simpa using hge
      omega
    subst hio
    rw [List.take_of_length_le (by omega)] at hno
    unfold h23_4
    try simp only [go_sem]
    rw [decide_eq_false hno] at k
    exact k

/-- slices.Contains -/
theorem contains_ {v : Value} {l : List Bytes} {n : Nat} {s : Bytes} (hv : Sl w v 1 n (l.map str)) (hn : n ≤ 1000000000000) (k : next (.bool (decide (s ∈ l))) w) : callvK Tryd.prog (.func (.func 34) #[] #[]) [v, str s] w next QP := by
  refine r34 rfl ?_
  unfold h34
  try simp only [go_sem]
  refine r56 rfl ?_
  have hln : l.length = n := by have := hv.len; simpa using this
  obtain ⟨aa, ac, rfl, -, -⟩ := hv.form
  unfold h56
  try simp only [go_sem]
  refine loopN n (fun i τ w' => τ 0 = .slice aa n ac ∧ τ 1 = str s ∧ τ 7 = .int .i64 n ∧ τ 8 = .int .i64 i ∧ w' = w ∧ s ∉ l.take i) ⟨0, by omega, rfl, rfl, rfl, rfl, rfl, by simp⟩ ?_
  rintro i τ w1 hi ⟨t0, t1, t7, t8, rfl, hno⟩
  unfold h56_1
  try simp only [go_sem, t0, t1, t7, t8]
  refine ⟨fun hlt => ?_, fun hge => ?_⟩
  · have hin : i < n := by
      have : (i : Int) < n := by simpa using hlt
      omega
    obtain ⟨hil, g, o, c, e, hc⟩ := strs_at hv hin
    simp only [Value.slice.injEq] at e
    obtain ⟨rfl, -, rfl⟩ := e
    have hc := hc w1 (Mod.refl _ _)
    unfold h56_2
    try simp only [go_sem, t0, t1, t7, t8, hc]
    repeat refine ⟨⟨by omega, by omega⟩, ?_⟩
    refine ⟨fun he => ?_, fun he => ?_⟩
    · have he : s = l[i] := by simpa using he
      rw [decide_eq_true (show s ∈ l by rw [he]; exact List.getElem_mem _)] at k
      rw [decide_eq_true (by omega)]
      exact k
    · have he : ¬ s = l[i] := by simpa using he
      unfold h56_3
      try simp only [go_sem, t0, t1, t7, t8]
      rw [w64 (by omega) (by omega)]
      refine ⟨i + 1, by omega, by omega, rfl, ?_⟩
      rw [List.take_succ_eq_append_getElem hil]
      simp only [List.mem_append, List.mem_singleton, not_or]
      exact ⟨hno, he⟩
  · have hio : i = n := by
      have : ¬ (i : Int) < n := by simpa using hge
      omega
    subst hio
    rw [List.take_of_length_le (by omega)] at hno
    unfold h56_4
    try simp only [go_sem]
    rw [decide_eq_false hno] at k
    exact k
end
end Go.Proofs.Y

/- MB: msgid: Valid, both. -/
namespace Go.Proofs.Y
open Go Go.HL Go.Proofs

def okB (c : UInt8) : Bool := decide (33 ≤ c) && decide (c ≤ 126) && decide (c ≠ 60) && decide (c ≠ 62)
def validB (s : Bytes) : Bool := decide (3 ≤ s.length) && decide (s.length ≤ 250) && decide (s.count 64 = 1) && decide (s.head? ≠ some 64) && decide (s.getLast? ≠ some 64) && s.all okB
def badR (n : Int) : Bool := decide (n < 33) || decide (126 < n) || decide (n = 60) || decide (n = 62)
theorem okB_bad (c : UInt8) : badR c.toNat = !okB c := by
  have e1 : (33 ≤ c) ↔ 33 ≤ c.toNat := Iff.rfl
  have e2 : (c ≤ 126) ↔ c.toNat ≤ 126 := Iff.rfl
  have e3 : (c = 60) ↔ c.toNat = 60 := ⟨fun h => by rw [h]; rfl, fun h => UInt8.toNat_inj.1 h⟩
  have e4 : (c = 62) ↔ c.toNat = 62 := ⟨fun h => by rw [h]; rfl, fun h => UInt8.toNat_inj.1 h⟩
  unfold badR okB
  simp only [ne_eq, e1, e2, e3, e4]
  by_cases h1 : 33 ≤ c.toNat <;> by_cases h2 : c.toNat ≤ 126 <;> by_cases h3 : c.toNat = 60 <;> by_cases h4 : c.toNat = 62 <;> simp [h1, h2, h3, h4] <;> omega

theorem nat64 (c : UInt8) : ((c.toNat : Int) = 64) ↔ c = 64 := by
  constructor
  · intro h
    exact UInt8.toNat_inj.1 (by have h1 : c.toNat = 64 := by omega
                                rw [h1]; rfl)
  · intro h; rw [h]; rfl

/-- how far the reference has come: where the sign stands -/
def IV (s : Bytes) (i : Nat) (at_ : Int) : Prop := (at_ = -1 ∧ (64 : UInt8) ∉ s.take i) ∨ ∃ p q : Bytes, s.take i = p ++ 64 :: q ∧ (64 : UInt8) ∉ p ∧ (64 : UInt8) ∉ q ∧ at_ = p.length
theorem IV.step {s : Bytes} {i : Nat} {at_ : Int} (h : IV s i at_) (hi : i < s.length) (hc : s[i] ≠ 64) : IV s (i + 1) at_ := by
  rcases h with ⟨h1, h2⟩ | ⟨p, q, h1, h2, h3, h4⟩
  · refine .inl ⟨h1, ?_⟩
    rw [List.take_succ_eq_append_getElem hi, List.mem_append, List.mem_singleton, not_or]
    exact ⟨h2, fun e => hc e.symm⟩
  · refine .inr ⟨p, q ++ [s[i]], ?_, h2, ?_, h4⟩
    · rw [List.take_succ_eq_append_getElem hi, h1]; simp
    · rw [List.mem_append, List.mem_singleton, not_or]
      exact ⟨h3, fun e => hc e.symm⟩
theorem IV.found {s : Bytes} {i : Nat} {at_ : Int} (h : IV s i at_) (hi : i < s.length) (hc : s[i] = 64) (ha : at_ < 0) : IV s (i + 1) i := by
  rcases h with ⟨h1, h2⟩ | ⟨p, q, h1, h2, h3, h4⟩
  · refine .inr ⟨s.take i, [], ?_, h2, by simp, ?_⟩
    · rw [List.take_succ_eq_append_getElem hi, hc]
    · rw [List.length_take]; omega
  · omega
theorem IV.twice {s : Bytes} {i : Nat} {at_ : Int} (h : IV s i at_) (hi : i < s.length) (hc : s[i] = 64) (ha : 0 ≤ at_) : s.count 64 ≠ 1 := by
  rcases h with ⟨h1, h2⟩ | ⟨p, q, h1, h2, h3, h4⟩
  · omega
  · have h5 : (s.take (i + 1)).count 64 ≤ s.count 64 := (List.take_sublist _ _).count_le 64
    rw [List.take_succ_eq_append_getElem hi, h1, hc] at h5
    simp [List.count_append, List.count_cons] at h5
    omega
theorem IV.fin {s : Bytes} {at_ : Int} (h : IV s s.length at_) (h3 : 3 ≤ s.length) (hl : s.length ≤ 250) (hok : s.all okB = true) : (decide (0 < at_) && decide (at_ < (s.length : Int) - 1)) = validB s := by
  rcases h with ⟨h1, h2⟩ | ⟨p, q, h1, h2, h4, h5⟩
  · rw [List.take_length] at h2
    have : s.count 64 = 0 := List.count_eq_zero.2 h2
    unfold validB
    rw [this, h1]; simp
  · rw [List.take_length] at h1
    have hc : s.count 64 = 1 := by
      rw [h1, List.count_append, List.count_cons, List.count_eq_zero.2 h2, List.count_eq_zero.2 h4]; simp
    have hlen : s.length = p.length + 1 + q.length := by rw [h1]; simp; omega
    unfold validB
    rw [hok, hc, h5]
    have e1 : decide (3 ≤ s.length) = true := by simpa using h3
    have e2 : decide (s.length ≤ 250) = true := by simpa using hl
    rw [e1, e2]
    have hh : (s.head? ≠ some 64) ↔ 0 < p.length := by
      cases p with
      | nil => simp [h1]
      | cons x p =>
        simp only [h1, List.cons_append, List.head?_cons, ne_eq, Option.some.injEq, List.length_cons, Nat.zero_lt_succ, iff_true]
        exact fun e => h2 (by simp [e])
    have hg : (s.getLast? ≠ some 64) ↔ 0 < q.length := by
      rw [h1, List.getLast?_append, List.getLast?_cons]
      cases q with
      | nil => simp
      | cons x q =>
        simp only [List.getLast?_cons, Option.some_or, ne_eq, Option.some.injEq, List.length_cons, Nat.zero_lt_succ, iff_true, Option.getD_some]
        intro e
        apply h4
        rw [← e]
        cases q with
        | nil => simp
        | cons y q =>
          refine List.mem_cons_of_mem _ ?_
          have : (y :: q).getLast? = some ((y :: q).getLast (by simp)) := List.getLast?_eq_some_getLast (by simp)
          rw [this]; exact List.getLast_mem _
    simp only [hh, hg, hlen]
    by_cases a : 0 < p.length <;> by_cases b : 0 < q.length <;> simp [a, b] <;> omega

theorem bad_if (n : Int) : (if (if (if decide (n < 33) = true then true else decide (126 < n)) = true then true else decide (n = 60)) = true then true else decide (n = 62)) = badR n := by
  unfold badR
  by_cases h1 : n < 33 <;> by_cases h2 : 126 < n <;> by_cases h3 : n = 60 <;> by_cases h4 : n = 62 <;> simp [h1, h2, h3, h4]
section
variable {w : World} {next : Value → World → Prop} {QP : List PanicEntry → World → Prop}

theorem bad_ {n : Int} (k : next (.bool (badR n)) w) : callvK Tryd.prog (.func (.func 28) #[] #[]) [.int .i32 n] w next QP := by
  refine r28 rfl ?_
  unfold h28
  try simp only [go_sem]
  have e : (if (if (if decide (n < 33) = true then true else decide (126 < n)) = true then true else decide (n = 60)) = true then true else decide (n = 62)) = badR n := by
    unfold badR
    by_cases h1 : n < 33 <;> by_cases h2 : 126 < n <;> by_cases h3 : n = 60 <;> by_cases h4 : n = 62 <;> simp [h1, h2, h3, h4]
  rw [e]; exact k

theorem containsBad_ (s : Bytes) (k : ∀ w', Mod none' w w' → next (.bool (!s.all okB)) w') : callvK Tryd.prog (.func (.func 27) #[] #[]) [str s, .func (.func 28) #[] #[]] w next QP := by
  refine r27 rfl ?_
  unfold h27
  try simp only [go_sem]
  refine r48 rfl ?_
  unfold h48
  try simp only [go_sem]
  refine r66 rfl ?_
  unfold h66
  try simp only [go_sem]
  refine range_ u9 ?_
  intro b w1 hb it1 m1 hs1
  try simp only [go_sem]
  refine loopN s.length (fun i τ w' => τ 1 = .func (.func 28) #[] #[] ∧ τ 2 = .bool true ∧ τ 10 = ptr b ∧ SIt w' b s i ∧ Mod none' w w' ∧ (s.take i).all okB = true) ⟨0, by omega, rfl, rfl, rfl, it1, m1, by simp⟩ ?_
  rintro i τ w2 hi ⟨t1, t2, t10, it2, m2, hok⟩
  unfold h66_1
  try simp only [go_sem, t1, t2, t10]
  refine next_ it2 (fun hge => ?_) (fun hlt w3 it3 m3 => ?_)
  · try simp only [go_sem, t1, t2, t10]
    unfold h66_3
    try simp only [go_sem]
    rw [List.take_of_length_le (by omega)] at hok
    have := k w2 m2
    rw [hok] at this
    exact this
  · have m23 : Mod none' w w3 := m2.trans m3 fun k hk (e : k = b) => by omega
    have hgd : s.getD i 0 = s[i] := by simp [hlt]
    try simp only [go_sem, t1, t2, t10]
    unfold h66_2
    try simp only [go_sem, t1, t2, t10]
    refine bad_ ?_
    try simp only [go_sem, t1, t2, t10]
    by_cases hc : s.getD i 0 < 128
    · rw [dec_low hc] at it3 ⊢
      dsimp only at it3 ⊢
      rw [hgd, okB_bad]
      refine ⟨fun hx => ?_, fun hx => ?_⟩
      · have hx : okB s[i] = false := by simpa using hx
        rw [decide_eq_true (by omega)]
        have hall : s.all okB = false := by
          rw [List.all_eq_false]
          exact ⟨s[i], List.getElem_mem _, by simp [hx]⟩
        have := k w3 m23
        rw [hall] at this; exact this
      · have hx : okB s[i] = true := by simpa using hx
        refine ⟨i + 1, by omega, by omega, it3, m23, ?_⟩
        rw [List.take_succ_eq_append_getElem hlt, List.all_append, hok]; simp [hx]
    · obtain ⟨hd, -⟩ := dec_high hc
      have hbr : badR ((Utf8.decode ⟨s.toArray⟩ i).1 : Nat) = true := by
        unfold badR; simp; omega
      rw [hbr]
      refine ⟨fun _ => ?_, fun hx => by simp at hx⟩
      rw [decide_eq_true (by omega)]
      have hall : s.all okB = false := by
        rw [List.all_eq_false]
        refine ⟨s[i], List.getElem_mem _, ?_⟩
        have h1 : ¬ s[i].toNat < 128 := by rw [hgd] at hc; exact hc
        have h2 : ¬ s[i] ≤ 126 := fun h => by have : s[i].toNat ≤ 126 := h; omega
        simp [okB, h2]
      have := k w3 m23
      rw [hall] at this; exact this

theorem ext46a : Extern.findNext Tryd.f46 = none := by kernel_rfl
theorem ext46b : Extern.find Tryd.f46 = some Extern.BytealgCount.count := by kernel_rfl
theorem count1_ (s : Bytes) (c : UInt8) (k : next (.int .i64 (s.count c : Nat)) w) : callvK Tryd.prog (.func (.func 26) #[] #[]) [str s, str [c]] w next QP := by
  refine r26 rfl ?_
  unfold h26
  try simp only [go_sem]
  unfold h26_1
  try simp only [go_sem]
  refine ext_ Tryd.func46 rfl rfl ext46a ext46b (Lib.run_countString ⟨s.toArray⟩ c.toNat w) ?_
  have e : Lib.countByte (ByteArray.mk s.toArray).data.toList ((c.toNat : Int).toNat.toUInt8) = s.count c := by
    simp [Lib.countByte]
  rw [e]
  try simp only [go_sem]
  exact k

theorem valid_ (s : Bytes) (k : ∀ w', Mod none' w w' → next (.bool (validB s)) w') : callvK Tryd.prog (.func (.func 13) #[] #[]) [str s] w next QP := by
  refine r13 rfl ?_
  unfold h13
  by_cases hl : 3 ≤ s.length ∧ s.length ≤ 250
  · have e : (if decide ((s.length : Int) < 3) = true then true else decide (250 < (s.length : Int))) = false := by
      rw [if_neg (by simp; omega)]; simp; omega
    have hv : validB s = (decide (s.count 64 = 1) && decide (s.head? ≠ some 64) && decide (s.getLast? ≠ some 64) && s.all okB) := by
      unfold validB; simp [hl.1, hl.2]
    try simp only [go_sem, e]
    refine count1_ s 64 ?_
    try simp only [go_sem, e]
    rw [w64 (by omega) (by omega)]
    have hB : decide (((s[0]?.getD 0).toNat : Int) = 64) = decide (s.head? = some 64) := by
      rw [decide_eq_decide, nat64, List.head?_eq_getElem?, List.getElem?_eq_getElem (show 0 < s.length by omega)]
      simp
    have hC : decide (((s[((s.length : Int) - 1).toNat]?.getD 0).toNat : Int) = 64) = decide (s.getLast? = some 64) := by
      rw [decide_eq_decide, nat64, List.getLast?_eq_getElem?, show ((s.length : Int) - 1).toNat = s.length - 1 by omega, List.getElem?_eq_getElem (show s.length - 1 < s.length by omega)]
      simp
    have hA : decide (((s.count 64 : Nat) : Int) = 1) = decide (s.count 64 = 1) := by rw [decide_eq_decide]; omega
    rw [hA, hB, hC]
    refine ⟨fun _ => by omega, fun _ => ⟨by omega, by omega⟩, fun hx => ?_, fun hx => ?_⟩
    · have hv' : validB s = false := by
        rw [hv]
        by_cases a : s.count 64 = 1 <;> by_cases b : s.head? = some 64 <;> by_cases c : s.getLast? = some 64 <;> simp [a, b, c] at hx ⊢
      have := k w (Mod.refl _ _)
      rw [hv'] at this; exact this
    · have hv' : validB s = s.all okB := by
        rw [hv]
        by_cases a : s.count 64 = 1 <;> by_cases b : s.head? = some 64 <;> by_cases c : s.getLast? = some 64 <;> simp [a, b, c] at hx ⊢
      unfold h13_1
      try simp only [go_sem]
      refine containsBad_ s ?_
      intro w1 m1
      try simp only [go_sem]
      have := k w1 m1
      rw [hv'] at this
      simpa using this
  · have e : (if decide ((s.length : Int) < 3) = true then true else decide (250 < (s.length : Int))) = true := by
      by_cases h3 : (s.length : Int) < 3
      · simp [h3]
      · rw [if_neg (by simpa using h3)]; simp; omega
    have hv : validB s = false := by
      unfold validB
      by_cases h3 : 3 ≤ s.length
      · have : ¬ s.length ≤ 250 := by omega
        simp [this]
      · simp [h3]
    try simp only [go_sem, e]
    have := k w (Mod.refl _ _)
    rw [hv] at this
    exact this

theorem rvalid_ (s : Bytes) (k : next (.bool (validB s)) w) : callvK Tryd.prog (.func (.func 14) #[] #[]) [str s] w next QP := by
  refine r14 rfl ?_
  unfold h14
  by_cases hl : 3 ≤ s.length ∧ s.length ≤ 250
  · have e : (if decide ((s.length : Int) < 3) = true then true else decide (250 < (s.length : Int))) = false := by
      rw [if_neg (by simp; omega)]; simp; omega
    try simp only [go_sem, e]
    unfold h14_1
    try simp only [go_sem]
    refine loopN s.length (fun i τ w' => w' = w ∧ τ 0 = str s ∧ τ 4 = .int .i64 i ∧ (s.take i).all okB = true ∧ ∃ a : Int, τ 3 = .int .i64 a ∧ IV s i a ∧ -1 ≤ a ∧ a ≤ 250) ⟨0, by omega, rfl, rfl, rfl, by simp, -1, rfl, .inl ⟨rfl, by simp⟩, by omega, by omega⟩ ?_
    rintro i τ w1 hi ⟨rfl, t0, t4, hok, a, t3, hiv, ha1, ha2⟩
    unfold h14_2
    try simp only [go_sem, t0, t3, t4]
    refine ⟨fun hlt => ?_, fun hge => ?_⟩
    · have hil : i < s.length := by
        have : (i : Int) < s.length := by simpa using hlt
        omega
      have hidx : s[i]?.getD 0 = s[i] := by simp [hil]
      unfold h14_3
      have hi2 : (0 : Int) ≤ i ∧ (i : Int) < s.length := ⟨by omega, by omega⟩
      try simp only [go_sem, t0, t3, t4, hidx]
      rw [bad_if, okB_bad]
      refine ⟨hi2, fun _ => hi2, fun _ => hi2, fun _ => hi2, fun _ => hi2, fun hx => ?_, fun hx => ?_⟩
      · have hv : validB s = false := by
          by_cases ho : okB s[i] = true
          · have h2 : s[i] = 64 ∧ 0 ≤ a := by
              simp only [ho, Bool.not_true, Bool.false_eq_true, if_false] at hx
              split at hx
              · rename_i h1; exact ⟨(nat64 _).1 (by simpa using h1), by simpa using hx⟩
              · cases hx
            have := hiv.twice hil h2.1 h2.2
            unfold validB; simp [this]
          · have hall : s.all okB = false := by
              rw [List.all_eq_false]
              exact ⟨s[i], List.getElem_mem _, ho⟩
            unfold validB; simp [hall]
        rw [hv] at k; exact k
      · have ho : okB s[i] = true := by
          cases hb : okB s[i] with
          | true => rfl
          | false => rw [hb] at hx; simp at hx
        have hok' : (s.take (i + 1)).all okB = true := by
          rw [List.take_succ_eq_append_getElem hil, List.all_append, hok]; simp [ho]
        unfold h14_4
        try simp only [go_sem, t0, t3, t4, hidx]
        refine ⟨hi2, fun hy => ?_, fun hy => ?_⟩
        · have hy : s[i] = 64 := (nat64 _).1 (by simpa using hy)
          have hneg : a < 0 := by
            have h64 : decide ((s[i].toNat : Int) = 64) = true := by rw [hy]; rfl
            rw [ho, h64] at hx
            simp at hx
            exact hx
          unfold h14_5
          try simp only [go_sem, t0, t3, t4]
          rw [w64 (by omega) (by omega)]
          exact ⟨i + 1, by omega, by omega, rfl, hok', i, rfl, hiv.found hil hy hneg, by omega, by omega⟩
        · have hy : s[i] ≠ 64 := fun e => by
            have := (nat64 s[i]).2 e
            rw [decide_eq_true this] at hy; cases hy
          unfold h14_5
          try simp only [go_sem, t0, t3, t4]
          rw [w64 (by omega) (by omega)]
          exact ⟨i + 1, by omega, by omega, rfl, hok', a, rfl, hiv.step hil hy, ha1, ha2⟩
    · have hio : i = s.length := by
        have : ¬ (i : Int) < s.length := by simpa using hge
        omega
      subst hio
      rw [List.take_length] at hok
      have hf := hiv.fin hl.1 hl.2 hok
      unfold h14_6
      try simp only [go_sem, t0, t3]
      rw [w64 (by omega) (by omega)]
      have e2 : (if decide (0 < a) = true then decide (a < (s.length : Int) - 1) else false) = validB s := by
        rw [← hf]; cases decide (0 < a) <;> rfl
      rw [e2]; exact k
  · have e : (if decide ((s.length : Int) < 3) = true then true else decide (250 < (s.length : Int))) = true := by
      by_cases h3 : (s.length : Int) < 3
      · simp [h3]
      · rw [if_neg (by simpa using h3)]; simp; omega
    have hv : validB s = false := by
      unfold validB
      by_cases h3 : 3 ≤ s.length
      · have : ¬ s.length ≤ 250 := by omega
        simp [this]
      · simp [h3]
    try simp only [go_sem, e]
    rw [hv] at k
    exact k
end
end Go.Proofs.Y

/- the functions of the program as code over named slots, printed by hl.py -/
set_option maxRecDepth 100000
namespace Go.Proofs.Y
open Go Go.HL Go.Proofs
/- strings.IndexAny -/
def h32_2 : HC :=
  (.seq
  (.reg [.eff (some 23) (.call { callee := .value (.func 52), args := #[.tmp 21, .tmp 22], argTypes := #[9, 21] }) 3 [(21, .slot 0), (22, .slot 5)] none [],
    .asg 4 (.slot 23)])
  .ret)
def h32_6 : HC :=
  (.reg [.need (.n2 (.bin .add) (.slot 8) (.lit (.int .i64 1))),
    .asg 8 (.n2 (.bin .add) (.slot 8) (.lit (.int .i64 1)))])
def h32_5 : HC :=
  (.seq
  (.block 1
    (.seq
    (.reg [.need (.n2 .idxs (.slot 0) (.slot 8)),
      .eff (some 42) (.call { callee := .value (.func 55), args := #[.tmp 6, .tmp 41], argTypes := #[84, 5] }) 4 [(6, .slot 6), (41, .n2 .idxs (.slot 0) (.slot 8))] none []])
    (.cond (.slot 42)
      (.seq
      (.reg [.asg 4 (.slot 8)])
      .ret)
      .skip)))
  h32_6)
def h32_4 : HC :=
  (.seq
  (.seq
  (.reg [.need (.n1 .lens (.slot 0)),
    .need (.n2 (.bin .lss) (.slot 8) (.n1 .lens (.slot 0))),
    .asg 36 (.n2 (.bin .lss) (.slot 8) (.n1 .lens (.slot 0)))])
  (.cond (.slot 36)
    .skip
    (.exit 0)))
  h32_5)
def h32_7 : HC :=
  (.seq
  (.reg [.asg 4 (.lit (.int .i64 (-1)))])
  .ret)
def h32_10 : HC :=
  (.block 3
    (.seq
    (.reg [.need (.n1 (.ext 1) (.slot 46)),
      .need (.n1 (.ext 2) (.slot 46)),
      .asg 9 (.n1 (.ext 1) (.slot 46)),
      .asg 10 (.n1 (.ext 2) (.slot 46))])
    (.seq
    (.reg [.eff (some 52) (.call { callee := .value (.func 52), args := #[.tmp 50, .tmp 51], argTypes := #[9, 21] }) 3 [(50, .slot 1), (51, .slot 10)] none [],
      .need (.n2 (.bin .geq) (.slot 52) (.lit (.int .i64 0))),
      .asg 53 (.n2 (.bin .geq) (.slot 52) (.lit (.int .i64 0)))])
    (.cond (.slot 53)
      (.seq
      (.reg [.asg 4 (.slot 9)])
      .ret)
      .skip))))
def h32_9 : HC :=
  (.seq
  (.reg [.eff (some 46) (.next (.tmp 45) true) 0 [(45, .slot 45)] none [],
    .need (.n1 (.ext 0) (.slot 46)),
    .asg 47 (.n1 (.ext 0) (.slot 46))])
  (.seq
  (.cond (.slot 47)
    .skip
    (.exit 2))
  h32_10))
def h32_11 : HC :=
  (.seq
  (.reg [.asg 4 (.lit (.int .i64 (-1)))])
  .ret)
def h32_8 : HC :=
  (.seq
  (.seq
  (.reg [.eff (some 45) (.range 9 (.tmp 44)) 0 [(44, .slot 0)] none []])
  (.block 2
    (.loop
      h32_9)))
  h32_11)
def h32_3 : HC :=
  (.seq
  (.seq
  (.reg [.need (.n1 .lens (.slot 0)),
    .eff (some 26) (.call { callee := .value (.func 53), args := #[.tmp 25], argTypes := #[3] }) 4 [(25, .n1 .lens (.slot 0))] none []])
  (.cond (.slot 26)
    (.seq
    (.reg [.eff (some 29) (.call { callee := .value (.func 54), args := #[.tmp 28], argTypes := #[9] }) 85 [(28, .slot 1)] none [],
      .need (.n1 (.ext 0) (.slot 29)),
      .need (.n1 (.ext 1) (.slot 29)),
      .eff (some 6) (.alloc 84) 0 [] none [],
      .eff none (.store 84 (.tmp 6) (.tmp 30)) 0 [(6, .slot 6), (30, .n1 (.ext 0) (.slot 29))] none [],
      .asg 7 (.n1 (.ext 1) (.slot 29))])
    (.seq
    (.reg [.asg 32 (.slot 7)])
    (.cond (.slot 32)
      (.seq
      (.seq
      (.reg [.asg 8 (.lit (.int .i64 0))])
      (.block 0
        (.loop
          h32_4)))
      h32_7)
      .skip)))
    .skip))
  h32_8)
def h32_1 : HC :=
  (.seq
  (.seq
  (.reg [.need (.n1 .lens (.slot 1)),
    .need (.n2 (.bin .eql) (.n1 .lens (.slot 1)) (.lit (.int .i64 1))),
    .asg 15 (.n2 (.bin .eql) (.n1 .lens (.slot 1)) (.lit (.int .i64 1)))])
  (.cond (.slot 15)
    (.seq
    (.reg [.need (.n2 .idxs (.slot 1) (.lit (.int .i64 0))),
      .need (.n1 (.conv .i32) (.n2 .idxs (.slot 1) (.lit (.int .i64 0)))),
      .asg 5 (.n1 (.conv .i32) (.n2 .idxs (.slot 1) (.lit (.int .i64 0))))])
    (.seq
    (.seq
    (.reg [.need (.n2 (.bin .geq) (.slot 5) (.lit (.int .i32 128))),
      .asg 20 (.n2 (.bin .geq) (.slot 5) (.lit (.int .i32 128)))])
    (.cond (.slot 20)
      (.reg [.asg 5 (.lit (.int .i32 65533))])
      .skip))
    h32_2))
    .skip))
  h32_3)
def h32 : HC :=
  (.seq
  (.reg [.asg 4 (.lit (.int .i64 0))])
  (.seq
  (.seq
  (.reg [.need (.n2 (.sbin .eql) (.slot 1) (.lit (str []))),
    .asg 12 (.n2 (.sbin .eql) (.slot 1) (.lit (str [])))])
  (.cond (.slot 12)
    (.seq
    (.reg [.asg 4 (.lit (.int .i64 (-1)))])
    .ret)
    .skip))
  h32_1))
theorem k32 : fnOK Tryd.prog 13761561161144307 [] [.tmp 4] 2 Tryd.f32 = some h32 := by kernel_rfl
theorem c32 : callable Tryd.prog 32 = true := by kernel_rfl
theorem q32 {args : List Value} (ha : args.length = 2) {w : World} {next : Value → World → Prop} {QP : List PanicEntry → World → Prop} (H : hw Tryd.prog noPanic h32 (endV [.tmp 4] next) (σ0 args) w) : callK Tryd.prog 32 args w next QP := fn_rule Tryd.func32 mixed k32 ha H
theorem r32 {args : List Value} (ha : args.length = 2) {w : World} {next : Value → World → Prop} {QP : List PanicEntry → World → Prop} (H : hw Tryd.prog noPanic h32 (endV [.tmp 4] next) (σ0 args) w) : callvK Tryd.prog (.func (.func 32) #[] #[]) args w next QP := callf c32 (q32 ha H)

/- strings.IndexRune -/
def h52_2 : HC :=
  (.block 10
    (.seq
    (.reg [.need (.n1 (.ext 1) (.slot 176)),
      .need (.n1 (.ext 2) (.slot 176)),
      .asg 5 (.n1 (.ext 1) (.slot 176)),
      .asg 6 (.n1 (.ext 2) (.slot 176))])
    (.seq
    (.reg [.need (.n2 (.bin .eql) (.slot 6) (.lit (.int .i32 65533))),
      .asg 181 (.n2 (.bin .eql) (.slot 6) (.lit (.int .i32 65533)))])
    (.cond (.slot 181)
      (.seq
      (.reg [.asg 4 (.slot 5)])
      .ret)
      .skip))))
def h52_1 : HC :=
  (.seq
  (.reg [.eff (some 176) (.next (.tmp 175) true) 0 [(175, .slot 175)] none [],
    .need (.n1 (.ext 0) (.slot 176)),
    .asg 177 (.n1 (.ext 0) (.slot 176))])
  (.seq
  (.cond (.slot 177)
    .skip
    (.exit 9))
  h52_2))
def h52_3 : HC :=
  (.seq
  (.reg [.asg 4 (.lit (.int .i64 (-1)))])
  .ret)
def h52_6 : HC :=
  (.reg [.need (.n2 (.bin .add) (.slot 11) (.lit (.int .i64 1))),
    .need (.n2 (.bin .add) (.slot 9) (.n2 (.bin .add) (.slot 11) (.lit (.int .i64 1)))),
    .asg 9 (.n2 (.bin .add) (.slot 9) (.n2 (.bin .add) (.slot 11) (.lit (.int .i64 1))))])
def h52_10 : HC :=
  (.reg [.need (.n2 (.bin .add) (.slot 12) (.lit (.int .i64 1))),
    .asg 12 (.n2 (.bin .add) (.slot 12) (.lit (.int .i64 1)))])
def h52_9 : HC :=
  (.seq
  (.block 4
    (.seq
    (.draw [.need (.n2 (.bin .sub) (.slot 9) (.slot 12)),
      .need (.n2 .idxs (.slot 0) (.n2 (.bin .sub) (.slot 9) (.slot 12))),
      .need (.n2 (.bin .sub) (.slot 8) (.slot 12)),
      .need (.n2 .idxs (.slot 7) (.n2 (.bin .sub) (.slot 8) (.slot 12))),
      .need (.n2 (.bin .neq) (.n2 .idxs (.slot 0) (.n2 (.bin .sub) (.slot 9) (.slot 12))) (.n2 .idxs (.slot 7) (.n2 (.bin .sub) (.slot 8) (.slot 12)))),
      .asg 64 (.n2 (.bin .neq) (.n2 .idxs (.slot 0) (.n2 (.bin .sub) (.slot 9) (.slot 12))) (.n2 .idxs (.slot 7) (.n2 (.bin .sub) (.slot 8) (.slot 12))))])
    (.cond (.slot 64)
      .never
      .skip)))
  h52_10)
def h52_8 : HC :=
  (.seq
  (.seq
  (.reg [.need (.n1 .lens (.slot 7)),
    .need (.n2 (.bin .lss) (.slot 12) (.n1 .lens (.slot 7))),
    .asg 51 (.n2 (.bin .lss) (.slot 12) (.n1 .lens (.slot 7)))])
  (.cond (.slot 51)
    .skip
    (.exit 3)))
  h52_9)
def h52_11 : HC :=
  (.seq
  (.seq
  (.reg [.need (.n2 (.bin .sub) (.slot 9) (.slot 8)),
    .asg 4 (.n2 (.bin .sub) (.slot 9) (.slot 8))])
  .ret)
  (.seq
  .skip
  (.seq
  (.reg [.need (.n2 (.bin .add) (.slot 10) (.lit (.int .i64 1))),
    .asg 10 (.n2 (.bin .add) (.slot 10) (.lit (.int .i64 1)))])
  (.seq
  (.reg [.need (.n2 (.bin .add) (.slot 9) (.lit (.int .i64 1))),
    .asg 9 (.n2 (.bin .add) (.slot 9) (.lit (.int .i64 1)))])
  (.seq
  (.reg [.eff (some 75) (.call { callee := .value (.func 69), args := #[.tmp 74], argTypes := #[3] }) 3 [(74, .slot 9)] (some (.lit (.bool true), true)) [],
    .need (.gif (.lit (.bool true)) true (.n2 (.bin .gtr) (.slot 10) (.slot 75))),
    .need (.n3 .pick (.lit (.bool true)) (.n2 (.bin .gtr) (.slot 10) (.slot 75)) (.lit (.bool false))),
    .need (.gif (.n3 .pick (.lit (.bool true)) (.n2 (.bin .gtr) (.slot 10) (.slot 75)) (.lit (.bool false))) true (.n1 .lens (.slot 0))),
    .need (.gif (.n3 .pick (.lit (.bool true)) (.n2 (.bin .gtr) (.slot 10) (.slot 75)) (.lit (.bool false))) true (.n2 (.bin .lss) (.slot 9) (.n1 .lens (.slot 0)))),
    .need (.n3 .pick (.n3 .pick (.lit (.bool true)) (.n2 (.bin .gtr) (.slot 10) (.slot 75)) (.lit (.bool false))) (.n2 (.bin .lss) (.slot 9) (.n1 .lens (.slot 0))) (.lit (.bool false))),
    .need (.gif (.gif (.n3 .pick (.n3 .pick (.lit (.bool true)) (.n2 (.bin .gtr) (.slot 10) (.slot 75)) (.lit (.bool false))) (.n2 (.bin .lss) (.slot 9) (.n1 .lens (.slot 0))) (.lit (.bool false))) false (.lit (.bool false))) true (.n2 (.bin .shr) (.slot 9) (.lit (.int .u64 4)))),
    .need (.gif (.gif (.n3 .pick (.n3 .pick (.lit (.bool true)) (.n2 (.bin .gtr) (.slot 10) (.slot 75)) (.lit (.bool false))) (.n2 (.bin .lss) (.slot 9) (.n1 .lens (.slot 0))) (.lit (.bool false))) false (.lit (.bool false))) true (.n2 (.bin .add) (.lit (.int .i64 4)) (.n2 (.bin .shr) (.slot 9) (.lit (.int .u64 4))))),
    .need (.gif (.gif (.n3 .pick (.n3 .pick (.lit (.bool true)) (.n2 (.bin .gtr) (.slot 10) (.slot 75)) (.lit (.bool false))) (.n2 (.bin .lss) (.slot 9) (.n1 .lens (.slot 0))) (.lit (.bool false))) false (.lit (.bool false))) true (.n2 (.bin .geq) (.slot 10) (.n2 (.bin .add) (.lit (.int .i64 4)) (.n2 (.bin .shr) (.slot 9) (.lit (.int .u64 4)))))),
    .need (.gif (.n3 .pick (.n3 .pick (.lit (.bool true)) (.n2 (.bin .gtr) (.slot 10) (.slot 75)) (.lit (.bool false))) (.n2 (.bin .lss) (.slot 9) (.n1 .lens (.slot 0))) (.lit (.bool false))) false (.n3 .pick (.lit (.bool false)) (.n2 (.bin .geq) (.slot 10) (.n2 (.bin .add) (.lit (.int .i64 4)) (.n2 (.bin .shr) (.slot 9) (.lit (.int .u64 4))))) (.lit (.bool false)))),
    .need (.gif (.gif (.n3 .pick (.n3 .pick (.lit (.bool true)) (.n2 (.bin .gtr) (.slot 10) (.slot 75)) (.lit (.bool false))) (.n2 (.bin .lss) (.slot 9) (.n1 .lens (.slot 0))) (.lit (.bool false))) false (.n3 .pick (.lit (.bool false)) (.n2 (.bin .geq) (.slot 10) (.n2 (.bin .add) (.lit (.int .i64 4)) (.n2 (.bin .shr) (.slot 9) (.lit (.int .u64 4))))) (.lit (.bool false)))) true (.n1 .lens (.slot 0))),
    .need (.gif (.gif (.n3 .pick (.n3 .pick (.lit (.bool true)) (.n2 (.bin .gtr) (.slot 10) (.slot 75)) (.lit (.bool false))) (.n2 (.bin .lss) (.slot 9) (.n1 .lens (.slot 0))) (.lit (.bool false))) false (.n3 .pick (.lit (.bool false)) (.n2 (.bin .geq) (.slot 10) (.n2 (.bin .add) (.lit (.int .i64 4)) (.n2 (.bin .shr) (.slot 9) (.lit (.int .u64 4))))) (.lit (.bool false)))) true (.n2 (.bin .lss) (.slot 9) (.n1 .lens (.slot 0)))),
    .need (.gif (.n3 .pick (.n3 .pick (.lit (.bool true)) (.n2 (.bin .gtr) (.slot 10) (.slot 75)) (.lit (.bool false))) (.n2 (.bin .lss) (.slot 9) (.n1 .lens (.slot 0))) (.lit (.bool false))) false (.n3 .pick (.n3 .pick (.lit (.bool false)) (.n2 (.bin .geq) (.slot 10) (.n2 (.bin .add) (.lit (.int .i64 4)) (.n2 (.bin .shr) (.slot 9) (.lit (.int .u64 4))))) (.lit (.bool false))) (.n2 (.bin .lss) (.slot 9) (.n1 .lens (.slot 0))) (.lit (.bool false)))),
    .need (.n3 .pick (.n3 .pick (.n3 .pick (.lit (.bool true)) (.n2 (.bin .gtr) (.slot 10) (.slot 75)) (.lit (.bool false))) (.n2 (.bin .lss) (.slot 9) (.n1 .lens (.slot 0))) (.lit (.bool false))) (.lit (.bool true)) (.n3 .pick (.n3 .pick (.lit (.bool false)) (.n2 (.bin .geq) (.slot 10) (.n2 (.bin .add) (.lit (.int .i64 4)) (.n2 (.bin .shr) (.slot 9) (.lit (.int .u64 4))))) (.lit (.bool false))) (.n2 (.bin .lss) (.slot 9) (.n1 .lens (.slot 0))) (.lit (.bool false)))),
    .asg 98 (.n3 .pick (.n3 .pick (.n3 .pick (.lit (.bool true)) (.n2 (.bin .gtr) (.slot 10) (.slot 75)) (.lit (.bool false))) (.n2 (.bin .lss) (.slot 9) (.n1 .lens (.slot 0))) (.lit (.bool false))) (.lit (.bool true)) (.n3 .pick (.n3 .pick (.lit (.bool false)) (.n2 (.bin .geq) (.slot 10) (.n2 (.bin .add) (.lit (.int .i64 4)) (.n2 (.bin .shr) (.slot 9) (.lit (.int .u64 4))))) (.lit (.bool false))) (.n2 (.bin .lss) (.slot 9) (.n1 .lens (.slot 0))) (.lit (.bool false))))])
  (.cond (.slot 98)
    .never
    .skip))))))
def h52_7 : HC :=
  (.seq
  (.seq
  (.reg [.asg 12 (.lit (.int .i64 1))])
  (.block 3
    (.loop
      h52_8)))
  h52_11)
def h52_5 : HC :=
  (.block 2
    (.seq
    (.seq
    (.draw [.need (.n2 .idxs (.slot 0) (.slot 9)),
      .need (.n2 .idxs (.slot 7) (.slot 8)),
      .need (.n2 (.bin .neq) (.n2 .idxs (.slot 0) (.slot 9)) (.n2 .idxs (.slot 7) (.slot 8))),
      .asg 33 (.n2 (.bin .neq) (.n2 .idxs (.slot 0) (.slot 9)) (.n2 .idxs (.slot 7) (.slot 8)))])
    (.cond (.slot 33)
      (.seq
      (.draw [.need (.n2 (.bin .add) (.slot 9) (.lit (.int .i64 1))),
        .need (.n3 (.sls true false) (.slot 0) (.n2 (.bin .add) (.slot 9) (.lit (.int .i64 1))) (.lit (.tuple #[]))),
        .need (.n2 .idxs (.slot 7) (.slot 8)),
        .eff (some 41) (.call { callee := .value (.func 67), args := #[.tmp 37, .tmp 40], argTypes := #[9, 5] }) 3 [(37, .n3 (.sls true false) (.slot 0) (.n2 (.bin .add) (.slot 9) (.lit (.int .i64 1))) (.lit (.tuple #[]))), (40, .n2 .idxs (.slot 7) (.slot 8))] none [],
        .asg 11 (.slot 41)])
      (.seq
      (.seq
      (.reg [.need (.n2 (.bin .lss) (.slot 11) (.lit (.int .i64 0))),
        .asg 43 (.n2 (.bin .lss) (.slot 11) (.lit (.int .i64 0)))])
      (.cond (.slot 43)
        (.seq
        (.reg [.asg 4 (.lit (.int .i64 (-1)))])
        .ret)
        .skip))
      h52_6))
      .skip))
    h52_7))
def h52_4 : HC :=
  (.seq
  (.seq
  (.reg [.need (.n1 .lens (.slot 0)),
    .need (.n2 (.bin .lss) (.slot 9) (.n1 .lens (.slot 0))),
    .asg 26 (.n2 (.bin .lss) (.slot 9) (.n1 .lens (.slot 0)))])
  (.cond (.slot 26)
    .skip
    (.exit 1)))
  h52_5)
def h52_17 : HC :=
  (.reg [.need (.n2 (.bin .add) (.slot 16) (.lit (.int .i64 1))),
    .asg 16 (.n2 (.bin .add) (.slot 16) (.lit (.int .i64 1)))])
def h52_16 : HC :=
  (.seq
  (.block 8
    (.seq
    (.draw [.need (.n2 (.bin .sub) (.slot 9) (.slot 16)),
      .need (.n2 .idxs (.slot 0) (.n2 (.bin .sub) (.slot 9) (.slot 16))),
      .need (.n2 (.bin .sub) (.slot 8) (.slot 16)),
      .need (.n2 .idxs (.slot 7) (.n2 (.bin .sub) (.slot 8) (.slot 16))),
      .need (.n2 (.bin .neq) (.n2 .idxs (.slot 0) (.n2 (.bin .sub) (.slot 9) (.slot 16))) (.n2 .idxs (.slot 7) (.n2 (.bin .sub) (.slot 8) (.slot 16)))),
      .asg 156 (.n2 (.bin .neq) (.n2 .idxs (.slot 0) (.n2 (.bin .sub) (.slot 9) (.slot 16))) (.n2 .idxs (.slot 7) (.n2 (.bin .sub) (.slot 8) (.slot 16))))])
    (.cond (.slot 156)
      (.exit 6)
      .skip)))
  h52_17)
def h52_15 : HC :=
  (.seq
  (.seq
  (.reg [.need (.n1 .lens (.slot 7)),
    .need (.n2 (.bin .lss) (.slot 16) (.n1 .lens (.slot 7))),
    .asg 143 (.n2 (.bin .lss) (.slot 16) (.n1 .lens (.slot 7)))])
  (.cond (.slot 143)
    .skip
    (.exit 7)))
  h52_16)
def h52_18 : HC :=
  (.seq
  (.reg [.need (.n2 (.bin .sub) (.slot 9) (.slot 8)),
    .asg 4 (.n2 (.bin .sub) (.slot 9) (.slot 8))])
  .ret)
def h52_19 : HC :=
  (.reg [.need (.n2 (.bin .add) (.slot 9) (.lit (.int .i64 1))),
    .asg 9 (.n2 (.bin .add) (.slot 9) (.lit (.int .i64 1)))])
def h52_14 : HC :=
  (.seq
  (.block 6
    (.seq
    (.reg [.need (.n2 .idxs (.slot 0) (.slot 9)),
      .need (.n2 (.bin .eql) (.n2 .idxs (.slot 0) (.slot 9)) (.slot 14)),
      .need (.gif (.n2 (.bin .eql) (.n2 .idxs (.slot 0) (.slot 9)) (.slot 14)) true (.n2 (.bin .sub) (.slot 9) (.lit (.int .i64 1)))),
      .need (.gif (.n2 (.bin .eql) (.n2 .idxs (.slot 0) (.slot 9)) (.slot 14)) true (.n2 .idxs (.slot 0) (.n2 (.bin .sub) (.slot 9) (.lit (.int .i64 1))))),
      .need (.gif (.n2 (.bin .eql) (.n2 .idxs (.slot 0) (.slot 9)) (.slot 14)) true (.n2 (.bin .eql) (.n2 .idxs (.slot 0) (.n2 (.bin .sub) (.slot 9) (.lit (.int .i64 1)))) (.slot 15))),
      .need (.n3 .pick (.n2 (.bin .eql) (.n2 .idxs (.slot 0) (.slot 9)) (.slot 14)) (.n2 (.bin .eql) (.n2 .idxs (.slot 0) (.n2 (.bin .sub) (.slot 9) (.lit (.int .i64 1)))) (.slot 15)) (.lit (.bool false))),
      .asg 139 (.n3 .pick (.n2 (.bin .eql) (.n2 .idxs (.slot 0) (.slot 9)) (.slot 14)) (.n2 (.bin .eql) (.n2 .idxs (.slot 0) (.n2 (.bin .sub) (.slot 9) (.lit (.int .i64 1)))) (.slot 15)) (.lit (.bool false)))])
    (.cond (.slot 139)
      (.seq
      (.seq
      (.reg [.asg 16 (.lit (.int .i64 2))])
      (.block 7
        (.loop
          h52_15)))
      h52_18)
      .skip)))
  h52_19)
def h52_13 : HC :=
  (.seq
  (.seq
  (.reg [.need (.n1 .lens (.slot 0)),
    .need (.n2 (.bin .lss) (.slot 9) (.n1 .lens (.slot 0))),
    .asg 124 (.n2 (.bin .lss) (.slot 9) (.n1 .lens (.slot 0)))])
  (.cond (.slot 124)
    .skip
    (.exit 5)))
  h52_14)
def h52_20 : HC :=
  (.seq
  (.reg [.asg 4 (.lit (.int .i64 (-1)))])
  .ret)
def h52_12 : HC :=
  (.seq
  (.seq
  (.reg [.asg 4 (.lit (.int .i64 (-1)))])
  .ret)
  (.seq
  .skip
  (.seq
  (.cond (.lit (.bool true))
    (.seq
    (.reg [.need (.n2 (.bin .sub) (.slot 9) (.slot 8)),
      .need (.n3 (.sls true false) (.slot 0) (.n2 (.bin .sub) (.slot 9) (.slot 8)) (.lit (.tuple #[]))),
      .eff (some 105) (.convert 21 9 (.tmp 104)) 9 [(104, .slot 1)] none [],
      .eff (some 106) (.call { callee := .value (.func 70), args := #[.tmp 103, .tmp 105], argTypes := #[9, 9] }) 3 [(103, .n3 (.sls true false) (.slot 0) (.n2 (.bin .sub) (.slot 9) (.slot 8)) (.lit (.tuple #[]))), (105, .slot 105)] none [],
      .asg 13 (.slot 106)])
    (.seq
    (.reg [.need (.n2 (.bin .geq) (.slot 13) (.lit (.int .i64 0))),
      .asg 108 (.n2 (.bin .geq) (.slot 13) (.lit (.int .i64 0)))])
    (.cond (.slot 108)
      (.seq
      (.reg [.need (.n2 (.bin .add) (.slot 9) (.slot 13)),
        .need (.n2 (.bin .sub) (.n2 (.bin .add) (.slot 9) (.slot 13)) (.slot 8)),
        .asg 4 (.n2 (.bin .sub) (.n2 (.bin .add) (.slot 9) (.slot 13)) (.slot 8))])
      .ret)
      .skip)))
    (.seq
    (.reg [.need (.n2 .idxs (.slot 7) (.slot 8)),
      .asg 14 (.n2 .idxs (.slot 7) (.slot 8))])
    (.seq
    (.reg [.need (.n2 (.bin .sub) (.slot 8) (.lit (.int .i64 1))),
      .need (.n2 .idxs (.slot 7) (.n2 (.bin .sub) (.slot 8) (.lit (.int .i64 1)))),
      .asg 15 (.n2 .idxs (.slot 7) (.n2 (.bin .sub) (.slot 8) (.lit (.int .i64 1))))])
    (.seq
    .skip
    (.block 5
      (.loop
        h52_13))))))
  h52_20)))
def h52 : HC :=
  (.seq
  (.reg [.asg 4 (.lit (.int .i64 0))])
  (.block 0
    (.seq
    (.reg [.need (.n2 (.bin .leq) (.lit (.int .i32 0)) (.slot 1)),
      .need (.gif (.n2 (.bin .leq) (.lit (.int .i32 0)) (.slot 1)) true (.n2 (.bin .lss) (.slot 1) (.lit (.int .i32 128)))),
      .need (.n3 .pick (.n2 (.bin .leq) (.lit (.int .i32 0)) (.slot 1)) (.n2 (.bin .lss) (.slot 1) (.lit (.int .i32 128))) (.lit (.bool false))),
      .asg 160 (.n3 .pick (.n2 (.bin .leq) (.lit (.int .i32 0)) (.slot 1)) (.n2 (.bin .lss) (.slot 1) (.lit (.int .i32 128))) (.lit (.bool false)))])
    (.cond (.slot 160)
      (.seq
      (.reg [.need (.n1 (.conv .u8) (.slot 1)),
        .eff (some 170) (.call { callee := .value (.func 67), args := #[.tmp 167, .tmp 169], argTypes := #[9, 5] }) 3 [(167, .slot 0), (169, .n1 (.conv .u8) (.slot 1))] none [],
        .asg 4 (.slot 170)])
      .ret)
      (.seq
      (.reg [.need (.n2 (.bin .eql) (.slot 1) (.lit (.int .i32 65533))),
        .asg 171 (.n2 (.bin .eql) (.slot 1) (.lit (.int .i32 65533)))])
      (.cond (.slot 171)
        (.seq
        (.seq
        (.reg [.eff (some 175) (.range 9 (.tmp 174)) 0 [(174, .slot 0)] none []])
        (.block 9
          (.loop
            h52_1)))
        h52_3)
        (.seq
        (.reg [.eff (some 185) (.call { callee := .value (.func 68), args := #[.tmp 184], argTypes := #[21] }) 4 [(184, .slot 1)] none [],
          .need (.n1 .bnot (.slot 185)),
          .asg 183 (.n1 .bnot (.slot 185))])
        (.cond (.slot 183)
          (.seq
          (.reg [.asg 4 (.lit (.int .i64 (-1)))])
          .ret)
          (.seq
          (.reg [.eff (some 18) (.convert 21 9 (.tmp 17)) 9 [(17, .slot 1)] none [],
            .asg 7 (.slot 18)])
          (.seq
          (.reg [.need (.n1 .lens (.slot 7)),
            .need (.n2 (.bin .sub) (.n1 .lens (.slot 7)) (.lit (.int .i64 1))),
            .asg 8 (.n2 (.bin .sub) (.n1 .lens (.slot 7)) (.lit (.int .i64 1)))])
          (.seq
          (.reg [.asg 9 (.slot 8)])
          (.seq
          (.reg [.asg 10 (.lit (.int .i64 0))])
          (.seq
          (.block 1
            (.loop
              h52_4))
          h52_12)))))))))))))
theorem k52 : fnOK Tryd.prog 64704537401818962728820349719749918036371538178587623411 [⟨6, [0, 0, 3, 0, 0, 24, 63], [(0, []), (1, []), (2, []), (3, []), (4, []), (5, []), (6, [])], none⟩, ⟨7, [0, 0, 2, 7, 0, 0, 48, 127, 255], [(0, []), (1, []), (2, []), (3, []), (4, []), (5, []), (6, []), (7, []), (8, [])], none⟩, ⟨14, [0, 0, 0, 6, 15, 0, 0, 0, 192, 480, 1023], [(0, []), (1, []), (2, []), (3, []), (4, []), (5, []), (6, []), (7, []), (8, []), (9, []), (10, [])], none⟩, ⟨31, [0, 0, 0, 6, 15, 0, 0, 0, 192, 480, 1023], [(0, []), (1, []), (2, []), (3, []), (4, []), (5, []), (6, []), (7, []), (8, []), (9, []), (10, [])], none⟩] [.tmp 4] 2 Tryd.f52 = some h52 := by kernel_rfl
theorem c52 : callable Tryd.prog 52 = true := by kernel_rfl
theorem q52 {args : List Value} (ha : args.length = 2) {w : World} {next : Value → World → Prop} {QP : List PanicEntry → World → Prop} (H : hw Tryd.prog noPanic h52 (endV [.tmp 4] next) (σ0 args) w) : callK Tryd.prog 52 args w next QP := fn_rule Tryd.func52 mixed k52 ha H
theorem r52 {args : List Value} (ha : args.length = 2) {w : World} {next : Value → World → Prop} {QP : List PanicEntry → World → Prop} (H : hw Tryd.prog noPanic h52 (endV [.tmp 4] next) (σ0 args) w) : callvK Tryd.prog (.func (.func 52) #[] #[]) args w next QP := callf c52 (q52 ha H)

end Go.Proofs.Y

/- MC: msgid: the library's searches. -/
namespace Go.Proofs.Y
open Go Go.HL Go.Proofs

def idxB (s : Bytes) (c : UInt8) : Int := Lib.indexByte s c
theorem idxB_none {s : Bytes} {c : UInt8} (h : c ∉ s) : idxB s c = -1 := by
  unfold idxB
  induction s with
  | nil => rfl
  | cons b s ih =>
    simp only [List.mem_cons, not_or] at h
    have hb : (b == c) = false := by simpa using fun e => h.1 e.symm
    rw [Lib.indexByte, hb, ih h.2]; rfl
theorem idxB_app {a : Bytes} {c : UInt8} (h : c ∉ a) (b : Bytes) : idxB (a ++ c :: b) c = a.length := by
  unfold idxB
  induction a with
  | nil => simp [Lib.indexByte]
  | cons x a ih =>
    simp only [List.mem_cons, not_or] at h
    have hb : (x == c) = false := by simpa using fun e => h.1 e.symm
    rw [List.cons_append, Lib.indexByte, hb, ih h.2]
    simp only [Bool.false_eq_true, if_false, List.length_cons]
    rw [if_neg (by simp)]; rfl

def ang (c : UInt8) : Bool := c == 60 || c == 62
/-- the place of the first angle bracket, or -1 -/
def faB (s : Bytes) : Int := match s.findIdx? ang with | none => -1 | some i => i
theorem faB_none {s : Bytes} (h : ∀ c ∈ s, ang c = false) : faB s = -1 := by
  unfold faB
  rw [List.findIdx?_eq_none_iff.2 h]
theorem faB_at {s : Bytes} {i : Nat} (hi : i < s.length) (h0 : ∀ c ∈ s.take i, ang c = false) (h1 : ang s[i] = true) : faB s = i := by
  unfold faB
  have : s.findIdx? ang = some i := by
    rw [List.findIdx?_eq_some_iff_getElem]
    refine ⟨hi, h1, fun j hj => ?_⟩
    have := h0 s[j] (by rw [List.mem_take_iff_getElem]; exact ⟨j, by omega, rfl⟩)
    simp [this]
  rw [this]
theorem idx_ang (c : UInt8) : (0 ≤ idxB [60, 62] c) ↔ ang c = true := by
  unfold ang
  by_cases h1 : c = 60
  · subst h1; decide
  · by_cases h2 : c = 62
    · subst h2; decide
    · have : idxB [60, 62] c = -1 := idxB_none (by simp [h1, h2])
      rw [this]; simp [h1, h2]
theorem dec_width {s : Bytes} {i : Nat} (hi : i < s.length) (h : ¬ s.getD i 0 < 128) : i + (Utf8.decode ⟨s.toArray⟩ i).2 ≤ s.length ∧ ∀ j, i < j → j < i + (Utf8.decode ⟨s.toArray⟩ i).2 → ∀ hj : j < s.length, ang s[j] = false := by
  have h' : ¬ (s.getD i 0).toNat < 128 := h
  have hsz : (ByteArray.mk s.toArray).size = s.length := by simp [ByteArray.size]
  have hang : ∀ j (hj : j < s.length), (s.getD j 0).toNat / 64 = 2 → ang s[j] = false := by
    intro j hj h2
    have hg : s.getD j 0 = s[j] := by simp [hj]
    rw [hg] at h2
    unfold ang
    have h1 : s[j] ≠ 60 := fun e => by rw [e] at h2; revert h2; decide
    have h3 : s[j] ≠ 62 := fun e => by rw [e] at h2; revert h2; decide
    simp [h1, h3]
  have key : ∀ n, n ≤ 3 → (∀ m, 1 ≤ m → m ≤ n → i + m < s.length ∧ (s.getD (i + m) 0).toNat / 64 = 2) → i + (n + 1) ≤ s.length ∧ ∀ j, i < j → j < i + (n + 1) → ∀ hj : j < s.length, ang s[j] = false := by
    intro n hn hm
    refine ⟨?_, fun j h1 h2 hj => ?_⟩
    · rcases Nat.eq_zero_or_pos n with h0 | h0
      · omega
      · have := (hm n h0 (Nat.le_refl _)).1; omega
    · have := (hm (j - i) (by omega) (by omega)).2
      rw [show i + (j - i) = j by omega] at this
      exact hang j hj this
  have k1 := key 0 (by omega) (fun m h1 h2 => by omega)
  unfold Utf8.decode
  simp only [Nat.add_zero, get!_mk, hsz]
  rw [if_neg h']
  split
  · rename_i hc
    simp only [Bool.and_eq_true, decide_eq_true_eq, beq_iff_eq] at hc
    split
    · exact key 1 (by omega) (fun m h1 h2 => by obtain rfl : m = 1 := by omega
                                                exact hc.2)
    · exact k1
  · split
    · rename_i hc
      simp only [Bool.and_eq_true, decide_eq_true_eq, beq_iff_eq] at hc
      split
      · refine key 2 (by omega) (fun m h1 h2 => ?_)
        have : m = 1 ∨ m = 2 := by omega
        rcases this with rfl | rfl
        · exact hc.1.2
        · exact hc.2
      · exact k1
    · split
      · rename_i hc
        simp only [Bool.and_eq_true, decide_eq_true_eq, beq_iff_eq] at hc
        split
        · refine key 3 (by omega) (fun m h1 h2 => ?_)
          have : m = 1 ∨ m = 2 ∨ m = 3 := by omega
          rcases this with rfl | rfl | rfl
          · exact hc.1.1.2
          · exact hc.1.2
          · exact hc.2
        · exact k1
      · exact k1
theorem enc_tail {n : Int} (h0 : ¬ n < 128) (hv : Utf8.valid n = true) : 2 ≤ (Utf8.encode n).data.toList.length ∧ ((Utf8.encode n).data.toList.length = 2 → 128 ≤ ((Utf8.encode n).data.toList.getD 1 0).toNat) := by
  unfold Utf8.encode
  simp only [hv, if_true]
  have hn : ¬ n.toNat < 128 := by omega
  rw [if_neg hn]
  split
  · refine ⟨by simp, fun _ => ?_⟩
    simp
    omega
  · split
    · exact ⟨by simp, fun h => by simp at h⟩
    · exact ⟨by simp, fun h => by simp at h⟩
theorem u21 : (Tryd.prog.underlying 21).isSome = true := by kernel_rfl

section
variable {w : World} {next : Value → World → Prop} {QP : List PanicEntry → World → Prop}
theorem ext77a : Extern.findNext Tryd.f77 = none := by kernel_rfl
theorem ext77b : Extern.find Tryd.f77 = some Extern.BytealgIndexByte.indexByte := by kernel_rfl
theorem ibyte_ (s : Bytes) (c : UInt8) (k : next (.int .i64 (idxB s c)) w) : callvK Tryd.prog (.func (.func 74) #[] #[]) [str s, .int .u8 c.toNat] w next QP := by
  refine r74 rfl ?_
  unfold h74
  try simp only [go_sem]
  refine ext_ Tryd.func77 rfl rfl ext77a ext77b (Lib.run_indexByteString ⟨s.toArray⟩ c.toNat w) ?_
  have e : Lib.indexByte (ByteArray.mk s.toArray).data.toList ((c.toNat : Int).toNat.toUInt8) = idxB s c := by
    simp [idxB]
  rw [e]
  try simp only [go_sem]
  exact k
theorem sbyte_ (s : Bytes) (c : UInt8) (k : next (.int .i64 (idxB s c)) w) : callvK Tryd.prog (.func (.func 67) #[] #[]) [str s, .int .u8 c.toNat] w next QP := by
  refine r67 rfl ?_
  unfold h67
  try simp only [go_sem]
  refine ibyte_ s c ?_
  try simp only [go_sem]
  exact k

/-- internal/stringslite.Index at one byte -/
theorem index1_ (s : Bytes) (c : UInt8) (k : next (.int .i64 (idxB s c)) w) : callvK Tryd.prog (.func (.func 65) #[] #[]) [str s, str [c]] w next QP := by
  refine r65 rfl ?_
  unfold h65
  try simp only [go_sem]
  refine ⟨fun h => ?_, fun _ => ?_⟩
  · have h : [c] = s := by simpa using h
    subst h
    have : idxB [c] c = 0 := idxB_app (a := []) (by simp) []
    rw [this] at k
    exact k
  · exact ibyte_ s c k
theorem vrune_ (n : Int) (k : next (.bool (Utf8.valid n)) w) : callvK Tryd.prog (.func (.func 68) #[] #[]) [.int .i32 n] w next QP := by
  refine r68 rfl ?_
  unfold h68
  try simp only [go_sem]
  have e1 : (if decide (0 ≤ n) = true then decide (n < 55296) else false) = (decide (0 ≤ n) && decide (n < 55296)) := by cases decide (0 ≤ n) <;> rfl
  have e2 : (if decide (57343 < n) = true then decide (n ≤ 1114111) else false) = (decide (57344 ≤ n) && decide (n ≤ 1114111)) := by
    have : decide (57343 < n) = decide (57344 ≤ n) := by rw [decide_eq_decide]; omega
    rw [this]; cases decide (57344 ≤ n) <;> rfl
  rw [e1, e2]
  unfold Utf8.valid at k
  refine ⟨fun h => ?_, fun h => ⟨fun h' => ?_, fun h' => ?_⟩⟩
  · rw [h] at k; exact k
  · rw [h, h'] at k; exact k
  · unfold h68_1
    try simp only [go_sem]
    rw [h, h'] at k; exact k
theorem irune_ {n : Int} (hn : 0 ≤ n) (k : ∀ w', Mod none' w w' → next (.int .i64 (if n < 128 then idxB [60, 62] (UInt8.ofNat n.toNat) else -1)) w') : callvK Tryd.prog (.func (.func 52) #[] #[]) [str [60, 62], .int .i32 n] w next QP := by
  refine r52 rfl ?_
  unfold h52
  try simp only [go_sem]
  refine ⟨fun hc => ?_, fun hc => ?_⟩
  · have hc : n < 128 := by
      split at hc
      · simpa using hc
      · cases hc
    have k := k w (Mod.refl _ _)
    rw [if_pos hc] at k
    have e : IntKind.u8.wrap n = ((UInt8.ofNat n.toNat).toNat : Nat) := by rw [wrap_u8]; simp; omega
    rw [e]
    exact sbyte_ [60, 62] _ k
  have hc : ¬ n < 128 := by
    rw [if_pos (by simpa using hn)] at hc
    simpa using hc
  rw [if_neg hc] at k
  refine ⟨fun h1 => ?_, fun h1 => ?_⟩
  · refine range_ u9 ?_
    intro b w1 hb it1 m1 hs1
    try simp only [go_sem]
    refine loopN 2 (fun i τ w' => τ 175 = ptr b ∧ SIt w' b [60, 62] i ∧ Mod none' w w') ⟨0, by omega, rfl, it1, m1⟩ ?_
    rintro i τ w2 hi ⟨t175, it2, m2⟩
    unfold h52_1
    try simp only [go_sem, t175]
    refine next_ it2 (fun hge => ?_) (fun hlt w3 it3 m3 => ?_)
    · try simp only [go_sem]
      unfold h52_3
      try simp only [go_sem]
      exact k w2 m2
    · have m23 : Mod none' w w3 := m2.trans m3 fun k hk (e : k = b) => by omega
      have hlt2 : i < 2 := hlt
      have hd : ([60, 62] : List UInt8).getD i 0 < 128 ∧ ([60, 62] : List UInt8).getD i 0 ≠ 255 := by
        have : i = 0 ∨ i = 1 := by omega
        rcases this with rfl | rfl <;> decide
      rw [dec_low hd.1] at it3 ⊢
      dsimp only at it3 ⊢
      have h256 : (([60, 62] : List UInt8).getD i 0).toNat < 256 := UInt8.toNat_lt _
      have hne : decide (((([60, 62] : List UInt8).getD i 0).toNat : Int) = 65533) = false := by simp only [decide_eq_false_iff_not]; omega
      try simp only [go_sem, t175]
      unfold h52_2
      try simp only [go_sem, t175, hne]
      exact ⟨i + 1, by omega, by omega, it3, m23⟩
  · refine vrune_ n ?_
    try simp only [go_sem]
    refine ⟨fun _ => k w (Mod.refl _ _), fun hv => ?_⟩
    have hv : Utf8.valid n = true := by simpa using hv
    refine eff_value (run_convert_int_string w 21 9 .i32 n u21 u9) ?_
    obtain ⟨e1, e2⟩ := enc_tail hc hv
    obtain ⟨l, hl⟩ : ∃ l : Bytes, Utf8.encode n = ⟨l.toArray⟩ := ⟨(Utf8.encode n).data.toList, by simp⟩
    rw [hl] at e1 e2 ⊢
    simp only [List.toList_toArray] at e1 e2
    have hl4 : l.length ≤ 4 := by
      have := (encode_facts n hv (by omega)).2.1
      rw [hl] at this
      exact this
    have es : (Value.string ⟨l.toArray⟩) = str l := rfl
    rw [es]
    try simp only [go_sem]
    rw [w64 (by omega) (by omega)]
    refine loopN 1 (fun i τ w' => i = 0 ∧ w' = w ∧ τ 0 = str [60, 62] ∧ τ 7 = str l ∧ τ 8 = .int .i64 ((l.length : Int) - 1) ∧ τ 9 = .int .i64 ((l.length : Int) - 1) ∧ τ 10 = .int .i64 0) ⟨0, by omega, rfl, rfl, rfl, rfl, rfl, rfl, rfl⟩ ?_
    rintro i τ w2 hi ⟨rfl, rfl, t0, t7, t8, t9, t10⟩
    unfold h52_4
    try simp only [go_sem, t0, t7, t8, t9, t10]
    refine ⟨fun hlt => ?_, fun hge => ?_⟩
    · have hl2 : l.length = 2 := by
        have : (l.length : Int) - 1 < 2 := by simpa using hlt
        omega
      have ht : 128 ≤ (l.getD 1 0).toNat := e2 hl2
      have hx : (l[1]?.getD 0) = l.getD 1 0 := by simp
      rw [hl2] at t8 t9
      have t8 : τ 8 = .int .i64 1 := t8
      have t9 : τ 9 = .int .i64 1 := t9
      have h256 := (l.getD 1 0).toNat_lt
      have h62 : (62 : UInt8).toNat = 62 := rfl
      have hne : decide (((62 : UInt8).toNat : Int) = (l.getD 1 0).toNat) = false := by rw [decide_eq_false_iff_not, h62]; omega
      have h11 : IntKind.i64.wrap (1 + 1) = 2 := by rw [w64 (by omega) (by omega)]; rfl
      unfold h52_5
      try simp only [go_sem, t0, t7, t8, t9, t10, hl2, hx]
      refine ⟨fun _ => ?_, fun h => by rw [hne] at h; simp at h⟩
      rw [h11]
      refine ⟨⟨by omega, by omega⟩, ?_⟩
      show callvK _ _ [str [], _] _ _ _
      refine sbyte_ [] _ ?_
      have hm1 : idxB [] (l.getD 1 0) = -1 := idxB_none (by simp)
      try simp only [go_sem]
      refine ⟨fun _ => k _ ((Mod.drew none' w2).trans' (Mod.drew none' _)), fun h => ?_⟩
      rw [hm1] at h; simp at h
    · unfold h52_12
      try simp only [go_sem]
      exact k _ (Mod.refl _ _)

def stA : Nat → List Value
  | 0 => List.replicate 256 (.bool false)
  | 1 => (List.replicate 256 (.bool false)).set 60 (.bool true)
  | _ => ((List.replicate 256 (.bool false)).set 60 (.bool true)).set 62 (.bool true)
theorem stA_len (i : Nat) : (stA i).length = 256 := by
  match i with
  | 0 => simp [stA]
  | 1 => simp [stA]
  | i + 2 => simp [stA]
theorem stA_one (i : Nat) : ∀ v ∈ stA i, v.oneCell' = true := by
  have h0 : ∀ v ∈ List.replicate 256 (Value.bool false), v.oneCell' = true := by
    intro v hv; rw [List.eq_of_mem_replicate hv]; rfl
  have h1 : ∀ (l : List Value) (j : Nat), (∀ v ∈ l, v.oneCell' = true) → ∀ v ∈ l.set j (.bool true), v.oneCell' = true := by
    intro l j h v hv
    rcases List.mem_or_eq_of_mem_set hv with h' | rfl
    · exact h v h'
    · rfl
  match i with
  | 0 => exact h0
  | 1 => exact h1 _ _ h0
  | i + 2 => exact h1 _ _ (h1 _ _ h0)
theorem stA_at (c : UInt8) : (stA 2)[c.toNat]? = some (.bool (ang c)) := by
  have hc := c.toNat_lt
  have e60 : (c = 60) ↔ c.toNat = 60 := ⟨fun h => by rw [h]; rfl, fun h => UInt8.toNat_inj.1 h⟩
  have e62 : (c = 62) ↔ c.toNat = 62 := ⟨fun h => by rw [h]; rfl, fun h => UInt8.toNat_inj.1 h⟩
  show (((List.replicate 256 (.bool false)).set 60 (.bool true)).set 62 (.bool true))[c.toNat]? = some (Value.bool (c == 60 || c == 62))
  rw [List.getElem?_set, List.getElem?_set, List.getElem?_replicate]
  simp only [List.length_set, List.length_replicate]
  by_cases h2 : c.toNat = 62
  · rw [if_pos h2.symm, if_pos (by omega), e62.2 h2]; rfl
  · rw [if_neg (fun h => h2 h.symm)]
    by_cases h1 : c.toNat = 60
    · rw [if_pos h1.symm, if_pos (by omega), e60.2 h1]; rfl
    · rw [if_neg (fun h => h1 h.symm), if_pos hc]
      have : (c == 60 || c == 62) = false := by
        rw [Bool.or_eq_false_iff]
        exact ⟨by simpa using fun e => h1 (e60.1 e), by simpa using fun e => h2 (e62.1 e)⟩
      rw [this]
theorem sz4 : szOf Tryd.prog 4 = some 1 := by kernel_rfl
theorem sz84 : szOf Tryd.prog 84 = some 256 := by kernel_rfl
theorem lens84 : (Tryd.prog.info? 84).bind (·.zero) = some (.agg (Array.replicate 256 (.bool false))) := by kernel_rfl
theorem makeset_ (k : ∀ w', Mod none' w w' → next (.tuple #[.agg (stA 2).toArray, .bool true]) w') : callvK Tryd.prog (.func (.func 54) #[] #[]) [str [60, 62]] w next QP := by
  refine r54 rfl ?_
  unfold h54
  try simp only [go_sem]
  refine alloc_ lens84 (cs := stA 0) (by show Array.replicate 256 _ = (List.replicate 256 _).toArray; rw [List.toArray_replicate]) ?_
  intro b w1 hb blk1 m1 hs1
  try simp only [go_sem]
  refine loopN 2 (fun i τ w' => τ 0 = str [60, 62] ∧ τ 2 = ptr b ∧ τ 4 = .int .i64 i ∧ Mod none' w w' ∧ Blk w' b 84 (stA i)) ⟨0, by omega, rfl, rfl, rfl, m1, blk1⟩ ?_
  rintro i τ w2 hi ⟨t0, t2, t4, m2, blk2⟩
  unfold h54_1
  try simp only [go_sem, t0, t2, t4]
  refine ⟨fun hlt => ?_, fun hge => ?_⟩
  · have hi2 : i = 0 ∨ i = 1 := by
      have : (i : Int) < 2 := by simpa using hlt
      omega
    rcases hi2 with rfl | rfl
    · unfold h54_2
      try simp only [go_sem, t0, t2, t4]
      refine ⟨fun h => absurd h (by decide), fun _ => ?_⟩
      have e : (UInt8.toNat 60) = 60 := rfl
      unfold h54_3
      try simp only [go_sem, t0, t2, t4, e]
      repeat refine ⟨⟨by omega, by omega⟩, ?_⟩
      refine store1 sz4 blk2 (by rw [stA_len]; omega) rfl ?_
      intro w3 blk3 m3 hs3
      unfold h54_4
      try simp only [go_sem, t0, t2, t4]
      exact ⟨1, by omega, by omega, rfl, m2.trans m3 fun k hk (e : k = b) => by omega, blk3⟩
    · unfold h54_2
      try simp only [go_sem, t0, t2, t4]
      refine ⟨fun h => absurd h (by decide), fun _ => ?_⟩
      have e : (UInt8.toNat 62) = 62 := rfl
      unfold h54_3
      try simp only [go_sem, t0, t2, t4, e]
      repeat refine ⟨⟨by omega, by omega⟩, ?_⟩
      refine store1 sz4 blk2 (by rw [stA_len]; omega) rfl ?_
      intro w3 blk3 m3 hs3
      unfold h54_4
      try simp only [go_sem, t0, t2, t4]
      exact ⟨2, by omega, by omega, rfl, m2.trans m3 fun k hk (e : k = b) => by omega, blk3⟩
  · have hi2 : i = 2 := by
      have : ¬ (i : Int) < 2 := by simpa using hge
      omega
    subst hi2
    have hld : loadN w2 ⟨b, 0, none⟩ 256 = (stA 2).toArray := by
      rw [blk2.loadN (by rw [stA_len]; omega), List.drop_zero, List.take_of_length_le (by rw [stA_len]; omega)]
    unfold h54_5
    have hsome : ∀ {w' : World}, Blk w' b 84 (stA 2) → ∀ (i : Nat), i < 256 → (w'.cell? ⟨b, i, none⟩).isSome = true := by
      intro w' hb i hi
      rw [hb.cell i, List.getElem?_eq_getElem (by rw [stA_len]; omega)]; rfl
    try simp only [go_sem, t2, hld]
    refine ⟨hsome blk2, ?_⟩
    refine storeN (n := 256) (vs := stA 2) sz84 rfl blk2 (by rw [stA_len]; omega) (stA_one 2) ?_
    intro w3 blk3 m3 hs3
    rw [List.take_zero, List.nil_append, Nat.zero_add, List.drop_of_length_le (by rw [stA_len]; omega), List.append_nil] at blk3
    refine ⟨⟨⟨_, rfl⟩, hsome blk3⟩, ?_⟩
    rw [blk3.loadN (by rw [stA_len]; omega), List.drop_zero, List.take_of_length_le (by rw [stA_len]; omega)]
    exact k _ (m2.trans m3 fun k hk (e : k = b) => by omega)
theorem idxany_ (s : Bytes) (hs : s.length ≤ 1000000000) (k : ∀ w', Mod none' w w' → next (.int .i64 (faB s)) w') : callvK Tryd.prog (.func (.func 32) #[] #[]) [str s, str [60, 62]] w next QP := by
  refine r32 rfl ?_
  unfold h32
  try simp only [go_sem]
  unfold h32_1
  try simp only [go_sem]
  unfold h32_3
  try simp only [go_sem]
  refine ⟨fun h => by simp at h, fun _ => ?_⟩
  refine r53 rfl ?_
  unfold h53
  try simp only [go_sem]
  refine ⟨fun h8 => ?_, fun h8 => ?_⟩
  · refine makeset_ ?_
    intro w1 m1
    try simp only [go_sem]
    refine alloc_ lens84 (cs := stA 0) (by show Array.replicate 256 _ = (List.replicate 256 _).toArray; rw [List.toArray_replicate]) ?_
    intro b w2 hb blk2 m2 hs2
    refine storeN (n := 256) (vs := stA 2) sz84 rfl blk2 (by rw [stA_len]; omega) (stA_one 2) ?_
    intro w3 blk3 m3 hs3
    rw [List.take_zero, List.nil_append, Nat.zero_add, List.drop_of_length_le (by rw [stA_len]; omega), List.append_nil] at blk3
    have m13 := (m1.trans' m2).trans m3 fun k hk (e : k = b) => by have := m1.size; omega
    try simp only [go_sem]
    refine loopN s.length (fun i τ w' => w' = w3 ∧ τ 0 = str s ∧ τ 6 = ptr b ∧ τ 8 = .int .i64 i ∧ ∀ c ∈ s.take i, ang c = false) ⟨0, by omega, rfl, rfl, rfl, rfl, by simp⟩ ?_
    rintro i τ w4 hi ⟨rfl, t0, t6, t8, hno⟩
    unfold h32_4
    try simp only [go_sem, t0, t6, t8]
    refine ⟨fun hlt => ?_, fun hge => ?_⟩
    · have hil : i < s.length := by
        have : (i : Int) < s.length := by simpa using hlt
        omega
      have hidx : s[i]?.getD 0 = s[i] := by simp [hil]
      have h256 := s[i].toNat_lt
      unfold h32_5
      try simp only [go_sem, t0, t6, t8, hidx]
      refine ⟨⟨by omega, by omega⟩, ?_⟩
      refine r55 rfl ?_
      have hca : w4.cell? ⟨b, s[i].toNat, none⟩ = some (.bool (ang s[i])) := (blk3.cell _).trans (stA_at s[i])
      unfold h55
      try simp only [go_sem, hca]
      refine ⟨⟨by omega, by omega⟩, fun ha => ?_, fun ha => ?_⟩
      · have := k w4 m13
        rw [faB_at hil hno ha] at this
        exact this
      · unfold h32_6
        try simp only [go_sem, t0, t6, t8]
        rw [w64 (by omega) (by omega)]
        refine ⟨i + 1, by omega, by omega, rfl, ?_⟩
        rw [List.take_succ_eq_append_getElem hil]
        intro c hc
        rcases List.mem_append.1 hc with h | h
        · exact hno c h
        · rw [List.mem_singleton.1 h]; exact ha
    · rw [List.take_of_length_le (by have : ¬ (i : Int) < s.length := by simpa using hge
                                     omega)] at hno
      unfold h32_7
      try simp only [go_sem]
      have := k w4 m13
      rw [faB_none hno] at this
      exact this
  · unfold h32_8
    try simp only [go_sem]
    refine range_ u9 ?_
    intro b w1 hb it1 m1 hs1
    try simp only [go_sem]
    refine loopN s.length (fun i τ w' => τ 1 = str [60, 62] ∧ τ 45 = ptr b ∧ SIt w' b s i ∧ Mod none' w w' ∧ ∀ c ∈ s.take i, ang c = false) ⟨0, by omega, rfl, rfl, it1, m1, by simp⟩ ?_
    rintro i τ w2 hi ⟨t1, t45, it2, m2, hno⟩
    unfold h32_9
    try simp only [go_sem, t1, t45]
    refine next_ it2 (fun hge => ?_) (fun hlt w3 it3 m3 => ?_)
    · try simp only [go_sem]
      unfold h32_11
      try simp only [go_sem]
      rw [List.take_of_length_le (by omega)] at hno
      have := k w2 m2
      rw [faB_none hno] at this
      exact this
    · have m23 : Mod none' w w3 := m2.trans m3 fun k hk (e : k = b) => by omega
      have hgd : s.getD i 0 = s[i] := by simp [hlt]
      try simp only [go_sem, t1, t45]
      unfold h32_10
      try simp only [go_sem, t1, t45]
      refine irune_ (by omega) ?_
      intro w4 m4
      have it4 := it3.mod m4 fun h => h
      have m24 := m23.trans' m4
      try simp only [go_sem, t1, t45]
      by_cases hc : s.getD i 0 < 128
      · have hc' : s[i].toNat < 128 := by rw [hgd] at hc; exact hc
        rw [dec_low hc] at it4 ⊢
        dsimp only at it4 ⊢
        rw [hgd, if_pos (by omega)]
        rw [UInt8.ofNat_toNat]
        refine ⟨fun hx => ?_, fun hx => ?_⟩
        · have ha := (idx_ang s[i]).1 (by simpa using hx)
          have := k w4 m24
          rw [faB_at hlt hno ha] at this
          exact this
        · have ha : ang s[i] = false := by
            cases hq : ang s[i] with
            | false => rfl
            | true => have := (idx_ang s[i]).2 hq; simp at hx; omega
          refine ⟨i + 1, by omega, by omega, it4, m24, ?_⟩
          rw [List.take_succ_eq_append_getElem hlt]
          intro c hc
          rcases List.mem_append.1 hc with h | h
          · exact hno c h
          · rw [List.mem_singleton.1 h]; exact ha
      · obtain ⟨hd, hd2⟩ := dec_high hc
        obtain ⟨hw1, hw2⟩ := dec_width hlt hc
        rw [if_neg (by omega)]
        refine ⟨fun hx => by simp at hx, fun _ => ?_⟩
        refine ⟨i + (Utf8.decode ⟨s.toArray⟩ i).2, by omega, by omega, it4, m24, ?_⟩
        intro c hcm
        obtain ⟨j, hj, rfl⟩ := List.mem_take_iff_getElem.1 hcm
        by_cases hji : j < i
        · exact hno _ (List.mem_take_iff_getElem.2 ⟨j, by omega, rfl⟩)
        · by_cases hje : j = i
          · subst hje
            have : ¬ s[j].toNat < 128 := by rw [hgd] at hc; exact hc
            unfold ang
            have h1 : s[j] ≠ 60 := fun e => this (by rw [e]; decide)
            have h2 : s[j] ≠ 62 := fun e => this (by rw [e]; decide)
            simp [h1, h2]
          · exact hw2 j (by omega) (by omega) (by omega)
end
end Go.Proofs.Y

/- MD: msgid: Ids, both; First, Own. -/
namespace Go.Proofs.Y
open Go Go.HL Go.Proofs

/-- the ids of a value: behind the last opening bracket, or not -/
def idsA : Option Bytes → Bytes → List Bytes
  | _, [] => []
  | none, c :: s => if c = 60 then idsA (some []) s else idsA none s
  | some t, c :: s => if c = 60 then idsA (some []) s else if c = 62 then (if validB t = true then [t] else []) ++ idsA none s else idsA (some (t ++ [c])) s
theorem idsA_n (c : UInt8) (s : Bytes) : idsA none (c :: s) = if c = 60 then idsA (some []) s else idsA none s := rfl
theorem idsA_s (t : Bytes) (c : UInt8) (s : Bytes) : idsA (some t) (c :: s) = if c = 60 then idsA (some []) s else if c = 62 then (if validB t = true then [t] else []) ++ idsA none s else idsA (some (t ++ [c])) s := rfl
def idsB (s : Bytes) : List Bytes := idsA none s

theorem idsA_skip : ∀ (a s : Bytes), (60 : UInt8) ∉ a → idsA none (a ++ s) = idsA none s
  | [], s, _ => rfl
  | x :: a, s, h => by
    simp only [List.mem_cons, not_or] at h
    rw [List.cons_append, idsA_n, if_neg fun e => h.1 e.symm, idsA_skip a s h.2]
theorem idsA_open (a s : Bytes) (h : (60 : UInt8) ∉ a) : idsA none (a ++ 60 :: s) = idsA (some []) s := by
  rw [idsA_skip a _ h, idsA_n, if_pos rfl]
theorem idsA_step (t : Bytes) {c : UInt8} (h : ang c = false) (s : Bytes) : idsA (some t) (c :: s) = idsA (some (t ++ [c])) s ∧ idsA none (c :: s) = idsA none s := by
  have h1 : c ≠ 60 := fun e => by rw [e] at h; revert h; decide
  have h2 : c ≠ 62 := fun e => by rw [e] at h; revert h; decide
  rw [idsA_s, if_neg h1, if_neg h2, idsA_n, if_neg h1]
  exact ⟨rfl, rfl⟩
theorem idsA_run : ∀ (a s t : Bytes), (∀ c ∈ a, ang c = false) → idsA (some t) (a ++ s) = idsA (some (t ++ a)) s ∧ idsA none (a ++ s) = idsA none s
  | [], s, t, _ => by simp
  | c :: a, s, t, h => by
    obtain ⟨e1, e2⟩ := idsA_step t (h c (by simp)) (a ++ s)
    obtain ⟨e3, e4⟩ := idsA_run a s (t ++ [c]) fun x hx => h x (by simp [hx])
    rw [List.cons_append, e1, e2, e3, e4]
    simp
theorem split_ang (s : Bytes) : (∀ c ∈ s, ang c = false) ∨ ∃ a c b, s = a ++ c :: b ∧ (∀ c ∈ a, ang c = false) ∧ ang c = true := by
  induction s with
  | nil => left; simp
  | cons x s ih =>
    by_cases hx : ang x = true
    · exact .inr ⟨[], x, s, rfl, by simp, hx⟩
    · have hx : ang x = false := by simpa using hx
      rcases ih with h | ⟨a, c, b, rfl, h1, h2⟩
      · left; intro c hc
        rcases List.mem_cons.1 hc with rfl | hc
        · exact hx
        · exact h c hc
      · refine .inr ⟨x :: a, c, b, rfl, fun c hc => ?_, h2⟩
        rcases List.mem_cons.1 hc with rfl | hc
        · exact hx
        · exact h1 c hc
theorem faB_app {a : Bytes} {c : UInt8} {b : Bytes} (h1 : ∀ c ∈ a, ang c = false) (h2 : ang c = true) : faB (a ++ c :: b) = a.length :=
  faB_at (i := a.length) (by simp) (by rw [List.take_left]; exact h1) (by simpa using h2)
theorem ang_or {c : UInt8} (h : ang c = true) : c = 60 ∨ c = 62 := by
  unfold ang at h
  simpa using h

theorem split60 (s : Bytes) : (60 : UInt8) ∉ s ∨ ∃ a b, s = a ++ 60 :: b ∧ (60 : UInt8) ∉ a := by
  by_cases h : (60 : UInt8) ∈ s
  · obtain ⟨a, b, e, hn⟩ := List.eq_append_cons_of_mem h
    exact .inr ⟨a, b, e, hn⟩
  · exact .inl h

section
variable {w : World} {next : Value → World → Prop} {QP : List PanicEntry → World → Prop}
theorem cut_ (s : Bytes) (hs : s.length ≤ 1000000000) (k0 : (60 : UInt8) ∉ s → next (.tuple #[str s, str [], .bool false]) w) (k1 : ∀ a b, s = a ++ 60 :: b → (60 : UInt8) ∉ a → ∀ w', Mod none' w w' → next (.tuple #[str a, str b, .bool true]) w') :
    callvK Tryd.prog (.func (.func 31) #[] #[]) [str s, str [60]] w next QP := by
  refine r31 rfl ?_
  unfold h31
  try simp only [go_sem]
  refine r51 rfl ?_
  unfold h51
  try simp only [go_sem]
  refine index1_ s 60 ?_
  try simp only [go_sem]
  rcases split60 s with h | ⟨a, b, rfl, ha⟩
  · rw [idxB_none h]
    refine ⟨fun h => by simp at h, fun _ => ?_⟩
    unfold h51_1
    try simp only [go_sem]
    exact k0 h
  · rw [idxB_app ha]
    refine ⟨fun _ => ?_, fun h => by simp at h⟩
    simp only [List.length_append, List.length_cons] at hs
    simp only [List.length_append]
    rw [w64 (by omega) (by omega)]
    have e1 : ((a.length : Int) + 1).toNat = a.length + 1 := by omega
    rw [e1, Int.toNat_natCast, List.take_left, List.length_cons, show a ++ 60 :: b = (a ++ [60]) ++ b by simp, show a.length + 1 = (a ++ [60]).length by simp, List.drop_left]
    refine ⟨⟨by omega, by omega⟩, ⟨by omega, by omega⟩, ?_⟩
    exact k1 a b rfl ha _ (Mod.drew none' w)

theorem ids_ (s : Bytes) (hs : s.length ≤ 4000000) (k : ∀ v w', HL.Own w' v 9 1 (idsB s).length ((idsB s).map str) → (∀ k, v.ownBlock = some k → w.heap.size ≤ k) → Mod none' w w' → next v w') : callvK Tryd.prog (.func (.func 18) #[] #[]) [str s] w next QP := by
  refine r18 rfl ?_
  unfold h18
  try simp only [go_sem]
  refine loopN s.length (fun i τ w' => ∃ (v : Bytes) (l : List Bytes) (o : Value), τ 0 = str v ∧ τ 3 = o ∧ v.length + i = s.length ∧ l ++ idsB v = idsB s ∧ l.length ≤ i ∧ HL.Own w' o 9 1 l.length (l.map str) ∧ (∀ k, o.ownBlock = some k → w.heap.size ≤ k) ∧ Mod none' w w')
    ⟨0, by omega, s, [], .slice none 0 0, rfl, rfl, by omega, rfl, by simp, Own.nil _ _ _, fun k hk => (nomatch (hk : none = some k)), Mod.refl _ _⟩ ?_
  rintro i τ w1 hi ⟨v, l, o, t0, t3, hvl, hids, hll, own1, hf, m1⟩
  unfold h18_1
  try simp only [go_sem, t0, t3]
  refine cut_ v (by omega) (fun hno => ?_) (fun a b e hno w2 m2 => ?_)
  · try simp only [go_sem, t0, t3]
    have h1 : idsB v = [] := by
      have := idsA_skip v [] hno
      rw [List.append_nil] at this
      exact this
    rw [h1, List.append_nil] at hids
    rw [hids] at own1
    obtain ⟨oa, oc, rfl, -⟩ := own1.form
    exact k _ _ own1 hf m1
  · have m12 := m1.trans' m2
    subst e
    simp only [List.length_append, List.length_cons] at hvl
    have h1 : idsB (a ++ 60 :: b) = idsA (some []) b := idsA_open a b hno
    rw [h1] at hids
    try simp only [go_sem, t0, t3]
    unfold h18_2
    try simp only [go_sem, t0, t3]
    refine idxany_ b (by omega) ?_
    intro w3 m3
    have m13 := m12.trans' m3
    have own3 := (own1.mod m2 fun _ _ h => h).mod m3 fun _ _ h => h
    try simp only [go_sem, t0, t3]
    have lp : ∀ (l' : List Bytes) (o' : Value) (w' : World), l' ++ idsB b = idsB s → l'.length ≤ i + 1 → HL.Own w' o' 9 1 l'.length (l'.map str) → (∀ k, o'.ownBlock = some k → w.heap.size ≤ k) → Mod none' w w' →
        ∃ i', i < i' ∧ i' ≤ s.length ∧ ∃ v l o, str b = str v ∧ o' = o ∧ v.length + i' = s.length ∧ l ++ idsB v = idsB s ∧ l.length ≤ i' ∧ HL.Own w' o 9 1 l.length (l.map str) ∧ (∀ (k : Nat), o.ownBlock = some k → w.heap.size ≤ k) ∧ Mod none' w w' :=
      fun l' o' w' h1 h2 h3 h4 h5 => ⟨s.length - b.length, by omega, by omega, b, l', o', rfl, rfl, by omega, h1, by omega, h3, h4, h5⟩
    rcases split_ang b with hb | ⟨p, c, r, rfl, hp, hc⟩
    · rw [faB_none hb]
      have h2 : idsB b = [] ∧ idsA (some []) b = [] := by
        have := idsA_run b [] [] hb
        rw [List.append_nil] at this
        exact ⟨this.2, this.1⟩
      have e0 : decide ((0 : Int) ≤ -1) = false := by decide
      refine ⟨fun h => by simp at h, fun h => by simp at h, fun h => by simp at h, fun _ => ?_⟩
      try simp only [go_sem, e0]
      refine lp l o w3 ?_ (by omega) own3 hf m13
      rw [h2.2] at hids
      rw [h2.1]; exact hids
    · rw [faB_app hp hc, Int.toNat_natCast, List.take_left]
      obtain ⟨r1, r2⟩ := idsA_run p (c :: r) [] hp
      rw [List.nil_append] at r1
      rw [r1] at hids
      have e0 : decide ((0 : Int) ≤ (p.length : Int)) = true := by simp
      have ec : (p ++ c :: r)[p.length]?.getD 0 = c := by simp
      rw [e0, ec]
      have hpl : (0 : Int) ≤ p.length ∧ (p.length : Int) < (p ++ c :: r).length := by simp; omega
      rcases ang_or hc with rfl | rfl
      · have e6 : decide (((60 : UInt8).toNat : Int) = 62) = false := by decide
        rw [e6]
        refine ⟨fun _ => hpl, fun h => by simp at h, fun h => by simp at h, fun _ => ?_⟩
        try simp only [go_sem, e6]
        refine lp l o w3 ?_ (by omega) own3 hf m13
        have : idsB (p ++ 60 :: r) = idsA (some []) r := r2
        rw [this]; exact hids
      · have e6 : decide (((62 : UInt8).toNat : Int) = 62) = true := by decide
        rw [e6]
        refine ⟨fun _ => hpl, fun _ => ⟨hpl.1, by omega⟩, fun _ => ?_, fun h => by simp at h⟩
        refine valid_ p ?_
        intro w4 m4
        have own4 := own3.mod m4 fun _ _ h => h
        have m14 := m13.trans' m4
        have hid : idsB (p ++ 62 :: r) = idsA none r := r2
        rw [idsA_s, if_neg (by decide), if_pos rfl] at hids
        try simp only [go_sem, e6]
        refine ⟨fun hv => ?_, fun hv => ?_⟩
        · refine ⟨⟨hpl.1, by omega⟩, ?_⟩
          rw [if_pos hv] at hids
          refine bsl1 sl31 (cs := [str p]) rfl rfl (by omega) ?_
          intro b5 w5 hb5 own5 _ m5 hs5
          try simp only [go_sem, t0, t3]
          refine append_ sl31 (own4.mod m5 fun _ _ h => h) own5.sl (by intro u hu; rw [List.mem_singleton.1 hu]; rfl) (by omega) (by unfold maxLen; omega) ?_
          intro v6 w6 own6 m6 hv6 _
          have e7 : l.map str ++ [str p] = (l ++ [p]).map str := by simp
          have e8 : l.length + 1 = (l ++ [p]).length := by simp
          rw [e7, e8] at own6
          have s14 := m14.size
          have s5 := m5.size
          refine lp (l ++ [p]) v6 w6 ?_ (by simp; omega) own6 (fun k hk => ?_) ((m14.trans' m5).trans m6 fun k hk hS => by have := hf k hS; omega)
          · rw [hid]; simpa using hids
          · rcases hv6 k hk with h | h
            · exact hf k h
            · omega
        · rw [if_neg (by simp [hv]), List.nil_append] at hids
          refine lp l o w4 ?_ (by omega) own4 hf m14
          rw [hid]; exact hids

def RI (s : Bytes) (w : World) (i : Nat) (τ : Env) (w' : World) : Prop := ∃ (l : List Bytes) (o : Value) (op : Int), τ 0 = str s ∧ τ 3 = o ∧ τ 4 = .int .i64 op ∧ τ 5 = .int .i64 i ∧ l.length ≤ i ∧ HL.Own w' o 9 1 l.length (l.map str) ∧ (∀ k, o.ownBlock = some k → w.heap.size ≤ k) ∧ Mod none' w w' ∧
      ((op = -1 ∧ l ++ idsA none (s.drop i) = idsB s) ∨ ∃ j : Nat, op = j ∧ j < i ∧ l ++ idsA (some ((s.take i).drop (j + 1))) (s.drop i) = idsB s)
theorem rids_ (s : Bytes) (hs : s.length ≤ 4000000) (k : ∀ v w', HL.Own w' v 9 1 (idsB s).length ((idsB s).map str) → (∀ k, v.ownBlock = some k → w.heap.size ≤ k) → Mod none' w w' → next v w') : callvK Tryd.prog (.func (.func 19) #[] #[]) [str s] w next QP := by
  refine r19 rfl ?_
  unfold h19
  try simp only [go_sem]
  refine loopN s.length (RI s w) ⟨0, by omega, [], .slice none 0 0, -1, rfl, rfl, rfl, rfl, by simp, Own.nil _ _ _, fun k hk => (nomatch (hk : none = some k)), Mod.refl _ _, .inl ⟨rfl, rfl⟩⟩ ?_
  rintro i τ w1 hi ⟨l, o, op, t0, t3, t4, t5, hll, own1, hf, m1, hst⟩
  have hop : -1 ≤ op ∧ op < i ∨ op = -1 := by
    rcases hst with ⟨h, -⟩ | ⟨j, h, h2, -⟩
    · exact .inr h
    · left; omega
  unfold h19_1
  try simp only [go_sem, t0, t3, t4, t5]
  refine ⟨fun hlt => ?_, fun hge => ?_⟩
  · have hil : i < s.length := by
      have : (i : Int) < s.length := by simpa using hlt
      omega
    have hidx : s[i]?.getD 0 = s[i] := by simp [hil]
    have hi2 : (0 : Int) ≤ i ∧ (i : Int) < s.length := ⟨by omega, by omega⟩
    have hdr := List.drop_eq_getElem_cons hil
    have htk := List.take_succ_eq_append_getElem hil
    have htl : (s.take i).length = i := by rw [List.length_take]; omega
    have n62 : ∀ c : UInt8, ((c.toNat : Int) = 62) ↔ c = 62 := fun c => ⟨fun h => UInt8.toNat_inj.1 (show c.toNat = 62 by omega), fun h => by rw [h]; rfl⟩
    have n60 : ∀ c : UInt8, ((c.toNat : Int) = 60) ↔ c = 60 := fun c => ⟨fun h => UInt8.toNat_inj.1 (show c.toNat = 60 by omega), fun h => by rw [h]; rfl⟩
    -- to the next byte
    have lp : ∀ (σ : Env) (w' : World) (l' : List Bytes) (o' : Value) (op' : Int), σ 0 = str s → σ 3 = o' → σ 4 = .int .i64 op' → σ 5 = .int .i64 i → l'.length ≤ i + 1 → HL.Own w' o' 9 1 l'.length (l'.map str) → (∀ k, o'.ownBlock = some k → w.heap.size ≤ k) → Mod none' w w' →
        ((op' = -1 ∧ l' ++ idsA none (s.drop (i + 1)) = idsB s) ∨ ∃ j : Nat, op' = j ∧ j < i + 1 ∧ l' ++ idsA (some ((s.take (i + 1)).drop (j + 1))) (s.drop (i + 1)) = idsB s) →
        ∀ X, hw Tryd.prog noPanic h19_5 (seqX (fun τ w' => ∃ i', i < i' ∧ i' ≤ s.length ∧ RI s w i' τ w') X) σ w' := by
      intro σ w' l' o' op' u0 u3 u4 u5 h1 h2 h3 h4 h5 X
      unfold h19_5
      try simp only [go_sem, u5]
      rw [w64 (by omega) (by omega)]
      exact ⟨i + 1, by omega, by omega, l', o', op', u0, u3, u4, rfl, h1, h2, h3, h4, h5⟩
    unfold h19_2
    try simp only [go_sem, t0, t3, t4, t5, hidx]
    refine ⟨hi2, fun h60 => ?_, fun h60 => ?_⟩
    · have h60 : s[i] = 60 := (n60 _).1 (by simpa using h60)
      have e62 : decide ((s[i].toNat : Int) = 62) = false := by rw [h60]; decide
      unfold h19_3
      try simp only [go_sem, t0, t3, t4, t5, hidx, e62]
      refine ⟨hi2, ?_⟩
      refine lp _ w1 l o i ?_ ?_ ?_ ?_ (by omega) own1 hf m1 (.inr ⟨i, rfl, by omega, ?_⟩) _
      · exact t0
      · exact t3
      · rfl
      · exact t5
      rw [List.drop_of_length_le (by rw [List.length_take]; omega)]
      rcases hst with ⟨-, h⟩ | ⟨j, -, -, h⟩
      · rw [hdr, idsA_n, if_pos h60] at h; exact h
      · rw [hdr, idsA_s, if_pos h60] at h; exact h
    · have h60 : s[i] ≠ 60 := fun e => by
        have := (n60 s[i]).2 e
        rw [decide_eq_true this] at h60; cases h60
      unfold h19_3
      by_cases h62 : s[i] = 62
      · have e62 : decide ((s[i].toNat : Int) = 62) = true := decide_eq_true ((n62 _).2 h62)
        rcases hst with ⟨h1, h⟩ | ⟨j, hj1, hj2, h⟩
        · have e0 : decide (0 ≤ op) = false := by rw [h1]; decide
          try simp only [go_sem, t0, t3, t4, t5, hidx, e62, e0]
          refine ⟨hi2, ?_⟩
          rw [hdr, idsA_n, if_neg h60] at h
          refine lp _ w1 l o op ?_ ?_ ?_ ?_ (by omega) own1 hf m1 (.inl ⟨h1, h⟩) _
          · exact t0
          · exact t3
          · exact t4
          · exact t5
        · subst hj1
          have e0 : decide ((0 : Int) ≤ (j : Int)) = true := by simp
          rw [hdr, idsA_s, if_neg h60, if_pos h62] at h
          try simp only [go_sem, t0, t3, t4, t5, hidx, e62, e0]
          rw [w64 (by omega) (by omega)]
          have ej : ((j : Int) + 1).toNat = j + 1 := by omega
          have esub : (s.drop (j + 1)).take (i - (j + 1)) = (s.take i).drop (j + 1) := by rw [List.drop_take]
          rw [ej, esub]
          refine ⟨hi2, ⟨⟨by omega, by omega⟩, by omega, by omega⟩, ?_⟩
          refine rvalid_ _ ?_
          try simp only [go_sem, t0, t3, t4, t5]
          refine ⟨fun hv => ?_, fun hv => ?_⟩
          · rw [if_pos hv] at h
            refine bsl1 sl31 (cs := [str ((s.take i).drop (j + 1))]) rfl rfl (by omega) ?_
            intro b5 w5 hb5 own5 _ m5 hs5
            try simp only [go_sem, t0, t3, t4, t5]
            refine append_ sl31 (own1.mod m5 fun _ _ h => h) own5.sl (by intro u hu; rw [List.mem_singleton.1 hu]; rfl) (by omega) (by unfold maxLen; omega) ?_
            intro v6 w6 own6 m6 hv6 _
            have e7 : l.map str ++ [str ((s.take i).drop (j + 1))] = (l ++ [(s.take i).drop (j + 1)]).map str := by simp
            have e8 : l.length + 1 = (l ++ [(s.take i).drop (j + 1)]).length := by simp
            rw [e7, e8] at own6
            have s1 := m1.size
            have s5 := m5.size
            unfold h19_4
            try simp only [go_sem]
            refine lp _ w6 (l ++ [(s.take i).drop (j + 1)]) v6 (-1) ?_ ?_ ?_ ?_ (by simp; omega) own6 (fun k hk => ?_) ((m1.trans' m5).trans m6 fun k hk hS => by have := hf k hS; omega) (.inl ⟨rfl, by simpa using h⟩) _
            · exact t0
            · rfl
            · rfl
            · exact t5
            · rcases hv6 k hk with h' | h'
              · exact hf k h'
              · omega
          · rw [if_neg (by simp [hv]), List.nil_append] at h
            unfold h19_4
            try simp only [go_sem]
            refine lp _ w1 l o (-1) ?_ ?_ ?_ ?_ (by omega) own1 hf m1 (.inl ⟨rfl, h⟩) _
            · exact t0
            · exact t3
            · rfl
            · exact t5
      · have e62 : decide ((s[i].toNat : Int) = 62) = false := decide_eq_false fun e => h62 ((n62 _).1 e)
        try simp only [go_sem, t0, t3, t4, t5, hidx, e62]
        refine ⟨hi2, ?_⟩
        refine lp _ w1 l o op ?_ ?_ ?_ ?_ (by omega) own1 hf m1 ?_ _
        · exact t0
        · exact t3
        · exact t4
        · exact t5
        rcases hst with ⟨h1, h⟩ | ⟨j, hj1, hj2, h⟩
        · rw [hdr, idsA_n, if_neg h60] at h
          exact .inl ⟨h1, h⟩
        · rw [hdr, idsA_s, if_neg h60, if_neg h62] at h
          refine .inr ⟨j, hj1, by omega, ?_⟩
          rw [htk, List.drop_append_of_le_length (by rw [htl]; omega)]
          exact h
  · have hio : i = s.length := by
      have : ¬ (i : Int) < s.length := by simpa using hge
      omega
    subst hio
    have hl : l = idsB s := by
      rcases hst with ⟨-, h⟩ | ⟨j, -, -, h⟩
      · rw [List.drop_length] at h; simpa [idsA] using h
      · rw [List.drop_length] at h; simpa [idsA] using h
    rw [hl] at own1
    obtain ⟨oa, oc, rfl, -⟩ := own1.form
    unfold h19_6
    try simp only [go_sem, t3]
    exact k _ _ own1 hf m1
end
end Go.Proofs.Y

/- ME: msgid: fields; Get, both; First, Own, of. -/
namespace Go.Proofs.Y
open Go Go.HL Go.Proofs

structure Fd where
  name : Bytes
  value : Bytes
def Fd.cells (f : Fd) : List Value := [str f.name, str f.value]
def getB (fs : List Fd) (name : Bytes) : Option Bytes := (fs.find? fun f => sameB f.name name).map (·.value)
def szF (fs : List Fd) : Prop := ∀ f ∈ fs, f.name.length ≤ 1000000000 ∧ f.value.length ≤ 4000000

theorem find_none_take {fs : List Fd} {p : Fd → Bool} {i : Nat} (h : ∀ f ∈ fs.take i, p f = false) (hi : i < fs.length) (hp : p fs[i] = true) : fs.find? p = some fs[i] := by
  rw [List.find?_eq_some_iff_append]
  refine ⟨hp, fs.take i, fs.drop (i + 1), ?_, fun a ha => by simp [h a ha]⟩
  rw [← List.drop_eq_getElem_cons hi, List.take_append_drop]

section
variable {w : World} {next : Value → World → Prop} {QP : List PanicEntry → World → Prop}

theorem Fd.cells_len (f : Fd) : f.cells.length = 2 := rfl
theorem fd_at {v : Value} {fs : List Fd} {i : Nat} (hv : Sl w v 2 fs.length (rows Fd.cells fs)) (hi : i < fs.length) : ∃ g o c, v = .slice (some ⟨g, o, none⟩) fs.length c ∧ ∀ w', Mod none' w w' →
    w'.cell? ⟨g, o + i * 2, none⟩ = some (str fs[i].name) ∧ w'.cell? ⟨g, o + i * 2 + 1, none⟩ = some (str fs[i].value) ∧ loadN w' ⟨g, o + i * 2, none⟩ 2 = fs[i].cells.toArray ∧ (∀ j, j < 2 → (w'.cell? ⟨g, o + i * 2 + j, none⟩).isSome = true) := by
  obtain ⟨gb, o, c, hva, hcc, hcell⟩ := hv.get Fd.cells_len rfl (by omega)
  refine ⟨gb, o, c, hva, fun w' m => ?_⟩
  have hc : ∀ j, j < 2 → w'.cell? ⟨gb, o + i * 2 + j, none⟩ = fs[i].cells[j]? := fun j hj => by
    have h1 := hcell i j hi hj
    rw [List.getElem?_eq_getElem (by rw [Fd.cells_len]; exact hj)] at h1 ⊢
    exact m.cell h1 fun h => h
  exact ⟨hc 0 (by omega), hc 1 (by omega), loadN_of rfl fun j hj => by rw [e_add]; exact hc j hj, fun j hj => by rw [hc j hj]; simp [Fd.cells_len, hj]⟩

/-- the closure that compares a field's name -/
theorem has1_ {b : Nat} {name : Bytes} (hb : Blk w b 9 [str name]) (f : Fd) (hn : name.length ≤ 1000000000) (hf : f.name.length ≤ 1000000000) (k : ∀ w', Mod none' w w' → next (.bool (sameB f.name name)) w') : callvK Tryd.prog (.func (.func 59) #[] #[ptr b]) [.agg #[str f.name, str f.value]] w next QP := by
  refine callv (first := []) (caps := [ptr b]) c59 (q59 rfl ?_)
  simp only [List.nil_append, List.append_nil, List.cons_append]
  unfold h59
  try simp only [go_sem]
  refine box_ (cs := [str f.name, str f.value]) rfl ?_
  intro b2 w2 hb2 blk2 m2 hs2
  have c0 : w2.cell? ⟨b2, 0, none⟩ = some (str f.name) := blk2.cell 0
  have c1 : w2.cell? ⟨b, 0, none⟩ = some (str name) := (hb.mod m2 fun h => h).cell 0
  try simp only [go_sem, c0, c1]
  refine tsame_ _ _ hf hn ?_
  intro w3 m3
  try simp only [go_sem]
  exact k _ (m2.trans' m3)

theorem get_ {v : Value} {fs : List Fd} {name : Bytes} (hv : Sl w v 2 fs.length (rows Fd.cells fs)) (hz : szF fs) (hn : name.length ≤ 1000000000) (hfn : fs.length ≤ 1000000000)
    (k : ∀ w', Mod none' w w' → next (.tuple #[str ((getB fs name).getD []), .bool (getB fs name).isSome]) w') : callvK Tryd.prog (.func (.func 22) #[] #[]) [v, str name] w next QP := by
  refine r22 rfl ?_
  obtain ⟨va, vc, rfl, -, -⟩ := hv.form
  unfold h22
  try simp only [go_sem]
  refine r39 rfl ?_
  unfold h39
  try simp only [go_sem]
  refine box_ (cs := [str name]) rfl ?_
  intro b w1 hb blk1 m1 hs1
  try simp only [go_sem]
  refine r38 rfl ?_
  unfold h38
  try simp only [go_sem]
  refine loopN fs.length (fun i τ w' => τ 0 = .slice va fs.length vc ∧ τ 1 = .func (.func 59) #[] #[ptr b] ∧ τ 7 = .int .i64 fs.length ∧ τ 8 = .int .i64 i ∧ Mod none' w1 w' ∧ ∀ f ∈ fs.take i, sameB f.name name = false) ⟨0, by omega, rfl, rfl, rfl, rfl, Mod.refl _ _, by simp⟩ ?_
  rintro i τ w2 hi ⟨t0, t1, t7, t8, m2, hno⟩
  unfold h38_1
  try simp only [go_sem, t0, t1, t7, t8]
  refine ⟨fun hlt => ?_, fun hge => ?_⟩
  · have hil : i < fs.length := by
      have : (i : Int) < fs.length := by simpa using hlt
      omega
    obtain ⟨g, o, c, e, hA⟩ := fd_at hv hil
    simp only [Value.slice.injEq] at e
    obtain ⟨rfl, -, rfl⟩ := e
    obtain ⟨y0, y1, y2, y3⟩ := hA w2 (m1.trans' m2)
    obtain ⟨z1, z2⟩ := hz _ (List.getElem_mem hil)
    unfold h38_2
    try simp only [go_sem, t0, t1, t7, t8, y2]
    repeat refine ⟨⟨by omega, by omega⟩, ?_⟩
    refine ⟨y3, ?_⟩
    refine has1_ (blk1.mod m2 fun h => h) fs[i] hn z1 ?_
    intro w3 m3
    try simp only [go_sem, t0, t1, t7, t8]
    refine ⟨fun hs => ?_, fun hs => ?_⟩
    · have hg : getB fs name = some fs[i].value := by
        unfold getB
        rw [find_none_take (p := fun f => sameB f.name name) hno hil hs]; rfl
      have hA3 := hA w3 ((m1.trans' m2).trans' m3)
      obtain ⟨x0, x1, x2, x3⟩ := hA3
      have e0 : decide ((i : Int) < 0) = false := by simp
      unfold h22_1
      try simp only [go_sem, e0, x1]
      repeat refine ⟨⟨by omega, by omega⟩, ?_⟩
      have := k w3 ((m1.trans' m2).trans' m3)
      rw [hg] at this
      exact this
    · unfold h38_3
      try simp only [go_sem, t0, t1, t7, t8]
      rw [w64 (by omega) (by omega)]
      refine ⟨i + 1, by omega, by omega, rfl, m2.trans' m3, ?_⟩
      rw [List.take_succ_eq_append_getElem hil]
      intro f hf
      rcases List.mem_append.1 hf with h | h
      · exact hno f h
      · rw [List.mem_singleton.1 h]; exact hs
  · have hio : i = fs.length := by
      have : ¬ (i : Int) < fs.length := by simpa using hge
      omega
    subst hio
    rw [List.take_length] at hno
    have hg : getB fs name = none := by
      unfold getB
      rw [List.find?_eq_none.2 fun f hf => by simp [hno f hf]]; rfl
    unfold h38_4
    try simp only [go_sem]
    have := k w2 (m1.trans' m2)
    rw [hg] at this
    exact this

theorem rget_ {v : Value} {fs : List Fd} {name : Bytes} (hv : Sl w v 2 fs.length (rows Fd.cells fs)) (hz : szF fs) (hn : name.length ≤ 1000000000) (hfn : fs.length ≤ 1000000000)
    (k : ∀ w', Mod none' w w' → next (.tuple #[str ((getB fs name).getD []), .bool (getB fs name).isSome]) w') : callvK Tryd.prog (.func (.func 25) #[] #[]) [v, str name] w next QP := by
  refine r25 rfl ?_
  obtain ⟨va, vc, rfl, -, -⟩ := hv.form
  unfold h25
  try simp only [go_sem]
  refine loopN fs.length (fun i τ w' => τ 0 = .slice va fs.length vc ∧ τ 1 = str name ∧ τ 6 = .int .i64 i ∧ Mod none' w w' ∧ ∀ f ∈ fs.take i, sameB f.name name = false) ⟨0, by omega, rfl, rfl, rfl, Mod.refl _ _, by simp⟩ ?_
  rintro i τ w2 hi ⟨t0, t1, t6, m2, hno⟩
  unfold h25_1
  try simp only [go_sem, t0, t1, t6]
  refine ⟨fun hlt => ?_, fun hge => ?_⟩
  · have hil : i < fs.length := by
      have : (i : Int) < fs.length := by simpa using hlt
      omega
    obtain ⟨g, o, c, e, hA⟩ := fd_at hv hil
    simp only [Value.slice.injEq] at e
    obtain ⟨rfl, -, rfl⟩ := e
    obtain ⟨y0, y1, y2, y3⟩ := hA w2 m2
    obtain ⟨z1, z2⟩ := hz _ (List.getElem_mem hil)
    unfold h25_2
    try simp only [go_sem, t0, t1, t6, y0]
    repeat refine ⟨⟨by omega, by omega⟩, ?_⟩
    refine rsame_ _ _ z1 hn ?_
    intro w3 m3
    have m23 := m2.trans' m3
    obtain ⟨x0, x1, x2, x3⟩ := hA w3 m23
    try simp only [go_sem, t0, t1, t6, x1]
    refine ⟨fun hs => ?_, fun hs => ?_⟩
    · have hg : getB fs name = some fs[i].value := by
        unfold getB
        rw [find_none_take (p := fun f => sameB f.name name) hno hil hs]; rfl
      repeat refine ⟨⟨by omega, by omega⟩, ?_⟩
      have := k w3 m23
      rw [hg] at this
      exact this
    · unfold h25_3
      try simp only [go_sem, t0, t1, t6]
      rw [w64 (by omega) (by omega)]
      refine ⟨i + 1, by omega, by omega, rfl, m23, ?_⟩
      rw [List.take_succ_eq_append_getElem hil]
      intro f hf
      rcases List.mem_append.1 hf with h | h
      · exact hno f h
      · rw [List.mem_singleton.1 h]; exact hs
  · have hio : i = fs.length := by
      have : ¬ (i : Int) < fs.length := by simpa using hge
      omega
    subst hio
    rw [List.take_length] at hno
    have hg : getB fs name = none := by
      unfold getB
      rw [List.find?_eq_none.2 fun f hf => by simp [hno f hf]]; rfl
    unfold h25_4
    try simp only [go_sem]
    have := k w2 m2
    rw [hg] at this
    exact this

theorem getB_len {fs : List Fd} (hz : szF fs) (name : Bytes) : ((getB fs name).getD []).length ≤ 4000000 := by
  unfold getB
  cases h : fs.find? fun f => sameB f.name name with
  | none => simp
  | some f => exact (hz f (List.mem_of_find?_eq_some h)).2

def firstB (s : Bytes) : Value := .tuple #[str ((idsB s).head?.getD []), .bool (idsB s).head?.isSome]
theorem first_ (s : Bytes) (hs : s.length ≤ 4000000) (k : ∀ w', Mod none' w w' → next (firstB s) w') : callvK Tryd.prog (.func (.func 9) #[] #[]) [str s] w next QP := by
  refine r9 rfl ?_
  unfold h9
  try simp only [go_sem]
  refine ids_ s hs ?_
  intro v w1 own1 _ m1
  obtain ⟨va, vc, rfl, hvc, hcell⟩ := own1.sl.form
  have := k w1 m1
  unfold firstB at this
  cases hl : idsB s with
  | nil =>
    rw [hl] at this
    try simp only [go_sem, hl]
    exact this
  | cons x l =>
    rw [hl] at this
    have hn : decide (((x :: l).length : Int) = 0) = false := by simp; omega
    rw [hl] at hcell
    obtain ⟨g, o, rfl, hc⟩ := hcell (by simp)
    have hc0 : w1.cell? ⟨g, o, none⟩ = some (str x) := by
      have := hc 0 (by simp)
      simpa using this
    try simp only [go_sem, hl, hn]
    unfold h9_1
    try simp only [go_sem]
    refine ⟨fun h => by simp at h; omega, fun _ => ⟨by omega, ?_⟩⟩
    try simp only [go_sem, hc0]
    exact this
theorem rfirst_ (s : Bytes) (hs : s.length ≤ 4000000) (k : ∀ w', Mod none' w w' → next (firstB s) w') : callvK Tryd.prog (.func (.func 10) #[] #[]) [str s] w next QP := by
  refine r10 rfl ?_
  unfold h10
  try simp only [go_sem]
  refine rids_ s hs ?_
  intro v w1 own1 _ m1
  obtain ⟨va, vc, rfl, hvc, hcell⟩ := own1.sl.form
  have := k w1 m1
  unfold firstB at this
  cases hl : idsB s with
  | nil =>
    rw [hl] at this
    try simp only [go_sem, hl]
    exact this
  | cons x l =>
    rw [hl] at this
    have hn : decide (((x :: l).length : Int) = 0) = false := by simp; omega
    rw [hl] at hcell
    obtain ⟨g, o, rfl, hc⟩ := hcell (by simp)
    have hc0 : w1.cell? ⟨g, o, none⟩ = some (str x) := by
      have := hc 0 (by simp)
      simpa using this
    try simp only [go_sem, hl, hn]
    unfold h10_1
    try simp only [go_sem]
    refine ⟨fun h => by simp at h; omega, fun _ => ⟨by omega, ?_⟩⟩
    try simp only [go_sem, hc0]
    exact this

def msgId : Bytes := [77, 101, 115, 115, 97, 103, 101, 45, 73, 68]
def ownB (fs : List Fd) : Value := firstB ((getB fs msgId).getD [])
theorem own_ {v : Value} {fs : List Fd} (hv : Sl w v 2 fs.length (rows Fd.cells fs)) (hz : szF fs) (hfn : fs.length ≤ 1000000000) (k : ∀ w', Mod none' w w' → next (ownB fs) w') : callvK Tryd.prog (.func (.func 11) #[] #[]) [v] w next QP := by
  refine r11 rfl ?_
  unfold h11
  try simp only [go_sem]
  refine get_ (name := msgId) hv hz (by decide) hfn ?_
  intro w1 m1
  try simp only [go_sem]
  refine first_ _ (getB_len hz _) ?_
  intro w2 m2
  have := k w2 (m1.trans' m2)
  unfold ownB firstB at this
  unfold firstB
  try simp only [go_sem]
  exact this
theorem rown_ {v : Value} {fs : List Fd} (hv : Sl w v 2 fs.length (rows Fd.cells fs)) (hz : szF fs) (hfn : fs.length ≤ 1000000000) (k : ∀ w', Mod none' w w' → next (ownB fs) w') : callvK Tryd.prog (.func (.func 12) #[] #[]) [v] w next QP := by
  refine r12 rfl ?_
  unfold h12
  try simp only [go_sem]
  refine rget_ (name := msgId) hv hz (by decide) hfn ?_
  intro w1 m1
  try simp only [go_sem]
  refine rfirst_ _ (getB_len hz _) ?_
  intro w2 m2
  have := k w2 (m1.trans' m2)
  unfold ownB firstB at this
  unfold firstB
  try simp only [go_sem]
  exact this
def ofB (fs : List Fd) (name : Bytes) : List Bytes := idsB ((getB fs name).getD [])
theorem of_ {v : Value} {fs : List Fd} {name : Bytes} (hv : Sl w v 2 fs.length (rows Fd.cells fs)) (hz : szF fs) (hn : name.length ≤ 1000000000) (hfn : fs.length ≤ 1000000000)
    (k : ∀ v' w', HL.Own w' v' 9 1 (ofB fs name).length ((ofB fs name).map str) → (∀ k, v'.ownBlock = some k → w.heap.size ≤ k) → Mod none' w w' → next v' w') : callvK Tryd.prog (.func (.func 33) #[] #[]) [v, str name] w next QP := by
  refine r33 rfl ?_
  unfold h33
  try simp only [go_sem]
  refine get_ hv hz hn hfn ?_
  intro w1 m1
  try simp only [go_sem]
  refine ids_ _ (getB_len hz _) ?_
  intro v2 w2 own2 hf2 m2
  have s1 := m1.size
  have := k v2 w2 own2 (fun k hk => by have := hf2 k hk; omega) (m1.trans' m2)
  obtain ⟨va, vc, rfl, -⟩ := own2.form
  try simp only [go_sem]
  exact this
end
end Go.Proofs.Y

/- MG: msgid: slices.Grow, Concat, Backward, Reverse over texts. -/
namespace Go.Proofs.Y
open Go Go.HL Go.Proofs

theorem sl89 : SlTy Tryd.prog 89 31 1 24 (.slice none 0 0) := ⟨by kernel_rfl, by kernel_rfl, rfl, by decide⟩
theorem u3 : Tryd.prog.underlying 3 = some (.int .i64) := by kernel_rfl

section
variable {w : World} {next : Value → World → Prop} {QP : List PanicEntry → World → Prop}

theorem appz_ {t tn ty e sz by_ : Nat} {z : Value} {kk kn : IntKind} (ht : SlTy Tryd.prog t e sz by_ z) (htn : Tryd.prog.underlying tn = some (.int kn)) {n : Nat} {a : Int} (ha : a = n) (h0 : 0 < n) (hb : n * by_ ≤ 281474976710656) (hm : n ≤ maxLen)
    (k : ∀ b c w', w.heap.size ≤ b → n ≤ c → HL.Own w' (.slice (some ⟨b, 0, none⟩) 0 c) e sz 0 [] → Mod none' w w' → next (.slice (some ⟨b, 0, none⟩) n c) w') : appK Tryd.prog #[t, tn] ty (.slice none 0 0) (.int kk a) w next QP := by
  subst ha
  obtain ⟨i, hi, hz, hs, hby⟩ := ht.parts
  have hsm : n ≤ 9223372036854775807 := by simpa [maxLen] using hm
  have hr := Go.Lib.run_append_nil_zeros (P := Tryd.prog) w t tn ty e i z kk kn ht.und htn hi hz n h0 (by rw [hs]; exact ht.pos) (by omega) (by rw [hby]; exact hb)
  have hge := grownCap_ge w n 0 e
  have hcm := grownCap_le_maxLen w n 0 e hm
  refine eff_value hr (k _ _ _ (Nat.le_refl _) hge ⟨by simp, .inr ⟨w.heap.size, _, _, _, rfl, .inl rfl, heap_alloc_new w.drew _, Nat.zero_le _, hcm, ?_, by simp⟩⟩ ⟨rfl, rfl, rfl, by simp, fun k hk _ => RowKit.Below.heap_alloc w.drew _ k hk⟩)
  simp only [Array.size_append, size_zeroCells, ht.zs, ← Nat.add_mul]
  congr 1
  omega

/-- Grow of no slice -/
theorem grow_ {n : Nat} (hn : n ≤ 4000000) (k : ∀ v w', HL.Own w' v 9 1 0 [] → (∀ k, v.ownBlock = some k → w.heap.size ≤ k) → Mod none' w w' → next v w') : callvK Tryd.prog (.func (.func 57) #[] #[]) [.slice none 0 0, .int .i64 n] w next QP := by
  refine r57 rfl ?_
  unfold h57
  have e0 : decide ((n : Int) < 0) = false := by simp
  try simp only [go_sem, e0]
  unfold h57_1
  try simp only [go_sem]
  repeat refine ⟨⟨by omega, by omega⟩, ?_⟩
  have ew : IntKind.i64.wrap ((n : Int) - IntKind.i64.wrap (0 - 0)) = n := by rw [show IntKind.i64.wrap (0 - 0) = 0 from rfl, Int.sub_zero, w64 (by omega) (by omega)]
  try simp only [go_sem, ew]
  refine ⟨fun hp => ?_, fun hp => ?_⟩
  · have hp : 0 < n := by simpa using hp
    refine appz_ sl31 u3 (n := n) (by omega) hp (by omega) (by unfold maxLen; omega) ?_
    intro b c w' hb hc own m
    unfold h57_2
    try simp only [go_sem, show decide ((0 : Int) = 0) = true from rfl]
    repeat refine ⟨⟨by omega, by omega⟩, ?_⟩
    exact ⟨by omega, k _ _ own (fun k hk => by simp [Value.ownBlock] at hk; omega) m⟩
  · unfold h57_2
    try simp only [go_sem]
    exact k _ _ (Own.nil _ _ _) (fun k hk => by cases hk) (Mod.refl _ _)

theorem take_flat {ls : List (List Bytes)} {i : Nat} (h : i < ls.length) : (ls.take (i + 1)).flatten = (ls.take i).flatten ++ ls[i] := by
  rw [List.take_succ_eq_append_getElem h, List.flatten_append]; simp
theorem take_flat_le (ls : List (List Bytes)) (i : Nat) : (ls.take i).flatten.length ≤ ls.flatten.length := by
  have := congrArg (fun l => (List.flatten l).length) (List.take_append_drop i ls)
  simp only [List.flatten_append, List.length_append] at this
  omega

theorem concat_ {v : Value} {vs : List Value} {ls : List (List Bytes)} (hv : Sl w v 1 ls.length vs) (hs : ∀ i (h : i < ls.length), ∃ u, vs[i]? = some u ∧ Sl w u 1 ls[i].length (ls[i].map str)) (hn : ls.length ≤ 4000000) (htot : ls.flatten.length ≤ 4000000)
    (k : ∀ v' w', HL.Own w' v' 9 1 ls.flatten.length (ls.flatten.map str) → (∀ k, v'.ownBlock = some k → w.heap.size ≤ k) → Mod none' w w' → next v' w') : callvK Tryd.prog (.func (.func 35) #[] #[]) [v] w next QP := by
  refine r35 rfl ?_
  obtain ⟨va, vc, rfl, -, hcell⟩ := hv.form
  unfold h35
  try simp only [go_sem]
  refine loopN ls.length (fun i τ w' => τ 0 = .slice va ls.length vc ∧ τ 3 = .int .i64 (ls.take i).flatten.length ∧ τ 9 = .slice va ls.length vc ∧ τ 10 = .int .i64 ls.length ∧ τ 11 = .int .i64 i ∧ Mod none' w w') ⟨0, by omega, rfl, rfl, rfl, rfl, rfl, Mod.refl _ _⟩ ?_
  rintro i τ w2 hi ⟨t0, t3, t9, t10, t11, m2⟩
  unfold h35_1
  try simp only [go_sem, t0, t3, t9, t10, t11]
  refine ⟨fun hlt => ?_, fun hge => ?_⟩
  · have hil : i < ls.length := by
      have : (i : Int) < ls.length := by simpa using hlt
      omega
    obtain ⟨b, o, rfl, hc⟩ := hcell (by omega)
    obtain ⟨u, hu, hsl⟩ := hs i hil
    have hcu := m2.cell ((hc i (by omega)).trans hu) fun h => h
    obtain ⟨ua, uc, rfl, -⟩ := hsl.form
    unfold h35_2
    try simp only [go_sem, t0, t3, t9, t10, t11, hcu]
    repeat refine ⟨⟨by omega, by omega⟩, ?_⟩
    have hle := take_flat_le ls (i + 1)
    rw [take_flat hil, List.length_append] at hle
    have e1 : IntKind.i64.wrap (((ls.take i).flatten.length : Int) + (ls[i].length : Int)) = ((ls.take (i + 1)).flatten.length : Nat) := by
      rw [w64 (by omega) (by omega), take_flat hil, List.length_append]; omega
    have e2 : decide ((((ls.take (i + 1)).flatten.length : Nat) : Int) < 0) = false := by simp
    try simp only [go_sem, e1, e2]
    unfold h35_3
    try simp only [go_sem, t0, t3, t9, t10, t11]
    rw [w64 (by omega) (by omega)]
    exact ⟨i + 1, by omega, by omega, rfl, rfl, m2⟩
  · have hio : i = ls.length := by
      have : ¬ (i : Int) < ls.length := by simpa using hge
      omega
    subst hio
    rw [List.take_length] at t3
    unfold h35_4
    try simp only [go_sem, t0, t3, t9, t10, t11]
    refine grow_ htot ?_
    intro v3 w3 own3 hf3 m3
    try simp only [go_sem, t0]
    refine loopN ls.length (fun i τ w' => ∃ v', τ 6 = v' ∧ τ 25 = .slice va ls.length vc ∧ τ 26 = .int .i64 ls.length ∧ τ 27 = .int .i64 i ∧ HL.Own w' v' 9 1 (ls.take i).flatten.length ((ls.take i).flatten.map str) ∧ (∀ k, v'.ownBlock = some k → w.heap.size ≤ k) ∧ Mod none' w w') ⟨0, by omega, v3, rfl, rfl, rfl, rfl, own3, fun k hk => by have := hf3 k hk; have := m2.size; omega, m2.trans' m3⟩ ?_
    rintro i τ w4 hi ⟨v4, t6, t25, t26, t27, own4, hf4, m4⟩
    unfold h35_5
    try simp only [go_sem, t6, t25, t26, t27]
    refine ⟨fun hlt => ?_, fun hge => ?_⟩
    · have hil : i < ls.length := by
        have : (i : Int) < ls.length := by simpa using hlt
        omega
      obtain ⟨b, o, rfl, hc⟩ := hcell (by omega)
      obtain ⟨u, hu, hsl⟩ := hs i hil
      have hcu := m4.cell ((hc i (by omega)).trans hu) fun h => h
      have hle := take_flat_le ls (i + 1)
      rw [take_flat hil, List.length_append] at hle
      unfold h35_6
      try simp only [go_sem, t6, t25, t26, t27, hcu]
      repeat refine ⟨⟨by omega, by omega⟩, ?_⟩
      refine append_ sl31 own4 (hsl.mod m4 fun _ _ h => h) (by intro u hu; obtain ⟨x, -, rfl⟩ := List.mem_map.1 hu; rfl) (by omega) (by unfold maxLen; omega) ?_
      intro v5 w5 own5 m5 hf5 _
      rw [← List.map_append, ← take_flat hil, ← List.length_append, ← take_flat hil] at own5
      have s4 := m4.size
      unfold h35_7
      try simp only [go_sem, t6, t25, t26, t27]
      rw [w64 (by omega) (by omega)]
      refine ⟨i + 1, by omega, by omega, v5, rfl, rfl, own5, fun k hk => ?_, m4.trans m5 fun k hk hS => by have := hf4 k hS; omega⟩
      rcases hf5 k hk with h | h
      · exact hf4 k h
      · omega
    · have hio : i = ls.length := by
        have : ¬ (i : Int) < ls.length := by simpa using hge
        omega
      subst hio
      rw [List.take_length] at own4
      unfold h35_8
      try simp only [go_sem, t6]
      exact k _ _ own4 hf4 m4

theorem backward_ {v : Value} (hv : v.oneCell' = true) (k : ∀ b w', w.heap.size = b → Blk w' b 31 [v] → Mod none' w w' → w'.heap.size = b + 1 → next (.func (.func 58) #[] #[ptr b]) w') : callvK Tryd.prog (.func (.func 36) #[] #[]) [v] w next QP := by
  refine r36 rfl ?_
  unfold h36
  try simp only [go_sem]
  refine box_ (cs := [v]) (one_of hv) ?_
  intro b w1 hb blk1 m1 hs1
  try simp only [go_sem]
  exact k b w1 hb blk1 m1 hs1

theorem reverse_ {v : Value} {n : Nat} {l : List Bytes} (hv : HL.Own w v 9 1 n (l.map str)) (hn : n ≤ 4000000) (k : ∀ w', HL.Own w' v 9 1 n (l.reverse.map str) → Mod (ownS v) w w' → w'.heap.size = w.heap.size → next (.tuple #[]) w') : callvK Tryd.prog (.func (.func 37) #[] #[]) [v] w next QP := by
  have hl : l.length = n := by have := hv.len; simpa using this
  refine r37 rfl ?_
  have hv0 := hv
  unfold h37
  rcases hv.2 with ⟨rfl, rfl⟩ | ⟨g, cap, cur, fz, rfl, -⟩
  · obtain rfl : l = [] := List.eq_nil_of_length_eq_zero hl
    try simp only [go_sem]
    refine loopN 0 (fun i τ w' => τ 2 = .int .i64 0 ∧ τ 3 = .int .i64 (-1) ∧ w' = w) ⟨0, by omega, rfl, rfl, rfl⟩ ?_
    rintro i τ w2 hi ⟨t2, t3, rfl⟩
    unfold h37_1
    try simp only [go_sem, t2, t3, show decide ((0 : Int) < -1) = false from rfl]
    exact k _ hv0 (Mod.refl _ _) rfl
  · try simp only [go_sem]
    rw [w64 (by omega) (by omega)]
    refine loopN n (fun i τ w' => ∃ xs : List Bytes, τ 0 = .slice (some ⟨g, 0, none⟩) n cap ∧ τ 2 = .int .i64 i ∧ τ 3 = .int .i64 ((n : Int) - 1 - i) ∧ HL.Own w' (.slice (some ⟨g, 0, none⟩) n cap) 9 1 n (xs.map str) ∧ (2 * i ≤ n + 1) ∧
      (∀ j, xs[j]? = if j < i ∨ n - i ≤ j then l.reverse[j]? else l[j]?) ∧ Mod (ownS (.slice (some ⟨g, 0, none⟩) n cap)) w w' ∧ w'.heap.size = w.heap.size)
      ⟨0, by omega, l, rfl, rfl, by simp [upd], hv, by omega, fun j => ?_, Mod.refl _ _, rfl⟩ ?_
    · by_cases hj : n - 0 ≤ j
      · rw [if_pos (.inr hj), List.getElem?_eq_none (by omega), List.getElem?_eq_none (by rw [List.length_reverse]; omega)]
      · rw [if_neg (by omega)]
    rintro i τ w2 hi ⟨xs, t0, t2, t3, own2, h2i, hxs, m2, hsz⟩
    have hxl : xs.length = n := by have := own2.len; simpa using this
    unfold h37_1
    try simp only [go_sem, t0, t2, t3]
    refine ⟨fun hlt => ?_, fun hge => ?_⟩
    · have hil : (i : Int) < (n : Int) - 1 - i := by simpa using hlt
      obtain ⟨j, hj⟩ : ∃ j : Nat, n - 1 - i = j := ⟨_, rfl⟩
      have hji : (n : Int) - 1 - i = (j : Int) := by omega
      have hin : i < n := by omega
      have hjn : j < n := by omega
      have ei := own_at own2 hin
      have ej := own_at own2 hjn
      rw [List.getElem?_map, List.getElem?_eq_getElem (by omega)] at ei ej
      simp only [Option.map_some] at ei ej
      rw [hji] at t3
      unfold h37_2
      try simp only [go_sem, t0, t2, t3, ei, ej]
      repeat refine ⟨⟨by omega, by omega⟩, ?_⟩
      refine own_store sz9 (own2.mod (Mod.drew none' _) fun _ _ h => h) hin rfl ?_
      intro w3 own3 m3 hs3
      repeat refine ⟨⟨by omega, by omega⟩, ?_⟩
      refine own_store sz9 own3 hjn rfl ?_
      intro w4 own4 m4 hs4
      unfold h37_3
      try simp only [go_sem, t0, t2, t3]
      rw [w64 (by omega) (by omega), w64 (by omega) (by omega)]
      rw [← List.map_set, ← List.map_set] at own4
      have mm : Mod (ownS (.slice (some ⟨g, 0, none⟩) n cap)) w w4 := m2.trans' ((((Mod.drew (fun k => k = g) w2).trans' m3).trans' m4).mono fun k _ hk => by
        have hk : k = g := hk
        rw [hk]; rfl)
      refine ⟨i + 1, by omega, by omega, (xs.set i xs[j]).set j xs[i], rfl, ?_, own4, by omega, fun q => ?_, mm, by rw [hs4, hs3]; exact hsz⟩
      · congr 1; omega
      · have hxi := hxs i
        have hxj := hxs j
        rw [if_neg (by omega), List.getElem?_eq_getElem (by omega), List.getElem?_eq_getElem (by omega)] at hxi hxj
        simp only [Option.some.injEq] at hxi hxj
        rw [List.getElem?_set, List.getElem?_set, hxs q, hxi, hxj, List.length_set, hxl, if_pos hjn, if_pos hin]
        by_cases hq : j = q
        · subst hq
          rw [if_pos rfl, if_pos (.inr (by omega)), List.getElem?_reverse (by omega), List.getElem?_eq_getElem (by omega)]
          congr 2; omega
        · rw [if_neg hq]
          by_cases hq2 : i = q
          · subst hq2
            rw [if_pos rfl, if_pos (.inl (by omega)), List.getElem?_reverse (by omega), List.getElem?_eq_getElem (by omega)]
            congr 2; omega
          · rw [if_neg hq2]
            by_cases hc : q < i ∨ n - i ≤ q
            · rw [if_pos hc, if_pos (by omega)]
            · rw [if_neg hc, if_neg (by omega)]
    · have hil : ¬ (i : Int) < (n : Int) - 1 - i := by simpa using hge
      have e : xs = l.reverse := by
        apply List.ext_getElem?
        intro q
        rw [hxs q]
        split
        · rfl
        · rename_i hc
          by_cases hq : q < n
          · have : n = 2 * q + 1 := by omega
            rw [List.getElem?_reverse (by omega)]
            congr 1; omega
          · rw [List.getElem?_eq_none (by omega), List.getElem?_eq_none (by rw [List.length_reverse]; omega)]
      subst e
      exact k _ own2 m2 hsz
end
end Go.Proofs.Y

/- MI: msgid: slices.Backward over texts: what the iterator gives. -/
namespace Go.Proofs.Y
open Go Go.HL Go.Proofs Go.RowKit Go.Shelf

attribute [local go_sem] Oper.semAt_some
/-- what has come when k rounds are over -/
def upto {α : Type} (f : Nat → α) (k : Nat) : List α := (List.range k).map f
theorem upto_succ {α : Type} (f : Nat → α) (k : Nat) : upto f (k + 1) = upto f k ++ [f k] := by simp [upto, List.range_succ]
theorem upto_length {α : Type} (f : Nat → α) (k : Nat) : (upto f k).length = k := by simp [upto]

/-- two blocks lie as they lay -/
def Kb (b c : Nat) (W W' : World) : Prop := W'.heap[b]? = W.heap[b]? ∧ W'.heap[c]? = W.heap[c]?
theorem Kb.refl (b c : Nat) (W : World) : Kb b c W W := ⟨rfl, rfl⟩
theorem Kb.trans {b c : Nat} {A B C : World} (h : Kb b c A B) (k : Kb b c B C) : Kb b c A C := ⟨k.1.trans h.1, k.2.trans h.2⟩
theorem Kb.cell1 {b c : Nat} {W W' : World} (h : Kb b c W W') (o : Nat) : W'.cell? ⟨b, o, none⟩ = W.cell? ⟨b, o, none⟩ := World.cell?_of_block h.1
theorem Kb.cell2 {b c : Nat} {W W' : World} (h : Kb b c W W') (o : Nat) : W'.cell? ⟨c, o, none⟩ = W.cell? ⟨c, o, none⟩ := World.cell?_of_block h.2

set_option maxRecDepth 100000 in
set_option maxHeartbeats 2000000 in
theorem back1_in (F : Fence) (n : Nat) (h8 : F.fn 58) (hro : F.round = none) (hn : 1 ≤ n) (l Bs b off len cap : Nat) (zs : List Bytes) (hreach : len ≤ 4000000) (J Jx : List (Nat × Bytes) → World → Prop)
    (hY : ∀ pre x W, J pre W → pre.length < len → YieldAt F (n - 1) Tryd.prog l #[.int .i64 (x.1 : Int), str x.2] W fun e W' =>
      (e = .returned (.bool true) ∧ J (pre ++ [x]) W' ∧ Kb b Bs W W') ∨ (e = .returned (.bool false) ∧ Jx (pre ++ [x]) W'))
    (W : World) (hBs : W.cell? ⟨Bs, 0, none⟩ = some (.slice (some ⟨b, off, none⟩) len cap)) (hc : ∀ j, j < len → W.cell? ⟨b, off + j, none⟩ = some (str (zs[j]?.getD []))) (h0 : J [] W) :
    CallsIn F n Tryd.prog 58 #[.func (.yield l) #[] #[], .pointer (some ⟨Bs, 0, none⟩)] W fun e W' => (∃ v, e = .returned v) ∧
      ((∃ ys, ys = upto (fun j => (len - 1 - j, zs[len - 1 - j]?.getD [])) len ∧ J ys W') ∨ (∃ pre, (∃ k, k ≤ len ∧ pre = upto (fun j => (len - 1 - j, zs[len - 1 - j]?.getD [])) k) ∧ Jx pre W')) := by
  refine callsIn_of_wp Tryd.func58 rfl h8 ?_ hro
  simp only [Tryd.ntmps58, List.size_toArray, List.length_cons, List.length_nil, Nat.reduceAdd, Nat.reduceSub, Array.replicate_succ, Array.replicate_zero, List.push_toArray, List.append_toArray, List.nil_append, List.cons_append]
  gi_wp2
  gi_loopw [3] (fun i wr => ∃ k : Nat, k ≤ len ∧ i = .int .i64 ((len : Int) - 1 - k) ∧ J (upto (fun j => (len - 1 - j, zs[len - 1 - j]?.getD [])) k) wr ∧ Kb b Bs W wr)
    (fun i _ => ((intOf i) + 1).toNat)
  case atStart => exact ⟨0, Nat.zero_le _, by simp, h0, Kb.refl _ _ _⟩
  case round =>
    obtain ⟨k, hk, rfl, hJs, hnx⟩ := hrel
    by_cases hlt : k < len
    · obtain ⟨j, hj⟩ : ∃ j : Nat, j = len - 1 - k := ⟨_, rfl⟩
      have hji : (len : Int) - 1 - k = (j : Int) := by omega
      have hcx' : wr.cell? ⟨b, off + j, none⟩ = some (str (zs[j]?.getD [])) := (hnx.cell1 _).trans (hc j (by omega))
      have hBs' : wr.cell? ⟨Bs, 0, none⟩ = some (.slice (some ⟨b, off, none⟩) len cap) := (hnx.cell2 _).trans hBs
      obtain ⟨fn, tmps, assign, body, hy, hR⟩ := hY _ (j, zs[j]?.getD []) wr hJs (by rw [upto_length]; exact hlt)
      dsimp only at hy
      have hkj : k + j + 1 = len := by omega
      rw [hji]
      clear hj hji
      gi_wp2
      refine hR.mono ?_
      rintro e W3 (⟨rfl, hJ3, hk3⟩ | ⟨rfl, hJx3⟩)
      · gi_wp2
        go_roundw
        case rel =>
          refine ⟨k + 1, by omega, ?_, ?_, hnx.trans hk3⟩
          · congr 1; omega
          · rw [upto_succ, show len - 1 - k = j by omega]; exact hJ3
        case measure => simp [intOf]
      · gi_wp2
        refine bodyPost_ret (results_none rfl _ _ _) rfl ?_
        exact ⟨⟨_, rfl⟩, .inr ⟨_, ⟨k + 1, by omega, by rw [upto_succ, show len - 1 - k = j by omega]⟩, hJx3⟩⟩
    · obtain rfl : k = len := by omega
      have hm : (k : Int) - 1 - k = -1 := by omega
      rw [hm]
      clear hm
      gi_wp2
      go_end0
      exact ⟨⟨_, rfl⟩, .inl ⟨_, rfl, hJs⟩⟩

set_option maxRecDepth 100000 in
set_option maxHeartbeats 1000000 in
theorem back1_nil_in (F : Fence) (n : Nat) (h8 : F.fn 58) (hro : F.round = none) (l Bs : Nat) (J : List (Nat × Bytes) → World → Prop) (W : World) (hBs : W.cell? ⟨Bs, 0, none⟩ = some (.slice none 0 0)) (h0 : J [] W) :
    CallsIn F n Tryd.prog 58 #[.func (.yield l) #[] #[], .pointer (some ⟨Bs, 0, none⟩)] W fun e W' => (∃ v, e = .returned v) ∧ J [] W' := by
  refine callsIn_of_wp Tryd.func58 rfl h8 ?_ hro
  simp only [Tryd.ntmps58, List.size_toArray, List.length_cons, List.length_nil, Nat.reduceAdd, Nat.reduceSub, Array.replicate_succ, Array.replicate_zero, List.push_toArray, List.append_toArray, List.nil_append, List.cons_append]
  gi_wp2
  gi_loopw [3] (fun i wr => i = .int .i64 (-1) ∧ J [] wr) (fun _ _ => 0)
  case atStart => exact ⟨rfl, h0⟩
  case round =>
    obtain ⟨rfl, hJs⟩ := hrel
    gi_wp2
    go_end0
    exact ⟨⟨_, rfl⟩, hJs⟩

/-- what comes: the texts from behind, with their places -/
def backs (zs : List Bytes) (k : Nat) : List (Nat × Bytes) := upto (fun j => (zs.length - 1 - j, zs[zs.length - 1 - j]?.getD [])) k
theorem backs_map (zs : List Bytes) : (backs zs zs.length).map (·.2) = zs.reverse := by
  apply List.ext_getElem
  · simp [backs, upto]
  · intro i h1 h2
    simp [backs, upto] at h1
    have : zs.length - 1 - i < zs.length := by omega
    simp [backs, upto, List.getElem_reverse, this]
theorem back_stops (n : Nat) (hn : 1 ≤ n) (Bs : Nat) {v : Value} {zs : List Bytes} (hz : zs.length ≤ 4000000) {w : World} (hBs : w.cell? ⟨Bs, 0, none⟩ = some v) (hBl : Bs < w.heap.size) (b : Nat) (hv : HL.Own w v 9 1 zs.length (zs.map str)) (hvb : ∀ k, v.ownBlock = some k → k = b) :
    SeqStopsK Fence.wide n Tryd.prog 58 #[.pointer (some ⟨Bs, 0, none⟩)] (fun x : Nat × Bytes => #[Value.int .i64 (x.1 : Int), str x.2]) (Kb b Bs) (fun ys => ys = backs zs zs.length) (fun _ => True) zs.length w := by
  intro l J Jx W hW _ _ hY h0
  have hc' := (hW.cell (p := ⟨Bs, 0, none⟩) hBl).trans hBs
  rcases hv.2 with ⟨rfl, h⟩ | ⟨g, cap, cur, fz, rfl, -, hh, hcap, -, -, htake⟩
  · refine (back1_nil_in Fence.wide n trivial rfl l Bs J W hc' h0).mono ?_
    rintro e W' ⟨he, hj⟩
    have hb0 : backs zs zs.length = [] := by rw [h]; rfl
    exact ⟨he, .inl ⟨[], hb0.symm, hj⟩⟩
  · obtain rfl : g = b := hvb g rfl
    have hlt : g < w.heap.size := (Array.getElem?_eq_some_iff.1 hh).1
    have hcs : ∀ j, j < zs.length → W.cell? ⟨g, 0 + j, none⟩ = some (str (zs[j]?.getD [])) := fun j hj => by
      have h1 := own_at hv hj
      rw [List.getElem?_map, List.getElem?_eq_getElem hj] at h1
      rw [Nat.zero_add, List.getElem?_eq_getElem hj]
      exact (hW.cell (p := ⟨g, j, none⟩) hlt).trans h1
    refine (back1_in Fence.wide n trivial rfl hn l Bs g 0 zs.length cap zs hz J Jx hY W hc' hcs h0).mono ?_
    rintro e W' ⟨he, ⟨ys, rfl, hj⟩ | ⟨pre, ⟨k, hk, rfl⟩, hj⟩⟩
    · exact ⟨he, .inl ⟨_, rfl, hj⟩⟩
    · exact ⟨he, .inr ⟨_, trivial, hj⟩⟩
end Go.Proofs.Y

/- HLR: the decompiler's soundness within a round of a range over a function. -/
namespace Go.HL
open Go

section
variable {P : Program} {N n m l : Nat} {D : List Deferred} {QP : List PanicEntry → World → Prop}

abbrev inR (l : Nat) : Fence := Fence.wide.inRound l

/-- no deferred call, no loop, no label among them -/
def plainC : Code → Bool
  | .region _ ops draw => !draw && ops.all fun o => match o.op with | .defer _ => false | _ => true
  | .seq a b => plainC a && plainC b
  | .cond _ a b => plainC a && plainC b
  | .block _ c => plainC c
  | .skip | .exit _ | .ret | .label _ => true
  | _ => false

theorem wp_In {o : Oper} (hnd : ∀ c, o.op ≠ .defer c) {a : Act} {w : World} {K : Act → World → Prop} {Q : Exit → Act → World → Prop} (h : o.wp P a w K Q) : o.wpIn (inR l) m P a w K Q := by
  refine ⟨fun _ _ => trivial, ?_⟩
  rw [Oper.semAt_eq _ _ _ hnd]
  unfold Oper.wp at h
  generalize (execOp a.eval o).run P w = r at *
  cases r with
  | ok x w' =>
    cases x <;> simp only [Oper.upon] at h <;> simp only [Oper.uponIn]
    case value v => exact h
    case skip => exact h
    case defer d => exact h
    case enter f args => exact ⟨fun hh => by simp [Fence.wide] at hh, CallsIn.inRound l (callsIn_wide.2 h)⟩
    case row row args =>
      exact ⟨fun hh => by simp [Fence.wide] at hh, fun c cs _ => let ⟨v, w', r, s⟩ := h c cs; ⟨v, w', r, stepsIn_wide.2 s⟩⟩
  | halt x w' => cases x <;> simp only [Oper.upon] at h <;> simp only [Oper.uponIn] <;> exact h

theorem stepC_opIn {ops : Array Oper} (hnd : ∀ (i : Nat) (o : Oper), ops[i]? = some o → ∀ c, o.op ≠ .defer c) {Q : Exit → Act → World → Prop} {i : Nat} {K K' : Act → World → Prop} {a : Act} {w : World} (h : ∀ a w, K a w → K' a w) (hh : stepC P ops Q i [] K a w) : wpOpIn (inR l) m P ops Q i K' a w := by
  unfold stepC at hh
  unfold wpOpIn
  cases ho : ops[i]? with
  | none => simp [ho] at hh
  | some o =>
    simp only [ho] at hh ⊢
    split at hh
    · rename_i hw; rw [if_pos hw]
      refine wp_In (hnd i o ho) ?_
      cases hq : resolve P o.op with
      | some q =>
        simp only [hq] at hh
        have hr := resolve_sound (P := P) (ρ := a.eval) (w := w) hq hh.1
        simp only [Oper.wp, hr, Oper.upon]; exact h _ _ hh.2
      | none =>
        simp only [hq] at hh
        exact Oper.wp_mono (fun a w hx => h _ _ hx.2) hh
    · rename_i hw; rw [if_neg hw]; exact ⟨fun _ _ => trivial, h _ _ hh⟩

theorem wpC_opsIn {ops : Array Oper} (hnd : ∀ (i : Nat) (o : Oper), ops[i]? = some o → ∀ c, o.op ≠ .defer c) {Q : Exit → Act → World → Prop} {K : Act → World → Prop} (hK : ∀ a w, K a w → Q .normal a w) : ∀ (r : List Nat) (a : Act) (w : World),
    wpC P ops Q K (r.map fun i => (i, [])) a w → wpOpsIn (inR l) m P ops Q r a w
  | [], a, w, h => hK _ _ h
  | i :: r, a, w, h => by
    rw [wpOpsIn_cons]
    exact stepC_opIn hnd (fun a w hx => wpC_opsIn hnd hK r a w hx) h

theorem dcode_soundIn : ∀ (c : Code) (h : HC), dcode P N n [] c = some h → plainC c = true → ∀ (Q : HX → Env → World → Prop) (σ : Env) (a : Act) (w : World),
    RelN N n D a σ → hw P QP h Q σ w → c.wpIn (inR l) m P (lift N n D QP Q) a w := by
  intro c
  induction c with
  | skip => intro h hd _ Q σ a w R H; simp only [dcode, Option.some.injEq] at hd; subst hd; exact wpIn_skip ⟨σ, R, H⟩
  | region id ops draw =>
    intro h hd hpl Q σ a w R H
    have R0 : ∀ w, Rel P ops N n D ⟨[], []⟩ a σ w := fun w => ⟨R.size, R.defers, R.slot, by simp, by simp⟩
    have nd : nodupR ([] : List Rd) := by intro r hr; cases hr
    simp only [plainC, Bool.and_eq_true] at hpl
    obtain ⟨hdraw, hops⟩ := hpl
    have hdraw : draw = false := by simpa using hdraw
    subst hdraw
    have hnd : ∀ (i : Nat) (o : Oper), ops[i]? = some o → ∀ c, o.op ≠ .defer c := by
      intro i o ho c he
      have := (Array.all_eq_true.1 hops) i (Array.getElem?_eq_some_iff.1 ho).1
      rw [(Array.getElem?_eq_some_iff.1 ho).2, he] at this
      cases this
    simp only [dcode, Bool.false_eq_true, if_false, Option.map_eq_some_iff] at hd
    obtain ⟨l', hl, rfl⟩ := hd
    refine wpIn_region (wpC_opsIn hnd (K := lift N n D QP Q .normal) (fun a w hx => hx) _ a w ?_)
    exact dlist_sound (QP := QP) (K := Q .normal) (fun c a w h1 h2 => ⟨h1, h2⟩) (fun a' σ' w' h1 h2 h3 h4 => ⟨σ', ⟨h1, h2, h3⟩, h4⟩) _ ⟨[], []⟩ a σ _ l' (R0 _) nd hl H
  | seq x y ihx ihy =>
    intro h hd hpl Q σ a w R H
    simp only [plainC, Bool.and_eq_true] at hpl
    simp only [dcode] at hd
    cases hx : dcode P N n [] x <;> cases hy : dcode P N n [] y <;> simp only [hx, hy, Option.some.injEq, reduceCtorEq] at hd
    rename_i a' b'
    subst hd
    refine wpIn_seq (wpIn_mono (ihx _ hx hpl.1 (seqX (hw P QP b' Q) Q) σ a w R H) (fun e a w hq => ?_))
    cases e with
    | normal => obtain ⟨σ', r, q⟩ := hq; exact ihy _ hy hpl.2 Q σ' a w r q
    | exit id => exact hq
    | ret => exact hq
    | panic c => exact hq
    | goto l => exact hq
    | outgrown => exact hq
  | cond c x y ihx ihy =>
    intro h hd hpl Q σ a w R H
    simp only [plainC, Bool.and_eq_true] at hpl
    simp only [dcode] at hd
    cases hc : exO N [] [] c <;> cases hx : dcode P N n [] x <;> cases hy : dcode P N n [] y <;> simp only [hc, hx, hy, Option.some.injEq, reduceCtorEq] at hd
    rename_i c' a' b'
    subst hd
    obtain ⟨t, ht, h1, h2⟩ := H
    have R0 : Rel P #[] N n D ⟨[], []⟩ a σ w := ⟨R.size, R.defers, R.slot, by simp, by simp⟩
    have hv : a.eval c = .bool t := by rw [exO_sound R0 (gs := []) (by simp) hc, ht]
    cases t with
    | true => exact wpIn_cond_true hv (ihx _ hx hpl.1 Q σ a w R (h1 rfl))
    | false => exact wpIn_cond_false hv (ihy _ hy hpl.2 Q σ a w R (h2 rfl))
  | block id c ih =>
    intro h hd hpl Q σ a w R H
    simp only [plainC] at hpl
    simp only [dcode, Option.map_eq_some_iff] at hd
    obtain ⟨c', hc, rfl⟩ := hd
    refine wpIn_block (wpIn_mono (ih _ hc hpl (blockX id Q) σ a w R H) (fun e a w hq => ?_))
    cases e with
    | normal => exact hq
    | exit i =>
      simp only [Exit.inBlock]
      obtain ⟨σ', r, q⟩ := hq
      simp only [blockX] at q
      split
      · rename_i he; rw [if_pos he] at q; exact ⟨σ', r, q⟩
      · rename_i he; rw [if_neg he] at q; exact ⟨σ', r, q⟩
    | ret => exact hq
    | panic c => exact hq
    | goto l => exact hq
    | outgrown => exact hq
  | exit id => intro h hd _ Q σ a w R H; simp only [dcode, Option.some.injEq] at hd; subst hd; exact wpIn_exit ⟨σ, R, H⟩
  | label l => intro h hd _ Q σ a w R H; simp only [dcode, Option.some.injEq] at hd; subst hd; exact wpIn_label ⟨σ, R, H⟩
  | ret => intro h hd _ Q σ a w R H; simp only [dcode, Option.some.injEq] at hd; subst hd; exact wpIn_ret ⟨σ, R, H⟩
  | _ => intro h hd hpl; simp [plainC] at hpl
end
end Go.HL
