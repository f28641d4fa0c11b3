/- TJ: thread: study: the heads are sorted; the whole. -/
import Derived.Test.YthenjelndjlnfaaTYI
import Derived.Test.YthenjelndjlnfaaTCode
set_option linter.unusedSimpArgs false
set_option linter.unusedVariables false
set_option maxRecDepth 100000
namespace Go.Proofs.Y
open Go Go.HL Go.Proofs

def dateAt (its : List It) (i : Nat) : Int := match its[i]? with | some x => x.date | none => 0
theorem dateAt_at {its : List It} {i : Nat} (h : i < its.length) : dateAt its i = its[i].date := by
  unfold dateAt; rw [List.getElem?_eq_getElem h]
def befI (its : List It) (x y : Nat) : Bool := bef (dateAt its x) (idAt its x) (dateAt its y) (idAt its y)
theorem bef_irr (d : Int) (a : Bytes) : bef d a d a = false := by unfold bef; simp [bl_irr]
theorem bef_tr {d1 d2 d3 : Int} {a1 a2 a3 : Bytes} (h : bef d1 a1 d2 a2 = true) (k : bef d2 a2 d3 a3 = true) : bef d1 a1 d3 a3 = true := by
  unfold bef at h k ⊢
  simp only [Bool.or_eq_true, decide_eq_true_eq, Bool.and_eq_true] at h k ⊢
  rcases h with h | ⟨h1, h2⟩ <;> rcases k with k | ⟨k1, k2⟩
  · left; omega
  · left; omega
  · left; omega
  · right; exact ⟨by omega, bl_tr h2 k2⟩
theorem bef_tri {d1 d2 : Int} {a1 a2 : Bytes} (h : bef d1 a1 d2 a2 = false) (k : bef d2 a2 d1 a1 = false) : d1 = d2 ∧ a1 = a2 := by
  unfold bef at h k
  simp only [Bool.or_eq_false_iff, decide_eq_false_iff_not, Bool.and_eq_false_iff] at h k
  have hd : d1 = d2 := by omega
  subst hd
  refine ⟨rfl, bl_tri ?_ ?_⟩
  · rcases h.2 with h | h
    · exact absurd rfl h
    · exact h
  · rcases k.2 with h | h
    · exact absurd rfl h
    · exact h
theorem bef_ntr {d1 d2 d3 : Int} {a1 a2 a3 : Bytes} (h : bef d1 a1 d2 a2 = false) (k : bef d2 a2 d3 a3 = false) : bef d1 a1 d3 a3 = false := by
  cases h13 : bef d1 a1 d3 a3
  · rfl
  · cases h31 : bef d3 a3 d2 a2
    · obtain ⟨rfl, rfl⟩ := bef_tri k h31
      rw [h] at h13; cases h13
    · have := bef_tr h13 h31
      rw [h] at this; cases this
/-- a comparison by date and id is an order -/
theorem swo_bef {α : Type} (dt : α → Int) (id : α → Bytes) : Sort.SWO (ltc fun x y => befC (dt x) (id x) (dt y) (id y)) := by
  have e : ∀ x y, ltc (fun x y => befC (dt x) (id x) (dt y) (id y)) x y = bef (dt x) (id x) (dt y) (id y) := fun x y => befC_lt _ _ _ _
  refine ⟨fun x => by rw [e]; exact bef_irr _ _, fun x y z h k => ?_, fun x y z h k => ?_⟩
  · rw [e] at h k ⊢; exact bef_tr h k
  · rw [e] at h k ⊢; exact bef_ntr h k

section
variable {B : Nat} {w w' : World} {va : Option Addr} {vc : Nat} {its : List It} {rvs : List Value} {fb ib nb bb hb b0 : Nat} {ks : List (Bytes × Value)} {ne : List Int} {br : List Bool} {hs : List (Bytes × Value)} {F : Bytes → List Nat}
  {next : Value → World → Prop} {QP : List PanicEntry → World → Prop}
/-- the closure that compares two items by their numbers -/
theorem closure39_ (hK : Kp B w (.slice va its.length vc) its rvs) (hb0 : Blk w b0 22 [.slice va its.length vc]) {x y : Nat} (hx : x < its.length) (hy : y < its.length) (hn : its.length ≤ 1000000)
    (k : ∀ w', Mod none' w w' → next (.int .i64 (befC (dateAt its x) (idAt its x) (dateAt its y) (idAt its y))) w') : callvK Try.prog (.func (.func 39) #[] #[ptr b0]) [.int .i64 x, .int .i64 y] w next QP := by
  refine callv (first := []) (caps := [ptr b0]) c39 (q39 rfl ?_)
  simp only [List.nil_append, List.append_nil, List.cons_append]
  obtain ⟨g, o, rfl⟩ := hK.i.addr (by omega)
  obtain ⟨rx, -, ax⟩ := hK.i.at hx
  obtain ⟨ry, -, ay⟩ := hK.i.at hy
  have c0 := hb0.cell 0
  simp only [List.getElem?_cons_zero] at c0
  have x1 := ax.ln
  have x2 := ax.sm
  have y1 := ay.ln
  have y2 := ay.sm
  unfold h39
  try simp only [go_sem, c0, x1, x2, y1, y2]
  repeat refine ⟨⟨by omega, by omega⟩, ?_⟩
  refine before_ its[x] its[y] rx ry ?_
  intro w1 m1
  try simp only [go_sem]
  rw [idAt_at hx, idAt_at hy, dateAt_at hx, dateAt_at hy] at k
  exact k w1 ((Mod.drew none' w).trans' m1)

theorem fins {n : Nat} : ∀ {l : List Nat}, (∀ x ∈ l, x < n) → ∃ l' : List (Fin n), l'.map (fun x => x.val) = l
  | [], _ => ⟨[], rfl⟩
  | x :: l, h => by
    obtain ⟨l', hl'⟩ := fins (l := l) fun y hy => h y (by simp [hy])
    exact ⟨⟨x, h x (by simp)⟩ :: l', by simp [hl']⟩
theorem headsN_lt {n : Nat} {b : Bytes} : ∀ x ∈ headsN its n b, x < n := by
  intro x hx
  unfold headsN at hx
  simpa using (List.mem_filter.1 hx).1
def SortedN (its : List It) (l : List Nat) : Prop := l.Pairwise fun x y => befI its y x = false
def SrtAt (w : World) (its : List It) (p : Bytes × Value) : Prop := ∃ l : List Nat, l.Perm (headsN its its.length p.1) ∧ HL.Own w p.2 3 1 l.length (ints l) ∧ SortedN its l
theorem SrtAt.mod {S : Nat → Prop} {p : Bytes × Value} (h : SrtAt w its p) (m : Mod S w w') (hS : ∀ k, p.2.ownBlock = some k → ¬ S k) : SrtAt w' its p := by
  obtain ⟨l, h1, h2, h3⟩ := h
  exact ⟨l, h1, h2.mod m hS, h3⟩

/-- one list of heads is sorted -/
theorem sort1_ {p : Bytes × Value} (hF : FoT B w va vc its rvs fb ib nb bb hb ks ne br hs (headsN its its.length)) (bx : Blk w b0 22 [.slice va its.length vc]) (hb0 : b0 < B) (hp : p ∈ hs) (hn : its.length ≤ 1000000)
    (k : ∀ g w', p.2.ownBlock = some g → FoT B w' va vc its rvs fb ib nb bb hb ks ne br hs (headsN its its.length) → SrtAt w' its p → Mod (fun k => k = g) w w' → next (.tuple #[]) w') : callvK Try.prog (.func (.func 38) #[] #[]) [p.2, .func (.func 39) #[] #[ptr b0]] w next QP := by
  obtain ⟨l, hl, hlpos, own⟩ := hF.hm.val p hp
  have hlt : ∀ x ∈ l, x < its.length := fun x hx => headsN_lt x (hl.mem_iff.1 hx)
  obtain ⟨l', hl'⟩ := fins hlt
  have hll : l'.length = l.length := by rw [← hl']; simp
  haveI : Inhabited (Fin its.length) := ⟨l'[0]'(by omega)⟩
  rcases own.2 with ⟨-, h0⟩ | ⟨g, cap, cur, fz, hpv, -, -, -, -, -, -⟩
  · omega
  rw [hpv] at own ⊢
  have hgB := hF.hm.fresh p hp g (by rw [hpv]; rfl)
  have hgF := hF.own p hp g (by rw [hpv]; rfl)
  have hgl : g < w.heap.size := own.lt g rfl
  have hrows : rows (fun k : Nat => [Value.int .i64 k]) l = rows (fun x : Fin its.length => [(fun x : Fin its.length => Value.int .i64 (x.val : Int)) x]) l' := by
    rw [ints_rows, ← hl', rows_one]; simp [ints, Function.comp_def]
  have hD : Dt (fun x : Fin its.length => [(fun x : Fin its.length => Value.int .i64 (x.val : Int)) x]) 3 1 w g l.length cap l'.toArray := ⟨by simp [hll], by rw [← hrows]; exact own⟩
  have hlen : l.length ≤ 1000000 := by
    rw [hl.length_eq]
    unfold headsN
    exact Nat.le_trans (List.length_filter_le _ _) (by simp; omega)
  have C : Cmp Try.prog (.func (.func 39) #[] #[ptr b0]) (fun x : Fin its.length => Value.int .i64 (x.val : Int)) (fun x y => befC (dateAt its x.val) (idAt its x.val) (dateAt its y.val) (idAt its y.val)) g w.heap.size
      (fun u => Kp B u (.slice va its.length vc) its rvs ∧ Blk u b0 22 [.slice va its.length vc] ∧ w.heap.size ≤ u.heap.size) := by
    refine ⟨fun u x y nx QP' ⟨h1, h2, h3⟩ hk => closure39_ h1 h2 x.isLt y.isLt hn hk, fun u u' ⟨h1, h2, h3⟩ m => ⟨h1.mod m fun j hj => ?_, h2.mod m fun hj => ?_, Nat.le_trans h3 m.size⟩, fun u h => h.2.2, hgl⟩
    · have := hF.kp.base
      rcases hj with h | h <;> omega
    · have := hF.kp.base
      rcases hj with h | h <;> omega
  refine isort_ hD (fun _ => rfl) (swo_bef (fun x : Fin its.length => dateAt its x.val) fun x => idAt its x.val) C ⟨hF.kp, bx, Nat.le_refl _⟩ (by omega) ?_
  intro w1 d1 hD1 hp1 hs1 m1
  have hl1 : (d1.toList.map fun x => x.val).Perm l := by
    rw [← hl']
    exact hp1.map _
  have own1 : HL.Own w1 p.2 3 1 (d1.toList.map fun x => x.val).length (ints (d1.toList.map fun x => x.val)) := by
    have := hD1.own
    rw [rows_one] at this
    rw [hpv, hl1.length_eq]
    have e : ints (d1.toList.map fun x => x.val) = d1.toList.map fun x : Fin its.length => Value.int .i64 (x.val : Int) := by simp [ints, Function.comp_def]
    rw [e]; exact this
  have hso : SortedN its (d1.toList.map fun x => x.val) := by
    unfold SortedN
    rw [List.pairwise_map]
    refine hs1.imp fun {a b} h => ?_
    have e : ltc (fun x y : Fin its.length => befC (dateAt its x.val) (idAt its x.val) (dateAt its y.val) (idAt its y.val)) b a = befI its b.val a.val := befC_lt _ _ _ _
    rw [← e]; exact h
  have hgn : ∀ j ∈ [fb, ib, nb, bb, hb], ¬ j = g := fun j hj e => hgF (e ▸ hj)
  refine k g w1 (by rw [hpv]; rfl) ⟨hF.kp.mod m1 fun j hj => by have hj : j = g := hj; omega, hF.f.mod m1 (hgn _ (by simp)), hF.ix.mod m1 (hgn _ (by simp)), hF.nev.mod m1 (hgn _ (by simp)), hF.brv.mod m1 (hgn _ (by simp)),
    ⟨hF.hm.mp.mod m1 (hgn _ (by simp)), hF.hm.keys, fun q hq => ?_, hF.hm.emp, hF.hm.fresh, hF.hm.sep⟩, hF.lne, hF.lbr, hF.diff, hF.high, hF.own⟩ ⟨_, hl1.trans hl, own1, hso⟩ m1
  by_cases e : p.1 = q.1
  · have h1 := mem_get hF.hm.keys hp
    have h2 := mem_get hF.hm.keys hq
    rw [← e, h1] at h2
    have h2 := Option.some.inj h2
    refine ⟨d1.toList.map fun x => x.val, by rw [← e]; exact hl1.trans hl, by rw [hl1.length_eq]; exact hlpos, ?_⟩
    rw [← h2, ints_rows]; exact own1
  · obtain ⟨lq, q1, q2, q3⟩ := hF.hm.val q hq
    exact ⟨lq, q1, q2, q3.mod m1 fun j hj hk => hF.hm.sep p hp q hq e g (by rw [hpv]; rfl) (by have hk : j = g := hk; rw [← hk]; exact hj)⟩

theorem lp3_ {τ : Env} {Q : HX → Env → World → Prop} {r : Nat} (hF : FoT B w va vc its rvs fb ib nb bb hb ks ne br hs (headsN its its.length)) (bx : Blk w b0 22 [.slice va its.length vc]) (hb0 : b0 < B) (hn : its.length ≤ 1000000)
    (hr : MI w r hb hs hs none) (hrF : B ≤ r ∧ r ∉ [fb, ib, nb, bb, hb] ∧ ∀ p ∈ hs, p.2.ownBlock ≠ some r)
    (t1 : τ 1 = ptr b0) (t3 : τ 3 = ptr fb) (t111 : τ 111 = ptr r)
    (k : ∀ σ w', FoT B w' va vc its rvs fb ib nb bb hb ks ne br hs (headsN its its.length) → (∀ p ∈ hs, SrtAt w' its p) → σ 3 = ptr fb → Mod (fun k => B ≤ k) w w' → Q (.exit 6) σ w') : hloop (hw Try.prog noPanic h27_63) Q τ w := by
  refine ⟨fun m τ w' => ∃ rem done cur, rem.length = m ∧ τ 1 = ptr b0 ∧ τ 3 = ptr fb ∧ τ 111 = ptr r ∧ MI w' r hb hs rem cur ∧ hs.Perm (done ++ rem) ∧ (∀ p ∈ done, SrtAt w' its p) ∧ FoT B w' va vc its rvs fb ib nb bb hb ks ne br hs (headsN its its.length) ∧ Blk w' b0 22 [.slice va its.length vc] ∧ Mod (fun k => B ≤ k) w w', hs.length, ⟨hs, [], none, rfl, t1, t3, t111, hr, by simp, by simp, hF, bx, Mod.refl _ _⟩, ?_⟩
  rintro m τ w1 ⟨rem, done, cur, rfl, t1, t3, t111, hm1, hper, hdone, hF1, bx1, m1⟩
  unfold h27_63
  try simp only [go_sem, t1, t3, t111]
  refine nextm_ hm1 (fun h0 => ?_) ?_
  · subst h0
    try simp only [go_sem]
    rw [List.append_nil] at hper
    exact k _ w1 hF1 (fun p hp => hdone p (hper.mem_iff.1 hp)) t3 m1
  · intro x rem' w2 hpr hm2 m2 s2
    try simp only [go_sem]
    unfold h27_64
    try simp only [go_sem, t1, t3, t111]
    refine entry_ hm2 ?_
    have hF2 := hF1.mod m2 fun j hj => by
      have hj : j = r := hj
      subst hj; exact hrF
    have bx2 := bx1.mod m2 (fun h => by have h : b0 = r := h; omega)
    have hx : x ∈ hs := hper.mem_iff.2 (List.mem_append.2 (.inr (hpr.mem_iff.2 (by simp))))
    try simp only [go_sem, t1, t3, t111]
    refine sort1_ hF2 bx2 hb0 hx hn ?_
    intro g w3 hg hF3 hs3 m3
    have hgr : g ≠ r := fun e => hrF.2.2 x hx (e ▸ hg)
    have hgB := hF.hm.fresh x hx g hg
    have hm3 := hm2.mod m3 (fun e => hgr e.symm) (fun e => hgB.2 e.symm)
    have bx3 := bx2.mod m3 (fun h => by have h : b0 = g := h; omega)
    have mm : Mod (fun k => B ≤ k) w w3 := (m1.trans' (m2.mono fun j _ hj => by have hj : j = r := hj; omega)).trans' (m3.mono fun j _ hj => by have hj : j = g := hj; omega)
    have hper3 : hs.Perm ((x :: done) ++ rem') := by
      refine hper.trans (((List.Perm.refl done).append hpr).trans ?_)
      exact List.perm_middle
    have hdone3 : ∀ p ∈ x :: done, SrtAt w3 its p := by
      intro p hp
      rcases List.mem_cons.1 hp with rfl | hp
      · exact hs3
      · refine ((hdone p hp).mod m2 fun j hj e => ?_).mod m3 fun j hj e => ?_
        · have e : j = r := e
          exact hrF.2.2 p (hper.mem_iff.2 (List.mem_append.2 (.inl hp))) (e ▸ hj)
        · have e : j = g := e
          subst e
          by_cases hpx : x.1 = p.1
          · -- the same key comes once
            have hk := (hper3.map (·.1)).nodup_iff.1 hF.hm.keys
            simp only [List.cons_append, List.map_cons, List.nodup_cons, List.map_append] at hk
            exact hk.1 (List.mem_append.2 (.inl (List.mem_map.2 ⟨p, hp, hpx.symm⟩)))
          · exact hF.hm.sep x hx p (hper.mem_iff.2 (List.mem_append.2 (.inl hp))) hpx j hg hj
    have hlen : rem'.length < rem.length := by rw [hpr.length_eq]; simp
    try simp only [go_sem, t1, t3, t111]
    refine ⟨rem'.length, hlen, rem', x :: done, some x, ?_⟩
    (repeat' first | assumption | rfl | omega | apply And.intro)
end
end Go.Proofs.Y

/- TK: thread: study, whole; parents. -/
namespace Go.Proofs.Y
open Go Go.HL Go.Proofs

/-- what study gives: known of the items -/
structure St (w : World) (va : Option Addr) (vc : Nat) (its : List It) (rvs : List Value) (fb : Nat) : Prop where
  ex : ∃ B ib nb bb hb ks ne br hs, FoT B w va vc its rvs fb ib nb bb hb ks ne br hs (headsN its its.length) ∧ idxOK its ks ∧ (∀ x, x < its.length → ne[x]? = some (oi (nearI its x))) ∧ (∀ x, x < its.length → br[x]? = some (brkI its x)) ∧ ∀ p ∈ hs, SrtAt w its p
section
variable {B : Nat} {w w' : World} {va : Option Addr} {vc : Nat} {its : List It} {rvs : List Value} {fb ib nb bb hb b0 : Nat} {ks : List (Bytes × Value)} {ne : List Int} {br : List Bool} {hs : List (Bytes × Value)} {F : Bytes → List Nat}
  {next : Value → World → Prop} {QP : List PanicEntry → World → Prop}
theorem St.up (h : St w va vc its rvs fb) (m : Mod none' w w') : St w' va vc its rvs fb := by
  obtain ⟨B, ib, nb, bb, hb, ks, ne, br, hs, h1, h2, h3, h4, h5⟩ := h.ex
  exact ⟨B, ib, nb, bb, hb, ks, ne, br, hs, h1.up m, h2, h3, h4, fun p hp => (h5 p hp).mod m fun _ _ h => h⟩
theorem St.items (h : St w va vc its rvs fb) : Its w (.slice va its.length vc) its rvs := by
  obtain ⟨B, ib, nb, bb, hb, ks, ne, br, hs, h1, h2, h3, h4, h5⟩ := h.ex
  exact h1.kp.i

theorem study_ (hd : dist its) (hK : Its w (.slice va its.length vc) its rvs) (hz : szI its) (hn : its.length ≤ 1000000)
    (k : ∀ fb w', St w' va vc its rvs fb → Mod none' w w' → next (ptr fb) w') : callvK Try.prog (.func (.func 27) #[] #[]) [.slice va its.length vc] w next QP := by
  refine r27 rfl ?_
  unfold h27
  try simp only [go_sem]
  refine box_ (cs := [.slice va its.length vc]) rfl ?_
  intro b0 w1 hb0 bk0 m1 s1
  have c0 := bk0.cell 0
  simp only [List.getElem?_cons_zero] at c0
  try simp only [go_sem, c0]
  have hK1 : Kp w1.heap.size w1 (.slice va its.length vc) its rvs := (Kp.of hK |>.up m1).rebase
  have hb0' : b0 < w1.heap.size := by omega
  refine tree27_ hn bk0 rfl rfl rfl rfl ?_
  intro σ w2 ib nb bb hb fb t1 t3 m2 bx2 f2 i2 n2 b2 h2 hnd hge
  have hF2 : FoT w1.heap.size w2 va vc its rvs fb ib nb bb hb [] (List.replicate its.length 0) (List.replicate its.length false) [] (headsN its 0) :=
    ⟨hK1.up m2, f2, i2, by simpa using n2, by simpa using b2, HM.nil h2, by simp, by simp, hnd, hge, fun p hp => by cases hp⟩
  have d1 := bx2.cell 0
  simp only [List.getElem?_cons_zero] at d1
  unfold h27_47
  try simp only [go_sem, t1, t3, d1]
  refine lp1_ hd hF2 bx2 hb0' hn t1 t3 rfl rfl rfl ?_
  intro σ w3 ks3 hix hF3 bx3 t1 t3 m3
  have d1 := bx3.cell 0
  simp only [List.getElem?_cons_zero] at d1
  try simp only [go_sem]
  unfold h27_51
  try simp only [go_sem, t1, t3, d1]
  refine lp2_ hF3 bx3 hb0' hix hz hn t1 t3 rfl rfl rfl ?_
  intro σ w4 ne4 hs4 hne hF4 bx4 t1 t3 m4
  have f4 := hF4.f.cell 4
  simp only [List.getElem?_cons_zero, List.getElem?_cons_succ] at f4
  try simp only [go_sem]
  unfold h27_62
  try simp only [go_sem, t1, t3, f4]
  refine rangem_ u62 hF4.hm.mp ?_
  intro r w5 hr mi5 m5 s5
  have hF5 := hF4.up m5
  have hrF := hF4.later (k := r) (by omega)
  try simp only [go_sem, t1, t3]
  refine lp3_ hF5 (bx4.mod m5 fun h => h) hb0' hn mi5 hrF t1 t3 rfl ?_
  intro σ w6 hF6 hs6 t3 m6
  try simp only [go_sem]
  unfold h27_65
  try simp only [go_sem, t3]
  refine circles_ hd hF6 hne hn ?_
  intro br7 w7 hbr hF7 m7
  try simp only [go_sem, t3]
  refine k fb w7 ⟨_, ib, nb, bb, hb, ks3, ne4, br7, hs4, hF7, hix, hne, hbr, fun p hp => (hs6 p hp).mod m7 fun j hj e => ?_⟩ ?_
  · have e : j = bb := e
    exact hF6.own p hp j hj (by simp [e])
  · have hbb := hF2.high bb (by simp)
    refine m1.trans ((((m2.up (S := fun k => w1.heap.size ≤ k)).trans' m3).trans' m4).trans' m5.up |>.trans' m6 |>.trans' (m7.mono fun j _ e => by
      have e : j = bb := e
      omega)) fun j hj hk => ?_
    have hk : w1.heap.size ≤ j := hk
    omega

/-! ### parents -/
/-- the first of the heads that an item answers -/
def ansB (its : List It) (x : It) (y : Nat) : Bool := decide (dateAt its y ≤ x.date)
def parB (its : List It) (l : List Nat) (i : Nat) : Option Nat × Bytes :=
  match its[i]? with
  | none => (none, [])
  | some x =>
    if brkI its i = true then (none, [])
    else match nearI its i with
      | some k => (some k, [])
      | none => if 0 < x.rf.length then (none, x.rf.getLast?.getD []) else if x.reply = false ∨ x.base = [] then (none, []) else (l.find? (ansB its x), [])
def parV (p : Option Nat × Bytes) : Value := .tuple #[.int .i64 (oi p.1), str p.2]

theorem h28_5_ {τ : Env} (k : next (parV (none, [])) w) : hw Try.prog noPanic h28_5 (endV [.tmp 4, .tmp 5] next) τ w := by
  unfold h28_5
  try simp only [go_sem]
  exact k
theorem parent_ {i : Nat} (hS : St w va vc its rvs fb) (hi : i < its.length) (hz : szI its) (hn : its.length ≤ 1000000)
    (k : ∀ l w', l.Perm (headsN its its.length (lowerB its[i].base)) → SortedN its l → Mod none' w w' → next (parV (parB its l i)) w') : callvK Try.prog (.func (.func 28) #[] #[]) [ptr fb, .int .i64 i] w next QP := by
  refine r28 rfl ?_
  obtain ⟨B, ib, nb, bb, hb, ks, ne, br, hs, hF, hix, hne, hbr, hsr⟩ := hS.ex
  obtain ⟨z1, z2⟩ := hz _ (List.getElem_mem hi)
  obtain ⟨g, o, rfl⟩ := hF.kp.i.addr (by omega)
  obtain ⟨rv, hrv, ax⟩ := hF.kp.i.at hi
  have x1 := ax.ln
  have x2 := ax.sm
  have f0 := hF.f.cell 0
  simp only [List.getElem?_cons_zero] at f0
  unfold h28
  try simp only [go_sem, f0, x1, x2]
  repeat refine ⟨⟨by omega, by omega⟩, ?_⟩
  refine alloc_ (cs := [str [], .int .i64 0, .slice none 0 0, str [], .bool false]) z34 rfl ?_
  intro b6 w2 hb6 bk2 m2 s2
  try simp only [go_sem]
  refine storeN (vs := its[i].cells rv) sz34 rfl bk2 (by simp) (by intro u hu; simp [It.cells] at hu; rcases hu with rfl | rfl | rfl | rfl | rfl <;> first | rfl | (obtain ⟨a, c, e, -⟩ := hrv.form; rw [e]; rfl)) ?_
  intro w3 bk3 m3 s3
  have m03 : Mod none' w w3 := m2.trans m3 fun x hx e => by
    have e : x = b6 := e
    omega
  have bk3 : Blk w3 b6 34 (its[i].cells rv) := by simpa [It.cells] using bk3
  have a3 := ItAt.blk bk3
  have y1 := a3.ln
  have y2 := a3.sm0
  try simp only [go_sem, y1, y2]
  refine refs_ (hrv.mod m03 fun _ _ h => h) (by omega) ?_
  intro v4 w4 sl4 hf4 m4
  obtain ⟨ra, rc, rfl, -, hcell⟩ := sl4.form
  have m04 := m03.trans' m4
  have hF4 := hF.up m04
  have a4 := ItAt.blk (bk3.mod m4 fun h => h)
  have q1 := a4.c1
  have q3 := a4.c3
  have q4 := a4.c4
  have f0 := hF4.f.cell 0
  have f2 := hF4.f.cell 2
  have f3 := hF4.f.cell 3
  have f4 := hF4.f.cell 4
  simp only [List.getElem?_cons_zero, List.getElem?_cons_succ] at f0 f2 f3 f4
  have e3 : w4.cell? ⟨bb, i, none⟩ = some (.bool (brkI its i)) := by rw [hF4.brv.cell, List.getElem?_map, hbr i hi]; rfl
  have e2 : w4.cell? ⟨nb, i, none⟩ = some (.int .i64 (oi (nearI its i))) := by rw [hF4.nev.cell, List.getElem?_map, hne i hi]; rfl
  have hgi : its[i]? = some its[i] := List.getElem?_eq_getElem hi
  -- any list will do where none is asked for
  obtain ⟨l0, hl0, hs0⟩ : ∃ l : List Nat, l.Perm (headsN its its.length (lowerB its[i].base)) ∧ SortedN its l := by
    cases hg : getM (lowerB its[i].base) hs with
    | none => exact ⟨[], by rw [hF.hm.emp _ hg], List.Pairwise.nil⟩
    | some u =>
      obtain ⟨l, h1, h2, h3⟩ := hsr _ (getM_mem hg)
      exact ⟨l, h1, h3⟩
  try simp only [go_sem, f3, e3]
  repeat refine ⟨⟨by omega, by omega⟩, ?_⟩
  cases hbk : brkI its i with
  | true =>
    have := k l0 w4 hl0 hs0 m04
    unfold parB at this
    rw [hgi] at this
    simp only [hbk, if_true] at this
    try simp only [go_sem]
    exact this
  | false =>
    try simp only [go_sem, f2, e2]
    repeat refine ⟨⟨by omega, by omega⟩, ?_⟩
    cases hne' : nearI its i with
    | some q =>
      have := k l0 w4 hl0 hs0 m04
      unfold parB at this
      rw [hgi] at this
      simp only [hbk, hne', Bool.false_eq_true, if_false] at this
      have eg : decide ((0 : Int) ≤ oi (some q)) = true := by simp [oi]
      try simp only [go_sem, eg, f2, e2, hne']
      repeat refine ⟨⟨by omega, by omega⟩, ?_⟩
      exact this
    | none =>
      have eg : decide ((0 : Int) ≤ oi none) = false := rfl
      try simp only [go_sem, eg]
      by_cases hl : 0 < its[i].rf.length
      · have eg2 : decide ((0 : Int) < (its[i].rf.length : Int)) = true := by simpa using hl
        have hx : its[i].rf.length ≤ 1000000 := by
          have := List.length_filter_le (fun r => !delB its[i] r) its[i].refs
          unfold It.rf
          omega
        have ew : IntKind.i64.wrap ((its[i].rf.length : Int) - 1) = ((its[i].rf.length - 1 : Nat) : Int) := by rw [w64 (by omega) (by omega)]; omega
        obtain ⟨g', o', rfl, hce⟩ := hcell hl
        have hc : w4.cell? ⟨g', o' + (its[i].rf.length - 1), none⟩ = some (str (its[i].rf.getLast?.getD [])) := by
          rw [hce _ (by omega), List.getElem?_map, List.getLast?_eq_getElem?, List.getElem?_eq_getElem (by omega)]; rfl
        have := k l0 w4.drew hl0 hs0 (m04.trans' (Mod.drew _ _))
        unfold parB at this
        rw [hgi] at this
        simp only [hbk, hne', Bool.false_eq_true, if_false, if_pos hl] at this
        try simp only [go_sem, eg2, ew, hc]
        repeat refine ⟨⟨by omega, by omega⟩, ?_⟩
        exact this
      · have eg2 : decide ((0 : Int) < (its[i].rf.length : Int)) = false := by simpa using hl
        try simp only [go_sem, eg2, q3, q4]
        by_cases hrb : its[i].reply = false ∨ its[i].base = []
        · have := k l0 w4 hl0 hs0 m04
          unfold parB at this
          rw [hgi] at this
          simp only [hbk, hne', Bool.false_eq_true, if_false, if_neg hl, if_pos hrb] at this
          have eg3 : (if (!its[i].reply) = true then true else decide (its[i].base = [])) = true := by
            rcases hrb with h | h <;> simp [h]
          try simp only [go_sem, eg3]
          exact this
        · have eg3 : (if (!its[i].reply) = true then true else decide (its[i].base = [])) = false := by
            simp only [not_or] at hrb
            simp [hrb.1, hrb.2]
          try simp only [go_sem, eg3]
          have hz2 := z2
          unfold h28_1
          try simp only [go_sem, f4, q3]
          refine low_ _ hz2 ?_
          intro w5 m5
          have hF5 := hF4.up ((Mod.drew none' _).trans' m5)
          have m05 := m04.trans' ((Mod.drew none' _).trans' m5)
          have f5 : w5.cell? ⟨fb, 4, none⟩ = some (.map (some hb)) := m5.cell f4 fun h => h
          try simp only [go_sem, f4, f5]
          refine lookup1_ u62 u9 zs60 hF5.hm.mp ?_
          -- the list that is held
          obtain ⟨l, hl1, hl2, ownl⟩ : ∃ l : List Nat, l.Perm (headsN its its.length (lowerB its[i].base)) ∧ SortedN its l ∧ HL.Own w5 ((getM (lowerB its[i].base) hs).getD (.slice none 0 0)) 3 1 l.length (ints l) := by
            cases hg : getM (lowerB its[i].base) hs with
            | none => exact ⟨[], by rw [hF.hm.emp _ hg], List.Pairwise.nil, Own.nil _ _ _⟩
            | some u =>
              obtain ⟨l, h1, h2, h3⟩ := hsr _ (getM_mem hg)
              exact ⟨l, h1, h3, h2.mod m05 fun _ _ h => h⟩
          have hkk := k l
          unfold parB at hkk
          rw [hgi] at hkk
          simp only [hbk, hne', Bool.false_eq_true, if_false, if_neg hl, if_neg hrb] at hkk
          have hlt : ∀ x ∈ l, x < its.length := fun x hx => headsN_lt x (hl1.mem_iff.1 hx)
          have hlen : l.length ≤ 1000000 := by
            rw [hl1.length_eq]
            unfold headsN
            exact Nat.le_trans (List.length_filter_le _ _) (by simp; omega)
          obtain ⟨-, la, lc, el, -, hlc⟩ := ownl.sl
          try simp only [go_sem, el]
          have a5 := ItAt.blk (bk3.mod (m4.trans' ((Mod.drew none' _).trans' m5)) fun h => h)
          have d5 := a5.c1
          have f0' := hF5.f.cell 0
          simp only [List.getElem?_cons_zero] at f0'
          refine loopN l.length (fun j τ w' => τ 0 = ptr fb ∧ τ 6 = ptr b6 ∧ τ 69 = .slice la l.length lc ∧ τ 70 = .int .i64 l.length ∧ τ 71 = .int .i64 j ∧ (∀ y ∈ l.take j, ansB its its[i] y = false) ∧ Mod none' w5 w') ⟨0, by omega, rfl, rfl, rfl, rfl, rfl, by simp, Mod.refl _ _⟩ ?_
          rintro j τ w6 hj ⟨t0, t6, t69, t70, t71, hno, m6⟩
          unfold h28_2
          try simp only [go_sem, t0, t6, t69, t70, t71]
          refine ⟨fun hlt' => ?_, fun hge => ?_⟩
          · have hjl : j < l.length := by
              have := of_decide_eq_true hlt'
              omega
            obtain ⟨g', o', rfl, hce⟩ := hlc (by omega)
            have hc : w6.cell? ⟨g', o' + j, none⟩ = some (.int .i64 (l[j] : Nat)) := by
              refine m6.cell ?_ (fun h => h)
              rw [hce j (by omega)]; simp [ints, hjl]
            have hlj := hlt _ (List.getElem_mem hjl)
            obtain ⟨rj, -, aj⟩ := (hF5.up m6).kp.i.at hlj
            have dj := aj.c1
            have f6 := m6.cell f0' fun h => h
            have d6 := m6.cell d5 fun h => h
            unfold h28_3
            try simp only [go_sem, t0, t6, t69, t70, t71, hc, f6, dj, d6]
            repeat refine ⟨⟨by omega, by omega⟩, ?_⟩
            have ea : decide (its[l[j]].date ≤ its[i].date) = ansB its its[i] l[j] := by
              unfold ansB; rw [dateAt_at hlj]
            try simp only [go_sem, ea]
            refine ⟨fun hy => ?_, fun hy => ?_⟩
            · have hfi : l.find? (ansB its its[i]) = some l[j] := by
                rw [List.find?_eq_some_iff_append]
                exact ⟨hy, l.take j, l.drop (j + 1), by rw [← List.drop_eq_getElem_cons hjl, List.take_append_drop], fun a ha => by simp [hno a ha]⟩
              have := hkk w6.drew hl1 hl2 ((m05.trans' m6).trans' (Mod.drew _ _))
              rw [hfi] at this
              try simp only [go_sem, t0, t6, t69, t70, t71]
              exact this
            · unfold h28_4
              try simp only [go_sem, t0, t6, t69, t70, t71]
              rw [w64 (by omega) (by omega)]
              have hno' : ∀ y ∈ l.take (j + 1), ansB its its[i] y = false := by
                rw [List.take_succ_eq_append_getElem hjl]
                intro y hy'
                rcases List.mem_append.1 hy' with h | h
                · exact hno y h
                · rw [List.mem_singleton.1 h]; exact hy
              have m6' := m6.trans' (Mod.drew _ _)
              refine ⟨j + 1, by omega, by omega, ?_⟩
              (repeat' first | assumption | rfl | omega | apply And.intro)
          · have hjl : j = l.length := by
              have := of_decide_eq_false hge
              omega
            subst hjl
            rw [List.take_length] at hno
            have hfi : l.find? (ansB its its[i]) = none := List.find?_eq_none.2 fun y hy => by simp [hno y hy]
            have := hkk w6 hl1 hl2 (m05.trans' m6)
            rw [hfi] at this
            try simp only [go_sem]
            exact h28_5_ this
end
end Go.Proofs.Y

/- TL: thread: parents: one list of heads; Parent. -/
namespace Go.Proofs.Y
open Go Go.HL Go.Proofs

/-! ### sorted lists -/
def insB {α : Type} (lt : α → α → Bool) (x : α) : List α → List α
  | [] => [x]
  | y :: l => if lt x y then x :: y :: l else y :: insB lt x l
def isortB {α : Type} (lt : α → α → Bool) (l : List α) : List α := l.foldl (fun acc x => insB lt x acc) []
def SortedB {α : Type} (lt : α → α → Bool) (l : List α) : Prop := l.Pairwise fun x y => lt y x = false
theorem insB_perm {α : Type} (lt : α → α → Bool) (x : α) : ∀ l : List α, (insB lt x l).Perm (x :: l)
  | [] => List.Perm.refl _
  | y :: l => by
    unfold insB
    split
    · exact List.Perm.refl _
    · exact ((insB_perm lt x l).cons y).trans (List.Perm.swap _ _ _)
theorem insB_sorted {α : Type} {lt : α → α → Bool} (irr : ∀ a, lt a a = false) (tr : ∀ a b c, lt a b = true → lt b c = true → lt a c = true) (x : α) : ∀ {l : List α}, SortedB lt l → SortedB lt (insB lt x l)
  | [], _ => by unfold insB SortedB; simp
  | y :: l, h => by
    have hy := (List.pairwise_cons.1 h).1
    have hl := (List.pairwise_cons.1 h).2
    unfold insB
    split
    · rename_i hxy
      refine List.pairwise_cons.2 ⟨fun z hz => ?_, h⟩
      have key : ∀ z, lt z y = false → lt z x = false := fun z hzy => by
        cases hzx : lt z x
        · rfl
        · rw [tr z x y hzx hxy] at hzy; cases hzy
      rcases List.mem_cons.1 hz with rfl | hz
      · exact key z (irr z)
      · exact key z (hy z hz)
    · rename_i hxy
      refine List.pairwise_cons.2 ⟨fun z hz => ?_, insB_sorted irr tr x hl⟩
      rcases List.mem_cons.1 ((insB_perm lt x l).mem_iff.1 hz) with rfl | hz
      · simpa using hxy
      · exact hy z hz
theorem isortB_ok {α : Type} {lt : α → α → Bool} (irr : ∀ a, lt a a = false) (tr : ∀ a b c, lt a b = true → lt b c = true → lt a c = true) (l : List α) : (isortB lt l).Perm l ∧ SortedB lt (isortB lt l) := by
  have key : ∀ (l acc : List α), SortedB lt acc → (l.foldl (fun acc x => insB lt x acc) acc).Perm (acc ++ l) ∧ SortedB lt (l.foldl (fun acc x => insB lt x acc) acc) := by
    intro l
    induction l with
    | nil => intro acc h; simp only [List.foldl_nil, List.append_nil]; exact ⟨List.Perm.refl _, h⟩
    | cons x l ih =>
      intro acc h
      obtain ⟨h1, h2⟩ := ih _ (insB_sorted irr tr x h)
      refine ⟨h1.trans ?_, h2⟩
      refine ((insB_perm lt x acc).append_right l).trans ?_
      exact (List.perm_middle (l₁ := acc)).symm
  have := key l [] List.Pairwise.nil
  rw [List.nil_append] at this
  exact this
/-- what is sorted is sorted in one way -/
theorem sorted_unique {α : Type} {lt : α → α → Bool} : ∀ {l l' : List α}, (∀ x ∈ l, ∀ y ∈ l, lt x y = false → lt y x = false → x = y) → l.Perm l' → SortedB lt l → SortedB lt l' → l = l'
  | [], l', _, h, _, _ => by have := h.length_eq; simp at this; rw [List.eq_nil_of_length_eq_zero this.symm]
  | x :: l, [], _, h, _, _ => by have := h.length_eq; simp at this
  | x :: l, y :: l', ht, h, h1, h2 => by
    have hx := (List.pairwise_cons.1 h1).1
    have hy := (List.pairwise_cons.1 h2).1
    have hyl : y ∈ x :: l := h.mem_iff.2 (by simp)
    have hxl : x ∈ y :: l' := h.mem_iff.1 (by simp)
    have hxy : x = y := by
      rcases List.mem_cons.1 hxl with e | hx'
      · exact e
      rcases List.mem_cons.1 hyl with e | hy'
      · exact e.symm
      exact ht x (by simp) y hyl (hy x hx') (hx y hy')
    subst hxy
    have hp := List.Perm.cons_inv h
    rw [sorted_unique (fun a ha b hb => ht a (by simp [ha]) b (by simp [hb])) hp (List.pairwise_cons.1 h1).2 (List.pairwise_cons.1 h2).2]

theorem befI_irr (its : List It) (x : Nat) : befI its x x = false := bef_irr _ _
theorem befI_tr {its : List It} (x y z : Nat) (h : befI its x y = true) (k : befI its y z = true) : befI its x z = true := bef_tr h k
theorem befI_tri {its : List It} (hd : dist its) {x y : Nat} (hx : x < its.length) (hy : y < its.length) (h : befI its x y = false) (k : befI its y x = false) : x = y := idAt_inj hd hx hy (bef_tri h k).2
def headsS (its : List It) (b : Bytes) : List Nat := isortB (befI its) (headsN its its.length b)
theorem headsS_one {its : List It} (hd : dist its) {l : List Nat} {b : Bytes} (h : l.Perm (headsN its its.length b)) (hs : SortedN its l) : l = headsS its b := by
  obtain ⟨h1, h2⟩ := isortB_ok (lt := befI its) (befI_irr its) befI_tr (headsN its its.length b)
  refine sorted_unique (fun x hx y hy => ?_) (h.trans h1.symm) hs h2
  exact befI_tri hd (headsN_lt x (h.mem_iff.1 hx)) (headsN_lt y (h.mem_iff.1 hy))
def parI (its : List It) (i : Nat) : Option Nat × Bytes := parB its (headsS its (match its[i]? with | some x => lowerB x.base | none => [])) i

section
variable {w w' : World} {va : Option Addr} {vc : Nat} {its : List It} {rvs : List Value} {fb : Nat} {next : Value → World → Prop} {QP : List PanicEntry → World → Prop}
theorem par_ {i : Nat} (hd : dist its) (hS : St w va vc its rvs fb) (hi : i < its.length) (hz : szI its) (hn : its.length ≤ 1000000)
    (k : ∀ w', Mod none' w w' → next (parV (parI its i)) w') : callvK Try.prog (.func (.func 28) #[] #[]) [ptr fb, .int .i64 i] w next QP := by
  refine parent_ hS hi hz hn fun l w' h1 h2 m => ?_
  have := k w' m
  unfold parI at this
  rw [List.getElem?_eq_getElem hi] at this
  rw [headsS_one hd h1 h2]
  exact this
def parT (its : List It) (i : Int) : Option Nat × Bytes := if i < 0 ∨ (its.length : Int) ≤ i then (none, []) else parI its i.toNat
theorem Parent_ {v : Value} {i : Int} (hd : dist its) (hK : Its w v its rvs) (hz : szI its) (hn : its.length ≤ 1000000)
    (k : ∀ w', Mod none' w w' → next (parV (parT its i)) w') : callvK Try.prog (.func (.func 15) #[] #[]) [v, .int .i64 i] w next QP := by
  refine r15 rfl ?_
  obtain ⟨va, vc, rfl, -, -⟩ := hK.sl.form
  unfold h15
  try simp only [go_sem]
  by_cases h : i < 0 ∨ (its.length : Int) ≤ i
  · have eg : (if decide (i < 0) = true then true else decide ((its.length : Int) ≤ i)) = true := by
      rcases h with h | h <;> simp [h]
    have := k w (Mod.refl _ _)
    unfold parT at this
    rw [if_pos h] at this
    try simp only [go_sem, eg]
    exact this
  · have eg : (if decide (i < 0) = true then true else decide ((its.length : Int) ≤ i)) = false := by
      have h1 : ¬ i < 0 := fun h' => h (.inl h')
      have h2 : ¬ (its.length : Int) ≤ i := fun h' => h (.inr h')
      simp [h1, h2]
    unfold parT at k
    rw [if_neg h] at k
    obtain ⟨j, rfl⟩ : ∃ j : Nat, i = j := ⟨i.toNat, by omega⟩
    rw [Int.toNat_natCast] at k
    try simp only [go_sem, eg]
    unfold h15_1
    try simp only [go_sem]
    refine study_ hd hK hz hn ?_
    intro fb w1 hS m1
    try simp only [go_sem]
    refine par_ hd hS (by omega) hz hn ?_
    intro w2 m2
    have := k w2 (m1.trans' m2)
    unfold parV at this ⊢
    try simp only [go_sem]
    exact this
end
end Go.Proofs.Y

/- TN: thread: trees; plain. -/
namespace Go.Proofs.Y
open Go Go.HL

/-! ### parents, plain -/
theorem find_some {α : Type} {p : α → Bool} {l : List α} {y : α} (h : l.find? p = some y) : y ∈ l ∧ p y = true := ⟨List.mem_of_find?_eq_some h, List.find?_some h⟩
inductive ParC (its : List It) (i : Nat) (x : It) : Option Nat × Bytes → Prop
  | brk (h : brkI its i = true) (k : Nat) (hk : nearI its i = some k) : ParC its i x (none, [])
  | near (h : brkI its i = false) (k : Nat) (hk : nearI its i = some k) : ParC its i x (some k, [])
  | ghost (h : brkI its i = false) (hk : nearI its i = none) (r : Bytes) (hr : x.rf.getLast? = some r) : ParC its i x (none, r)
  | root (h : brkI its i = false) (hk : nearI its i = none) (hr : x.rf = []) (hb : x.reply = false ∨ x.base = []) : ParC its i x (none, [])
  | ans (h : brkI its i = false) (hk : nearI its i = none) (hr : x.rf = []) (hb : x.reply = true ∧ x.base ≠ []) (o : Option Nat) (ho : o = (headsS its (lowerB x.base)).find? (ansB its x)) : ParC its i x (o, [])
theorem OnC_some {f : Nat → Option Nat} {i : Nat} (h : OnC f i) : ∃ k, f i = some k := by
  obtain ⟨m, hm⟩ := h
  exact itr_some hm (show 1 ≤ m + 1 by omega)
theorem parI_c {its : List It} {i : Nat} (hi : i < its.length) : ParC its i its[i] (parI its i) := by
  unfold parI parB
  rw [List.getElem?_eq_getElem hi]
  simp only
  cases hb : brkI its i with
  | true =>
    simp only [if_true]
    obtain ⟨k, hk⟩ := OnC_some ((brkI_iff hi).1 hb).1
    exact .brk hb k hk
  | false =>
    simp only [Bool.false_eq_true, if_false]
    cases hn : nearI its i with
    | some k => exact .near hb k hn
    | none =>
      simp only
      by_cases hl : 0 < its[i].rf.length
      · rw [if_pos hl]
        cases hr : its[i].rf.getLast? with
        | none => rw [List.getLast?_eq_none_iff] at hr; rw [hr] at hl; simp at hl
        | some r => exact .ghost hb hn r hr
      · rw [if_neg hl]
        have hrf : its[i].rf = [] := List.eq_nil_of_length_eq_zero (by omega)
        by_cases hrb : its[i].reply = false ∨ its[i].base = []
        · rw [if_pos hrb]; exact .root hb hn hrf hrb
        · rw [if_neg hrb]
          simp only [not_or, Bool.not_eq_false] at hrb
          exact .ans hb hn hrf hrb _ rfl
theorem headsS_mem {its : List It} {b : Bytes} {y : Nat} : y ∈ headsS its b ↔ ∃ h : y < its.length, hdB its[y] b = true := by
  unfold headsS
  rw [(isortB_ok (lt := befI its) (befI_irr its) befI_tr _).1.mem_iff]
  unfold headsN
  rw [List.mem_filter, List.mem_range]
  constructor
  · rintro ⟨h1, h2⟩
    unfold hdAt at h2
    rw [List.getElem?_eq_getElem h1] at h2
    exact ⟨h1, h2⟩
  · rintro ⟨h1, h2⟩
    refine ⟨h1, ?_⟩
    unfold hdAt
    rw [List.getElem?_eq_getElem h1]; exact h2
theorem near_rf {its : List It} {i : Nat} (hi : i < its.length) : nearI its i = nearL its its[i].rf := by
  unfold nearI; rw [List.getElem?_eq_getElem hi]; rfl
theorem hd_par {its : List It} {y : Nat} {b : Bytes} (hy : y < its.length) (h : hdB its[y] b = true) : parI its y = (none, []) := by
  unfold hdB at h
  simp only [Bool.and_eq_true, decide_eq_true_eq, Bool.not_eq_true'] at h
  have hrf : its[y].rf = [] := List.eq_nil_of_length_eq_zero h.1.1
  have hn : nearI its y = none := by rw [near_rf hy, hrf]; rfl
  cases hp : parI its y with
  | mk o g =>
    have hc := parI_c hy
    rw [hp] at hc
    cases hc with
    | brk h1 k hk => exact absurd (hn.symm.trans hk) (by simp)
    | near h1 k hk => rw [hn] at hk; cases hk
    | ghost h1 h2 r hr => rw [hrf] at hr; cases hr
    | root h1 h2 h3 h4 => rfl
    | ans h1 h2 h3 h4 o ho => rw [h.1.2] at h4; cases h4.1
def upI (its : List It) (i : Nat) : Option Nat := if i < its.length then (parI its i).1 else none
theorem upI_lt {its : List It} {i k : Nat} (h : upI its i = some k) : i < its.length ∧ k < its.length := by
  unfold upI at h
  by_cases hi : i < its.length
  · rw [if_pos hi] at h
    refine ⟨hi, ?_⟩
    have hc := parI_c hi
    cases hp : parI its i with
    | mk o g =>
      rw [hp] at hc h
      cases hc with
      | brk => cases h
      | near h1 k hk => obtain rfl := Option.some.inj h; exact nearI_lt hk
      | ghost => cases h
      | root => cases h
      | ans h1 h2 h3 h4 o ho =>
        have h : o = some k := h
        rw [h] at ho
        exact (headsS_mem.1 (find_some ho.symm).1).1
  · rw [if_neg hi] at h; cases h
theorem up_free {its : List It} (hd : dist its) : ∀ i, i < its.length → ¬ OnC (upI its) i := by
  intro i hi hc
  -- on the circle all go to their nearest
  have key : ∀ m j, itr (upI its) m i = some j → j < its.length ∧ nearI its j = upI its j ∧ brkI its j = false := by
    intro m j hj
    have hcj := OnC.itr hc hj
    obtain ⟨k, hk⟩ := OnC_some hcj
    have hck : OnC (upI its) k := OnC.itr hcj (m := 1) hk
    obtain ⟨q, hq⟩ := OnC_some hck
    have hjl := (upI_lt hk).1
    have hcc := parI_c hjl
    have hk' := hk
    unfold upI at hk'
    rw [if_pos hjl] at hk'
    cases hp : parI its j with
    | mk o g =>
      rw [hp] at hcc hk'
      cases hcc with
      | brk => cases hk'
      | near h1 k' hk2 => exact ⟨hjl, by rw [hk2, hk]; exact hk', h1⟩
      | ghost => cases hk'
      | root => cases hk'
      | ans h1 h2 h3 h4 o ho =>
        have hk' : o = some k := hk'
        rw [hk'] at ho
        obtain ⟨hkl, hhd⟩ := headsS_mem.1 (find_some ho.symm).1
        have := hd_par hkl hhd
        unfold upI at hq
        rw [if_pos hkl, this] at hq
        cases hq
  have heq : ∀ m, itr (nearI its) m i = itr (upI its) m i := by
    intro m
    induction m with
    | zero => rfl
    | succ m ih =>
      show (itr (nearI its) m i).bind _ = (itr (upI its) m i).bind _
      rw [ih]
      cases hj : itr (upI its) m i with
      | none => rfl
      | some j => exact (key m j hj).2.1
  obtain ⟨p, hp⟩ := hc
  have hcn : OnC (nearI its) i := ⟨p, by rw [heq]; exact hp⟩
  obtain ⟨m, j, hj, hb⟩ := circle_brk (idAt its) (n := its.length) (fun i j h => nearI_lt h) hi hcn
  rw [heq] at hj
  obtain ⟨h1, h2, h3⟩ := key m j hj
  rw [(brkI_iff h1).2 hb] at h3
  cases h3
theorem up_ends {its : List It} (hd : dist its) {i : Nat} (hi : i < its.length) : itr (upI its) its.length i = none := ends (fun i j h => (upI_lt h).2) (up_free hd) hi

/-! ### trees -/
/-- a place: an item or a ghost -/
structure Pn where
  id : Bytes
  ghost : Bool
  date : Int
structure Nd where
  id : Bytes
  ghost : Bool
  parent : Int
  depth : Int
  deriving DecidableEq
def befP (a b : Pn) : Bool := bef a.date a.id b.date b.id
theorem befP_irr (a : Pn) : befP a a = false := bef_irr _ _
theorem befP_tr (a b c : Pn) (h : befP a b = true) (k : befP b c = true) : befP a c = true := bef_tr h k
/-- the id of the parent; nothing at a root -/
def pid (its : List It) (i : Nat) : Bytes := match parI its i with | (some k, _) => idAt its k | (none, g) => g
def itP (its : List It) (i : Nat) : Pn := ⟨idAt its i, false, dateAt its i⟩
def gh (its : List It) (i : Nat) : Bytes := (parI its i).2
/-- ghosts, with the least date of those that refer to them: of the first n items -/
def minD : Option Int → Int → Int
  | none, d => d
  | some e, d => if d < e then d else e
def ghD (its : List It) : Nat → Bytes → Option Int
  | 0, _ => none
  | n + 1, g => if gh its n = g then some (minD (ghD its n g) (dateAt its n)) else ghD its n g
def ghL (its : List It) : Nat → List Bytes
  | 0 => []
  | n + 1 => if gh its n = [] ∨ gh its n ∈ ghL its n then ghL its n else ghL its n ++ [gh its n]
def ghP (its : List It) (g : Bytes) : Pn := ⟨g, true, (ghD its its.length g).getD 0⟩
def under (its : List It) (p : Bytes) : List Nat := (List.range its.length).filter fun i => decide (pid its i = p)
def kids0 (its : List It) (p : Bytes) : List Pn := (under its p).map (itP its) ++ (if p = [] then (ghL its its.length).map (ghP its) else [])
def kids (its : List It) (p : Bytes) : List Pn := isortB befP (kids0 its p)
def walkF (ch : Bytes → List Pn) : Nat → List Nd → List Pn → Int → Int → List Nd
  | 0, out, _, _, _ => out
  | f + 1, out, l, p, d => l.foldl (fun out b => walkF ch f (out ++ [⟨b.id, b.ghost, p, d⟩]) (ch b.id) (out.length : Int) (d + 1)) out
def deepF (ch : Bytes → List Pn) : Nat → List Pn → Prop
  | 0, l => l = []
  | f + 1, l => ∀ b ∈ l, deepF ch f (ch b.id)
def forestB (its : List It) : List Nd := walkF (kids its) (its.length + 2) [] (kids its []) (-1) 0

/-- no id is empty -/
def ne0 (its : List It) : Prop := ∀ x ∈ its, x.id ≠ []
theorem last_rf {x : It} {r : Bytes} (h : x.rf.getLast? = some r) : r ∈ x.rf ∧ r ≠ [] ∧ r ≠ x.id := by
  have hm := List.mem_of_getLast? h
  refine ⟨hm, ?_⟩
  unfold It.rf at hm
  have := (List.mem_filter.1 hm).2
  unfold delB at this
  simp only [Bool.not_or, Bool.and_eq_true, Bool.not_eq_true', decide_eq_false_iff_not] at this
  exact ⟨this.2, this.1⟩
theorem near_none {its : List It} {l : List Bytes} (h : nearL its l = none) : ∀ r ∈ l, findI its r = none := by
  unfold nearL at h
  rw [List.findSome?_eq_none_iff] at h
  intro r hr
  exact h r (List.mem_reverse.2 hr)
/-- what a ghost is -/
theorem gh_ok {its : List It} {i : Nat} (hi : i < its.length) (h : gh its i ≠ []) : upI its i = none ∧ pid its i = gh its i ∧ findI its (gh its i) = none ∧ its[i].rf.getLast? = some (gh its i) := by
  unfold gh at h ⊢
  unfold upI pid
  rw [if_pos hi]
  have hc := parI_c hi
  cases hp : parI its i with
  | mk o g =>
    rw [hp] at hc h
    cases hc with
    | brk => exact absurd rfl h
    | near => exact absurd rfl h
    | ghost h1 h2 r hr =>
      refine ⟨rfl, rfl, ?_, hr⟩
      rw [near_rf hi] at h2
      exact near_none h2 _ (last_rf hr).1
    | root => exact absurd rfl h
    | ans => exact absurd rfl h
theorem up_pid {its : List It} {i k : Nat} (h : upI its i = some k) : pid its i = idAt its k ∧ gh its i = [] := by
  have hi := (upI_lt h).1
  unfold upI at h
  rw [if_pos hi] at h
  unfold pid gh
  have hc := parI_c hi
  cases hp : parI its i with
  | mk o g =>
    rw [hp] at hc h
    cases hc with
    | brk => cases h
    | near h1 q hq => obtain rfl := Option.some.inj h; exact ⟨rfl, rfl⟩
    | ghost => cases h
    | root => cases h
    | ans h1 h2 h3 h4 o ho =>
      have h : o = some k := h
      subst h
      exact ⟨rfl, rfl⟩
theorem pid_cases {its : List It} {i : Nat} (hi : i < its.length) : (∃ k, upI its i = some k ∧ pid its i = idAt its k) ∨ (upI its i = none ∧ pid its i = gh its i) := by
  cases h : upI its i with
  | some k => exact .inl ⟨k, rfl, (up_pid h).1⟩
  | none =>
    refine .inr ⟨rfl, ?_⟩
    unfold upI at h
    rw [if_pos hi] at h
    unfold pid gh
    cases hp : parI its i with
    | mk o g =>
      rw [hp] at h
      have h : o = none := h
      subst h; rfl
theorem idAt_ne {its : List It} (h : ne0 its) {i : Nat} (hi : i < its.length) : idAt its i ≠ [] := by
  rw [idAt_at hi]; exact h _ (List.getElem_mem hi)
theorem find_idAt {its : List It} (hd : dist its) {i : Nat} (hi : i < its.length) : findI its (idAt its i) = some i := by
  rw [idAt_at hi]; exact findI_at hd hi
/-- under an item -/
theorem pid_item {its : List It} (hd : dist its) (hn : ne0 its) {i k : Nat} (hi : i < its.length) (hk : k < its.length) (h : pid its i = idAt its k) : upI its i = some k := by
  rcases pid_cases hi with ⟨q, h1, h2⟩ | ⟨h1, h2⟩
  · rw [h2] at h
    rw [h1, idAt_inj hd (upI_lt h1).2 hk h]
  · rw [h2] at h
    have hg : gh its i ≠ [] := by rw [h]; exact idAt_ne hn hk
    obtain ⟨-, -, h3, -⟩ := gh_ok hi hg
    rw [h, find_idAt hd hk] at h3; cases h3
theorem ghL_mem (its : List It) : ∀ (n : Nat) (g : Bytes), g ∈ ghL its n ↔ g ≠ [] ∧ ∃ i, i < n ∧ gh its i = g
  | 0, g => by simp [ghL]
  | n + 1, g => by
    unfold ghL
    have ih := ghL_mem its n
    by_cases h : gh its n = [] ∨ gh its n ∈ ghL its n
    · rw [if_pos h, ih]
      constructor
      · rintro ⟨h1, i, h2, h3⟩; exact ⟨h1, i, by omega, h3⟩
      · rintro ⟨h1, i, h2, h3⟩
        refine ⟨h1, ?_⟩
        by_cases e : i = n
        · subst e
          rcases h with h | h
          · rw [h] at h3; exact absurd h3.symm h1
          · rw [h3] at h; exact ((ih g).1 h).2
        · exact ⟨i, by omega, h3⟩
    · rw [if_neg h, List.mem_append, List.mem_singleton, ih]
      simp only [not_or] at h
      constructor
      · rintro (⟨h1, i, h2, h3⟩ | rfl)
        · exact ⟨h1, i, by omega, h3⟩
        · exact ⟨h.1, n, by omega, rfl⟩
      · rintro ⟨h1, i, h2, h3⟩
        by_cases e : i = n
        · subst e; exact .inr h3.symm
        · exact .inl ⟨h1, i, by omega, h3⟩
theorem ghL_nodup (its : List It) : ∀ n, (ghL its n).Nodup
  | 0 => by simp [ghL]
  | n + 1 => by
    unfold ghL
    by_cases h : gh its n = [] ∨ gh its n ∈ ghL its n
    · rw [if_pos h]; exact ghL_nodup its n
    · rw [if_neg h]
      simp only [not_or] at h
      exact List.nodup_append.2 ⟨ghL_nodup its n, by simp, fun a ha b hb e => by
        rw [List.mem_singleton.1 hb] at e
        exact h.2 (e ▸ ha)⟩
theorem kids_mem {its : List It} {p : Bytes} {b : Pn} : b ∈ kids its p ↔ (∃ i, i < its.length ∧ pid its i = p ∧ b = itP its i) ∨ (p = [] ∧ ∃ g ∈ ghL its its.length, b = ghP its g) := by
  unfold kids
  rw [(isortB_ok befP_irr befP_tr _).1.mem_iff]
  unfold kids0 under
  rw [List.mem_append]
  constructor
  · rintro (h | h)
    · obtain ⟨i, hi, rfl⟩ := List.mem_map.1 h
      have := List.mem_filter.1 hi
      exact .inl ⟨i, by simpa using this.1, by simpa using this.2, rfl⟩
    · by_cases hp : p = []
      · rw [if_pos hp] at h
        obtain ⟨g, hg, rfl⟩ := List.mem_map.1 h
        exact .inr ⟨hp, g, hg, rfl⟩
      · rw [if_neg hp] at h; cases h
  · rintro (⟨i, h1, h2, rfl⟩ | ⟨hp, g, hg, rfl⟩)
    · exact .inl (List.mem_map.2 ⟨i, List.mem_filter.2 ⟨by simpa using h1, by simpa using h2⟩, rfl⟩)
    · rw [if_pos hp]; exact .inr (List.mem_map.2 ⟨g, hg, rfl⟩)
/-- how far below the roots -/
def Lv (ch : Bytes → List Pn) : Nat → Pn → Prop
  | 0, b => b ∈ ch []
  | e + 1, b => ∃ b', Lv ch e b' ∧ b ∈ ch b'.id
theorem Lv_item {its : List It} (hd : dist its) (hn : ne0 its) : ∀ (e : Nat) (b : Pn), Lv (kids its) (e + 1) b → ∃ i, i < its.length ∧ b = itP its i ∧ itr (upI its) e i ≠ none
  | e, b, ⟨b', h1, h2⟩ => by
    have hid : b'.id ≠ [] := by
      have : ∀ e b, Lv (kids its) e b → b.id ≠ [] := by
        intro e b h
        have hm : ∃ p, b ∈ kids its p := by
          cases e with
          | zero => exact ⟨[], h⟩
          | succ e => obtain ⟨b', -, h⟩ := h; exact ⟨_, h⟩
        obtain ⟨p, hm⟩ := hm
        rcases kids_mem.1 hm with ⟨i, hi, -, rfl⟩ | ⟨-, g, hg, rfl⟩
        · exact idAt_ne hn hi
        · exact ((ghL_mem its _ g).1 hg).1
      exact this e b' h1
    rcases kids_mem.1 h2 with ⟨i, hi, hp, rfl⟩ | ⟨hp, -⟩
    · refine ⟨i, hi, rfl, ?_⟩
      cases e with
      | zero => simp [itr]
      | succ e =>
        obtain ⟨k, hk, rfl, hne⟩ := Lv_item hd hn e b' h1
        have := pid_item hd hn hi hk hp
        rw [itr_succ, this]
        exact hne
    · exact absurd hp hid
theorem Lv_le {its : List It} (hd : dist its) (hn : ne0 its) {e : Nat} {b : Pn} (h : Lv (kids its) e b) : e ≤ its.length := by
  cases e with
  | zero => omega
  | succ e =>
    obtain ⟨i, hi, -, hne⟩ := Lv_item hd hn e b h
    rcases Nat.lt_or_ge e its.length with h' | h'
    · exact h'
    · exact absurd (itr_none (up_ends hd hi) e h') hne
theorem deep_of {ch : Bytes → List Pn} {N : Nat} (h : ∀ e b, Lv ch e b → e ≤ N) : ∀ (f e : Nat), e + f = N + 1 → ∀ b, Lv ch e b → deepF ch f (ch b.id)
  | 0, e, he, b, hb => by
    have := h e b hb
    omega
  | f + 1, e, he, b, hb => by
    intro b' hb'
    exact deep_of h f (e + 1) (by omega) b' ⟨b, hb, hb'⟩
theorem forest_deep {its : List It} (hd : dist its) (hn : ne0 its) : deepF (kids its) (its.length + 2) (kids its []) :=
  fun b hb => deep_of (fun e b h => Lv_le hd hn h) (its.length + 1) 0 (by omega) b hb
end Go.Proofs.Y

/- the functions of the program as code over named slots, printed by hl.py -/
set_option maxRecDepth 100000
namespace Go.Proofs.Y
open Go Go.HL Go.Proofs
/- slices.pdqsortCmpFunc(missive/thread.branch) -/
def h41_7 : HC :=
  (.seq
  (.reg [.eff (some 111) (.call { callee := .value (.func 64), args := #[.tmp 106, .tmp 107, .tmp 108, .tmp 109, .tmp 110], argTypes := #[50, 3, 3, 3, 58] }) 54 [(106, .slot 0), (107, .slot 1), (108, .slot 2), (109, .slot 13), (110, .slot 4)] none [],
    .need (.n1 (.ext 0) (.slot 111)),
    .need (.n1 (.ext 1) (.slot 111)),
    .asg 16 (.n1 (.ext 0) (.slot 111)),
    .asg 17 (.n1 (.ext 1) (.slot 111))])
  (.seq
  (.reg [.asg 11 (.slot 17)])
  (.seq
  (.reg [.need (.n2 (.bin .sub) (.slot 16) (.slot 1)),
    .need (.n2 (.bin .sub) (.slot 2) (.slot 16)),
    .asg 18 (.n2 (.bin .sub) (.slot 16) (.slot 1)),
    .asg 19 (.n2 (.bin .sub) (.slot 2) (.slot 16))])
  (.seq
  (.reg [.need (.n2 (.bin .quo) (.slot 12) (.lit (.int .i64 8))),
    .asg 20 (.n2 (.bin .quo) (.slot 12) (.lit (.int .i64 8)))])
  (.seq
  (.reg [.need (.n2 (.bin .lss) (.slot 18) (.slot 19)),
    .asg 125 (.n2 (.bin .lss) (.slot 18) (.slot 19))])
  (.cond (.slot 125)
    (.seq
    (.reg [.need (.n2 (.bin .geq) (.slot 18) (.slot 20)),
      .asg 10 (.n2 (.bin .geq) (.slot 18) (.slot 20))])
    (.seq
    (.reg [.eff (some 134) (.call { callee := .value (.func 41), args := #[.tmp 129, .tmp 130, .tmp 131, .tmp 132, .tmp 133], argTypes := #[50, 3, 3, 3, 58] }) 0 [(129, .slot 0), (130, .slot 1), (131, .slot 16), (132, .slot 3), (133, .slot 4)] none []])
    (.reg [.need (.n2 (.bin .add) (.slot 16) (.lit (.int .i64 1))),
      .asg 1 (.n2 (.bin .add) (.slot 16) (.lit (.int .i64 1)))])))
    (.seq
    (.reg [.need (.n2 (.bin .geq) (.slot 19) (.slot 20)),
      .asg 10 (.n2 (.bin .geq) (.slot 19) (.slot 20))])
    (.seq
    (.reg [.need (.n2 (.bin .add) (.slot 16) (.lit (.int .i64 1))),
      .eff (some 146) (.call { callee := .value (.func 41), args := #[.tmp 140, .tmp 142, .tmp 143, .tmp 144, .tmp 145], argTypes := #[50, 3, 3, 3, 58] }) 0 [(140, .slot 0), (142, .n2 (.bin .add) (.slot 16) (.lit (.int .i64 1))), (143, .slot 2), (144, .slot 3), (145, .slot 4)] none []])
    (.reg [.asg 2 (.slot 16)])))))))))
def h41_6 : HC :=
  (.seq
  (.seq
  (.draw [.need (.n2 (.bin .gtr) (.slot 1) (.lit (.int .i64 0))),
    .need (.gif (.n2 (.bin .gtr) (.slot 1) (.lit (.int .i64 0))) true (.n2 (.bin .sub) (.slot 1) (.lit (.int .i64 1)))),
    .need (.gif (.n2 (.bin .gtr) (.slot 1) (.lit (.int .i64 0))) true (.n2 (.iaddr 6) (.slot 0) (.n2 (.bin .sub) (.slot 1) (.lit (.int .i64 1))))),
    .need (.gif (.n2 (.bin .gtr) (.slot 1) (.lit (.int .i64 0))) true (.n1 (.ldn 6) (.n2 (.iaddr 6) (.slot 0) (.n2 (.bin .sub) (.slot 1) (.lit (.int .i64 1)))))),
    .need (.gif (.n2 (.bin .gtr) (.slot 1) (.lit (.int .i64 0))) true (.n2 (.iaddr 6) (.slot 0) (.slot 13))),
    .need (.gif (.n2 (.bin .gtr) (.slot 1) (.lit (.int .i64 0))) true (.n1 (.ldn 6) (.n2 (.iaddr 6) (.slot 0) (.slot 13)))),
    .eff (some 94) (.call { callee := .value (.tmp 84), args := #[.tmp 89, .tmp 93], argTypes := #[53, 53] }) 3 [(84, .slot 4), (89, .n1 (.ldn 6) (.n2 (.iaddr 6) (.slot 0) (.n2 (.bin .sub) (.slot 1) (.lit (.int .i64 1))))), (93, .n1 (.ldn 6) (.n2 (.iaddr 6) (.slot 0) (.slot 13)))] (some (.n2 (.bin .gtr) (.slot 1) (.lit (.int .i64 0)), true)) [],
    .need (.gif (.n2 (.bin .gtr) (.slot 1) (.lit (.int .i64 0))) true (.n2 (.bin .lss) (.slot 94) (.lit (.int .i64 0)))),
    .need (.gif (.n2 (.bin .gtr) (.slot 1) (.lit (.int .i64 0))) true (.n1 .bnot (.n2 (.bin .lss) (.slot 94) (.lit (.int .i64 0))))),
    .need (.n3 .pick (.n2 (.bin .gtr) (.slot 1) (.lit (.int .i64 0))) (.n1 .bnot (.n2 (.bin .lss) (.slot 94) (.lit (.int .i64 0)))) (.lit (.bool false))),
    .asg 97 (.n3 .pick (.n2 (.bin .gtr) (.slot 1) (.lit (.int .i64 0))) (.n1 .bnot (.n2 (.bin .lss) (.slot 94) (.lit (.int .i64 0)))) (.lit (.bool false)))])
  (.cond (.slot 97)
    (.seq
    (.reg [.eff (some 103) (.call { callee := .value (.func 63), args := #[.tmp 98, .tmp 99, .tmp 100, .tmp 101, .tmp 102], argTypes := #[50, 3, 3, 3, 58] }) 3 [(98, .slot 0), (99, .slot 1), (100, .slot 2), (101, .slot 13), (102, .slot 4)] none [],
      .asg 15 (.slot 103)])
    (.seq
    (.reg [.asg 1 (.slot 15)])
    (.exit 1)))
    .skip))
  h41_7)
def h41_5 : HC :=
  (.seq
  (.seq
  (.reg [.need (.n3 .pick (.slot 10) (.slot 11) (.lit (.bool false))),
    .need (.gif (.n3 .pick (.slot 10) (.slot 11) (.lit (.bool false))) true (.n2 (.bin .eql) (.slot 14) (.lit (.int .i64 1)))),
    .need (.n3 .pick (.n3 .pick (.slot 10) (.slot 11) (.lit (.bool false))) (.n2 (.bin .eql) (.slot 14) (.lit (.int .i64 1))) (.lit (.bool false))),
    .asg 75 (.n3 .pick (.n3 .pick (.slot 10) (.slot 11) (.lit (.bool false))) (.n2 (.bin .eql) (.slot 14) (.lit (.int .i64 1))) (.lit (.bool false)))])
  (.cond (.slot 75)
    (.seq
    (.reg [.eff (some 80) (.call { callee := .value (.func 62), args := #[.tmp 76, .tmp 77, .tmp 78, .tmp 79], argTypes := #[50, 3, 3, 58] }) 4 [(76, .slot 0), (77, .slot 1), (78, .slot 2), (79, .slot 4)] none []])
    (.cond (.slot 80)
      .ret
      .skip))
    .skip))
  h41_6)
def h41_4 : HC :=
  (.seq
  (.reg [.eff (some 52) (.call { callee := .value (.func 60), args := #[.tmp 48, .tmp 49, .tmp 50, .tmp 51], argTypes := #[50, 3, 3, 58] }) 91 [(48, .slot 0), (49, .slot 1), (50, .slot 2), (51, .slot 4)] none [],
    .need (.n1 (.ext 0) (.slot 52)),
    .need (.n1 (.ext 1) (.slot 52)),
    .asg 13 (.n1 (.ext 0) (.slot 52)),
    .asg 14 (.n1 (.ext 1) (.slot 52))])
  (.seq
  (.seq
  (.reg [.need (.n2 (.bin .eql) (.slot 14) (.lit (.int .i64 2))),
    .asg 56 (.n2 (.bin .eql) (.slot 14) (.lit (.int .i64 2)))])
  (.cond (.slot 56)
    (.seq
    (.reg [.eff (some 61) (.call { callee := .value (.func 61), args := #[.tmp 57, .tmp 58, .tmp 59, .tmp 60], argTypes := #[50, 3, 3, 58] }) 0 [(57, .slot 0), (58, .slot 1), (59, .slot 2), (60, .slot 4)] none []])
    (.seq
    (.reg [.need (.n2 (.bin .sub) (.slot 2) (.lit (.int .i64 1))),
      .need (.n2 (.bin .sub) (.slot 13) (.slot 1)),
      .need (.n2 (.bin .sub) (.n2 (.bin .sub) (.slot 2) (.lit (.int .i64 1))) (.n2 (.bin .sub) (.slot 13) (.slot 1))),
      .asg 13 (.n2 (.bin .sub) (.n2 (.bin .sub) (.slot 2) (.lit (.int .i64 1))) (.n2 (.bin .sub) (.slot 13) (.slot 1)))])
    (.reg [.asg 14 (.lit (.int .i64 1))])))
    .skip))
  h41_5))
def h41_3 : HC :=
  (.seq
  (.seq
  (.reg [.need (.n1 .bnot (.slot 10)),
    .asg 39 (.n1 .bnot (.slot 10))])
  (.cond (.slot 39)
    (.seq
    (.reg [.eff (some 44) (.call { callee := .value (.func 59), args := #[.tmp 40, .tmp 41, .tmp 42, .tmp 43], argTypes := #[50, 3, 3, 58] }) 0 [(40, .slot 0), (41, .slot 1), (42, .slot 2), (43, .slot 4)] none []])
    (.reg [.need (.n2 (.bin .sub) (.slot 3) (.lit (.int .i64 1))),
      .asg 3 (.n2 (.bin .sub) (.slot 3) (.lit (.int .i64 1)))]))
    .skip))
  h41_4)
def h41_2 : HC :=
  (.seq
  (.seq
  (.reg [.need (.n2 (.bin .eql) (.slot 3) (.lit (.int .i64 0))),
    .asg 32 (.n2 (.bin .eql) (.slot 3) (.lit (.int .i64 0)))])
  (.cond (.slot 32)
    (.seq
    (.reg [.eff (some 37) (.call { callee := .value (.func 58), args := #[.tmp 33, .tmp 34, .tmp 35, .tmp 36], argTypes := #[50, 3, 3, 58] }) 0 [(33, .slot 0), (34, .slot 1), (35, .slot 2), (36, .slot 4)] none []])
    .ret)
    .skip))
  h41_3)
def h41_1 : HC :=
  (.block 1
    (.seq
    (.reg [.need (.n2 (.bin .sub) (.slot 2) (.slot 1)),
      .asg 12 (.n2 (.bin .sub) (.slot 2) (.slot 1))])
    (.seq
    (.seq
    (.reg [.need (.n2 (.bin .leq) (.slot 12) (.lit (.int .i64 12))),
      .asg 25 (.n2 (.bin .leq) (.slot 12) (.lit (.int .i64 12)))])
    (.cond (.slot 25)
      (.seq
      (.reg [.eff (some 30) (.call { callee := .value (.func 57), args := #[.tmp 26, .tmp 27, .tmp 28, .tmp 29], argTypes := #[50, 3, 3, 58] }) 0 [(26, .slot 0), (27, .slot 1), (28, .slot 2), (29, .slot 4)] none []])
      .ret)
      .skip))
    h41_2)))
def h41 : HC :=
  (.seq
  (.reg [.asg 10 (.lit (.bool true))])
  (.seq
  (.reg [.asg 11 (.lit (.bool true))])
  (.block 0
    (.loop
      h41_1))))
theorem k41 : fnOK Try.prog 89224801403507765643794065865431889425202207 [⟨17, [0, 1, 3, 7, 7, 7, 39, 119, 247, 7, 7, 1543, 3591, 8191, 16383, 32767, 65535], [(0, []), (1, []), (2, []), (3, []), (4, []), (5, []), (6, []), (7, []), (8, []), (9, []), (10, []), (11, []), (12, []), (13, []), (14, []), (15, []), (16, [])], none⟩] [] 5 Try.f41 = some h41 := by kernel_rfl
theorem c41 : callable Try.prog 41 = true := by kernel_rfl
theorem q41 {args : List Value} (ha : args.length = 5) {w : World} {next : Value → World → Prop} {QP : List PanicEntry → World → Prop} (H : hw Try.prog noPanic h41 (endV [] next) (σ0 args) w) : callK Try.prog 41 args w next QP := fn_rule Try.func41 mixed k41 ha H
theorem r41 {args : List Value} (ha : args.length = 5) {w : World} {next : Value → World → Prop} {QP : List PanicEntry → World → Prop} (H : hw Try.prog noPanic h41 (endV [] next) (σ0 args) w) : callvK Try.prog (.func (.func 41) #[] #[]) args w next QP := callf c41 (q41 ha H)

/- slices.insertionSortCmpFunc(missive/thread.branch) -/
def h57_5 : HC :=
  (.reg [.need (.n2 (.bin .sub) (.slot 9) (.lit (.int .i64 1))),
    .asg 9 (.n2 (.bin .sub) (.slot 9) (.lit (.int .i64 1)))])
def h57_4 : HC :=
  (.seq
  (.block 3
    (.draw [.need (.n2 (.bin .sub) (.slot 9) (.lit (.int .i64 1))),
      .need (.n2 (.bin .sub) (.slot 9) (.lit (.int .i64 1))),
      .need (.n2 (.iaddr 6) (.slot 0) (.n2 (.bin .sub) (.slot 9) (.lit (.int .i64 1)))),
      .need (.n1 (.ldn 6) (.n2 (.iaddr 6) (.slot 0) (.n2 (.bin .sub) (.slot 9) (.lit (.int .i64 1))))),
      .need (.n2 (.iaddr 6) (.slot 0) (.slot 9)),
      .need (.n1 (.ldn 6) (.n2 (.iaddr 6) (.slot 0) (.slot 9))),
      .asg 50 (.n1 (.ldn 6) (.n2 (.iaddr 6) (.slot 0) (.slot 9))),
      .need (.n2 (.iaddr 6) (.slot 0) (.slot 9)),
      .eff none (.store 53 (.tmp 51) (.tmp 46)) 0 [(51, .n2 (.iaddr 6) (.slot 0) (.slot 9)), (46, .n1 (.ldn 6) (.n2 (.iaddr 6) (.slot 0) (.n2 (.bin .sub) (.slot 9) (.lit (.int .i64 1)))))] none [],
      .need (.n2 (.iaddr 6) (.slot 0) (.n2 (.bin .sub) (.slot 9) (.lit (.int .i64 1)))),
      .eff none (.store 53 (.tmp 52) (.tmp 50)) 0 [(52, .n2 (.iaddr 6) (.slot 0) (.n2 (.bin .sub) (.slot 9) (.lit (.int .i64 1)))), (50, .slot 50)] none []]))
  h57_5)
def h57_3 : HC :=
  (.seq
  (.seq
  (.draw [.need (.n2 (.bin .gtr) (.slot 9) (.slot 1)),
    .need (.gif (.n2 (.bin .gtr) (.slot 9) (.slot 1)) true (.n2 (.iaddr 6) (.slot 0) (.slot 9))),
    .need (.gif (.n2 (.bin .gtr) (.slot 9) (.slot 1)) true (.n1 (.ldn 6) (.n2 (.iaddr 6) (.slot 0) (.slot 9)))),
    .need (.gif (.n2 (.bin .gtr) (.slot 9) (.slot 1)) true (.n2 (.bin .sub) (.slot 9) (.lit (.int .i64 1)))),
    .need (.gif (.n2 (.bin .gtr) (.slot 9) (.slot 1)) true (.n2 (.iaddr 6) (.slot 0) (.n2 (.bin .sub) (.slot 9) (.lit (.int .i64 1))))),
    .need (.gif (.n2 (.bin .gtr) (.slot 9) (.slot 1)) true (.n1 (.ldn 6) (.n2 (.iaddr 6) (.slot 0) (.n2 (.bin .sub) (.slot 9) (.lit (.int .i64 1)))))),
    .eff (some 32) (.call { callee := .value (.tmp 22), args := #[.tmp 26, .tmp 31], argTypes := #[53, 53] }) 3 [(22, .slot 3), (26, .n1 (.ldn 6) (.n2 (.iaddr 6) (.slot 0) (.slot 9))), (31, .n1 (.ldn 6) (.n2 (.iaddr 6) (.slot 0) (.n2 (.bin .sub) (.slot 9) (.lit (.int .i64 1)))))] (some (.n2 (.bin .gtr) (.slot 9) (.slot 1), true)) [],
    .need (.gif (.n2 (.bin .gtr) (.slot 9) (.slot 1)) true (.n2 (.bin .lss) (.slot 32) (.lit (.int .i64 0)))),
    .need (.n3 .pick (.n2 (.bin .gtr) (.slot 9) (.slot 1)) (.n2 (.bin .lss) (.slot 32) (.lit (.int .i64 0))) (.lit (.bool false))),
    .asg 34 (.n3 .pick (.n2 (.bin .gtr) (.slot 9) (.slot 1)) (.n2 (.bin .lss) (.slot 32) (.lit (.int .i64 0))) (.lit (.bool false)))])
  (.cond (.slot 34)
    .skip
    (.exit 2)))
  h57_4)
def h57_6 : HC :=
  (.reg [.need (.n2 (.bin .add) (.slot 8) (.lit (.int .i64 1))),
    .asg 8 (.n2 (.bin .add) (.slot 8) (.lit (.int .i64 1)))])
def h57_2 : HC :=
  (.seq
  (.block 1
    (.seq
    (.reg [.asg 9 (.slot 8)])
    (.block 2
      (.loop
        h57_3))))
  h57_6)
def h57_1 : HC :=
  (.seq
  (.seq
  (.reg [.need (.n2 (.bin .lss) (.slot 8) (.slot 2)),
    .asg 14 (.n2 (.bin .lss) (.slot 8) (.slot 2))])
  (.cond (.slot 14)
    .skip
    (.exit 0)))
  h57_2)
def h57 : HC :=
  (.seq
  (.reg [.need (.n2 (.bin .add) (.slot 1) (.lit (.int .i64 1))),
    .asg 8 (.n2 (.bin .add) (.slot 1) (.lit (.int .i64 1)))])
  (.block 0
    (.loop
      h57_1)))
theorem k57 : fnOK Try.prog 1125921381696271 [⟨4, [0, 0, 3, 7, 15, 15, 15, 111, 239, 15, 15, 1039, 3599, 7695, 16383, 32767, 65535], [(0, []), (1, []), (2, []), (3, []), (4, []), (5, []), (6, []), (7, []), (8, []), (9, []), (10, []), (11, []), (12, []), (13, []), (14, []), (15, []), (16, [])], none⟩, ⟨6, [0, 0, 0, 0, 8, 0, 0, 64, 224, 480, 0, 0, 3072, 7168, 16355, 32739, 65535, 131071], [(0, []), (1, []), (2, []), (3, []), (4, []), (5, []), (6, []), (7, []), (8, []), (9, []), (10, []), (11, []), (12, []), (13, []), (14, []), (15, []), (16, []), (17, [])], none⟩] [] 4 Try.f57 = some h57 := by kernel_rfl
theorem c57 : callable Try.prog 57 = true := by kernel_rfl
theorem q57 {args : List Value} (ha : args.length = 4) {w : World} {next : Value → World → Prop} {QP : List PanicEntry → World → Prop} (H : hw Try.prog noPanic h57 (endV [] next) (σ0 args) w) : callK Try.prog 57 args w next QP := fn_rule Try.func57 mixed k57 ha H
theorem r57 {args : List Value} (ha : args.length = 4) {w : World} {next : Value → World → Prop} {QP : List PanicEntry → World → Prop} (H : hw Try.prog noPanic h57 (endV [] next) (σ0 args) w) : callvK Try.prog (.func (.func 57) #[] #[]) args w next QP := callf c57 (q57 ha H)

/- slices.heapSortCmpFunc(missive/thread.branch) -/
def h58_3 : HC :=
  (.reg [.need (.n2 (.bin .sub) (.slot 11) (.lit (.int .i64 1))),
    .asg 11 (.n2 (.bin .sub) (.slot 11) (.lit (.int .i64 1)))])
def h58_2 : HC :=
  (.seq
  (.block 1
    (.reg [.eff (some 29) (.call { callee := .value (.func 79), args := #[.tmp 24, .tmp 25, .tmp 26, .tmp 27, .tmp 28], argTypes := #[50, 3, 3, 3, 58] }) 0 [(24, .slot 0), (25, .slot 11), (26, .slot 10), (27, .slot 8), (28, .slot 3)] none []]))
  h58_3)
def h58_1 : HC :=
  (.seq
  (.seq
  (.reg [.need (.n2 (.bin .geq) (.slot 11) (.lit (.int .i64 0))),
    .asg 21 (.n2 (.bin .geq) (.slot 11) (.lit (.int .i64 0)))])
  (.cond (.slot 21)
    .skip
    (.exit 0)))
  h58_2)
def h58_7 : HC :=
  (.reg [.need (.n2 (.bin .sub) (.slot 12) (.lit (.int .i64 1))),
    .asg 12 (.n2 (.bin .sub) (.slot 12) (.lit (.int .i64 1)))])
def h58_6 : HC :=
  (.seq
  (.block 3
    (.seq
    (.draw [.need (.n2 (.bin .add) (.slot 8) (.slot 12)),
      .need (.n2 (.bin .add) (.slot 8) (.slot 12)),
      .need (.n2 (.iaddr 6) (.slot 0) (.n2 (.bin .add) (.slot 8) (.slot 12))),
      .need (.n1 (.ldn 6) (.n2 (.iaddr 6) (.slot 0) (.n2 (.bin .add) (.slot 8) (.slot 12)))),
      .need (.n2 (.iaddr 6) (.slot 0) (.slot 8)),
      .need (.n1 (.ldn 6) (.n2 (.iaddr 6) (.slot 0) (.slot 8))),
      .asg 51 (.n1 (.ldn 6) (.n2 (.iaddr 6) (.slot 0) (.slot 8))),
      .need (.n2 (.iaddr 6) (.slot 0) (.slot 8)),
      .eff none (.store 53 (.tmp 52) (.tmp 47)) 0 [(52, .n2 (.iaddr 6) (.slot 0) (.slot 8)), (47, .n1 (.ldn 6) (.n2 (.iaddr 6) (.slot 0) (.n2 (.bin .add) (.slot 8) (.slot 12))))] none [],
      .need (.n2 (.iaddr 6) (.slot 0) (.n2 (.bin .add) (.slot 8) (.slot 12))),
      .eff none (.store 53 (.tmp 53) (.tmp 51)) 0 [(53, .n2 (.iaddr 6) (.slot 0) (.n2 (.bin .add) (.slot 8) (.slot 12))), (51, .slot 51)] none []])
    (.reg [.eff (some 59) (.call { callee := .value (.func 79), args := #[.tmp 54, .tmp 55, .tmp 56, .tmp 57, .tmp 58], argTypes := #[50, 3, 3, 3, 58] }) 0 [(54, .slot 0), (55, .slot 9), (56, .slot 12), (57, .slot 8), (58, .slot 3)] none []])))
  h58_7)
def h58_5 : HC :=
  (.seq
  (.seq
  (.reg [.need (.n2 (.bin .geq) (.slot 12) (.lit (.int .i64 0))),
    .asg 33 (.n2 (.bin .geq) (.slot 12) (.lit (.int .i64 0)))])
  (.cond (.slot 33)
    .skip
    (.exit 2)))
  h58_6)
def h58_4 : HC :=
  (.seq
  (.reg [.need (.n2 (.bin .sub) (.slot 10) (.lit (.int .i64 1))),
    .asg 12 (.n2 (.bin .sub) (.slot 10) (.lit (.int .i64 1)))])
  (.block 2
    (.loop
      h58_5)))
def h58 : HC :=
  (.seq
  (.reg [.asg 8 (.slot 1)])
  (.seq
  (.reg [.asg 9 (.lit (.int .i64 0))])
  (.seq
  (.reg [.need (.n2 (.bin .sub) (.slot 2) (.slot 1)),
    .asg 10 (.n2 (.bin .sub) (.slot 2) (.slot 1))])
  (.seq
  (.seq
  (.reg [.need (.n2 (.bin .sub) (.slot 10) (.lit (.int .i64 1))),
    .need (.n2 (.bin .quo) (.n2 (.bin .sub) (.slot 10) (.lit (.int .i64 1))) (.lit (.int .i64 2))),
    .asg 11 (.n2 (.bin .quo) (.n2 (.bin .sub) (.slot 10) (.lit (.int .i64 1))) (.lit (.int .i64 2)))])
  (.block 0
    (.loop
      h58_1)))
  h58_4))))
theorem k58 : fnOK Try.prog 578712561246019343 [⟨10, [0, 0, 0, 0, 0, 24, 0, 0, 0, 384, 960, 1984, 0, 0, 12288, 28672, 65475, 131011, 262143, 524287], [(0, []), (1, []), (2, []), (3, []), (4, []), (5, []), (6, []), (7, []), (8, []), (9, []), (10, []), (11, []), (12, []), (13, []), (14, []), (15, []), (16, []), (17, []), (18, []), (19, [])], none⟩] [] 4 Try.f58 = some h58 := by kernel_rfl
theorem c58 : callable Try.prog 58 = true := by kernel_rfl
theorem q58 {args : List Value} (ha : args.length = 4) {w : World} {next : Value → World → Prop} {QP : List PanicEntry → World → Prop} (H : hw Try.prog noPanic h58 (endV [] next) (σ0 args) w) : callK Try.prog 58 args w next QP := fn_rule Try.func58 mixed k58 ha H
theorem r58 {args : List Value} (ha : args.length = 4) {w : World} {next : Value → World → Prop} {QP : List PanicEntry → World → Prop} (H : hw Try.prog noPanic h58 (endV [] next) (σ0 args) w) : callvK Try.prog (.func (.func 58) #[] #[]) args w next QP := callf c58 (q58 ha H)

/- slices.breakPatternsCmpFunc(missive/thread.branch) -/
def h59_3 : HC :=
  (.draw [.need (.n2 (.bin .add) (.slot 1) (.slot 12)),
    .need (.n2 (.bin .add) (.slot 1) (.slot 12)),
    .need (.n2 (.iaddr 6) (.slot 0) (.n2 (.bin .add) (.slot 1) (.slot 12))),
    .need (.n1 (.ldn 6) (.n2 (.iaddr 6) (.slot 0) (.n2 (.bin .add) (.slot 1) (.slot 12)))),
    .need (.n2 (.iaddr 6) (.slot 0) (.slot 11)),
    .need (.n1 (.ldn 6) (.n2 (.iaddr 6) (.slot 0) (.slot 11))),
    .asg 64 (.n1 (.ldn 6) (.n2 (.iaddr 6) (.slot 0) (.slot 11))),
    .need (.n2 (.iaddr 6) (.slot 0) (.slot 11)),
    .eff none (.store 53 (.tmp 65) (.tmp 60)) 0 [(65, .n2 (.iaddr 6) (.slot 0) (.slot 11)), (60, .n1 (.ldn 6) (.n2 (.iaddr 6) (.slot 0) (.n2 (.bin .add) (.slot 1) (.slot 12))))] none [],
    .need (.n2 (.iaddr 6) (.slot 0) (.n2 (.bin .add) (.slot 1) (.slot 12))),
    .eff none (.store 53 (.tmp 66) (.tmp 64)) 0 [(66, .n2 (.iaddr 6) (.slot 0) (.n2 (.bin .add) (.slot 1) (.slot 12))), (64, .slot 64)] none []])
def h59_4 : HC :=
  (.reg [.need (.n2 (.bin .add) (.slot 11) (.lit (.int .i64 1))),
    .asg 11 (.n2 (.bin .add) (.slot 11) (.lit (.int .i64 1)))])
def h59_2 : HC :=
  (.seq
  (.block 1
    (.seq
    (.reg [.eff (some 38) (.call { callee := .value (.func 81), args := #[.tmp 9], argTypes := #[108] }) 99 [(9, .slot 9)] none [],
      .need (.n2 (.bin .sub) (.slot 10) (.lit (.int .u64 1))),
      .need (.n2 (.bin .and) (.slot 38) (.n2 (.bin .sub) (.slot 10) (.lit (.int .u64 1)))),
      .need (.n1 (.conv .i64) (.n2 (.bin .and) (.slot 38) (.n2 (.bin .sub) (.slot 10) (.lit (.int .u64 1))))),
      .asg 12 (.n1 (.conv .i64) (.n2 (.bin .and) (.slot 38) (.n2 (.bin .sub) (.slot 10) (.lit (.int .u64 1)))))])
    (.seq
    (.seq
    (.reg [.need (.n2 (.bin .geq) (.slot 12) (.slot 8)),
      .asg 45 (.n2 (.bin .geq) (.slot 12) (.slot 8))])
    (.cond (.slot 45)
      (.reg [.need (.n2 (.bin .sub) (.slot 12) (.slot 8)),
        .asg 12 (.n2 (.bin .sub) (.slot 12) (.slot 8))])
      .skip))
    h59_3)))
  h59_4)
def h59_1 : HC :=
  (.seq
  (.seq
  (.reg [.need (.n2 (.bin .quo) (.slot 8) (.lit (.int .i64 4))),
    .need (.n2 (.bin .mul) (.n2 (.bin .quo) (.slot 8) (.lit (.int .i64 4))) (.lit (.int .i64 2))),
    .need (.n2 (.bin .add) (.slot 1) (.n2 (.bin .mul) (.n2 (.bin .quo) (.slot 8) (.lit (.int .i64 4))) (.lit (.int .i64 2)))),
    .need (.n2 (.bin .add) (.n2 (.bin .add) (.slot 1) (.n2 (.bin .mul) (.n2 (.bin .quo) (.slot 8) (.lit (.int .i64 4))) (.lit (.int .i64 2)))) (.lit (.int .i64 1))),
    .need (.n2 (.bin .leq) (.slot 11) (.n2 (.bin .add) (.n2 (.bin .add) (.slot 1) (.n2 (.bin .mul) (.n2 (.bin .quo) (.slot 8) (.lit (.int .i64 4))) (.lit (.int .i64 2)))) (.lit (.int .i64 1)))),
    .asg 35 (.n2 (.bin .leq) (.slot 11) (.n2 (.bin .add) (.n2 (.bin .add) (.slot 1) (.n2 (.bin .mul) (.n2 (.bin .quo) (.slot 8) (.lit (.int .i64 4))) (.lit (.int .i64 2)))) (.lit (.int .i64 1))))])
  (.cond (.slot 35)
    .skip
    (.exit 0)))
  h59_2)
def h59 : HC :=
  (.seq
  (.reg [.need (.n2 (.bin .sub) (.slot 2) (.slot 1)),
    .asg 8 (.n2 (.bin .sub) (.slot 2) (.slot 1))])
  (.seq
  (.reg [.need (.n2 (.bin .geq) (.slot 8) (.lit (.int .i64 8))),
    .asg 17 (.n2 (.bin .geq) (.slot 8) (.lit (.int .i64 8)))])
  (.cond (.slot 17)
    (.seq
    (.reg [.need (.n1 (.conv .u64) (.slot 8)),
      .eff (some 9) (.alloc 108) 0 [] none [],
      .eff none (.store 108 (.tmp 9) (.tmp 19)) 0 [(9, .slot 9), (19, .n1 (.conv .u64) (.slot 8))] none []])
    (.seq
    (.reg [.eff (some 21) (.call { callee := .value (.func 80), args := #[.tmp 20], argTypes := #[3] }) 74 [(20, .slot 8)] none [],
      .asg 10 (.slot 21)])
    (.seq
    (.reg [.need (.n2 (.bin .quo) (.slot 8) (.lit (.int .i64 4))),
      .need (.n2 (.bin .mul) (.n2 (.bin .quo) (.slot 8) (.lit (.int .i64 4))) (.lit (.int .i64 2))),
      .need (.n2 (.bin .add) (.slot 1) (.n2 (.bin .mul) (.n2 (.bin .quo) (.slot 8) (.lit (.int .i64 4))) (.lit (.int .i64 2)))),
      .need (.n2 (.bin .sub) (.n2 (.bin .add) (.slot 1) (.n2 (.bin .mul) (.n2 (.bin .quo) (.slot 8) (.lit (.int .i64 4))) (.lit (.int .i64 2)))) (.lit (.int .i64 1))),
      .asg 11 (.n2 (.bin .sub) (.n2 (.bin .add) (.slot 1) (.n2 (.bin .mul) (.n2 (.bin .quo) (.slot 8) (.lit (.int .i64 4))) (.lit (.int .i64 2)))) (.lit (.int .i64 1)))])
    (.block 0
      (.loop
        h59_1)))))
    .skip)))
theorem k59 : fnOK Try.prog 18446779567321521935 [⟨10, [0, 0, 0, 0, 0, 24, 0, 0, 0, 384, 960, 1984, 0, 0, 12288, 28672, 65475, 131011, 262143, 524287], [(0, []), (1, []), (2, []), (3, []), (4, []), (5, []), (6, []), (7, []), (8, []), (9, []), (10, []), (11, []), (12, []), (13, []), (14, []), (15, []), (16, []), (17, []), (18, []), (19, [])], none⟩] [] 4 Try.f59 = some h59 := by kernel_rfl
theorem c59 : callable Try.prog 59 = true := by kernel_rfl
theorem q59 {args : List Value} (ha : args.length = 4) {w : World} {next : Value → World → Prop} {QP : List PanicEntry → World → Prop} (H : hw Try.prog noPanic h59 (endV [] next) (σ0 args) w) : callK Try.prog 59 args w next QP := fn_rule Try.func59 mixed k59 ha H
theorem r59 {args : List Value} (ha : args.length = 4) {w : World} {next : Value → World → Prop} {QP : List PanicEntry → World → Prop} (H : hw Try.prog noPanic h59 (endV [] next) (σ0 args) w) : callvK Try.prog (.func (.func 59) #[] #[]) args w next QP := callf c59 (q59 ha H)

/- slices.choosePivotCmpFunc(missive/thread.branch) -/
def h60_1 : HC :=
  (.reg [.eff (some 54) (.call { callee := .value (.func 83), args := #[.tmp 49, .tmp 50, .tmp 51, .tmp 52, .tmp 11, .tmp 53], argTypes := #[50, 3, 3, 3, 112, 58] }) 3 [(49, .slot 0), (50, .slot 12), (51, .slot 13), (52, .slot 14), (11, .slot 11), (53, .slot 3)] none [],
    .asg 13 (.slot 54)])
def h60_2 : HC :=
  (.seq
  (.reg [.need (.n1 .ld (.slot 11)),
    .asg 55 (.n1 .ld (.slot 11))])
  (.block 0
    (.seq
    (.reg [.need (.n2 (.bin .eql) (.slot 55) (.lit (.int .i64 0))),
      .asg 57 (.n2 (.bin .eql) (.slot 55) (.lit (.int .i64 0)))])
    (.cond (.slot 57)
      (.seq
      (.reg [.asg 8 (.slot 13),
        .asg 9 (.lit (.int .i64 1))])
      .ret)
      (.seq
      (.reg [.need (.n2 (.bin .eql) (.slot 55) (.lit (.int .i64 12))),
        .asg 60 (.n2 (.bin .eql) (.slot 55) (.lit (.int .i64 12)))])
      (.cond (.slot 60)
        (.seq
        (.reg [.asg 8 (.slot 13),
          .asg 9 (.lit (.int .i64 2))])
        .ret)
        (.seq
        (.reg [.asg 8 (.slot 13),
          .asg 9 (.lit (.int .i64 0))])
        .ret)))))))
def h60 : HC :=
  (.seq
  (.reg [.asg 8 (.lit (.int .i64 0)),
    .asg 9 (.lit (.int .i64 0))])
  (.seq
  (.reg [.need (.n2 (.bin .sub) (.slot 2) (.slot 1)),
    .asg 10 (.n2 (.bin .sub) (.slot 2) (.slot 1))])
  (.seq
  (.reg [.eff (some 11) (.alloc 3) 0 [] none []])
  (.seq
  (.reg [.need (.n2 (.bin .quo) (.slot 10) (.lit (.int .i64 4))),
    .need (.n2 (.bin .mul) (.n2 (.bin .quo) (.slot 10) (.lit (.int .i64 4))) (.lit (.int .i64 1))),
    .need (.n2 (.bin .add) (.slot 1) (.n2 (.bin .mul) (.n2 (.bin .quo) (.slot 10) (.lit (.int .i64 4))) (.lit (.int .i64 1)))),
    .asg 12 (.n2 (.bin .add) (.slot 1) (.n2 (.bin .mul) (.n2 (.bin .quo) (.slot 10) (.lit (.int .i64 4))) (.lit (.int .i64 1))))])
  (.seq
  (.reg [.need (.n2 (.bin .quo) (.slot 10) (.lit (.int .i64 4))),
    .need (.n2 (.bin .mul) (.n2 (.bin .quo) (.slot 10) (.lit (.int .i64 4))) (.lit (.int .i64 2))),
    .need (.n2 (.bin .add) (.slot 1) (.n2 (.bin .mul) (.n2 (.bin .quo) (.slot 10) (.lit (.int .i64 4))) (.lit (.int .i64 2)))),
    .asg 13 (.n2 (.bin .add) (.slot 1) (.n2 (.bin .mul) (.n2 (.bin .quo) (.slot 10) (.lit (.int .i64 4))) (.lit (.int .i64 2))))])
  (.seq
  (.reg [.need (.n2 (.bin .quo) (.slot 10) (.lit (.int .i64 4))),
    .need (.n2 (.bin .mul) (.n2 (.bin .quo) (.slot 10) (.lit (.int .i64 4))) (.lit (.int .i64 3))),
    .need (.n2 (.bin .add) (.slot 1) (.n2 (.bin .mul) (.n2 (.bin .quo) (.slot 10) (.lit (.int .i64 4))) (.lit (.int .i64 3)))),
    .asg 14 (.n2 (.bin .add) (.slot 1) (.n2 (.bin .mul) (.n2 (.bin .quo) (.slot 10) (.lit (.int .i64 4))) (.lit (.int .i64 3))))])
  (.seq
  (.seq
  (.reg [.need (.n2 (.bin .geq) (.slot 10) (.lit (.int .i64 8))),
    .asg 34 (.n2 (.bin .geq) (.slot 10) (.lit (.int .i64 8)))])
  (.cond (.slot 34)
    (.seq
    (.seq
    (.reg [.need (.n2 (.bin .geq) (.slot 10) (.lit (.int .i64 50))),
      .asg 36 (.n2 (.bin .geq) (.slot 10) (.lit (.int .i64 50)))])
    (.cond (.slot 36)
      (.seq
      (.reg [.eff (some 40) (.call { callee := .value (.func 82), args := #[.tmp 37, .tmp 38, .tmp 11, .tmp 39], argTypes := #[50, 3, 112, 58] }) 3 [(37, .slot 0), (38, .slot 12), (11, .slot 11), (39, .slot 3)] none [],
        .asg 12 (.slot 40)])
      (.seq
      (.reg [.eff (some 44) (.call { callee := .value (.func 82), args := #[.tmp 41, .tmp 42, .tmp 11, .tmp 43], argTypes := #[50, 3, 112, 58] }) 3 [(41, .slot 0), (42, .slot 13), (11, .slot 11), (43, .slot 3)] none [],
        .asg 13 (.slot 44)])
      (.reg [.eff (some 48) (.call { callee := .value (.func 82), args := #[.tmp 45, .tmp 46, .tmp 11, .tmp 47], argTypes := #[50, 3, 112, 58] }) 3 [(45, .slot 0), (46, .slot 14), (11, .slot 11), (47, .slot 3)] none [],
        .asg 14 (.slot 48)])))
      .skip))
    h60_1)
    .skip))
  h60_2)))))))
theorem k60 : fnOK Try.prog 1351380140784910095 [] [.tmp 8, .tmp 9] 4 Try.f60 = some h60 := by kernel_rfl
theorem c60 : callable Try.prog 60 = true := by kernel_rfl
theorem q60 {args : List Value} (ha : args.length = 4) {w : World} {next : Value → World → Prop} {QP : List PanicEntry → World → Prop} (H : hw Try.prog noPanic h60 (endV [.tmp 8, .tmp 9] next) (σ0 args) w) : callK Try.prog 60 args w next QP := fn_rule Try.func60 mixed k60 ha H
theorem r60 {args : List Value} (ha : args.length = 4) {w : World} {next : Value → World → Prop} {QP : List PanicEntry → World → Prop} (H : hw Try.prog noPanic h60 (endV [.tmp 8, .tmp 9] next) (σ0 args) w) : callvK Try.prog (.func (.func 60) #[] #[]) args w next QP := callf c60 (q60 ha H)

/- slices.reverseRangeCmpFunc(missive/thread.branch) -/
def h61_2 : HC :=
  (.block 1
    (.seq
    (.draw [.need (.n2 (.iaddr 6) (.slot 0) (.slot 9)),
      .need (.n1 (.ldn 6) (.n2 (.iaddr 6) (.slot 0) (.slot 9))),
      .need (.n2 (.iaddr 6) (.slot 0) (.slot 8)),
      .need (.n1 (.ldn 6) (.n2 (.iaddr 6) (.slot 0) (.slot 8))),
      .asg 27 (.n1 (.ldn 6) (.n2 (.iaddr 6) (.slot 0) (.slot 8))),
      .need (.n2 (.iaddr 6) (.slot 0) (.slot 8)),
      .eff none (.store 53 (.tmp 28) (.tmp 23)) 0 [(28, .n2 (.iaddr 6) (.slot 0) (.slot 8)), (23, .n1 (.ldn 6) (.n2 (.iaddr 6) (.slot 0) (.slot 9)))] none [],
      .need (.n2 (.iaddr 6) (.slot 0) (.slot 9)),
      .eff none (.store 53 (.tmp 29) (.tmp 27)) 0 [(29, .n2 (.iaddr 6) (.slot 0) (.slot 9)), (27, .slot 27)] none []])
    (.seq
    (.reg [.need (.n2 (.bin .add) (.slot 8) (.lit (.int .i64 1))),
      .asg 8 (.n2 (.bin .add) (.slot 8) (.lit (.int .i64 1)))])
    (.reg [.need (.n2 (.bin .sub) (.slot 9) (.lit (.int .i64 1))),
      .asg 9 (.n2 (.bin .sub) (.slot 9) (.lit (.int .i64 1)))]))))
def h61_1 : HC :=
  (.seq
  (.seq
  (.reg [.need (.n2 (.bin .lss) (.slot 8) (.slot 9)),
    .asg 15 (.n2 (.bin .lss) (.slot 8) (.slot 9))])
  (.cond (.slot 15)
    .skip
    (.exit 0)))
  h61_2)
def h61 : HC :=
  (.seq
  (.reg [.asg 8 (.slot 1)])
  (.seq
  (.reg [.need (.n2 (.bin .sub) (.slot 2) (.lit (.int .i64 1))),
    .asg 9 (.n2 (.bin .sub) (.slot 2) (.lit (.int .i64 1)))])
  (.block 0
    (.loop
      h61_1))))
theorem k61 : fnOK Try.prog 134251279 [⟨3, [0, 0, 0, 0, 0, 0, 48, 112, 0, 0, 768, 1792, 4083, 8179, 16383, 32767], [(0, []), (1, []), (2, []), (3, []), (4, []), (5, []), (6, []), (7, []), (8, []), (9, []), (10, []), (11, []), (12, []), (13, []), (14, []), (15, [])], none⟩] [] 4 Try.f61 = some h61 := by kernel_rfl
theorem c61 : callable Try.prog 61 = true := by kernel_rfl
theorem q61 {args : List Value} (ha : args.length = 4) {w : World} {next : Value → World → Prop} {QP : List PanicEntry → World → Prop} (H : hw Try.prog noPanic h61 (endV [] next) (σ0 args) w) : callK Try.prog 61 args w next QP := fn_rule Try.func61 mixed k61 ha H
theorem r61 {args : List Value} (ha : args.length = 4) {w : World} {next : Value → World → Prop} {QP : List PanicEntry → World → Prop} (H : hw Try.prog noPanic h61 (endV [] next) (σ0 args) w) : callvK Try.prog (.func (.func 61) #[] #[]) args w next QP := callf c61 (q61 ha H)

/- slices.partialInsertionSortCmpFunc(missive/thread.branch) -/
def h62_4 : HC :=
  (.block 3
    (.reg [.need (.n2 (.bin .add) (.slot 9) (.lit (.int .i64 1))),
      .asg 9 (.n2 (.bin .add) (.slot 9) (.lit (.int .i64 1)))]))
def h62_3 : HC :=
  (.seq
  (.seq
  (.draw [.need (.n2 (.bin .lss) (.slot 9) (.slot 2)),
    .need (.gif (.n2 (.bin .lss) (.slot 9) (.slot 2)) true (.n2 (.iaddr 6) (.slot 0) (.slot 9))),
    .need (.gif (.n2 (.bin .lss) (.slot 9) (.slot 2)) true (.n1 (.ldn 6) (.n2 (.iaddr 6) (.slot 0) (.slot 9)))),
    .need (.gif (.n2 (.bin .lss) (.slot 9) (.slot 2)) true (.n2 (.bin .sub) (.slot 9) (.lit (.int .i64 1)))),
    .need (.gif (.n2 (.bin .lss) (.slot 9) (.slot 2)) true (.n2 (.iaddr 6) (.slot 0) (.n2 (.bin .sub) (.slot 9) (.lit (.int .i64 1))))),
    .need (.gif (.n2 (.bin .lss) (.slot 9) (.slot 2)) true (.n1 (.ldn 6) (.n2 (.iaddr 6) (.slot 0) (.n2 (.bin .sub) (.slot 9) (.lit (.int .i64 1)))))),
    .eff (some 33) (.call { callee := .value (.tmp 23), args := #[.tmp 27, .tmp 32], argTypes := #[53, 53] }) 3 [(23, .slot 3), (27, .n1 (.ldn 6) (.n2 (.iaddr 6) (.slot 0) (.slot 9))), (32, .n1 (.ldn 6) (.n2 (.iaddr 6) (.slot 0) (.n2 (.bin .sub) (.slot 9) (.lit (.int .i64 1)))))] (some (.n2 (.bin .lss) (.slot 9) (.slot 2), true)) [],
    .need (.gif (.n2 (.bin .lss) (.slot 9) (.slot 2)) true (.n2 (.bin .lss) (.slot 33) (.lit (.int .i64 0)))),
    .need (.gif (.n2 (.bin .lss) (.slot 9) (.slot 2)) true (.n1 .bnot (.n2 (.bin .lss) (.slot 33) (.lit (.int .i64 0))))),
    .need (.n3 .pick (.n2 (.bin .lss) (.slot 9) (.slot 2)) (.n1 .bnot (.n2 (.bin .lss) (.slot 33) (.lit (.int .i64 0)))) (.lit (.bool false))),
    .asg 36 (.n3 .pick (.n2 (.bin .lss) (.slot 9) (.slot 2)) (.n1 .bnot (.n2 (.bin .lss) (.slot 33) (.lit (.int .i64 0)))) (.lit (.bool false)))])
  (.cond (.slot 36)
    .skip
    (.exit 2)))
  h62_4)
def h62_10 : HC :=
  (.draw [.need (.n2 (.bin .sub) (.slot 11) (.lit (.int .i64 1))),
    .need (.n2 (.bin .sub) (.slot 11) (.lit (.int .i64 1))),
    .need (.n2 (.iaddr 6) (.slot 0) (.n2 (.bin .sub) (.slot 11) (.lit (.int .i64 1)))),
    .need (.n1 (.ldn 6) (.n2 (.iaddr 6) (.slot 0) (.n2 (.bin .sub) (.slot 11) (.lit (.int .i64 1))))),
    .need (.n2 (.iaddr 6) (.slot 0) (.slot 11)),
    .need (.n1 (.ldn 6) (.n2 (.iaddr 6) (.slot 0) (.slot 11))),
    .asg 98 (.n1 (.ldn 6) (.n2 (.iaddr 6) (.slot 0) (.slot 11))),
    .need (.n2 (.iaddr 6) (.slot 0) (.slot 11)),
    .eff none (.store 53 (.tmp 99) (.tmp 94)) 0 [(99, .n2 (.iaddr 6) (.slot 0) (.slot 11)), (94, .n1 (.ldn 6) (.n2 (.iaddr 6) (.slot 0) (.n2 (.bin .sub) (.slot 11) (.lit (.int .i64 1)))))] none [],
    .need (.n2 (.iaddr 6) (.slot 0) (.n2 (.bin .sub) (.slot 11) (.lit (.int .i64 1)))),
    .eff none (.store 53 (.tmp 100) (.tmp 98)) 0 [(100, .n2 (.iaddr 6) (.slot 0) (.n2 (.bin .sub) (.slot 11) (.lit (.int .i64 1)))), (98, .slot 98)] none []])
def h62_11 : HC :=
  (.reg [.need (.n2 (.bin .sub) (.slot 11) (.lit (.int .i64 1))),
    .asg 11 (.n2 (.bin .sub) (.slot 11) (.lit (.int .i64 1)))])
def h62_9 : HC :=
  (.seq
  (.block 5
    (.seq
    (.seq
    (.draw [.need (.n2 (.iaddr 6) (.slot 0) (.slot 11)),
      .need (.n1 (.ldn 6) (.n2 (.iaddr 6) (.slot 0) (.slot 11))),
      .need (.n2 (.bin .sub) (.slot 11) (.lit (.int .i64 1))),
      .need (.n2 (.iaddr 6) (.slot 0) (.n2 (.bin .sub) (.slot 11) (.lit (.int .i64 1)))),
      .need (.n1 (.ldn 6) (.n2 (.iaddr 6) (.slot 0) (.n2 (.bin .sub) (.slot 11) (.lit (.int .i64 1))))),
      .eff (some 82) (.call { callee := .value (.tmp 72), args := #[.tmp 76, .tmp 81], argTypes := #[53, 53] }) 3 [(72, .slot 3), (76, .n1 (.ldn 6) (.n2 (.iaddr 6) (.slot 0) (.slot 11))), (81, .n1 (.ldn 6) (.n2 (.iaddr 6) (.slot 0) (.n2 (.bin .sub) (.slot 11) (.lit (.int .i64 1)))))] none [],
      .need (.n2 (.bin .lss) (.slot 82) (.lit (.int .i64 0))),
      .need (.n1 .bnot (.n2 (.bin .lss) (.slot 82) (.lit (.int .i64 0)))),
      .asg 84 (.n1 .bnot (.n2 (.bin .lss) (.slot 82) (.lit (.int .i64 0))))])
    (.cond (.slot 84)
      (.exit 4)
      .skip))
    h62_10))
  h62_11)
def h62_8 : HC :=
  (.seq
  (.seq
  (.reg [.need (.n2 (.bin .geq) (.slot 11) (.lit (.int .i64 1))),
    .asg 69 (.n2 (.bin .geq) (.slot 11) (.lit (.int .i64 1)))])
  (.cond (.slot 69)
    .skip
    (.exit 4)))
  h62_9)
def h62_15 : HC :=
  (.draw [.need (.n2 (.bin .sub) (.slot 12) (.lit (.int .i64 1))),
    .need (.n2 (.bin .sub) (.slot 12) (.lit (.int .i64 1))),
    .need (.n2 (.iaddr 6) (.slot 0) (.n2 (.bin .sub) (.slot 12) (.lit (.int .i64 1)))),
    .need (.n1 (.ldn 6) (.n2 (.iaddr 6) (.slot 0) (.n2 (.bin .sub) (.slot 12) (.lit (.int .i64 1))))),
    .need (.n2 (.iaddr 6) (.slot 0) (.slot 12)),
    .need (.n1 (.ldn 6) (.n2 (.iaddr 6) (.slot 0) (.slot 12))),
    .asg 138 (.n1 (.ldn 6) (.n2 (.iaddr 6) (.slot 0) (.slot 12))),
    .need (.n2 (.iaddr 6) (.slot 0) (.slot 12)),
    .eff none (.store 53 (.tmp 139) (.tmp 134)) 0 [(139, .n2 (.iaddr 6) (.slot 0) (.slot 12)), (134, .n1 (.ldn 6) (.n2 (.iaddr 6) (.slot 0) (.n2 (.bin .sub) (.slot 12) (.lit (.int .i64 1)))))] none [],
    .need (.n2 (.iaddr 6) (.slot 0) (.n2 (.bin .sub) (.slot 12) (.lit (.int .i64 1)))),
    .eff none (.store 53 (.tmp 140) (.tmp 138)) 0 [(140, .n2 (.iaddr 6) (.slot 0) (.n2 (.bin .sub) (.slot 12) (.lit (.int .i64 1)))), (138, .slot 138)] none []])
def h62_16 : HC :=
  (.reg [.need (.n2 (.bin .add) (.slot 12) (.lit (.int .i64 1))),
    .asg 12 (.n2 (.bin .add) (.slot 12) (.lit (.int .i64 1)))])
def h62_14 : HC :=
  (.seq
  (.block 7
    (.seq
    (.seq
    (.draw [.need (.n2 (.iaddr 6) (.slot 0) (.slot 12)),
      .need (.n1 (.ldn 6) (.n2 (.iaddr 6) (.slot 0) (.slot 12))),
      .need (.n2 (.bin .sub) (.slot 12) (.lit (.int .i64 1))),
      .need (.n2 (.iaddr 6) (.slot 0) (.n2 (.bin .sub) (.slot 12) (.lit (.int .i64 1)))),
      .need (.n1 (.ldn 6) (.n2 (.iaddr 6) (.slot 0) (.n2 (.bin .sub) (.slot 12) (.lit (.int .i64 1))))),
      .eff (some 122) (.call { callee := .value (.tmp 112), args := #[.tmp 116, .tmp 121], argTypes := #[53, 53] }) 3 [(112, .slot 3), (116, .n1 (.ldn 6) (.n2 (.iaddr 6) (.slot 0) (.slot 12))), (121, .n1 (.ldn 6) (.n2 (.iaddr 6) (.slot 0) (.n2 (.bin .sub) (.slot 12) (.lit (.int .i64 1)))))] none [],
      .need (.n2 (.bin .lss) (.slot 122) (.lit (.int .i64 0))),
      .need (.n1 .bnot (.n2 (.bin .lss) (.slot 122) (.lit (.int .i64 0)))),
      .asg 124 (.n1 .bnot (.n2 (.bin .lss) (.slot 122) (.lit (.int .i64 0))))])
    (.cond (.slot 124)
      (.exit 6)
      .skip))
    h62_15))
  h62_16)
def h62_13 : HC :=
  (.seq
  (.seq
  (.reg [.need (.n2 (.bin .lss) (.slot 12) (.slot 2)),
    .asg 109 (.n2 (.bin .lss) (.slot 12) (.slot 2))])
  (.cond (.slot 109)
    .skip
    (.exit 6)))
  h62_14)
def h62_12 : HC :=
  (.seq
  (.reg [.need (.n2 (.bin .sub) (.slot 2) (.slot 9)),
    .need (.n2 (.bin .geq) (.n2 (.bin .sub) (.slot 2) (.slot 9)) (.lit (.int .i64 2))),
    .asg 104 (.n2 (.bin .geq) (.n2 (.bin .sub) (.slot 2) (.slot 9)) (.lit (.int .i64 2)))])
  (.cond (.slot 104)
    (.seq
    (.reg [.need (.n2 (.bin .add) (.slot 9) (.lit (.int .i64 1))),
      .asg 12 (.n2 (.bin .add) (.slot 9) (.lit (.int .i64 1)))])
    (.block 6
      (.loop
        h62_13)))
    .skip))
def h62_7 : HC :=
  (.seq
  (.draw [.need (.n2 (.bin .sub) (.slot 9) (.lit (.int .i64 1))),
    .need (.n2 (.bin .sub) (.slot 9) (.lit (.int .i64 1))),
    .need (.n2 (.iaddr 6) (.slot 0) (.n2 (.bin .sub) (.slot 9) (.lit (.int .i64 1)))),
    .need (.n1 (.ldn 6) (.n2 (.iaddr 6) (.slot 0) (.n2 (.bin .sub) (.slot 9) (.lit (.int .i64 1))))),
    .need (.n2 (.iaddr 6) (.slot 0) (.slot 9)),
    .need (.n1 (.ldn 6) (.n2 (.iaddr 6) (.slot 0) (.slot 9))),
    .asg 59 (.n1 (.ldn 6) (.n2 (.iaddr 6) (.slot 0) (.slot 9))),
    .need (.n2 (.iaddr 6) (.slot 0) (.slot 9)),
    .eff none (.store 53 (.tmp 60) (.tmp 55)) 0 [(60, .n2 (.iaddr 6) (.slot 0) (.slot 9)), (55, .n1 (.ldn 6) (.n2 (.iaddr 6) (.slot 0) (.n2 (.bin .sub) (.slot 9) (.lit (.int .i64 1)))))] none [],
    .need (.n2 (.iaddr 6) (.slot 0) (.n2 (.bin .sub) (.slot 9) (.lit (.int .i64 1)))),
    .eff none (.store 53 (.tmp 61) (.tmp 59)) 0 [(61, .n2 (.iaddr 6) (.slot 0) (.n2 (.bin .sub) (.slot 9) (.lit (.int .i64 1)))), (59, .slot 59)] none []])
  (.seq
  (.seq
  (.reg [.need (.n2 (.bin .sub) (.slot 9) (.slot 1)),
    .need (.n2 (.bin .geq) (.n2 (.bin .sub) (.slot 9) (.slot 1)) (.lit (.int .i64 2))),
    .asg 65 (.n2 (.bin .geq) (.n2 (.bin .sub) (.slot 9) (.slot 1)) (.lit (.int .i64 2)))])
  (.cond (.slot 65)
    (.seq
    (.reg [.need (.n2 (.bin .sub) (.slot 9) (.lit (.int .i64 1))),
      .asg 11 (.n2 (.bin .sub) (.slot 9) (.lit (.int .i64 1)))])
    (.block 4
      (.loop
        h62_8)))
    .skip))
  h62_12))
def h62_6 : HC :=
  (.seq
  (.seq
  (.reg [.need (.n2 (.bin .sub) (.slot 2) (.slot 1)),
    .need (.n2 (.bin .lss) (.n2 (.bin .sub) (.slot 2) (.slot 1)) (.lit (.int .i64 50))),
    .asg 45 (.n2 (.bin .lss) (.n2 (.bin .sub) (.slot 2) (.slot 1)) (.lit (.int .i64 50)))])
  (.cond (.slot 45)
    (.seq
    (.reg [.asg 8 (.lit (.bool false))])
    .ret)
    .skip))
  h62_7)
def h62_5 : HC :=
  (.seq
  (.seq
  (.reg [.need (.n2 (.bin .eql) (.slot 9) (.slot 2)),
    .asg 41 (.n2 (.bin .eql) (.slot 9) (.slot 2))])
  (.cond (.slot 41)
    (.seq
    (.reg [.asg 8 (.lit (.bool true))])
    .ret)
    .skip))
  h62_6)
def h62_17 : HC :=
  (.reg [.need (.n2 (.bin .add) (.slot 10) (.lit (.int .i64 1))),
    .asg 10 (.n2 (.bin .add) (.slot 10) (.lit (.int .i64 1)))])
def h62_2 : HC :=
  (.seq
  (.block 1
    (.seq
    (.block 2
      (.loop
        h62_3))
    h62_5))
  h62_17)
def h62_1 : HC :=
  (.seq
  (.seq
  (.reg [.need (.n2 (.bin .lss) (.slot 10) (.lit (.int .i64 5))),
    .asg 16 (.n2 (.bin .lss) (.slot 10) (.lit (.int .i64 5)))])
  (.cond (.slot 16)
    .skip
    (.exit 0)))
  h62_2)
def h62_18 : HC :=
  (.seq
  (.reg [.asg 8 (.lit (.bool false))])
  .ret)
def h62 : HC :=
  (.seq
  (.reg [.asg 8 (.lit (.bool false))])
  (.seq
  (.reg [.need (.n2 (.bin .add) (.slot 1) (.lit (.int .i64 1))),
    .asg 9 (.n2 (.bin .add) (.slot 1) (.lit (.int .i64 1)))])
  (.seq
  (.seq
  (.reg [.asg 10 (.lit (.int .i64 0))])
  (.block 0
    (.loop
      h62_1)))
  h62_18)))
theorem k62 : fnOK Try.prog 348475728956593138653660013581272350793487 [⟨5, [0, 0, 3, 7, 15, 15, 15, 111, 239, 15, 15, 1039, 3599, 7695, 16383, 32767, 65535, 131071], [(0, []), (1, []), (2, []), (3, []), (4, []), (5, []), (6, []), (7, []), (8, []), (9, []), (10, []), (11, []), (12, []), (13, []), (14, []), (15, []), (16, []), (17, [])], none⟩, ⟨11, [0, 0, 0, 0, 8, 0, 0, 64, 224, 480, 0, 0, 3072, 7168, 16355, 32739, 65535, 131071], [(0, []), (1, []), (2, []), (3, []), (4, []), (5, []), (6, []), (7, []), (8, []), (9, []), (10, []), (11, []), (12, []), (13, []), (14, []), (15, []), (16, []), (17, [])], none⟩, ⟨16, [0, 0, 0, 6, 14, 0, 0, 64, 224, 480, 1023, 2047, 4095], [(0, []), (1, []), (2, []), (3, []), (4, []), (5, []), (6, []), (7, []), (8, []), (9, []), (10, []), (11, []), (12, [])], none⟩, ⟨17, [0, 0, 0, 0, 8, 0, 0, 64, 224, 480, 0, 0, 3072, 7168, 16355, 32739, 65535, 131071], [(0, []), (1, []), (2, []), (3, []), (4, []), (5, []), (6, []), (7, []), (8, []), (9, []), (10, []), (11, []), (12, []), (13, []), (14, []), (15, []), (16, []), (17, [])], none⟩, ⟨22, [0, 0, 0, 6, 14, 0, 0, 64, 224, 480, 1023, 2047, 4095], [(0, []), (1, []), (2, []), (3, []), (4, []), (5, []), (6, []), (7, []), (8, []), (9, []), (10, []), (11, []), (12, [])], none⟩, ⟨23, [0, 0, 0, 0, 8, 0, 0, 64, 224, 480, 0, 0, 3072, 7168, 16355, 32739, 65535, 131071], [(0, []), (1, []), (2, []), (3, []), (4, []), (5, []), (6, []), (7, []), (8, []), (9, []), (10, []), (11, []), (12, []), (13, []), (14, []), (15, []), (16, []), (17, [])], none⟩] [.tmp 8] 4 Try.f62 = some h62 := by kernel_rfl
theorem c62 : callable Try.prog 62 = true := by kernel_rfl
theorem q62 {args : List Value} (ha : args.length = 4) {w : World} {next : Value → World → Prop} {QP : List PanicEntry → World → Prop} (H : hw Try.prog noPanic h62 (endV [.tmp 8] next) (σ0 args) w) : callK Try.prog 62 args w next QP := fn_rule Try.func62 mixed k62 ha H
theorem r62 {args : List Value} (ha : args.length = 4) {w : World} {next : Value → World → Prop} {QP : List PanicEntry → World → Prop} (H : hw Try.prog noPanic h62 (endV [.tmp 8] next) (σ0 args) w) : callvK Try.prog (.func (.func 62) #[] #[]) args w next QP := callf c62 (q62 ha H)

/- slices.partitionEqualCmpFunc(missive/thread.branch) -/
def h63_3 : HC :=
  (.block 3
    (.reg [.need (.n2 (.bin .add) (.slot 11) (.lit (.int .i64 1))),
      .asg 11 (.n2 (.bin .add) (.slot 11) (.lit (.int .i64 1)))]))
def h63_2 : HC :=
  (.seq
  (.seq
  (.draw [.need (.n2 (.bin .leq) (.slot 11) (.slot 12)),
    .need (.gif (.n2 (.bin .leq) (.slot 11) (.slot 12)) true (.n2 (.iaddr 6) (.slot 0) (.slot 1))),
    .need (.gif (.n2 (.bin .leq) (.slot 11) (.slot 12)) true (.n1 (.ldn 6) (.n2 (.iaddr 6) (.slot 0) (.slot 1)))),
    .need (.gif (.n2 (.bin .leq) (.slot 11) (.slot 12)) true (.n2 (.iaddr 6) (.slot 0) (.slot 11))),
    .need (.gif (.n2 (.bin .leq) (.slot 11) (.slot 12)) true (.n1 (.ldn 6) (.n2 (.iaddr 6) (.slot 0) (.slot 11)))),
    .eff (some 44) (.call { callee := .value (.tmp 35), args := #[.tmp 39, .tmp 43], argTypes := #[53, 53] }) 3 [(35, .slot 4), (39, .n1 (.ldn 6) (.n2 (.iaddr 6) (.slot 0) (.slot 1))), (43, .n1 (.ldn 6) (.n2 (.iaddr 6) (.slot 0) (.slot 11)))] (some (.n2 (.bin .leq) (.slot 11) (.slot 12), true)) [],
    .need (.gif (.n2 (.bin .leq) (.slot 11) (.slot 12)) true (.n2 (.bin .lss) (.slot 44) (.lit (.int .i64 0)))),
    .need (.gif (.n2 (.bin .leq) (.slot 11) (.slot 12)) true (.n1 .bnot (.n2 (.bin .lss) (.slot 44) (.lit (.int .i64 0))))),
    .need (.n3 .pick (.n2 (.bin .leq) (.slot 11) (.slot 12)) (.n1 .bnot (.n2 (.bin .lss) (.slot 44) (.lit (.int .i64 0)))) (.lit (.bool false))),
    .asg 47 (.n3 .pick (.n2 (.bin .leq) (.slot 11) (.slot 12)) (.n1 .bnot (.n2 (.bin .lss) (.slot 44) (.lit (.int .i64 0)))) (.lit (.bool false)))])
  (.cond (.slot 47)
    .skip
    (.exit 2)))
  h63_3)
def h63_6 : HC :=
  (.block 5
    (.reg [.need (.n2 (.bin .sub) (.slot 12) (.lit (.int .i64 1))),
      .asg 12 (.n2 (.bin .sub) (.slot 12) (.lit (.int .i64 1)))]))
def h63_5 : HC :=
  (.seq
  (.seq
  (.draw [.need (.n2 (.bin .leq) (.slot 11) (.slot 12)),
    .need (.gif (.n2 (.bin .leq) (.slot 11) (.slot 12)) true (.n2 (.iaddr 6) (.slot 0) (.slot 1))),
    .need (.gif (.n2 (.bin .leq) (.slot 11) (.slot 12)) true (.n1 (.ldn 6) (.n2 (.iaddr 6) (.slot 0) (.slot 1)))),
    .need (.gif (.n2 (.bin .leq) (.slot 11) (.slot 12)) true (.n2 (.iaddr 6) (.slot 0) (.slot 12))),
    .need (.gif (.n2 (.bin .leq) (.slot 11) (.slot 12)) true (.n1 (.ldn 6) (.n2 (.iaddr 6) (.slot 0) (.slot 12)))),
    .eff (some 63) (.call { callee := .value (.tmp 54), args := #[.tmp 58, .tmp 62], argTypes := #[53, 53] }) 3 [(54, .slot 4), (58, .n1 (.ldn 6) (.n2 (.iaddr 6) (.slot 0) (.slot 1))), (62, .n1 (.ldn 6) (.n2 (.iaddr 6) (.slot 0) (.slot 12)))] (some (.n2 (.bin .leq) (.slot 11) (.slot 12), true)) [],
    .need (.gif (.n2 (.bin .leq) (.slot 11) (.slot 12)) true (.n2 (.bin .lss) (.slot 63) (.lit (.int .i64 0)))),
    .need (.n3 .pick (.n2 (.bin .leq) (.slot 11) (.slot 12)) (.n2 (.bin .lss) (.slot 63) (.lit (.int .i64 0))) (.lit (.bool false))),
    .asg 65 (.n3 .pick (.n2 (.bin .leq) (.slot 11) (.slot 12)) (.n2 (.bin .lss) (.slot 63) (.lit (.int .i64 0))) (.lit (.bool false)))])
  (.cond (.slot 65)
    .skip
    (.exit 4)))
  h63_6)
def h63_8 : HC :=
  (.seq
  (.draw [.need (.n2 (.iaddr 6) (.slot 0) (.slot 12)),
    .need (.n1 (.ldn 6) (.n2 (.iaddr 6) (.slot 0) (.slot 12))),
    .need (.n2 (.iaddr 6) (.slot 0) (.slot 11)),
    .need (.n1 (.ldn 6) (.n2 (.iaddr 6) (.slot 0) (.slot 11))),
    .asg 82 (.n1 (.ldn 6) (.n2 (.iaddr 6) (.slot 0) (.slot 11))),
    .need (.n2 (.iaddr 6) (.slot 0) (.slot 11)),
    .eff none (.store 53 (.tmp 83) (.tmp 78)) 0 [(83, .n2 (.iaddr 6) (.slot 0) (.slot 11)), (78, .n1 (.ldn 6) (.n2 (.iaddr 6) (.slot 0) (.slot 12)))] none [],
    .need (.n2 (.iaddr 6) (.slot 0) (.slot 12)),
    .eff none (.store 53 (.tmp 84) (.tmp 82)) 0 [(84, .n2 (.iaddr 6) (.slot 0) (.slot 12)), (82, .slot 82)] none []])
  (.seq
  (.reg [.need (.n2 (.bin .add) (.slot 11) (.lit (.int .i64 1))),
    .asg 11 (.n2 (.bin .add) (.slot 11) (.lit (.int .i64 1)))])
  (.reg [.need (.n2 (.bin .sub) (.slot 12) (.lit (.int .i64 1))),
    .asg 12 (.n2 (.bin .sub) (.slot 12) (.lit (.int .i64 1)))])))
def h63_7 : HC :=
  (.seq
  (.seq
  (.reg [.need (.n2 (.bin .gtr) (.slot 11) (.slot 12)),
    .asg 70 (.n2 (.bin .gtr) (.slot 11) (.slot 12))])
  (.cond (.slot 70)
    (.exit 0)
    .skip))
  h63_8)
def h63_4 : HC :=
  (.seq
  (.block 4
    (.loop
      h63_5))
  h63_7)
def h63_1 : HC :=
  (.block 1
    (.seq
    (.block 2
      (.loop
        h63_2))
    h63_4))
def h63_9 : HC :=
  (.seq
  (.reg [.asg 10 (.slot 11)])
  .ret)
def h63 : HC :=
  (.seq
  (.reg [.asg 10 (.lit (.int .i64 0))])
  (.seq
  (.draw [.need (.n2 (.iaddr 6) (.slot 0) (.slot 3)),
    .need (.n1 (.ldn 6) (.n2 (.iaddr 6) (.slot 0) (.slot 3))),
    .need (.n2 (.iaddr 6) (.slot 0) (.slot 1)),
    .need (.n1 (.ldn 6) (.n2 (.iaddr 6) (.slot 0) (.slot 1))),
    .asg 24 (.n1 (.ldn 6) (.n2 (.iaddr 6) (.slot 0) (.slot 1))),
    .need (.n2 (.iaddr 6) (.slot 0) (.slot 1)),
    .eff none (.store 53 (.tmp 25) (.tmp 20)) 0 [(25, .n2 (.iaddr 6) (.slot 0) (.slot 1)), (20, .n1 (.ldn 6) (.n2 (.iaddr 6) (.slot 0) (.slot 3)))] none [],
    .need (.n2 (.iaddr 6) (.slot 0) (.slot 3)),
    .eff none (.store 53 (.tmp 26) (.tmp 24)) 0 [(26, .n2 (.iaddr 6) (.slot 0) (.slot 3)), (24, .slot 24)] none []])
  (.seq
  (.reg [.need (.n2 (.bin .add) (.slot 1) (.lit (.int .i64 1))),
    .need (.n2 (.bin .sub) (.slot 2) (.lit (.int .i64 1))),
    .asg 11 (.n2 (.bin .add) (.slot 1) (.lit (.int .i64 1))),
    .asg 12 (.n2 (.bin .sub) (.slot 2) (.lit (.int .i64 1)))])
  (.seq
  (.block 0
    (.loop
      h63_1))
  h63_9))))
theorem k63 : fnOK Try.prog 4836929987097748075191327 [⟨1, [0, 0, 0, 0, 0, 0, 48, 112, 0, 0, 768, 1792, 4083, 8179, 16383, 32767], [(0, []), (1, []), (2, []), (3, []), (4, []), (5, []), (6, []), (7, []), (8, []), (9, []), (10, []), (11, []), (12, []), (13, []), (14, []), (15, [])], none⟩, ⟨3, [0, 0, 3, 7, 15, 15, 15, 111, 239, 15, 15, 1551, 3599, 8191, 16383, 32767, 65535], [(0, []), (1, []), (2, []), (3, []), (4, []), (5, []), (6, []), (7, []), (8, []), (9, []), (10, []), (11, []), (12, []), (13, []), (14, []), (15, []), (16, [])], none⟩, ⟨5, [0, 0, 3, 7, 15, 15, 15, 111, 239, 15, 15, 1551, 3599, 8191, 16383, 32767], [(0, []), (1, []), (2, []), (3, []), (4, []), (5, []), (6, []), (7, []), (8, []), (9, []), (10, []), (11, []), (12, []), (13, []), (14, []), (15, [])], none⟩, ⟨8, [0, 0, 0, 0, 0, 0, 48, 112, 0, 0, 768, 1792, 4083, 8179, 16383, 32767], [(0, []), (1, []), (2, []), (3, []), (4, []), (5, []), (6, []), (7, []), (8, []), (9, []), (10, []), (11, []), (12, []), (13, []), (14, []), (15, [])], none⟩] [.tmp 10] 5 Try.f63 = some h63 := by kernel_rfl
theorem c63 : callable Try.prog 63 = true := by kernel_rfl
theorem q63 {args : List Value} (ha : args.length = 5) {w : World} {next : Value → World → Prop} {QP : List PanicEntry → World → Prop} (H : hw Try.prog noPanic h63 (endV [.tmp 10] next) (σ0 args) w) : callK Try.prog 63 args w next QP := fn_rule Try.func63 mixed k63 ha H
theorem r63 {args : List Value} (ha : args.length = 5) {w : World} {next : Value → World → Prop} {QP : List PanicEntry → World → Prop} (H : hw Try.prog noPanic h63 (endV [.tmp 10] next) (σ0 args) w) : callvK Try.prog (.func (.func 63) #[] #[]) args w next QP := callf c63 (q63 ha H)

/- slices.partitionCmpFunc(missive/thread.branch) -/
def h64_2 : HC :=
  (.block 1
    (.reg [.need (.n2 (.bin .add) (.slot 12) (.lit (.int .i64 1))),
      .asg 12 (.n2 (.bin .add) (.slot 12) (.lit (.int .i64 1)))]))
def h64_1 : HC :=
  (.seq
  (.seq
  (.draw [.need (.n2 (.bin .leq) (.slot 12) (.slot 13)),
    .need (.gif (.n2 (.bin .leq) (.slot 12) (.slot 13)) true (.n2 (.iaddr 6) (.slot 0) (.slot 12))),
    .need (.gif (.n2 (.bin .leq) (.slot 12) (.slot 13)) true (.n1 (.ldn 6) (.n2 (.iaddr 6) (.slot 0) (.slot 12)))),
    .need (.gif (.n2 (.bin .leq) (.slot 12) (.slot 13)) true (.n2 (.iaddr 6) (.slot 0) (.slot 1))),
    .need (.gif (.n2 (.bin .leq) (.slot 12) (.slot 13)) true (.n1 (.ldn 6) (.n2 (.iaddr 6) (.slot 0) (.slot 1)))),
    .eff (some 45) (.call { callee := .value (.tmp 36), args := #[.tmp 40, .tmp 44], argTypes := #[53, 53] }) 3 [(36, .slot 4), (40, .n1 (.ldn 6) (.n2 (.iaddr 6) (.slot 0) (.slot 12))), (44, .n1 (.ldn 6) (.n2 (.iaddr 6) (.slot 0) (.slot 1)))] (some (.n2 (.bin .leq) (.slot 12) (.slot 13), true)) [],
    .need (.gif (.n2 (.bin .leq) (.slot 12) (.slot 13)) true (.n2 (.bin .lss) (.slot 45) (.lit (.int .i64 0)))),
    .need (.n3 .pick (.n2 (.bin .leq) (.slot 12) (.slot 13)) (.n2 (.bin .lss) (.slot 45) (.lit (.int .i64 0))) (.lit (.bool false))),
    .asg 47 (.n3 .pick (.n2 (.bin .leq) (.slot 12) (.slot 13)) (.n2 (.bin .lss) (.slot 45) (.lit (.int .i64 0))) (.lit (.bool false)))])
  (.cond (.slot 47)
    .skip
    (.exit 0)))
  h64_2)
def h64_5 : HC :=
  (.block 3
    (.reg [.need (.n2 (.bin .sub) (.slot 13) (.lit (.int .i64 1))),
      .asg 13 (.n2 (.bin .sub) (.slot 13) (.lit (.int .i64 1)))]))
def h64_4 : HC :=
  (.seq
  (.seq
  (.draw [.need (.n2 (.bin .leq) (.slot 12) (.slot 13)),
    .need (.gif (.n2 (.bin .leq) (.slot 12) (.slot 13)) true (.n2 (.iaddr 6) (.slot 0) (.slot 13))),
    .need (.gif (.n2 (.bin .leq) (.slot 12) (.slot 13)) true (.n1 (.ldn 6) (.n2 (.iaddr 6) (.slot 0) (.slot 13)))),
    .need (.gif (.n2 (.bin .leq) (.slot 12) (.slot 13)) true (.n2 (.iaddr 6) (.slot 0) (.slot 1))),
    .need (.gif (.n2 (.bin .leq) (.slot 12) (.slot 13)) true (.n1 (.ldn 6) (.n2 (.iaddr 6) (.slot 0) (.slot 1)))),
    .eff (some 63) (.call { callee := .value (.tmp 54), args := #[.tmp 58, .tmp 62], argTypes := #[53, 53] }) 3 [(54, .slot 4), (58, .n1 (.ldn 6) (.n2 (.iaddr 6) (.slot 0) (.slot 13))), (62, .n1 (.ldn 6) (.n2 (.iaddr 6) (.slot 0) (.slot 1)))] (some (.n2 (.bin .leq) (.slot 12) (.slot 13), true)) [],
    .need (.gif (.n2 (.bin .leq) (.slot 12) (.slot 13)) true (.n2 (.bin .lss) (.slot 63) (.lit (.int .i64 0)))),
    .need (.gif (.n2 (.bin .leq) (.slot 12) (.slot 13)) true (.n1 .bnot (.n2 (.bin .lss) (.slot 63) (.lit (.int .i64 0))))),
    .need (.n3 .pick (.n2 (.bin .leq) (.slot 12) (.slot 13)) (.n1 .bnot (.n2 (.bin .lss) (.slot 63) (.lit (.int .i64 0)))) (.lit (.bool false))),
    .asg 66 (.n3 .pick (.n2 (.bin .leq) (.slot 12) (.slot 13)) (.n1 .bnot (.n2 (.bin .lss) (.slot 63) (.lit (.int .i64 0)))) (.lit (.bool false)))])
  (.cond (.slot 66)
    .skip
    (.exit 2)))
  h64_5)
def h64_10 : HC :=
  (.block 7
    (.reg [.need (.n2 (.bin .add) (.slot 12) (.lit (.int .i64 1))),
      .asg 12 (.n2 (.bin .add) (.slot 12) (.lit (.int .i64 1)))]))
def h64_9 : HC :=
  (.seq
  (.seq
  (.draw [.need (.n2 (.bin .leq) (.slot 12) (.slot 13)),
    .need (.gif (.n2 (.bin .leq) (.slot 12) (.slot 13)) true (.n2 (.iaddr 6) (.slot 0) (.slot 12))),
    .need (.gif (.n2 (.bin .leq) (.slot 12) (.slot 13)) true (.n1 (.ldn 6) (.n2 (.iaddr 6) (.slot 0) (.slot 12)))),
    .need (.gif (.n2 (.bin .leq) (.slot 12) (.slot 13)) true (.n2 (.iaddr 6) (.slot 0) (.slot 1))),
    .need (.gif (.n2 (.bin .leq) (.slot 12) (.slot 13)) true (.n1 (.ldn 6) (.n2 (.iaddr 6) (.slot 0) (.slot 1)))),
    .eff (some 118) (.call { callee := .value (.tmp 109), args := #[.tmp 113, .tmp 117], argTypes := #[53, 53] }) 3 [(109, .slot 4), (113, .n1 (.ldn 6) (.n2 (.iaddr 6) (.slot 0) (.slot 12))), (117, .n1 (.ldn 6) (.n2 (.iaddr 6) (.slot 0) (.slot 1)))] (some (.n2 (.bin .leq) (.slot 12) (.slot 13), true)) [],
    .need (.gif (.n2 (.bin .leq) (.slot 12) (.slot 13)) true (.n2 (.bin .lss) (.slot 118) (.lit (.int .i64 0)))),
    .need (.n3 .pick (.n2 (.bin .leq) (.slot 12) (.slot 13)) (.n2 (.bin .lss) (.slot 118) (.lit (.int .i64 0))) (.lit (.bool false))),
    .asg 120 (.n3 .pick (.n2 (.bin .leq) (.slot 12) (.slot 13)) (.n2 (.bin .lss) (.slot 118) (.lit (.int .i64 0))) (.lit (.bool false)))])
  (.cond (.slot 120)
    .skip
    (.exit 6)))
  h64_10)
def h64_13 : HC :=
  (.block 9
    (.reg [.need (.n2 (.bin .sub) (.slot 13) (.lit (.int .i64 1))),
      .asg 13 (.n2 (.bin .sub) (.slot 13) (.lit (.int .i64 1)))]))
def h64_12 : HC :=
  (.seq
  (.seq
  (.draw [.need (.n2 (.bin .leq) (.slot 12) (.slot 13)),
    .need (.gif (.n2 (.bin .leq) (.slot 12) (.slot 13)) true (.n2 (.iaddr 6) (.slot 0) (.slot 13))),
    .need (.gif (.n2 (.bin .leq) (.slot 12) (.slot 13)) true (.n1 (.ldn 6) (.n2 (.iaddr 6) (.slot 0) (.slot 13)))),
    .need (.gif (.n2 (.bin .leq) (.slot 12) (.slot 13)) true (.n2 (.iaddr 6) (.slot 0) (.slot 1))),
    .need (.gif (.n2 (.bin .leq) (.slot 12) (.slot 13)) true (.n1 (.ldn 6) (.n2 (.iaddr 6) (.slot 0) (.slot 1)))),
    .eff (some 136) (.call { callee := .value (.tmp 127), args := #[.tmp 131, .tmp 135], argTypes := #[53, 53] }) 3 [(127, .slot 4), (131, .n1 (.ldn 6) (.n2 (.iaddr 6) (.slot 0) (.slot 13))), (135, .n1 (.ldn 6) (.n2 (.iaddr 6) (.slot 0) (.slot 1)))] (some (.n2 (.bin .leq) (.slot 12) (.slot 13), true)) [],
    .need (.gif (.n2 (.bin .leq) (.slot 12) (.slot 13)) true (.n2 (.bin .lss) (.slot 136) (.lit (.int .i64 0)))),
    .need (.gif (.n2 (.bin .leq) (.slot 12) (.slot 13)) true (.n1 .bnot (.n2 (.bin .lss) (.slot 136) (.lit (.int .i64 0))))),
    .need (.n3 .pick (.n2 (.bin .leq) (.slot 12) (.slot 13)) (.n1 .bnot (.n2 (.bin .lss) (.slot 136) (.lit (.int .i64 0)))) (.lit (.bool false))),
    .asg 139 (.n3 .pick (.n2 (.bin .leq) (.slot 12) (.slot 13)) (.n1 .bnot (.n2 (.bin .lss) (.slot 136) (.lit (.int .i64 0)))) (.lit (.bool false)))])
  (.cond (.slot 139)
    .skip
    (.exit 8)))
  h64_13)
def h64_15 : HC :=
  (.seq
  (.draw [.need (.n2 (.iaddr 6) (.slot 0) (.slot 13)),
    .need (.n1 (.ldn 6) (.n2 (.iaddr 6) (.slot 0) (.slot 13))),
    .need (.n2 (.iaddr 6) (.slot 0) (.slot 12)),
    .need (.n1 (.ldn 6) (.n2 (.iaddr 6) (.slot 0) (.slot 12))),
    .asg 156 (.n1 (.ldn 6) (.n2 (.iaddr 6) (.slot 0) (.slot 12))),
    .need (.n2 (.iaddr 6) (.slot 0) (.slot 12)),
    .eff none (.store 53 (.tmp 157) (.tmp 152)) 0 [(157, .n2 (.iaddr 6) (.slot 0) (.slot 12)), (152, .n1 (.ldn 6) (.n2 (.iaddr 6) (.slot 0) (.slot 13)))] none [],
    .need (.n2 (.iaddr 6) (.slot 0) (.slot 13)),
    .eff none (.store 53 (.tmp 158) (.tmp 156)) 0 [(158, .n2 (.iaddr 6) (.slot 0) (.slot 13)), (156, .slot 156)] none []])
  (.seq
  (.reg [.need (.n2 (.bin .add) (.slot 12) (.lit (.int .i64 1))),
    .asg 12 (.n2 (.bin .add) (.slot 12) (.lit (.int .i64 1)))])
  (.reg [.need (.n2 (.bin .sub) (.slot 13) (.lit (.int .i64 1))),
    .asg 13 (.n2 (.bin .sub) (.slot 13) (.lit (.int .i64 1)))])))
def h64_14 : HC :=
  (.seq
  (.seq
  (.reg [.need (.n2 (.bin .gtr) (.slot 12) (.slot 13)),
    .asg 144 (.n2 (.bin .gtr) (.slot 12) (.slot 13))])
  (.cond (.slot 144)
    (.exit 4)
    .skip))
  h64_15)
def h64_11 : HC :=
  (.seq
  (.block 8
    (.loop
      h64_12))
  h64_14)
def h64_8 : HC :=
  (.block 5
    (.seq
    (.block 6
      (.loop
        h64_9))
    h64_11))
def h64_16 : HC :=
  (.seq
  (.draw [.need (.n2 (.iaddr 6) (.slot 0) (.slot 1)),
    .need (.n1 (.ldn 6) (.n2 (.iaddr 6) (.slot 0) (.slot 1))),
    .need (.n2 (.iaddr 6) (.slot 0) (.slot 13)),
    .need (.n1 (.ldn 6) (.n2 (.iaddr 6) (.slot 0) (.slot 13))),
    .asg 174 (.n1 (.ldn 6) (.n2 (.iaddr 6) (.slot 0) (.slot 13))),
    .need (.n2 (.iaddr 6) (.slot 0) (.slot 13)),
    .eff none (.store 53 (.tmp 175) (.tmp 170)) 0 [(175, .n2 (.iaddr 6) (.slot 0) (.slot 13)), (170, .n1 (.ldn 6) (.n2 (.iaddr 6) (.slot 0) (.slot 1)))] none [],
    .need (.n2 (.iaddr 6) (.slot 0) (.slot 1)),
    .eff none (.store 53 (.tmp 176) (.tmp 174)) 0 [(176, .n2 (.iaddr 6) (.slot 0) (.slot 1)), (174, .slot 174)] none []])
  (.seq
  (.reg [.asg 10 (.slot 13),
    .asg 11 (.lit (.bool false))])
  .ret))
def h64_7 : HC :=
  (.seq
  (.draw [.need (.n2 (.iaddr 6) (.slot 0) (.slot 13)),
    .need (.n1 (.ldn 6) (.n2 (.iaddr 6) (.slot 0) (.slot 13))),
    .need (.n2 (.iaddr 6) (.slot 0) (.slot 12)),
    .need (.n1 (.ldn 6) (.n2 (.iaddr 6) (.slot 0) (.slot 12))),
    .asg 98 (.n1 (.ldn 6) (.n2 (.iaddr 6) (.slot 0) (.slot 12))),
    .need (.n2 (.iaddr 6) (.slot 0) (.slot 12)),
    .eff none (.store 53 (.tmp 99) (.tmp 94)) 0 [(99, .n2 (.iaddr 6) (.slot 0) (.slot 12)), (94, .n1 (.ldn 6) (.n2 (.iaddr 6) (.slot 0) (.slot 13)))] none [],
    .need (.n2 (.iaddr 6) (.slot 0) (.slot 13)),
    .eff none (.store 53 (.tmp 100) (.tmp 98)) 0 [(100, .n2 (.iaddr 6) (.slot 0) (.slot 13)), (98, .slot 98)] none []])
  (.seq
  (.reg [.need (.n2 (.bin .add) (.slot 12) (.lit (.int .i64 1))),
    .asg 12 (.n2 (.bin .add) (.slot 12) (.lit (.int .i64 1)))])
  (.seq
  (.reg [.need (.n2 (.bin .sub) (.slot 13) (.lit (.int .i64 1))),
    .asg 13 (.n2 (.bin .sub) (.slot 13) (.lit (.int .i64 1)))])
  (.seq
  (.block 4
    (.loop
      h64_8))
  h64_16))))
def h64_6 : HC :=
  (.seq
  (.seq
  (.reg [.need (.n2 (.bin .gtr) (.slot 12) (.slot 13)),
    .asg 71 (.n2 (.bin .gtr) (.slot 12) (.slot 13))])
  (.cond (.slot 71)
    (.seq
    (.draw [.need (.n2 (.iaddr 6) (.slot 0) (.slot 1)),
      .need (.n1 (.ldn 6) (.n2 (.iaddr 6) (.slot 0) (.slot 1))),
      .need (.n2 (.iaddr 6) (.slot 0) (.slot 13)),
      .need (.n1 (.ldn 6) (.n2 (.iaddr 6) (.slot 0) (.slot 13))),
      .asg 83 (.n1 (.ldn 6) (.n2 (.iaddr 6) (.slot 0) (.slot 13))),
      .need (.n2 (.iaddr 6) (.slot 0) (.slot 13)),
      .eff none (.store 53 (.tmp 84) (.tmp 79)) 0 [(84, .n2 (.iaddr 6) (.slot 0) (.slot 13)), (79, .n1 (.ldn 6) (.n2 (.iaddr 6) (.slot 0) (.slot 1)))] none [],
      .need (.n2 (.iaddr 6) (.slot 0) (.slot 1)),
      .eff none (.store 53 (.tmp 85) (.tmp 83)) 0 [(85, .n2 (.iaddr 6) (.slot 0) (.slot 1)), (83, .slot 83)] none []])
    (.seq
    (.reg [.asg 10 (.slot 13),
      .asg 11 (.lit (.bool true))])
    .ret))
    .skip))
  h64_7)
def h64_3 : HC :=
  (.seq
  (.block 2
    (.loop
      h64_4))
  h64_6)
def h64 : HC :=
  (.seq
  (.reg [.asg 10 (.lit (.int .i64 0)),
    .asg 11 (.lit (.bool false))])
  (.seq
  (.draw [.need (.n2 (.iaddr 6) (.slot 0) (.slot 3)),
    .need (.n1 (.ldn 6) (.n2 (.iaddr 6) (.slot 0) (.slot 3))),
    .need (.n2 (.iaddr 6) (.slot 0) (.slot 1)),
    .need (.n1 (.ldn 6) (.n2 (.iaddr 6) (.slot 0) (.slot 1))),
    .asg 25 (.n1 (.ldn 6) (.n2 (.iaddr 6) (.slot 0) (.slot 1))),
    .need (.n2 (.iaddr 6) (.slot 0) (.slot 1)),
    .eff none (.store 53 (.tmp 26) (.tmp 21)) 0 [(26, .n2 (.iaddr 6) (.slot 0) (.slot 1)), (21, .n1 (.ldn 6) (.n2 (.iaddr 6) (.slot 0) (.slot 3)))] none [],
    .need (.n2 (.iaddr 6) (.slot 0) (.slot 3)),
    .eff none (.store 53 (.tmp 27) (.tmp 25)) 0 [(27, .n2 (.iaddr 6) (.slot 0) (.slot 3)), (25, .slot 25)] none []])
  (.seq
  (.reg [.need (.n2 (.bin .add) (.slot 1) (.lit (.int .i64 1))),
    .need (.n2 (.bin .sub) (.slot 2) (.lit (.int .i64 1))),
    .asg 12 (.n2 (.bin .add) (.slot 1) (.lit (.int .i64 1))),
    .asg 13 (.n2 (.bin .sub) (.slot 2) (.lit (.int .i64 1)))])
  (.seq
  (.block 0
    (.loop
      h64_1))
  h64_3))))
theorem k64 : fnOK Try.prog 23945334192966604026733337044349708067694604078562335 [⟨1, [0, 0, 0, 0, 0, 0, 48, 112, 0, 0, 768, 1792, 4083, 8179, 16383, 32767], [(0, []), (1, []), (2, []), (3, []), (4, []), (5, []), (6, []), (7, []), (8, []), (9, []), (10, []), (11, []), (12, []), (13, []), (14, []), (15, [])], none⟩, ⟨3, [0, 0, 3, 7, 15, 15, 15, 111, 239, 15, 15, 1551, 3599, 8191, 16383, 32767], [(0, []), (1, []), (2, []), (3, []), (4, []), (5, []), (6, []), (7, []), (8, []), (9, []), (10, []), (11, []), (12, []), (13, []), (14, []), (15, [])], none⟩, ⟨5, [0, 0, 3, 7, 15, 15, 15, 111, 239, 15, 15, 1551, 3599, 8191, 16383, 32767, 65535], [(0, []), (1, []), (2, []), (3, []), (4, []), (5, []), (6, []), (7, []), (8, []), (9, []), (10, []), (11, []), (12, []), (13, []), (14, []), (15, []), (16, [])], none⟩, ⟨8, [0, 0, 0, 0, 0, 0, 48, 112, 0, 0, 768, 1792, 4083, 8179, 16383, 32767], [(0, []), (1, []), (2, []), (3, []), (4, []), (5, []), (6, []), (7, []), (8, []), (9, []), (10, []), (11, []), (12, []), (13, []), (14, []), (15, [])], none⟩, ⟨10, [0, 0, 0, 0, 0, 0, 48, 112, 0, 0, 768, 1792, 4083, 8179, 16383, 32767], [(0, []), (1, []), (2, []), (3, []), (4, []), (5, []), (6, []), (7, []), (8, []), (9, []), (10, []), (11, []), (12, []), (13, []), (14, []), (15, [])], none⟩, ⟨13, [0, 0, 3, 7, 15, 15, 15, 111, 239, 15, 15, 1551, 3599, 8191, 16383, 32767], [(0, []), (1, []), (2, []), (3, []), (4, []), (5, []), (6, []), (7, []), (8, []), (9, []), (10, []), (11, []), (12, []), (13, []), (14, []), (15, [])], none⟩, ⟨15, [0, 0, 3, 7, 15, 15, 15, 111, 239, 15, 15, 1551, 3599, 8191, 16383, 32767, 65535], [(0, []), (1, []), (2, []), (3, []), (4, []), (5, []), (6, []), (7, []), (8, []), (9, []), (10, []), (11, []), (12, []), (13, []), (14, []), (15, []), (16, [])], none⟩, ⟨18, [0, 0, 0, 0, 0, 0, 48, 112, 0, 0, 768, 1792, 4083, 8179, 16383, 32767], [(0, []), (1, []), (2, []), (3, []), (4, []), (5, []), (6, []), (7, []), (8, []), (9, []), (10, []), (11, []), (12, []), (13, []), (14, []), (15, [])], none⟩, ⟨21, [0, 0, 0, 0, 0, 0, 48, 112, 0, 0, 768, 1792, 4083, 8179, 16383, 32767], [(0, []), (1, []), (2, []), (3, []), (4, []), (5, []), (6, []), (7, []), (8, []), (9, []), (10, []), (11, []), (12, []), (13, []), (14, []), (15, [])], none⟩] [.tmp 10, .tmp 11] 5 Try.f64 = some h64 := by kernel_rfl
theorem c64 : callable Try.prog 64 = true := by kernel_rfl
theorem q64 {args : List Value} (ha : args.length = 5) {w : World} {next : Value → World → Prop} {QP : List PanicEntry → World → Prop} (H : hw Try.prog noPanic h64 (endV [.tmp 10, .tmp 11] next) (σ0 args) w) : callK Try.prog 64 args w next QP := fn_rule Try.func64 mixed k64 ha H
theorem r64 {args : List Value} (ha : args.length = 5) {w : World} {next : Value → World → Prop} {QP : List PanicEntry → World → Prop} (H : hw Try.prog noPanic h64 (endV [.tmp 10, .tmp 11] next) (σ0 args) w) : callvK Try.prog (.func (.func 64) #[] #[]) args w next QP := callf c64 (q64 ha H)

/- slices.siftDownCmpFunc(missive/thread.branch) -/
def h79_4 : HC :=
  (.seq
  (.draw [.need (.n2 (.bin .add) (.slot 3) (.slot 10)),
    .need (.n2 (.bin .add) (.slot 3) (.slot 11)),
    .need (.n2 (.bin .add) (.slot 3) (.slot 11)),
    .need (.n2 (.iaddr 6) (.slot 0) (.n2 (.bin .add) (.slot 3) (.slot 11))),
    .need (.n1 (.ldn 6) (.n2 (.iaddr 6) (.slot 0) (.n2 (.bin .add) (.slot 3) (.slot 11)))),
    .need (.n2 (.bin .add) (.slot 3) (.slot 10)),
    .need (.n2 (.iaddr 6) (.slot 0) (.n2 (.bin .add) (.slot 3) (.slot 10))),
    .need (.n1 (.ldn 6) (.n2 (.iaddr 6) (.slot 0) (.n2 (.bin .add) (.slot 3) (.slot 10)))),
    .asg 78 (.n1 (.ldn 6) (.n2 (.iaddr 6) (.slot 0) (.n2 (.bin .add) (.slot 3) (.slot 10)))),
    .need (.n2 (.iaddr 6) (.slot 0) (.n2 (.bin .add) (.slot 3) (.slot 10))),
    .eff none (.store 53 (.tmp 79) (.tmp 72)) 0 [(79, .n2 (.iaddr 6) (.slot 0) (.n2 (.bin .add) (.slot 3) (.slot 10))), (72, .n1 (.ldn 6) (.n2 (.iaddr 6) (.slot 0) (.n2 (.bin .add) (.slot 3) (.slot 11))))] none [],
    .need (.n2 (.iaddr 6) (.slot 0) (.n2 (.bin .add) (.slot 3) (.slot 11))),
    .eff none (.store 53 (.tmp 80) (.tmp 78)) 0 [(80, .n2 (.iaddr 6) (.slot 0) (.n2 (.bin .add) (.slot 3) (.slot 11))), (78, .slot 78)] none []])
  (.reg [.asg 10 (.slot 11)]))
def h79_3 : HC :=
  (.seq
  (.seq
  (.draw [.need (.n2 (.bin .add) (.slot 3) (.slot 10)),
    .need (.n2 (.iaddr 6) (.slot 0) (.n2 (.bin .add) (.slot 3) (.slot 10))),
    .need (.n1 (.ldn 6) (.n2 (.iaddr 6) (.slot 0) (.n2 (.bin .add) (.slot 3) (.slot 10)))),
    .need (.n2 (.bin .add) (.slot 3) (.slot 11)),
    .need (.n2 (.iaddr 6) (.slot 0) (.n2 (.bin .add) (.slot 3) (.slot 11))),
    .need (.n1 (.ldn 6) (.n2 (.iaddr 6) (.slot 0) (.n2 (.bin .add) (.slot 3) (.slot 11)))),
    .eff (some 56) (.call { callee := .value (.tmp 43), args := #[.tmp 49, .tmp 55], argTypes := #[53, 53] }) 3 [(43, .slot 4), (49, .n1 (.ldn 6) (.n2 (.iaddr 6) (.slot 0) (.n2 (.bin .add) (.slot 3) (.slot 10)))), (55, .n1 (.ldn 6) (.n2 (.iaddr 6) (.slot 0) (.n2 (.bin .add) (.slot 3) (.slot 11))))] none [],
    .need (.n2 (.bin .lss) (.slot 56) (.lit (.int .i64 0))),
    .need (.n1 .bnot (.n2 (.bin .lss) (.slot 56) (.lit (.int .i64 0)))),
    .asg 58 (.n1 .bnot (.n2 (.bin .lss) (.slot 56) (.lit (.int .i64 0))))])
  (.cond (.slot 58)
    .ret
    .skip))
  h79_4)
def h79_2 : HC :=
  (.seq
  (.seq
  (.draw [.need (.n2 (.bin .add) (.slot 11) (.lit (.int .i64 1))),
    .need (.n2 (.bin .lss) (.n2 (.bin .add) (.slot 11) (.lit (.int .i64 1))) (.slot 2)),
    .need (.gif (.n2 (.bin .lss) (.n2 (.bin .add) (.slot 11) (.lit (.int .i64 1))) (.slot 2)) true (.n2 (.bin .add) (.slot 3) (.slot 11))),
    .need (.gif (.n2 (.bin .lss) (.n2 (.bin .add) (.slot 11) (.lit (.int .i64 1))) (.slot 2)) true (.n2 (.iaddr 6) (.slot 0) (.n2 (.bin .add) (.slot 3) (.slot 11)))),
    .need (.gif (.n2 (.bin .lss) (.n2 (.bin .add) (.slot 11) (.lit (.int .i64 1))) (.slot 2)) true (.n1 (.ldn 6) (.n2 (.iaddr 6) (.slot 0) (.n2 (.bin .add) (.slot 3) (.slot 11))))),
    .need (.gif (.n2 (.bin .lss) (.n2 (.bin .add) (.slot 11) (.lit (.int .i64 1))) (.slot 2)) true (.n2 (.bin .add) (.slot 3) (.slot 11))),
    .need (.gif (.n2 (.bin .lss) (.n2 (.bin .add) (.slot 11) (.lit (.int .i64 1))) (.slot 2)) true (.n2 (.bin .add) (.n2 (.bin .add) (.slot 3) (.slot 11)) (.lit (.int .i64 1)))),
    .need (.gif (.n2 (.bin .lss) (.n2 (.bin .add) (.slot 11) (.lit (.int .i64 1))) (.slot 2)) true (.n2 (.iaddr 6) (.slot 0) (.n2 (.bin .add) (.n2 (.bin .add) (.slot 3) (.slot 11)) (.lit (.int .i64 1))))),
    .need (.gif (.n2 (.bin .lss) (.n2 (.bin .add) (.slot 11) (.lit (.int .i64 1))) (.slot 2)) true (.n1 (.ldn 6) (.n2 (.iaddr 6) (.slot 0) (.n2 (.bin .add) (.n2 (.bin .add) (.slot 3) (.slot 11)) (.lit (.int .i64 1)))))),
    .eff (some 38) (.call { callee := .value (.tmp 24), args := #[.tmp 30, .tmp 37], argTypes := #[53, 53] }) 3 [(24, .slot 4), (30, .n1 (.ldn 6) (.n2 (.iaddr 6) (.slot 0) (.n2 (.bin .add) (.slot 3) (.slot 11)))), (37, .n1 (.ldn 6) (.n2 (.iaddr 6) (.slot 0) (.n2 (.bin .add) (.n2 (.bin .add) (.slot 3) (.slot 11)) (.lit (.int .i64 1)))))] (some (.n2 (.bin .lss) (.n2 (.bin .add) (.slot 11) (.lit (.int .i64 1))) (.slot 2), true)) [],
    .need (.gif (.n2 (.bin .lss) (.n2 (.bin .add) (.slot 11) (.lit (.int .i64 1))) (.slot 2)) true (.n2 (.bin .lss) (.slot 38) (.lit (.int .i64 0)))),
    .need (.n3 .pick (.n2 (.bin .lss) (.n2 (.bin .add) (.slot 11) (.lit (.int .i64 1))) (.slot 2)) (.n2 (.bin .lss) (.slot 38) (.lit (.int .i64 0))) (.lit (.bool false))),
    .asg 40 (.n3 .pick (.n2 (.bin .lss) (.n2 (.bin .add) (.slot 11) (.lit (.int .i64 1))) (.slot 2)) (.n2 (.bin .lss) (.slot 38) (.lit (.int .i64 0))) (.lit (.bool false)))])
  (.cond (.slot 40)
    (.reg [.need (.n2 (.bin .add) (.slot 11) (.lit (.int .i64 1))),
      .asg 11 (.n2 (.bin .add) (.slot 11) (.lit (.int .i64 1)))])
    .skip))
  h79_3)
def h79_1 : HC :=
  (.block 1
    (.seq
    (.reg [.need (.n2 (.bin .mul) (.lit (.int .i64 2)) (.slot 10)),
      .need (.n2 (.bin .add) (.n2 (.bin .mul) (.lit (.int .i64 2)) (.slot 10)) (.lit (.int .i64 1))),
      .asg 11 (.n2 (.bin .add) (.n2 (.bin .mul) (.lit (.int .i64 2)) (.slot 10)) (.lit (.int .i64 1)))])
    (.seq
    (.seq
    (.reg [.need (.n2 (.bin .geq) (.slot 11) (.slot 2)),
      .asg 18 (.n2 (.bin .geq) (.slot 11) (.slot 2))])
    (.cond (.slot 18)
      (.exit 0)
      .skip))
    h79_2)))
def h79 : HC :=
  (.seq
  (.reg [.asg 10 (.slot 1)])
  (.block 0
    (.loop
      h79_1)))
theorem k79 : fnOK Try.prog 302231815193001873116191 [⟨3, [0, 1, 0, 7, 15, 31, 31, 31, 31, 415, 991, 2015, 31, 31, 31, 24607, 57375, 127007, 258079, 524287, 1048575, 2097151], [(0, []), (1, []), (2, []), (3, []), (4, []), (5, []), (6, []), (7, []), (8, []), (9, []), (10, []), (11, []), (12, []), (13, []), (14, []), (15, []), (16, []), (17, []), (18, []), (19, []), (20, []), (21, [])], none⟩, ⟨5, [0, 0, 0, 0, 12, 30, 62, 0, 0, 0, 768, 1920, 3968, 8191, 16383, 32767], [(0, []), (1, []), (2, []), (3, []), (4, []), (5, []), (6, []), (7, []), (8, []), (9, []), (10, []), (11, []), (12, []), (13, []), (14, []), (15, [])], none⟩, ⟨6, [0, 0, 0, 6, 0, 0, 0, 96, 0, 0, 0, 1536, 3840, 7936, 0, 0, 0, 98304, 245760, 507904, 1048335, 2096911, 4194303, 8388607], [(0, []), (1, []), (2, []), (3, []), (4, []), (5, []), (6, []), (7, []), (8, []), (9, []), (10, []), (11, []), (12, []), (13, []), (14, []), (15, []), (16, []), (17, []), (18, []), (19, []), (20, []), (21, []), (22, []), (23, [])], none⟩] [] 5 Try.f79 = some h79 := by kernel_rfl
theorem c79 : callable Try.prog 79 = true := by kernel_rfl
theorem q79 {args : List Value} (ha : args.length = 5) {w : World} {next : Value → World → Prop} {QP : List PanicEntry → World → Prop} (H : hw Try.prog noPanic h79 (endV [] next) (σ0 args) w) : callK Try.prog 79 args w next QP := fn_rule Try.func79 mixed k79 ha H
theorem r79 {args : List Value} (ha : args.length = 5) {w : World} {next : Value → World → Prop} {QP : List PanicEntry → World → Prop} (H : hw Try.prog noPanic h79 (endV [] next) (σ0 args) w) : callvK Try.prog (.func (.func 79) #[] #[]) args w next QP := callf c79 (q79 ha H)

/- slices.medianAdjacentCmpFunc(missive/thread.branch) -/
def h82 : HC :=
  (.seq
  (.reg [.asg 8 (.lit (.int .i64 0))])
  (.seq
  (.reg [.need (.n2 (.bin .sub) (.slot 1) (.lit (.int .i64 1))),
    .need (.n2 (.bin .add) (.slot 1) (.lit (.int .i64 1))),
    .eff (some 17) (.call { callee := .value (.func 83), args := #[.tmp 9, .tmp 11, .tmp 12, .tmp 14, .tmp 15, .tmp 16], argTypes := #[50, 3, 3, 3, 112, 58] }) 3 [(9, .slot 0), (11, .n2 (.bin .sub) (.slot 1) (.lit (.int .i64 1))), (12, .slot 1), (14, .n2 (.bin .add) (.slot 1) (.lit (.int .i64 1))), (15, .slot 2), (16, .slot 3)] none [],
    .asg 8 (.slot 17)])
  .ret))
theorem k82 : fnOK Try.prog 131343 [] [.tmp 8] 4 Try.f82 = some h82 := by kernel_rfl
theorem c82 : callable Try.prog 82 = true := by kernel_rfl
theorem q82 {args : List Value} (ha : args.length = 4) {w : World} {next : Value → World → Prop} {QP : List PanicEntry → World → Prop} (H : hw Try.prog noPanic h82 (endV [.tmp 8] next) (σ0 args) w) : callK Try.prog 82 args w next QP := fn_rule Try.func82 mixed k82 ha H
theorem r82 {args : List Value} (ha : args.length = 4) {w : World} {next : Value → World → Prop} {QP : List PanicEntry → World → Prop} (H : hw Try.prog noPanic h82 (endV [.tmp 8] next) (σ0 args) w) : callvK Try.prog (.func (.func 82) #[] #[]) args w next QP := callf c82 (q82 ha H)

/- slices.medianCmpFunc(missive/thread.branch) -/
def h83 : HC :=
  (.seq
  (.reg [.asg 12 (.lit (.int .i64 0))])
  (.seq
  (.reg [.eff (some 19) (.call { callee := .value (.func 88), args := #[.tmp 14, .tmp 15, .tmp 16, .tmp 17, .tmp 18], argTypes := #[50, 3, 3, 112, 58] }) 117 [(14, .slot 0), (15, .slot 1), (16, .slot 2), (17, .slot 4), (18, .slot 5)] none [],
    .need (.n1 (.ext 0) (.slot 19)),
    .need (.n1 (.ext 1) (.slot 19)),
    .asg 1 (.n1 (.ext 0) (.slot 19)),
    .asg 2 (.n1 (.ext 1) (.slot 19))])
  (.seq
  (.reg [.eff (some 28) (.call { callee := .value (.func 88), args := #[.tmp 23, .tmp 24, .tmp 25, .tmp 26, .tmp 27], argTypes := #[50, 3, 3, 112, 58] }) 117 [(23, .slot 0), (24, .slot 2), (25, .slot 3), (26, .slot 4), (27, .slot 5)] none [],
    .need (.n1 (.ext 0) (.slot 28)),
    .need (.n1 (.ext 1) (.slot 28)),
    .asg 2 (.n1 (.ext 0) (.slot 28)),
    .asg 3 (.n1 (.ext 1) (.slot 28))])
  (.seq
  (.reg [.eff (some 37) (.call { callee := .value (.func 88), args := #[.tmp 32, .tmp 33, .tmp 34, .tmp 35, .tmp 36], argTypes := #[50, 3, 3, 112, 58] }) 117 [(32, .slot 0), (33, .slot 1), (34, .slot 2), (35, .slot 4), (36, .slot 5)] none [],
    .need (.n1 (.ext 0) (.slot 37)),
    .need (.n1 (.ext 1) (.slot 37)),
    .asg 1 (.n1 (.ext 0) (.slot 37)),
    .asg 2 (.n1 (.ext 1) (.slot 37))])
  (.seq
  (.reg [.asg 12 (.slot 2)])
  .ret)))))
theorem k83 : fnOK Try.prog 137707917375 [] [.tmp 12] 6 Try.f83 = some h83 := by kernel_rfl
theorem c83 : callable Try.prog 83 = true := by kernel_rfl
theorem q83 {args : List Value} (ha : args.length = 6) {w : World} {next : Value → World → Prop} {QP : List PanicEntry → World → Prop} (H : hw Try.prog noPanic h83 (endV [.tmp 12] next) (σ0 args) w) : callK Try.prog 83 args w next QP := fn_rule Try.func83 mixed k83 ha H
theorem r83 {args : List Value} (ha : args.length = 6) {w : World} {next : Value → World → Prop} {QP : List PanicEntry → World → Prop} (H : hw Try.prog noPanic h83 (endV [.tmp 12] next) (σ0 args) w) : callvK Try.prog (.func (.func 83) #[] #[]) args w next QP := callf c83 (q83 ha H)

/- slices.order2CmpFunc(missive/thread.branch) -/
def h88_1 : HC :=
  (.seq
  (.reg [.asg 10 (.slot 1),
    .asg 11 (.slot 2)])
  .ret)
def h88 : HC :=
  (.seq
  (.reg [.asg 10 (.lit (.int .i64 0)),
    .asg 11 (.lit (.int .i64 0))])
  (.seq
  (.seq
  (.draw [.need (.n2 (.iaddr 6) (.slot 0) (.slot 2)),
    .need (.n1 (.ldn 6) (.n2 (.iaddr 6) (.slot 0) (.slot 2))),
    .need (.n2 (.iaddr 6) (.slot 0) (.slot 1)),
    .need (.n1 (.ldn 6) (.n2 (.iaddr 6) (.slot 0) (.slot 1))),
    .eff (some 21) (.call { callee := .value (.tmp 12), args := #[.tmp 16, .tmp 20], argTypes := #[53, 53] }) 3 [(12, .slot 4), (16, .n1 (.ldn 6) (.n2 (.iaddr 6) (.slot 0) (.slot 2))), (20, .n1 (.ldn 6) (.n2 (.iaddr 6) (.slot 0) (.slot 1)))] none [],
    .need (.n2 (.bin .lss) (.slot 21) (.lit (.int .i64 0))),
    .asg 22 (.n2 (.bin .lss) (.slot 21) (.lit (.int .i64 0)))])
  (.cond (.slot 22)
    (.seq
    (.reg [.need (.n1 .nilchk (.slot 3)),
      .need (.n1 .ld (.n1 .nilchk (.slot 3))),
      .need (.n2 (.bin .add) (.n1 .ld (.n1 .nilchk (.slot 3))) (.lit (.int .i64 1))),
      .need (.n1 .nilchk (.slot 3)),
      .eff none (.store 3 (.tmp 27) (.tmp 26)) 0 [(27, .n1 .nilchk (.slot 3)), (26, .n2 (.bin .add) (.n1 .ld (.n1 .nilchk (.slot 3))) (.lit (.int .i64 1)))] none []])
    (.seq
    (.reg [.asg 10 (.slot 2),
      .asg 11 (.slot 1)])
    .ret))
    .skip))
  h88_1))
theorem k88 : fnOK Try.prog 6294559 [⟨1, [0, 0, 0, 6, 14, 0, 0, 96, 224, 511, 1023], [(0, []), (1, []), (2, []), (3, []), (4, []), (5, []), (6, []), (7, []), (8, []), (9, []), (10, [])], none⟩] [.tmp 10, .tmp 11] 5 Try.f88 = some h88 := by kernel_rfl
theorem c88 : callable Try.prog 88 = true := by kernel_rfl
theorem q88 {args : List Value} (ha : args.length = 5) {w : World} {next : Value → World → Prop} {QP : List PanicEntry → World → Prop} (H : hw Try.prog noPanic h88 (endV [.tmp 10, .tmp 11] next) (σ0 args) w) : callK Try.prog 88 args w next QP := fn_rule Try.func88 mixed k88 ha H
theorem r88 {args : List Value} (ha : args.length = 5) {w : World} {next : Value → World → Prop} {QP : List PanicEntry → World → Prop} (H : hw Try.prog noPanic h88 (endV [.tmp 10, .tmp 11] next) (σ0 args) w) : callvK Try.prog (.func (.func 88) #[] #[]) args w next QP := callf c88 (q88 ha H)

end Go.Proofs.Y
