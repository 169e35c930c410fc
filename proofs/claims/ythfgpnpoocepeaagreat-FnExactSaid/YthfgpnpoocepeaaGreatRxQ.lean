/- From the evaluator's run to the contract of a function that writes into what is handed to it. No conditions. -/
import Derived.Test.YthfgpnpoocepeaaGreatRxO
namespace Go.Proofs.YthfgpnpoocepeaaGreat
open Go.RowKit
namespace Rx

section
variable {P : Program} {W : WX} {M0 : Mem} {S : St} {hdr : Nat → Option Value} {inn : Nat → List Nat} {M : Mem} {a : Act} {w : World} {E : Env} {R : Type} {n : Nat}

theorem lend_shift {hs1 hs2 : List Hd} {j : Nat} (hh : ∀ (i : Nat) v, (hs1 ++ hs2)[i]? = some v → hdr (lendId n (j + i)) = some v.1) : (∀ (i : Nat) v, hs1[i]? = some v → hdr (lendId n (j + i)) = some v.1) ∧ (∀ (i : Nat) v, hs2[i]? = some v → hdr (lendId n (j + hs1.length + i)) = some v.1) :=
  shift_hd (f := fun i => hdr (lendId n i)) (q := fun v : Hd => some v.1) hh

theorem lendCells_rep : ∀ {T : RTy} {x : T.den} {vs : List Value} {hs : List Hd} {j : Nat}, RepR (fun _ => True) w M T x vs hs → (∀ (i : Nat) v, hs[i]? = some v → hdr (lendId n (j + i)) = some v.1) →
    All2 (RepC w M hdr) (lendCells n T x j).1 vs ∧ (lendCells n T x j).2 = j + hs.length
  | .d T, x, vs, hs, j, h, hh => by
    obtain ⟨h1, rfl⟩ := h
    exact ⟨h1.cells, rfl⟩
  | .row t T, xs, vs, hs, j, h, hh => by
    obtain ⟨v, gs, rfl, rfl, hB⟩ := h
    have := hh 0 (v, gs) rfl
    refine ⟨.one ⟨this, ?_⟩, rfl⟩
    rcases hB with ⟨_, rfl, _⟩ | ⟨g, cap, vs, rfl, _⟩ <;> exact ⟨_, _, _, rfl⟩
  | .deep t T, xs, vs, hs, j, h, hh => by
    obtain ⟨v, gs, rfl, rfl, hB⟩ := h
    have := hh 0 (v, gs) rfl
    exact ⟨.one ⟨this, hB.isSlice⟩, rfl⟩
  | .mp fr t e, xs, vs, hs, j, h, hh => by
    obtain ⟨v, gs, rfl, rfl, hB⟩ := h
    have := hh 0 (v, gs) rfl
    exact ⟨.one ⟨this, hB.isMap⟩, rfl⟩
  | .pair A B, x, vs, hs, j, h, hh => by
    obtain ⟨v1, v2, h1, h2, rfl, rfl, ha, hb⟩ := h
    obtain ⟨s1, s2⟩ := lend_shift hh
    obtain ⟨a1, a2⟩ := lendCells_rep ha s1
    obtain ⟨b1, b2⟩ := lendCells_rep (j := (lendCells n A x.1 j).2) hb (by rw [a2]; exact s2)
    refine ⟨a1.append b1, ?_⟩
    show (lendCells n B x.2 _).2 = _
    rw [b2, a2, List.length_append]; omega
  | .box t T, x, vs, hs, j, h, hh => by
    obtain ⟨v, gs, rfl, rfl, hB⟩ := h
    have h0 := hh 0 (v, gs) rfl
    obtain ⟨g, us, rfl, _⟩ := hB
    exact ⟨.one ⟨g, h0, rfl⟩, rfl⟩

theorem lendV1_rep {A : ATy} {x : A.den} {v : Value} {hs : List Hd} {j : Nat} (h : RepA w M A x v hs) (hh : ∀ (i : Nat) v, hs[i]? = some v → hdr (lendId n (j + i)) = some v.1) :
    RepV1 w M hdr (lendV1 n A x j).1 v ∧ (lendV1 n A x j).2 = j + hs.length := by
  have one : v.oneCell' = true → v.cells = #[v] := fun h1 => by cases v <;> first | rfl | (simp [Value.oneCell'] at h1)
  cases A with
  | v T =>
    obtain ⟨hS, h⟩ := h
    cases T with
    | d T =>
      obtain ⟨h1, rfl⟩ := h
      refine ⟨?_, rfl⟩
      have hc := h1.cells (hdr := hdr)
      cases T with
      | pair A B =>
        obtain ⟨cs, rfl⟩ : ∃ cs : List Value, v = .agg cs.toArray := by simpa [ShapeR, aggR] using hS
        exact ⟨cs, rfl, by simpa only [Value.cells] using hc⟩
      | unit =>
        obtain ⟨cs, rfl⟩ : ∃ cs : List Value, v = .agg cs.toArray := by simpa [ShapeR, aggR] using hS
        have hc' : All2 (RepC w M hdr) (cellsOf .unit x) cs := by simpa only [Value.cells] using hc
        exact ⟨cs, rfl, hc'⟩
      | int k => have h2 : v.oneCell' = true := by simpa [ShapeR, aggR] using hS
                 rw [one h2] at hc; exact hc.1
      | bool => have h2 : v.oneCell' = true := by simpa [ShapeR, aggR] using hS
                rw [one h2] at hc; exact hc.1
      | str => have h2 : v.oneCell' = true := by simpa [ShapeR, aggR] using hS
               rw [one h2] at hc; exact hc.1
      | slice T => have h2 : v.oneCell' = true := by simpa [ShapeR, aggR] using hS
                   rw [one h2] at hc; exact hc.1
      | ref T => rw [one (by simpa [ShapeR, aggR] using hS)] at hc; exact hc.1
      | clo f T => rw [one (by simpa [ShapeR, aggR] using hS)] at hc; exact hc.1
    | row t T =>
      have h2 : v.oneCell' = true := by simpa [ShapeR, aggR] using hS
      rw [one h2] at h
      obtain ⟨a1, a2⟩ := lendCells_rep h hh
      exact ⟨a1.1, a2⟩
    | pair A B =>
      obtain ⟨cs, rfl⟩ : ∃ cs : List Value, v = .agg cs.toArray := by simpa [ShapeR, aggR] using hS
      obtain ⟨a1, a2⟩ := lendCells_rep h hh
      exact ⟨⟨cs, rfl, by simpa only [Value.cells] using a1⟩, a2⟩
    | box t T =>
      rw [one (by simpa [ShapeR, aggR] using hS)] at h
      obtain ⟨a1, a2⟩ := lendCells_rep h hh
      exact ⟨a1.1, a2⟩
    | deep t T =>
      rw [one (by simpa [ShapeR, aggR] using hS)] at h
      obtain ⟨a1, a2⟩ := lendCells_rep h hh
      exact ⟨a1.1, a2⟩
    | mp fr t T =>
      rw [one (by simpa [ShapeR, aggR] using hS)] at h
      obtain ⟨a1, a2⟩ := lendCells_rep h hh
      exact ⟨a1.1, a2⟩
  | box t T =>
    obtain ⟨gs, rfl, g, vs, rfl, _⟩ := h
    exact ⟨⟨g, hh 0 _ rfl, rfl⟩, rfl⟩

theorem lendAll_len : ∀ (As : List ATy) (x : ADens As) (j : Nat), (lendAll n As x j).length = As.length
  | [], _, _ => rfl
  | [_], _, _ => rfl
  | _ :: B :: As, x, j => by
    show (lendAll n (B :: As) x.2 _).length + 1 = _
    rw [lendAll_len (B :: As) x.2]; rfl
theorem lendAll_rep : ∀ {As : List ATy} {x : ADens As} {vs : List Value} {hs : List Hd} {j : Nat}, RepAs w M As x vs hs → (∀ (i : Nat) v, hs[i]? = some v → hdr (lendId n (j + i)) = some v.1) → All2 (RepV1 w M hdr) (lendAll n As x j) vs
  | [], _, _, _, _, ⟨e, _⟩, _ => by subst e; trivial
  | [A], x, vs, hs, j, ⟨v, e, h⟩, hh => by subst e; exact .one (lendV1_rep h hh).1
  | A :: B :: As, x, vs, hs, j, ⟨v, r, h1, h2, e, e', ha, hb⟩, hh => by
    subst e; subst e'
    obtain ⟨s1, s2⟩ := lend_shift hh
    obtain ⟨a1, a2⟩ := lendV1_rep ha s1
    exact ⟨a1, lendAll_rep (j := (lendV1 n A x.1 j).2) hb (by rw [a2]; exact s2)⟩

theorem lk_lend : ∀ {Bs : List Blk} {j b : Nat} {x : Option Blk}, lk (lendHeap n j Bs) b = some x → ∃ i B, b = lendId n (j + i) ∧ Bs[i]? = some B ∧ x = some (B.held (2 + 2 * (j + i)))
  | [], j, b, x, h => none_some h
  | B :: Bs, j, b, x, h => by
    simp only [lendHeap, lk_cons] at h
    split at h
    · rename_i e
      cases h
      exact ⟨0, B, e.symm, rfl, rfl⟩
    · obtain ⟨i, B', h1, h2, h3⟩ := lk_lend h
      exact ⟨i + 1, B', by rw [h1]; unfold lendId; omega, by simpa using h2, by rw [h3]; congr 2; omega⟩
theorem lk_lend_none : ∀ {Bs : List Blk} {j b : Nat}, lk (lendHeap n j Bs) b = none → ∀ i, b = lendId n (j + i) → Bs.length ≤ i
  | [], _, _, _, _, _ => Nat.zero_le _
  | B :: Bs, j, b, h, i, e => by
    simp only [lendHeap, lk_cons] at h
    split at h
    · cases h
    · rename_i hne
      cases i with
      | zero => exact absurd e.symm hne
      | succ i =>
        have := lk_lend_none h i (by rw [e]; unfold lendId; omega)
        simp only [List.length_cons]; omega

/-! What is found of the blocks at the end -/
theorem findArg_spec {H0 : Heap} {j : Nat} {B : Blk} : ∀ {H : Heap}, findArg H0 j H = some B → ∃ b, lk H0 b = some (some B) ∧ B.fz = 2 + 2 * j
  | [], h => none_some h
  | x :: r, h => by
    simp only [findArg] at h
    split at h
    · rename_i B' hB
      split at h
      · rename_i hf
        cases h
        exact ⟨x.1, hB, hf⟩
      · exact findArg_spec h
    · exact findArg_spec h

/-- A block that was handed over is in no memory that is looked at. -/
theorem Good.argNot (h : Good W M0 S hdr inn M a w) {ds : List Nat} (hmf : mayFreeze S.heap ds = true) {b : Nat} {B : Blk} {g : Nat} (hb : lk S.heap b = some (some B)) (hf : 2 ≤ B.fz) (hg : g ∈ inn b) :
    ∀ p, plusMem M S inn ds p → p.block ≠ g := by
  by_cases hn : b ∈ ds
  · rintro p (hp | ⟨b', B', hm, hl, hpA, _, hoff⟩) e
    · exact h.plus_not (ds := []) hb (by omega) hg (by simp) p (.inl hp) e
    · by_cases e' : b = b'
      · subst e'
        rw [hl] at hb; cases hb
        have := mayFreeze_spec hmf b hn _ hl
        omega
      · exact absurd (show g ∈ inn b' by rw [← e]; exact hpA) (h.sep b b' _ _ g e' hb hl hg)
  · exact h.plus_not hb (by omega) hg hn

theorem Good.argBlk (h : Good W M0 S hdr inn M a w) {ds : List Nat} (hmf : mayFreeze S.heap ds = true) {Mx : Mem} (hMx : ∀ p, Mx p → plusMem M S inn ds p ∨ ∀ g, W.X g → p.block ≠ g) (hM : ∀ p, M p → Mx p) {j : Nat} {B : Blk} (hf : findArg S.heap j S.heap = some B) (hr : B.isRow = true) :
    ∃ v gs, W.arg j = some v ∧ RepBlk w Mx (fun _ => none) (fun _ _ => True) (B.held 0) v gs ∧ ∀ g ∈ gs, g ∈ W.A j := by
  obtain ⟨b, hb, hz⟩ := findArg_spec hf
  obtain ⟨v, hv, hB⟩ := h.hp b _ hb
  have ha := h.ag b _ hb (by omega) (by omega)
  rw [hz, show (2 + 2 * j - 2) / 2 = j by omega, hv] at ha
  have hA : ∀ g ∈ inn b, g ∈ W.A j := fun g hg => by
    have := (hB.lt hg).2.2 (by omega)
    rw [hz, show (2 + 2 * j - 2) / 2 = j by omega] at this
    exact this
  refine ⟨v, inn b, ha.symm, hB.rowNone hr hM (fun _ _ _ => trivial) fun p hp hm => ?_, hA⟩
  rcases hMx p hp with hp | hp
  · exact h.argNot hmf hb (by omega) hm p hp rfl
  · exact hp _ (.inl ⟨j, hA _ hm⟩) rfl
theorem Good.argBox (h : Good W M0 S hdr inn M a w) {ds : List Nat} (hmf : mayFreeze S.heap ds = true) {Mx : Mem} (hMx : ∀ p, Mx p → plusMem M S inn ds p ∨ ∀ g, W.X g → p.block ≠ g) (hM : ∀ p, M p → Mx p) {j : Nat} {t : TypeId} {cs : List Cell} {fz : Nat} {T : Ty} {d : T.den} (hf : findArg S.heap j S.heap = some (.cells t cs fz)) (hd : takeAll [] T cs = some d) :
    ∃ v gs, W.arg j = some v ∧ RepBlk w Mx (fun _ => none) (fun _ _ => True) (.cells t (cellsOf T d) 0) v gs ∧ ∀ g ∈ gs, g ∈ W.A j := by
  obtain ⟨b, hb, hz⟩ := findArg_spec hf
  obtain ⟨v, hv, hB⟩ := h.hp b _ hb
  have ha := h.ag b _ hb (by omega) (by omega)
  rw [hz, show (2 + 2 * j - 2) / 2 = j by omega, hv] at ha
  have hA : ∀ g ∈ inn b, g ∈ W.A j := fun g hg => by
    have := (hB.lt hg).2.2 (by omega)
    rw [hz, show (2 + 2 * j - 2) / 2 = j by omega] at this
    exact this
  refine ⟨v, inn b, ha.symm, ?_, hA⟩
  have hnot : ∀ p, Mx p → p.block ∉ inn b := fun p hp hm => by
    rcases hMx p hp with hp | hp
    · exact h.argNot hmf hb (by omega) hm p hp rfl
    · exact hp _ (.inl ⟨j, hA _ hm⟩) rfl
  obtain ⟨g, vs, rfl, e2, k1, k2, k3, k4⟩ := hB
  have hD := takeAll_nil hd k3
  exact ⟨g, vs, rfl, e2, trivial, k2, (RepD.keep (fun _ _ => rfl) hM hD).cells, fun p hp e => absurd (by rw [e2]; simp [e]) (hnot p hp)⟩

/-- The same slices, in blocks that they lay in. -/
def Sub (a b : List Hd) : Prop := All2 (fun a b => a.1 = b.1 ∧ ∀ g ∈ a.2, g ∈ b.2) a b
theorem Sub.mem {a b : List Hd} (h : Sub a b) : ∀ g ∈ gsOf a, g ∈ gsOf b := by
  intro g hg
  obtain ⟨v, hv, hgv⟩ := mem_gsOf.1 hg
  obtain ⟨i, hi⟩ := List.getElem?_of_mem hv
  obtain ⟨u, hu, h1, h2⟩ := All2.get h hi
  exact mem_gsOf.2 ⟨u, List.mem_of_getElem? hu, h2 g hgv⟩
theorem Sub.nodup : ∀ {a b : List Hd}, Sub a b → (∀ v ∈ a, v.2.Nodup) → (gsOf b).Nodup → (gsOf a).Nodup
  | [], [], _, _, _ => .nil
  | u :: a, v :: b, h, ha, hb => by
    rw [gsOf_cons, List.nodup_append] at hb
    rw [gsOf_cons, List.nodup_append]
    refine ⟨ha u (by simp), Sub.nodup h.2 (fun v hv => ha v (by simp [hv])) hb.2.1, fun g hg g' hg' e => ?_⟩
    exact hb.2.2 g (h.1.2 g hg) g' (Sub.mem h.2 g' hg') e
  | [], _ :: _, h, _, _ => h.elim
  | _ :: _, [], h, _, _ => h.elim
theorem BW.nod {M : Mem} : ∀ {Bs : List Blk} {hs : List Hd}, BW w M Bs hs → ∀ v ∈ hs, v.2.Nodup
  | [], [], _, v, hv => by cases hv
  | B :: Bs, u :: hs, h, v, hv => by
    rcases List.mem_cons.1 hv with rfl | hv
    · exact RepBlk.nodup h.1
    · exact BW.nod h.2 v hv
  | [], _ :: _, h, _, _ => h.elim
  | _ :: _, [], h, _, _ => h.elim

section
variable {w0 : World} {Mx : Mem} {ds : List Nat}
theorem outR_rep (h : Good W M0 S hdr inn M a w) (hmf : mayFreeze S.heap ds = true) (hMx : ∀ p, Mx p → plusMem M S inn ds p ∨ ∀ g, W.X g → p.block ≠ g) (hM : ∀ p, M p → Mx p) (hk : ∀ p, M0 p → w.cell? p = w0.cell? p) (hM0 : ∀ p, M0 p → Mx p) :
    ∀ {T : RTy} {x x' : T.den} {vs : List Value} {hs : List Hd} {j j' : Nat}, RepR (fun _ => True) w0 M0 T x vs hs → (∀ (i : Nat) v, hs[i]? = some v → (W.arg (j + i), W.A (j + i)) = (some v.1, v.2)) → outR S.heap T x j = some (x', j') → ∃ hs', RepR (fun _ => True) w Mx T x' vs hs' ∧ Sub hs' hs ∧ j' = j + hs.length
  | .d T, x, x', vs, hs, j, j', ⟨h1, h2⟩, hh, ho => by
    unfold outR at ho
    cases ho; subst h2
    exact ⟨[], ⟨RepD.keep hk hM0 h1, rfl⟩, trivial, rfl⟩
  | .row t T, xs, x', vs, hs, j, j', ⟨v, gs, h1, h2, hB⟩, hh, ho => by
    unfold outR at ho
    subst h1; subst h2
    have hv := hh 0 (v, gs) rfl
    rw [Nat.add_zero] at hv
    obtain ⟨hv1, hv2⟩ := Prod.mk.inj hv
    split at ho
    · rename_i t' T' ys fz hf
      split at ho
      · rename_i hT
        split at ho
        · rename_i ht
          cases ho; subst hT; subst ht
          obtain ⟨u, gs', hu, hB', hA⟩ := h.argBlk hmf hMx hM hf rfl
          rw [hu] at hv1; cases hv1
          exact ⟨[(_, gs')], ⟨_, _, rfl, rfl, hB'⟩, .one ⟨rfl, fun g hg => by have := hA g hg; rw [hv2] at this; exact this⟩, rfl⟩
        · cases ho
      · cases ho
    · cases ho
  | .deep t T, xs, x', vs, hs, j, j', ⟨v, gs, h1, h2, hB⟩, hh, ho => by
    unfold outR at ho
    subst h1; subst h2
    have hv := hh 0 (v, gs) rfl
    rw [Nat.add_zero] at hv
    obtain ⟨hv1, hv2⟩ := Prod.mk.inj hv
    split at ho
    · rename_i t' T' ys fz hf
      split at ho
      · rename_i hT
        split at ho
        · rename_i ht
          cases ho; subst hT; subst ht
          obtain ⟨u, gs', hu, hB', hA⟩ := h.argBlk hmf hMx hM hf rfl
          rw [hu] at hv1; cases hv1
          exact ⟨[(_, gs')], ⟨_, _, rfl, rfl, hB'⟩, .one ⟨rfl, fun g hg => by have := hA g hg; rw [hv2] at this; exact this⟩, rfl⟩
        · cases ho
      · cases ho
    · cases ho
  | .mp fr t T, xs, x', vs, hs, j, j', _, hh, ho => by
    unfold outR at ho
    cases ho
  | .pair A B, x, x', vs, hs, j, j', ⟨v1, v2, h1, h2, e1, e2, ha, hb⟩, hh, ho => by
    unfold outR at ho
    subst e1; subst e2
    obtain ⟨y, hy, ho⟩ := Option.bind_eq_some_iff.1 ho
    obtain ⟨z, hz, ho⟩ := Option.bind_eq_some_iff.1 ho
    cases ho
    obtain ⟨s1, s2⟩ := shift_hd (f := fun i => (W.arg i, W.A i)) (q := fun v : Hd => (some v.1, v.2)) hh
    obtain ⟨k1, a1, a3, a2⟩ := outR_rep h hmf hMx hM hk hM0 (x' := y.1) (j' := y.2) ha s1 hy
    obtain ⟨k2, b1, b3, b2⟩ := outR_rep h hmf hMx hM hk hM0 (j := y.2) (x' := z.1) (j' := z.2) hb (by rw [a2]; exact s2) hz
    exact ⟨k1 ++ k2, ⟨v1, v2, k1, k2, rfl, rfl, a1, b1⟩, a3.append b3, by rw [b2, a2, List.length_append]; omega⟩
  | .box t T, x, x', vs, hs, j, j', ⟨v, gs, h1, h2, hB⟩, hh, ho => by
    unfold outR at ho
    subst h1; subst h2
    have hv := hh 0 (v, gs) rfl
    rw [Nat.add_zero] at hv
    obtain ⟨hv1, hv2⟩ := Prod.mk.inj hv
    split at ho
    · rename_i t' cs fz hf
      split at ho
      · rename_i ht
        obtain ⟨d, hd, ho⟩ := Option.map_eq_some_iff.1 ho
        cases ho; subst ht
        obtain ⟨u, gs', hu, hB', hA⟩ := h.argBox hmf hMx hM hf hd
        rw [hu] at hv1; cases hv1
        exact ⟨[(_, gs')], ⟨_, _, rfl, rfl, hB'⟩, .one ⟨rfl, fun g hg => by have := hA g hg; rw [hv2] at this; exact this⟩, rfl⟩
      · cases ho
    · cases ho
theorem outA_rep (h : Good W M0 S hdr inn M a w) (hmf : mayFreeze S.heap ds = true) (hMx : ∀ p, Mx p → plusMem M S inn ds p ∨ ∀ g, W.X g → p.block ≠ g) (hM : ∀ p, M p → Mx p) (hk : ∀ p, M0 p → w.cell? p = w0.cell? p) (hM0 : ∀ p, M0 p → Mx p)
    {A : ATy} {x x' : A.den} {v : Value} {hs : List Hd} {j j' : Nat} (hA : RepA w0 M0 A x v hs) (hh : ∀ (i : Nat) v, hs[i]? = some v → (W.arg (j + i), W.A (j + i)) = (some v.1, v.2)) (ho : outA S.heap A x j = some (x', j')) : ∃ hs', RepA w Mx A x' v hs' ∧ Sub hs' hs ∧ j' = j + hs.length := by
  cases A with
  | v R =>
    obtain ⟨h1, h2⟩ := hA
    obtain ⟨hs', k1, k3, k2⟩ := outR_rep h hmf hMx hM hk hM0 h2 hh ho
    exact ⟨hs', ⟨h1, k1⟩, k3, k2⟩
  | box t T =>
    obtain ⟨gs, e, hB⟩ := hA
    subst e
    have hv := hh 0 (v, gs) rfl
    rw [Nat.add_zero] at hv
    obtain ⟨hv1, hv2⟩ := Prod.mk.inj hv
    simp only [outA] at ho
    split at ho
    · rename_i t' cs fz hf
      split at ho
      · rename_i ht
        obtain ⟨d, hd, ho⟩ := Option.map_eq_some_iff.1 ho
        cases ho; subst ht
        obtain ⟨u, gs', hu, hB', hA⟩ := h.argBox hmf hMx hM hf hd
        rw [hu] at hv1; cases hv1
        exact ⟨[(_, gs')], ⟨_, rfl, hB'⟩, .one ⟨rfl, fun g hg => by have := hA g hg; rw [hv2] at this; exact this⟩, rfl⟩
      · cases ho
    · cases ho
theorem outAs_rep (h : Good W M0 S hdr inn M a w) (hmf : mayFreeze S.heap ds = true) (hMx : ∀ p, Mx p → plusMem M S inn ds p ∨ ∀ g, W.X g → p.block ≠ g) (hM : ∀ p, M p → Mx p) (hk : ∀ p, M0 p → w.cell? p = w0.cell? p) (hM0 : ∀ p, M0 p → Mx p) :
    ∀ {As : List ATy} {x x' : ADens As} {vs : List Value} {hs : List Hd} {j : Nat}, RepAs w0 M0 As x vs hs → (∀ (i : Nat) v, hs[i]? = some v → (W.arg (j + i), W.A (j + i)) = (some v.1, v.2)) → outAs S.heap As x j = some x' → ∃ hs', RepAs w Mx As x' vs hs' ∧ Sub hs' hs
  | [], _, _, _, _, _, ⟨h0, h1⟩, _, _ => by subst h1; exact ⟨[], ⟨h0, rfl⟩, trivial⟩
  | [A], x, x', vs, hs, j, ⟨v, e, hA⟩, hh, ho => by
    have ho' : (outA S.heap A x j).map (·.1) = some x' := ho
    obtain ⟨y, hy, ho'⟩ := Option.map_eq_some_iff.1 ho'
    subst ho'
    obtain ⟨hs', k1, k2, _⟩ := outA_rep h hmf hMx hM hk hM0 (j' := y.2) hA hh hy
    exact ⟨hs', ⟨v, e, k1⟩, k2⟩
  | A :: B :: As, x, x', vs, hs, j, ⟨v, r, h1, h2, e, e', ha, hb⟩, hh, ho => by
    have ho' : ((outA S.heap A x.1 j).bind fun y => (outAs S.heap (B :: As) x.2 y.2).bind fun z => some (y.1, z)) = some x' := ho
    obtain ⟨y, hy, ho'⟩ := Option.bind_eq_some_iff.1 ho'
    obtain ⟨z, hz, ho'⟩ := Option.bind_eq_some_iff.1 ho'
    cases ho'
    subst e'
    obtain ⟨s1, s2⟩ := shift_hd (f := fun i => (W.arg i, W.A i)) (q := fun v : Hd => (some v.1, v.2)) hh
    obtain ⟨k1, a1, a3, a2⟩ := outA_rep h hmf hMx hM hk hM0 (x' := y.1) (j' := y.2) ha s1 hy
    obtain ⟨k2, b1, b3⟩ := outAs_rep h hmf hMx hM hk hM0 (j := y.2) hb (by rw [a2]; exact s2) hz
    exact ⟨k1 ++ k2, ⟨v, r, k1, k2, e, rfl, a1, b1⟩, a3.append b3⟩
end

/-- Blocks that are handed over lie in no memory that is looked at. -/
theorem BW.not {M : Mem} : ∀ {Bs : List Blk} {hs : List Hd}, BW w M Bs hs → (∀ B ∈ Bs, B.fz = 0) → ∀ p, M p → p.block ∉ gsOf hs
  | [], [], _, _, p, _ => by simp [gsOf]
  | B :: Bs, v :: hs, h, hz, p, hp => by
    have ih := BW.not h.2 (fun B hB => hz B (by simp [hB])) p hp
    rw [gsOf_cons]
    intro hm
    rcases List.mem_append.1 hm with e | hm
    · have h1 := (RepBlk.seen h.1 p hp e).1
      have h2 := hz B (by simp)
      omega
    · exact ih hm
  | [], _ :: _, h, _, _, _ => h.elim
  | _ :: _, [], h, _, _, _ => h.elim
theorem RTy.blks_fz : ∀ (T : RTy) (x : T.den), ∀ B ∈ T.blks x, B.fz = 0
  | .d _, _, _, h => by cases h
  | .row _ _, _, B, h => by simp [RTy.blks] at h; subst h; rfl
  | .pair a b, x, B, h => by
    rcases List.mem_append.1 h with h | h
    · exact RTy.blks_fz a x.1 B h
    · exact RTy.blks_fz b x.2 B h
  | .box _ _, _, B, h => by simp [RTy.blks] at h; subst h; rfl
  | .deep _ _, _, B, h => by simp [RTy.blks] at h; subst h; rfl
  | .mp _ _ _, _, B, h => by simp [RTy.blks] at h; subst h; rfl
theorem ATy.blks_fz (A : ATy) (x : A.den) : ∀ B ∈ A.blks x, B.fz = 0 := by
  cases A with
  | v R => exact RTy.blks_fz R x
  | box t T => intro B h; simp [ATy.blks] at h; subst h; rfl
theorem blksA_fz : ∀ (As : List ATy) (x : ADens As), ∀ B ∈ blksA As x, B.fz = 0
  | [], _, _, h => by cases h
  | [A], x, B, h => ATy.blks_fz A x B h
  | A :: C :: As, x, B, h => by
    rcases List.mem_append.1 (show B ∈ A.blks x.1 ++ blksA (C :: As) x.2 from h) with h | h
    · exact ATy.blks_fz A x.1 B h
    · exact blksA_fz (C :: As) x.2 B h

/-- THE FUNCTION THAT WRITES. -/
theorem fnM_ok {f : FuncId} {fn : Func} {cd : Code} {con : MCon} (hE : EnvOK P E) (hf : P.funcs[f]? = some fn) (hb : fn.body = some cd) (hname : (fn.name == "runtime.NumGoroutine") = false)
    (hl : AllLoops P E fn.ntmps (loopsOf cd)) (hrun : ∀ x y, con.F x = some y → runFnM E fn con.dom con.cod x = some y) : con.ok P f := by
  refine ⟨⟨fn, cd, hf, hname, hb⟩, fun w M vs ms x y x' hld hgx0 hM hA hms hF => ?_⟩
  have hr := hrun x (y, x') hF
  unfold runFnM at hr
  rw [hb] at hr
  dsimp only at hr
  rw [force_eq, force_eq] at hr
  let hdr0 : Nat → Option Value := fun b => if b % 4 = 2 ∧ 4 * fn.ntmps + 2 ≤ b then (ms[(b - 2) / 4 - fn.ntmps]?).map (·.1) else none
  let inn0 : Nat → List Nat := fun b => if b % 4 = 2 ∧ 4 * fn.ntmps + 2 ≤ b then ((ms[(b - 2) / 4 - fn.ntmps]?).map (·.2)).getD [] else []
  have hd0 : ∀ i, hdr0 (lendId fn.ntmps i) = (ms[i]?).map (·.1) := fun i => by
    show (if _ then _ else _) = _
    unfold lendId
    rw [if_pos ⟨by omega, by omega⟩, show (4 * (fn.ntmps + i) + 2 - 2) / 4 - fn.ntmps = i by omega]
  have hi0 : ∀ i, inn0 (lendId fn.ntmps i) = ((ms[i]?).map (·.2)).getD [] := fun i => by
    show (if _ then _ else _) = _
    unfold lendId
    rw [if_pos ⟨by omega, by omega⟩, show (4 * (fn.ntmps + i) + 2 - 2) / 4 - fn.ntmps = i by omega]
  have hA2 := lendAll_rep (n := fn.ntmps) (hdr := hdr0) (j := 0) hA (fun i v hv => by rw [Nat.zero_add, hd0, hv]; rfl)
  have hvl : vs.length = con.dom.length := by rw [← hA2.len, lendAll_len]
  have hbw := RepAs.blks hA
  have hMn := BW.not hbw (blksA_fz con.dom x)
  refine calls_of_wp hf hb ?_
  have h0 : Good (lendW w ms hld hgx0) M (initM fn.ntmps con.dom x) hdr0 inn0 M { tmps := vs.toArray ++ Array.replicate (fn.ntmps - vs.toArray.size) undef, defers := [] } w := by
    refine ⟨.ofExt (Ext.refl w), rfl, ?_, fun t => ?_, fun b B hb => ?_, fun b hb => ?_, fun b b' B B' g hbb hb hb' hg => ?_, hM, fun p hp => .inl hp, fun b B hb hf hf2 => ?_⟩
    · simp [initM, lendAll_len, hvl]
    · simp only [initM]
      by_cases ht : t < vs.length
      · have hta : t < ((lendAll fn.ntmps con.dom x 0).map AV.v).length := by simp [lendAll_len]; omega
        have hta' : t < (lendAll fn.ntmps con.dom x 0).length := by simpa using hta
        have hgx : (lendAll fn.ntmps con.dom x 0)[t]? = some (lendAll fn.ntmps con.dom x 0)[t] := List.getElem?_eq_getElem hta'
        obtain ⟨v, hv1, hv2⟩ := hA2.get hgx
        rw [List.getElem?_append_left hta, List.getElem?_map, hgx]
        have : (vs.toArray ++ Array.replicate (fn.ntmps - vs.toArray.size) undef).getD t undef = v := by
          have h1 : (vs.toArray ++ Array.replicate (fn.ntmps - vs.toArray.size) undef)[t]? = some v := by
            rw [Array.getElem?_append_left (by simpa using ht)]
            simpa using hv1
          rw [Array.getD_eq_getD_getElem?, h1]; rfl
        rw [this]
        exact hv2
      · have e1 : (((lendAll fn.ntmps con.dom x 0).map AV.v ++ List.replicate (fn.ntmps - con.dom.length) AV.undef)[t]?).getD .undef = .undef := by
          rw [List.getElem?_append_right (by simp [lendAll_len]; omega), List.getElem?_replicate]
          split <;> rfl
        rw [e1]; trivial
    · obtain ⟨i, B0, rfl, h2, h3⟩ := lk_lend hb
      cases h3
      obtain ⟨v, hv1, hv2⟩ := hbw.get h2
      rw [Nat.zero_add]
      refine ⟨v.1, by rw [hd0, hv1]; rfl, ?_⟩
      rw [hi0, hv1]
      refine hv2.rehold (fun _ h => h) fun g hg => ?_
      have hm : g ∈ gsOf ms := mem_gsOf.2 ⟨v, List.mem_of_getElem? hv1, hg⟩
      refine ⟨⟨fun h => by omega, fun _ => ?_⟩, fun p hp e => hMn p hp (by rw [e]; exact hm)⟩
      show g ∈ ((ms[(2 + 2 * i - 2) / 2]?).map (·.2)).getD []
      rw [show (2 + 2 * i - 2) / 2 = i by omega, hv1]; exact hg
    · show (if _ then _ else _) = _
      split
      · rename_i hc
        have hbl : b = lendId fn.ntmps (0 + ((b - 2) / 4 - fn.ntmps)) := by unfold lendId; omega
        have := lk_lend_none hb _ hbl
        rw [hbw.len] at this
        rw [List.getElem?_eq_none this]; rfl
      · rfl
    · obtain ⟨i, B0, rfl, h2, h3⟩ := lk_lend hb
      obtain ⟨i', B0', rfl, h2', h3'⟩ := lk_lend hb'
      obtain ⟨v, hv1, _⟩ := hbw.get h2
      obtain ⟨v', hv1', _⟩ := hbw.get h2'
      rw [hi0, Nat.zero_add, hv1] at hg
      rw [hi0, Nat.zero_add, hv1']
      exact gs_sep hms (fun e => hbb (by rw [e])) hv1 hv1' hg
    · obtain ⟨i, B0, rfl, h2, h3⟩ := lk_lend hb
      cases h3
      rw [Blk.held_fz, Nat.zero_add, hd0, show (2 + 2 * i - 2) / 2 = i by omega]
      rfl
  refine exec_sound (W := lendW w ms hld hgx0) (M0 := M) hE cd (initM fn.ntmps con.dom x) _ _ w _ hl.get hr ⟨_, _, _, h0⟩ ?_
  intro e S' a' w' hk hG
  have done : finishM E fn.results.toList con.dom con.cod x S' = some (y, x') → a'.defers = [] ∧ ∃ v, (results fn a'.tmps).run P w' = .ok v w' ∧ ∃ rs hs ms' M', Ending.returned v = .returned (retOf rs) ∧ ExtW (lendW w ms hld hgx0) w' ∧ RepRs (fun g => w.heap.size ≤ g) w' M' con.cod y rs hs ∧ RepAs w' M' con.dom x' vs ms' ∧ (gsOf hs).Nodup ∧
      (All2 (fun a b => a.1 = b.1 ∧ ∀ g ∈ a.2, g ∈ b.2) ms' ms ∧ (gsOf ms').Nodup) ∧
      ∀ p, M' p → (M p ∨ w.heap.size ≤ p.block) ∧ p.block < w'.heap.size ∧ p.block ∉ gsOf hs ∧ p.block ∉ gsOf ms' := by
    intro hfin
    unfold finishM at hfin
    obtain ⟨y2, hfin, hk2⟩ := Option.bind_eq_some_iff.1 hfin
    obtain ⟨x2, hout, hk2⟩ := Option.bind_eq_some_iff.1 hk2
    cases hk2
    obtain ⟨hdr, inn, M1, g⟩ := hG
    unfold finish at hfin
    split at hfin
    · rename_i ys hys
      obtain ⟨q, hq, hfin⟩ := Option.bind_eq_some_iff.1 hfin
      split at hfin
      · rename_i hok
        cases hfin
        simp only [Bool.and_eq_true] at hok
        obtain ⟨vs', k1, k2⟩ := results_rep hE g hys
        have hdis : ∀ b ∈ q.2.1, b ∉ q.2.2 := fun b hb => disj_mem hok.1.2 hb
        obtain ⟨hs, m1, m2⟩ := resD_rep g hdis (x := q.1) (rs := q.2.1) (ds := q.2.2) hq k2 (fun _ h => h) (fun _ h => h)
        have hfz := g.freeze q.2.2 hok.2
        have hX : ∀ p, M p → p.block ∉ gsOf ms := hMn
        have hcell : ∀ p, M p → w'.cell? p = w.cell? p := fun p hp => World.cell?_of_block (w := w) (g.ext.block _ (hM p hp) (fun hx => hX p hp (lendW_X.1 hx)))
        have hge := RepRs.ge m1
        have hsz : w.heap.size ≤ w'.heap.size := g.ext.size
        have hfresh : ∀ gg ∈ gsOf hs, w.heap.size ≤ gg := fun gg hg => ((hge gg hg).1 (by decide)).resolve_right id
        have harg : ∀ p, plusMem M1 S' inn q.2.2 p → p.block ∉ gsOf ms := by
          intro p hp hm
          obtain ⟨v, hv, ho⟩ := mem_gsOf.1 hm
          -- a block that is handed over is old
          rcases hfz.mo p hp with h1 | h1
          · exact hX p h1 hm
          · -- it was there when the call began
            obtain ⟨i, hi⟩ := List.getElem?_of_mem hv
            have hlen := hbw.len
            have hil : i < (blksA con.dom x).length := by rw [hlen]; exact (List.getElem?_eq_some_iff.1 hi).1
            obtain ⟨u, hu1, hu2⟩ := hbw.get (List.getElem?_eq_getElem hil)
            rw [hi] at hu1; cases hu1
            have := (hu2.lt ho).1
            have h1' : w.heap.size ≤ p.block := h1.resolve_right id
            omega
        have hMxdef : ∀ p, (M p ∨ plusMem M1 S' inn q.2.2 p) → plusMem M1 S' inn q.2.2 p ∨ ∀ g, (lendW w ms hld hgx0).X g → p.block ≠ g := fun p hp => hp.elim (fun h => .inr fun g hg e => hX p h (by rw [e]; exact lendW_X.1 hg)) .inl
        obtain ⟨ms', hAs, hSub⟩ := outAs_rep (W := lendW w ms hld hgx0) (Mx := fun p => M p ∨ plusMem M1 S' inn q.2.2 p) (ds := q.2.2) (w0 := w) g hok.2 hMxdef (fun p hp => .inr (.inl hp)) hcell (fun p hp => .inl hp) (j := 0) hA (fun i v hv => by
          show ((ms[0 + i]?).map (·.1), ((ms[0 + i]?).map (·.2)).getD []) = _
          rw [Nat.zero_add, hv]; rfl) hout
        have hno : ∀ p, (M p ∨ plusMem M1 S' inn q.2.2 p) → p.block ∉ gsOf hs := by
          intro p hp hm
          rcases hp with hp | hp
          · have := hM p hp
            have := hfresh _ hm
            omega
          · obtain ⟨b, hb1, hb3, B, hb4, hz⟩ := m2.mem _ hm
            exact g.plus_not (ds := q.2.2) hb4 (by rw [hz]; decide) hb3 (hdis b hb1) p hp rfl
        refine ⟨g.nod, _, k1, vs', hs, ms', fun p => M p ∨ plusMem M1 S' inn q.2.2 p, rfl, g.ext, RepRs.base (fun g hg => (hg.1 (by decide)).resolve_right id) (RepRs.keepM (fun _ h => .inr h) hno m1), hAs, m2.nodup g (noDup_spec hok.1.1), ⟨hSub, hSub.nodup (BW.nod (RepAs.blks hAs)) hms⟩, fun p hp => ?_⟩
        rcases hp with hp | hp
        · exact ⟨.inl hp, Nat.lt_of_lt_of_le (hM p hp) hsz, hno p (.inl hp), fun hm => hX p hp (hSub.mem _ hm)⟩
        · exact ⟨(hfz.mo p hp).imp id fun h => h.resolve_right id, hfz.ml p hp, hno p (.inr hp), fun hm => harg p hp (hSub.mem _ hm)⟩
      · cases hfin
    · cases hfin
  cases e with
  | normal =>
    obtain ⟨d1, v, d2, d3⟩ := done hk
    exact ⟨d1, v, d2, d3⟩
  | ret =>
    obtain ⟨d1, v, d2, d3⟩ := done hk
    exact ⟨d1, v, d2, d3⟩
  | exit i => cases hk
end
end Rx
end Go.Proofs.YthfgpnpoocepeaaGreat
