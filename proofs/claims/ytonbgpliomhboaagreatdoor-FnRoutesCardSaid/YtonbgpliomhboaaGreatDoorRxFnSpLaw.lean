/- Wheels that engage turn in opposite directions, in the ratio of their teeth: in plain terms. No program in sight. No conditions. -/
import Derived.Test.YtonbgpliomhboaaGreatDoorRxSpeedsLaw
import Derived.Test.YtonbgpliomhboaaGreatDoorRxSrcLaw
import Derived.Test.YtonbgpliomhboaaGreatDoorRxFnSp
namespace Go.Proofs.YtonbgpliomhboaaGreatDoor
namespace Rx
open Go

/-! ### Ratios -/
noncomputable def cf (t u : Int) : Rat := ((-t : Int) : Rat) / (u : Rat)
theorem step_val {t u : Int} (ht : teeth t) (hu : teeth u) : val (ratF (-t) u).1 = cf t u := by
  have hu' := hu.1
  exact (val_ratF (by omega) (step_ok ht hu).1).2
theorem meshF_val {v : RatD} {t u : Int} (hv : vR v = true) (ht : teeth t) (hu : teeth u) (h : (meshF v t u).2 = 0) : val (meshF v t u).1 = val v * cf t u := by
  rw [← step_val ht hu]
  exact (val_mul hv (step_ok ht hu).2 h).2
theorem teeth_ne {t : Int} (h : teeth t) : ((t : Int) : Rat) ≠ 0 := cast_ne (by have := h.1; omega)
theorem cf_inv {t u : Int} (ht : teeth t) (hu : teeth u) : cf t u * cf u t = 1 := by
  have h1 := teeth_ne ht
  have h2 := teeth_ne hu
  unfold cf
  rw [Rat.intCast_neg, Rat.intCast_neg]
  grind
/-! ### What fits -/
section
variable {w : WorksD}
theorem fit_at {sp : List RatD} (hf : w.2.all (fitF w sp) = true) {m : MeshD} (hm : m ∈ w.2) {p : RatD} (hp : meshOk w m p) : ∃ x y, idx sp m.1 = some x ∧ idx sp m.2.2.1 = some y ∧ meshF x p.1 p.2 = (y, 0) := by
  have h := List.all_eq_true.1 hf m hm
  unfold fitF at h
  rw [hp.2.2.2.2.2] at h
  split at h
  · rename_i x y q hx hy hq
    cases hq
    simp only [Bool.and_eq_true, beq_iff_eq] at h
    refine ⟨x, y, hx, hy, ?_⟩
    rw [← h.1]
    exact Prod.ext (Prod.ext h.2.1 h.2.2) rfl
  · cases h
theorem all_known {sp : List RatD} (hok : ∀ v ∈ sp, okSp v) (ha : (sp.any fun v => v.2 == 0) = false) : ∀ v ∈ sp, vR v = true := fun v hv => by
  have h0 := List.any_eq_false.1 ha v hv
  exact okSp_den (hok v hv) (by simpa using h0)
theorem idx_mem {α : Type} {l : List α} {i : Int} {y : α} (h : idx l i = some y) : 0 ≤ i ∧ l[i.toNat]? = some y := by
  unfold idx at h
  split at h
  · exact ⟨by assumption, h⟩
  · cases h
end

/-! ### Drawn works are valid -/
def names16 : List ByteArray := (namesWS ()).getD []
theorem names_ok : names16.all nameF = true := by kernel_rfl
theorem names_len : names16.length = 16 := rfl
theorem names_ne : ((List.range 16).all fun i => (List.range 16).all fun j => i == j || !((names16[i]?.getD ⟨⟨[]⟩⟩).toList == (names16[j]?.getD ⟨⟨[]⟩⟩).toList)) = true := by kernel_rfl
theorem name_ne {i j : Nat} {a b : ByteArray} (hi : names16[i]? = some a) (hj : names16[j]? = some b) (hne : i ≠ j) : (a.toList == b.toList) = false := by
  have li := (List.getElem?_eq_some_iff.1 hi).1
  have lj := (List.getElem?_eq_some_iff.1 hj).1
  rw [names_len] at li lj
  have h := List.all_eq_true.1 (List.all_eq_true.1 names_ne i (List.mem_range.2 li)) j (List.mem_range.2 lj)
  rw [hi, hj] at h
  simpa [hne] using h
theorem name_good {i : Nat} {a : ByteArray} (hi : names16[i]? = some a) : nameF a = true := List.all_eq_true.1 names_ok a (List.mem_of_getElem? hi)
theorem wheelF_of {w : WorksD} {a k : Int} {y : ArborD} (ha : idx w.1 a = some y) (h0 : 0 ≤ k) (h1 : k < y.2.length) : wheelF w a k = true := by
  obtain ⟨a0, ha2⟩ := idx_mem ha
  have al := (List.getElem?_eq_some_iff.1 ha2).1
  unfold wheelF inF
  rw [ha]
  simp only [Bool.and_eq_true, decide_eq_true_eq]
  omega
theorem wheelF_get {w : WorksD} {a k : Int} (h : wheelF w a k = true) : ∃ y, idx w.1 a = some y ∧ (0 ≤ a ∧ a < w.1.length) ∧ 0 ≤ k ∧ k < y.2.length := by
  obtain ⟨y, z, hy, hz⟩ := wheel_at h
  refine ⟨y, hy, ?_⟩
  unfold wheelF inF at h
  rw [hy] at h
  simp only [Bool.and_eq_true, decide_eq_true_eq] at h
  omega
theorem idx_app {α : Type} {l r : List α} {i : Int} {y : α} (h : idx l i = some y) : idx (l ++ r) i = some y := by
  obtain ⟨h0, h1⟩ := idx_mem h
  refine idx_nat h0 ?_
  rw [List.getElem?_append_left (List.getElem?_eq_some_iff.1 h1).1]; exact h1
structure DrOk (w : WorksD) (k : Nat) : Prop where
  len : w.1.length = k
  kb : k ≤ 7
  arb : ∀ (i : Nat) a, w.1[i]? = some a → names16[i]? = some a.1 ∧ (1 ≤ a.2.length ∧ a.2.length ≤ 3) ∧ ∀ t ∈ a.2, teeth t
  mlen : w.2.length ≤ k
  msh : ∀ (j : Nat) m, w.2[j]? = some m → meshPlace w j m = true
theorem arbors_ok {w : WorksD} {k : Nat} (h : DrOk w k) {i : Nat} {a : ArborD} (hi : w.1[i]? = some a) : arborPlace w i a = true := by
  obtain ⟨h1, h2, h3⟩ := h.arb i a hi
  have e1 : a.2.all teethF = true := List.all_eq_true.2 fun t ht => by
    have := h3 t ht
    unfold teethF inF
    simp only [Bool.and_eq_true, decide_eq_true_eq]
    exact this
  have e2 : decide ((a.2.length : Int) ≤ 5) = true := by simp; omega
  unfold arborPlace arborOk
  rw [e1, name_good h1, e2]
  simp only [Bool.true_and, Bool.not_eq_true']
  rw [List.any_eq_false]
  intro b hb
  rw [List.mem_take_iff_getElem] at hb
  obtain ⟨j, hj, rfl⟩ := hb
  have hj2 : w.1[j]? = some w.1[j] := List.getElem?_eq_getElem (by omega)
  have := name_ne (h.arb j _ hj2).1 h1 (by omega)
  unfold sameN
  rw [this]
  simp
theorem works_ok {w : WorksD} {k : Nat} (h : DrOk w k) {ms : List MeshD} (hl : ms.length ≤ 24) (hm : ∀ (j : Nat) m, ms[j]? = some m → meshPlace (w.1, ms) j m = true) : worksOk (w.1, ms) = true := by
  have hlen := h.len
  have hkb := h.kb
  unfold worksOk
  have e1 : decide (((w.1, ms).1.length : Int) ≤ 16) = true := by simp; omega
  have e2 : decide (((w.1, ms).2.length : Int) ≤ 24) = true := by simp; omega
  rw [e1, e2, Bool.true_and, Bool.true_and, Bool.and_eq_true]
  constructor
  · refine allI_of fun i a hi => ?_
    rw [Nat.zero_add]
    exact arbors_ok h hi
  · refine allI_of fun j m hj => ?_
    rw [Nat.zero_add]
    exact hm j m hj
theorem join_get {w : WorksD} {m : MeshD} (h : joinF w m = true) : m.1 ≠ m.2.2.1 ∧ wheelF w m.1 m.2.1 = true ∧ wheelF w m.2.2.1 m.2.2.2 = true := by
  unfold joinF at h
  simp only [Bool.and_eq_true] at h
  exact ⟨by simpa using h.1, h.2.1, h.2.2⟩
theorem join_of {w : WorksD} {m : MeshD} (h1 : m.1 ≠ m.2.2.1) (h2 : wheelF w m.1 m.2.1 = true) (h3 : wheelF w m.2.2.1 m.2.2.2 = true) : joinF w m = true := by
  unfold joinF
  rw [h2, h3]
  simpa using h1
theorem join_app {w : WorksD} {r : List ArborD} {ms : List MeshD} {m : MeshD} (h : joinF w m = true) : joinF (w.1 ++ r, ms) m = true := by
  obtain ⟨h1, h2, h3⟩ := join_get h
  obtain ⟨y, y1, _, y3, y4⟩ := wheelF_get h2
  obtain ⟨z, z1, _, z3, z4⟩ := wheelF_get h3
  exact join_of h1 (wheelF_of (w := (w.1 ++ r, ms)) (idx_app y1) y3 y4) (wheelF_of (w := (w.1 ++ r, ms)) (idx_app z1) z3 z4)
theorem known_far {m z : MeshD} {k : Int} (h1 : z.1 < k) (h2 : z.2.2.1 < k) (hm : m.1 = k ∨ m.2.2.1 = k) : knownF m z = false := by
  unfold knownF
  rcases hm with h | h
  · have e1 : (z.1 == m.1) = false := by simp; omega
    have e2 : (z.2.2.1 == m.1) = false := by simp; omega
    rw [e1, e2]; simp
  · have e1 : (z.1 == m.2.2.1) = false := by simp; omega
    have e2 : (z.2.2.1 == m.2.2.1) = false := by simp; omega
    rw [e1, e2]; simp
/-- One arbor more, and at most one mesh that leads to it. -/
theorem DrOk.more {w : WorksD} {k : Nat} (h : DrOk w k) (hk : k < 7) {n : ByteArray} {wh : List Int} (hn : names16[k]? = some n) (hw : (1 ≤ wh.length ∧ wh.length ≤ 3) ∧ ∀ t ∈ wh, teeth t) {ms : List MeshD} (hms : ms = [] ∨ ∃ m, ms = [m] ∧ (m.1 = k ∨ m.2.2.1 = k) ∧ joinF (w.1 ++ [(n, wh)], w.2 ++ [m]) m = true) :
    DrOk (w.1 ++ [(n, wh)], w.2 ++ ms) (k + 1) where
  len := by dsimp only; rw [List.length_append, h.len]; rfl
  kb := by omega
  arb := fun i a hi => by
    dsimp only at hi
    by_cases hik : i < w.1.length
    · rw [List.getElem?_append_left hik] at hi
      exact h.arb i a hi
    · have hl := (List.getElem?_eq_some_iff.1 hi).1
      rw [List.length_append] at hl
      have hlen := h.len
      have : i = w.1.length := by simp at hl; omega
      subst this
      rw [List.getElem?_append_right (Nat.le_refl _), Nat.sub_self] at hi
      simp at hi; subst hi
      rw [hlen]
      exact ⟨hn, hw⟩
  mlen := by
    have := h.mlen
    dsimp only
    rw [List.length_append]
    rcases hms with rfl | ⟨m, rfl, _⟩ <;> simp <;> omega
  msh := fun j m hj => by
    dsimp only at hj
    have hlen := h.len
    by_cases hjl : j < w.2.length
    · rw [List.getElem?_append_left hjl] at hj
      have := h.msh j m hj
      unfold meshPlace at this ⊢
      rw [Bool.and_eq_true] at this ⊢
      dsimp only
      rw [List.take_append_of_le_length (by omega)]
      exact ⟨join_app this.1, this.2⟩
    · rcases hms with rfl | ⟨m', rfl, he, hjn⟩
      · rw [List.append_nil, List.getElem?_eq_none (by omega)] at hj; cases hj
      · have hl := (List.getElem?_eq_some_iff.1 hj).1
        rw [List.length_append] at hl
        have : j = w.2.length := by simp at hl; omega
        subst this
        rw [List.getElem?_append_right (Nat.le_refl _), Nat.sub_self] at hj
        simp at hj; subst hj
        unfold meshPlace
        rw [hjn, Bool.true_and, Bool.not_eq_true', List.any_eq_false]
        dsimp only
        rw [List.take_left]
        intro z hz
        obtain ⟨i, hi1, hi2⟩ := List.mem_iff_getElem.1 hz
        have hp := h.msh i z (by rw [List.getElem?_eq_getElem hi1, hi2])
        unfold meshPlace at hp
        rw [Bool.and_eq_true] at hp
        obtain ⟨_, g2, g3⟩ := join_get hp.1
        obtain ⟨_, _, l1, _⟩ := wheelF_get g2
        obtain ⟨_, _, l2, _⟩ := wheelF_get g3
        rw [known_far (k := (k : Int)) (by omega) (by omega) he]
        simp
theorem DrOk.nil : DrOk ([], []) 0 := ⟨rfl, by omega, fun i a h => by simp at h, by simp, fun j m h => by simp at h⟩

/-! ### The drawing -/
abbrev eight : List Int := [64, 8, 60, 10, 12, 48, 30, 239]
theorem eight_teeth {t : Int} (h : t ∈ eight) : teeth t := by
  simp only [List.mem_cons, List.not_mem_nil, or_false] at h
  unfold teeth
  omega
theorem wheels_walk {c : List Int} (hc : bytesOk c) {b4 w5 : WorksD} {nm : List ByteArray} {mn k : Int} {n : ByteArray} {cnt : Int} (hcnt : cnt ≤ 3) : ∀ (f : Nat) (a g : Int) (wh : List Int) (i : Int), (wh.length : Int) = i → (∀ t ∈ wh, teeth t) → i ≤ cnt → (cnt - i).toNat < f → (0 ≤ a ∧ a + 2 * (cnt - i) ≤ 10000) →
    ∃ a' g' wh', iterP drawWN_step f ((c, a, g), b4, w5, nm, mn, k, (n, wh), cnt, i) = some ((c, a', g'), b4, w5, nm, mn, k, (n, wh'), cnt, cnt) ∧ (0 ≤ a' ∧ a' ≤ a + 2 * (cnt - i)) ∧ (wh'.length : Int) = cnt ∧ ∀ t ∈ wh', teeth t := by
  intro f
  induction f with
  | zero => intro a g wh i _ _ _ h; omega
  | succ f ih =>
    intro a g wh i hl ht hi hf ha
    by_cases hlt : i < cnt
    · obtain ⟨y, a1, g1, e1, m1, b1⟩ := among_tot hc (g := g) (K := a) eight (by simp) (by simp) ⟨ha.1, Int.le_refl _⟩ (by omega)
      obtain ⟨a2, g2, wh2, e2, b2, l2, t2⟩ := ih a1 g1 (wh ++ [y]) (i + 1) (by rw [List.length_append]; push_cast; rw [hl]; rfl) (fun t h => by
        rcases List.mem_append.1 h with h | h
        · exact ht t h
        · rw [List.mem_singleton.1 h]; exact eight_teeth m1) (by omega) (by omega) (by omega)
      refine ⟨a2, g2, wh2, ?_, by omega, l2, t2⟩
      show ob (drawWN_step ((c, a, g), b4, w5, nm, mn, k, (n, wh), cnt, i)) _ = _
      unfold drawWN_step
      dsimp only
      rw [br_t (by simpa using hlt), e1, ob_s]
      dsimp only
      rw [br_t (by simp; omega), w64 (by omega) (by omega)]
      exact e2
    · have : i = cnt := by omega
      subst this
      refine ⟨a, g, wh, ?_, by omega, hl, ht⟩
      show ob (drawWN_step ((c, a, g), b4, w5, nm, mn, k, (n, wh), i, i)) _ = _
      unfold drawWN_step
      dsimp only
      rw [br_f (by simp)]
      rfl
theorem one_tot {c : List Int} (hc : bytesOk c) {a g K : Int} (n : Int) (ha : 0 ≤ a ∧ a ≤ K) (hK : K ≤ 1000000) : ∃ b a' g', oneW ((c, a, g), n) = some (b, (c, a', g'), n) ∧ 0 ≤ a' ∧ a' ≤ K + 2 := by
  obtain ⟨y, a', g', e, b, ca⟩ := pick_tot hc (g := g) n ha hK
  refine ⟨y == 0, a', g', ?_, ca⟩
  unfold oneW
  dsimp only
  rw [e, ob_s]
theorem works_walk {c : List Int} (hc : bytesOk c) {b4 : WorksD} {many : Nat} (hmany : many ≤ 7) : ∀ (f : Nat) (a g : Int) (w : WorksD) (k : Nat), DrOk w k → k ≤ many → many - k < f → (0 ≤ a ∧ a ≤ 2 + 20 * k) →
    ∃ a' g' w', iterP drawWL_step f ((c, a, g), b4, w, names16, (many : Int), (k : Int)) = some ((c, a', g'), b4, w', names16, (many : Int), (many : Int)) ∧ DrOk w' many ∧ 0 ≤ a' ∧ a' ≤ 200 := by
  intro f
  induction f with
  | zero => intro a g w k _ _ h; omega
  | succ f ih =>
    intro a g w k hd hk hf ha
    show ∃ a' g' w', ob (drawWL_step ((c, a, g), b4, w, names16, (many : Int), (k : Int))) _ = _ ∧ _
    by_cases hlt : k < many
    · have hlen := hd.len
      obtain ⟨n, hn, hn2⟩ := idx_get (l := names16) (i := (k : Int)) (by omega) (by rw [names_len]; omega)
      have hn3 : names16[k]? = some n := hn2
      obtain ⟨y, a1, g1, e1, m1, b1⟩ := pick_tot hc (g := g) (K := a) 3 ⟨ha.1, Int.le_refl _⟩ (by omega)
      have hy : 1 ≤ 1 + y ∧ 1 + y ≤ 3 := by omega
      obtain ⟨a2, g2, wh, e2, b2, l2, t2⟩ := wheels_walk hc (b4 := b4) (w5 := w) (nm := names16) (mn := (many : Int)) (k := (k : Int)) (n := n) (cnt := 1 + y) (by omega) ((1 + y - 0).toNat + 1) a1 g1 [] 0 rfl (fun t h => by cases h) (by omega) (by omega) (by omega)
      have e2' : drawWN ((c, a1, g1), b4, w, names16, (many : Int), (k : Int), (n, []), 1 + y, 0) = some ((c, a2, g2), b4, w, names16, (many : Int), (k : Int), (n, wh), 1 + y, 1 + y) := e2
      have hwh : (1 ≤ wh.length ∧ wh.length ≤ 3) ∧ ∀ t ∈ wh, teeth t := ⟨by omega, t2⟩
      unfold drawWL_step
      dsimp only
      rw [br_t (by simp; omega), hn, ob_s, gi, hn2, ob_s, e1, ob_s]
      dsimp only
      rw [w64 (x := 1 + y) (by omega) (by omega), e2', ob_s]
      dsimp only
      rw [br_t (by simp; omega), w64 (x := (k : Int) + 1) (by omega) (by omega)]
      have go : ∀ (a3 g3 : Int) (ms : List MeshD), (0 ≤ a3 ∧ a3 ≤ 2 + 20 * ((k + 1 : Nat) : Int)) → DrOk (w.1 ++ [(n, wh)], w.2 ++ ms) (k + 1) →
          ∃ a' g' w', iterP drawWL_step f ((c, a3, g3), b4, (w.1 ++ [(n, wh)], w.2 ++ ms), names16, (many : Int), (k : Int) + 1) = some ((c, a', g'), b4, w', names16, (many : Int), (many : Int)) ∧ DrOk w' many ∧ 0 ≤ a' ∧ a' ≤ 200 := fun a3 g3 ms h3 hd' => by
        have := ih a3 g3 _ (k + 1) hd' (by omega) (by omega) h3
        rw [show ((k + 1 : Nat) : Int) = (k : Int) + 1 by push_cast; rfl] at this
        exact this
      have d0 : DrOk (w.1 ++ [(n, wh)], w.2 ++ []) (k + 1) := hd.more (by omega) hn3 hwh (.inl rfl)
      by_cases hk0 : 0 < (k : Int)
      · obtain ⟨b, a3, g3, e3, b3⟩ := one_tot hc (g := g2) (K := a2) 12 ⟨b2.1, Int.le_refl _⟩ (by omega)
        rw [br_t (by simpa using hk0), e3, ob_s]
        dsimp only
        cases b with
        | true =>
          rw [br_f (c := !true) rfl]
          have := go a3 g3 [] (by omega) d0
          rw [List.append_nil] at this
          exact this
        | false =>
          obtain ⟨A, a4, g4, e4, m4, b4'⟩ := pick_tot hc (g := g3) (K := a3) (k : Int) ⟨b3.1, Int.le_refl _⟩ (by omega)
          obtain ⟨x, hx, hx2⟩ := idx_get (l := w.1) (i := A) m4.1 (by omega)
          have hx' : idx (w.1 ++ [(n, wh)]) A = some x := idx_app hx
          obtain ⟨_, hx2'⟩ := idx_mem hx'
          have hxa := hd.arb A.toNat x hx2
          obtain ⟨y4, a5, g5, e5, m5, b5⟩ := pick_tot hc (g := g4) (K := a4) (x.2.length : Int) ⟨b4'.1, Int.le_refl _⟩ (by omega)
          obtain ⟨y5, a6, g6, e6, m6, b6⟩ := pick_tot hc (g := g5) (K := a5) (wh.length : Int) ⟨b5.1, Int.le_refl _⟩ (by omega)
          obtain ⟨b', a7, g7, e7, b7⟩ := one_tot hc (g := g6) (K := a6) 3 ⟨b6.1, Int.le_refl _⟩ (by omega)
          have hnew : idx (w.1 ++ [(n, wh)]) (k : Int) = some (n, wh) := idx_nat (by omega) (by
            rw [show ((k : Int)).toNat = w.1.length by omega]; exact get_mid)
          have hml := hd.mlen
          have jn : ∀ ms : List MeshD, wheelF (w.1 ++ [(n, wh)], ms) A y4 = true ∧ wheelF (w.1 ++ [(n, wh)], ms) (k : Int) y5 = true := fun ms =>
            ⟨wheelF_of (w := (w.1 ++ [(n, wh)], ms)) hx' m5.1 (by omega), wheelF_of (w := (w.1 ++ [(n, wh)], ms)) hnew m6.1 (by dsimp only; omega)⟩
          rw [br_t (c := !false) rfl, e4, ob_s]
          dsimp only
          rw [hx', ob_s, gi, hx2', ob_s, e5, ob_s]
          dsimp only
          rw [e6, ob_s]
          dsimp only
          rw [e7, ob_s]
          dsimp only
          cases b' with
          | true =>
            rw [br_t (c := true) rfl, br_t (by simp; omega)]
            exact go a7 g7 [((k : Int), y5, A, y4)] (by omega) (hd.more (by omega) hn3 hwh (.inr ⟨_, rfl, .inl rfl, join_of (by dsimp only; omega) (jn _).2 (jn _).1⟩))
          | false =>
            rw [br_f (c := false) rfl, br_t (by simp; omega)]
            exact go a7 g7 [(A, y4, (k : Int), y5)] (by omega) (hd.more (by omega) hn3 hwh (.inr ⟨_, rfl, .inr rfl, join_of (by dsimp only; omega) (jn _).1 (jn _).2⟩))
      · rw [br_f (by simpa using hk0)]
        have := go a2 g2 [] (by omega) d0
        rw [List.append_nil] at this
        exact this
    · have : k = many := by omega
      subst this
      refine ⟨a, g, w, ?_, hd, by omega, by omega⟩
      unfold drawWL_step
      dsimp only
      rw [br_f (by simp)]
      rfl
theorem DrOk.small {w : WorksD} {k : Nat} (h : DrOk w k) : smallW w := by
  have h1 := h.len
  have h2 := h.mlen
  have h3 := h.kb
  refine ⟨by omega, fun a ha => ?_, by omega⟩
  obtain ⟨i, hi1, hi2⟩ := List.mem_iff_getElem.1 ha
  have := (h.arb i a (by rw [List.getElem?_eq_getElem hi1, hi2])).2.1
  omega
theorem place_pre {w : WorksD} {ms : List MeshD} {j : Nat} {m : MeshD} (hj : j ≤ w.2.length) (h : meshPlace w j m = true) : meshPlace (w.1, w.2 ++ ms) j m = true := by
  unfold meshPlace at h ⊢
  dsimp only
  rw [List.take_append_of_le_length hj]
  exact h
theorem a2Works_ok {c : List Int} (hc : bytesOk c) : ∃ w, a2WorksS c = some w ∧ worksOk w = true ∧ smallW w ∧ 1 ≤ w.1.length := by
  obtain ⟨y, a1, g1, e1, m1, b1⟩ := pick_tot hc (a := 0) (g := 0) (K := 0) 7 ⟨by omega, by omega⟩ (by omega)
  obtain ⟨many, hm⟩ : ∃ n : Nat, (n : Int) = 1 + y := ⟨(1 + y).toNat, by omega⟩
  obtain ⟨a2, g2, w, e2, hd, b2⟩ := works_walk hc (b4 := ([], [])) (many := many) (by omega) (((many : Int) - 0).toNat + 1) a1 g1 ([], []) 0 .nil (by omega) (by omega) (by omega)
  have e2' : drawWL ((c, a1, g1), ([], []), ([], []), names16, (many : Int), 0) = some ((c, a2, g2), ([], []), w, names16, (many : Int), (many : Int)) := e2
  have hlen := hd.len
  have hml := hd.mlen
  have hkb := hd.kb
  have plain : worksOk w = true := works_ok hd (by omega) hd.msh
  have e0 : a2WorksS c = ob (drawWS ((c, 0, 0), 7)) fun y => some y.1 := rfl
  rw [e0]
  unfold drawWS
  dsimp only
  rw [show namesWS PUnit.unit = some names16 from rfl, ob_s, e1, ob_s]
  dsimp only
  rw [w64 (by omega) (by omega), ← hm, e2', ob_s]
  dsimp only
  by_cases h2 : (2 : Int) < (w.1.length : Int)
  · obtain ⟨b, a3, g3, e3, b3⟩ := one_tot hc (g := g2) (K := 200) 4 b2 (by omega)
    rw [br_t (by simpa using h2), e3, ob_s]
    dsimp only
    cases b with
    | false => exact ⟨_, rfl, plain, hd.small, by show 1 ≤ w.1.length; omega⟩
    | true =>
      have e6 : knownS ((w.1, w.2), ((0, 0, 2, 0) : MeshD), (w.2.length : Int)) = some (w.2.any (knownF (0, 0, 2, 0))) := by
        have := knownS_eq hd.small (i := (w.2.length : Int)) (0, 0, 2, 0) (by omega) (by omega)
        rw [show ((w.2.length : Int)).toNat = w.2.length by omega, List.take_length] at this
        exact this
      rw [br_t (c := true) rfl, e6, ob_s]
      cases hkn : w.2.any (knownF (0, 0, 2, 0)) with
      | true => exact ⟨_, rfl, plain, hd.small, by show 1 ≤ w.1.length; omega⟩
      | false =>
        rw [br_t (c := !false) rfl, br_t (by simp; omega)]
        refine ⟨_, rfl, ?_, ?_, by show 1 ≤ w.1.length; omega⟩
        · refine works_ok hd (ms := w.2 ++ [(0, 0, 2, 0)]) (by rw [List.length_append]; simp; omega) fun j m hj => ?_
          by_cases hjl : j < w.2.length
          · rw [List.getElem?_append_left hjl] at hj
            exact place_pre (by omega) (hd.msh j m hj)
          · have hl := (List.getElem?_eq_some_iff.1 hj).1
            rw [List.length_append] at hl
            have : j = w.2.length := by simp at hl; omega
            subst this
            rw [List.getElem?_append_right (Nat.le_refl _), Nat.sub_self] at hj
            simp at hj; subst hj
            have wh : ∀ i : Int, 0 ≤ i → i < w.1.length → wheelF w i 0 = true := fun i i0 i1 => by
              obtain ⟨x, hx, hx2⟩ := idx_get (l := w.1) i0 i1
              have := (hd.arb i.toNat x hx2).2.1
              exact wheelF_of hx (by omega) (by omega)
            have hjn : joinF w (0, 0, 2, 0) = true := join_of (by decide) (wh 0 (by omega) (by omega)) (wh 2 (by omega) (by omega))
            unfold meshPlace
            dsimp only
            rw [List.take_left, hkn]
            have : joinF (w.1, w.2 ++ [(0, 0, 2, 0)]) (0, 0, 2, 0) = joinF w (0, 0, 2, 0) := rfl
            rw [this, hjn]; rfl
        · refine ⟨hd.small.1, hd.small.2.1, ?_⟩
          dsimp only
          rw [List.length_append]; simp; omega
  · rw [br_f (by simpa using h2)]
    exact ⟨_, rfl, plain, hd.small, by show 1 ≤ w.1.length; omega⟩

/-! ### The law -/
end Rx
end Go.Proofs.YtonbgpliomhboaaGreatDoor
