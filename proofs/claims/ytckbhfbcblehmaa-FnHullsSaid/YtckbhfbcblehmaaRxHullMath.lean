/- Hulls: the way round the corners, in plain numbers. No program in sight. No conditions. -/
import Derived.Test.YtckbhfbcblehmaaRxPlain
namespace Go.Proofs.Ytckbhfbcblehmaa
namespace Rx
namespace Hull
abbrev V2 := Int × Int
def cr (u v : V2) : Int := u.1 * v.2 - u.2 * v.1
def dt (u v : V2) : Int := u.1 * v.1 + u.2 * v.2
def mi (a b : V2) : V2 := (a.1 - b.1, a.2 - b.2)

theorem sq_nn (a : Int) : 0 ≤ a * a := by
  rcases Int.le_total 0 a with h | h
  · exact Int.mul_nonneg h h
  · have := Int.mul_nonneg (show 0 ≤ -a by omega) (show 0 ≤ -a by omega)
    rw [Int.neg_mul_neg] at this; exact this
theorem sq_zero {a : Int} (h : a * a = 0) : a = 0 := by
  rcases Int.mul_eq_zero.1 h with h | h <;> exact h
theorem mul_nonpos_right {a b : Int} (ha : 0 ≤ a) (hb : b ≤ 0) : a * b ≤ 0 := by
  have := Int.mul_nonneg ha (show 0 ≤ -b by omega)
  rw [Int.mul_neg] at this; omega
theorem mul_nonpos_left {a b : Int} (ha : a ≤ 0) (hb : 0 ≤ b) : a * b ≤ 0 := by
  rw [Int.mul_comm]; exact mul_nonpos_right hb ha
theorem mul_nn_of_np {a b : Int} (ha : a ≤ 0) (hb : b ≤ 0) : 0 ≤ a * b := by
  have := Int.mul_nonneg (show 0 ≤ -a by omega) (show 0 ≤ -b by omega)
  rw [Int.neg_mul_neg] at this; exact this
theorem le_of_sq {a b : Int} (hb : 0 ≤ b) (h : a * a ≤ b * b) : a ≤ b := by
  rcases Int.lt_or_le b a with hl | hl
  · have h1 := Int.mul_lt_mul_of_pos_left hl (show 0 < a by omega)
    have h2 := Int.mul_le_mul_of_nonneg_right (show b ≤ a by omega) hb
    have h3 : a * b = b * a := Int.mul_comm _ _
    omega
  · exact hl
theorem lt_of_sq {a b : Int} (hb : 0 ≤ b) (h : a * a < b * b) : a < b := by
  rcases Int.lt_or_le a b with hl | hl
  · exact hl
  · have h1 := Int.mul_le_mul hl hl hb (show 0 ≤ a by omega)
    omega

theorem dt_nn (u : V2) : 0 ≤ dt u u := by
  have h1 := sq_nn u.1
  have h2 := sq_nn u.2
  unfold dt; omega
theorem dt_zero {u : V2} (h : dt u u = 0) : u = (0, 0) := by
  have h1 := sq_nn u.1
  have h2 := sq_nn u.2
  unfold dt at h
  have e1 := sq_zero (show u.1 * u.1 = 0 by omega)
  have e2 := sq_zero (show u.2 * u.2 = 0 by omega)
  exact Prod.ext e1 e2
theorem dt_pos {u : V2} (h : u ≠ (0, 0)) : 0 < dt u u := by
  have := dt_nn u
  rcases Int.lt_or_eq_of_le this with h1 | h1
  · exact h1
  · exact absurd (dt_zero h1.symm) h
theorem lagr (u v : V2) : dt u v * dt u v + cr u v * cr u v = dt u u * dt v v := by unfold dt cr; grind
theorem cr_self (u : V2) : cr u u = 0 := by unfold cr; grind
theorem cr_swap (u v : V2) : cr v u = - cr u v := by unfold cr; grind
theorem dt_swap (u v : V2) : dt v u = dt u v := by unfold dt; grind
theorem cr3 (d a b c : V2) : cr a c * cr d b = cr a b * cr d c + cr b c * cr d a := by unfold cr; grind
theorem par_cr (d a b : V2) (h : cr a b = 0) : dt a a * cr d b = dt a b * cr d a := by unfold cr dt at *; grind
theorem par_dt (d a b : V2) (h : cr a b = 0) : dt a a * dt d b = dt a b * dt d a := by unfold cr dt at *; grind
/-- Both parallel to one vector. -/
theorem par_par {d a b : V2} (hd : d ≠ (0, 0)) (h1 : cr d a = 0) (h2 : cr d b = 0) : cr a b = 0 := by
  have e1 : d.1 * cr a b = 0 := by unfold cr at *; grind
  have e2 : d.2 * cr a b = 0 := by unfold cr at *; grind
  rcases Int.mul_eq_zero.1 e1 with k | k
  · rcases Int.mul_eq_zero.1 e2 with l | l
    · exact absurd (Prod.ext k l) hd
    · exact l
  · exact k
theorem zero_of {d a : V2} (hd : d ≠ (0, 0)) (h1 : cr d a = 0) (h2 : dt d a = 0) : a = (0, 0) := by
  have := lagr d a
  rw [h1, h2] at this
  have hp := dt_pos hd
  have : dt d d * dt a a = 0 := by omega
  rcases Int.mul_eq_zero.1 this with k | k
  · omega
  · exact dt_zero k
/-- Parallel, both not zero: the product is not zero. -/
theorem par_ne {a b : V2} (ha : a ≠ (0, 0)) (hb : b ≠ (0, 0)) (h : cr a b = 0) : dt a b ≠ 0 := by
  intro h2
  have := lagr a b
  rw [h, h2] at this
  have h3 := Int.mul_pos (dt_pos ha) (dt_pos hb)
  omega
/-- Parallel, the same way, equally long. -/
theorem par_same {a b : V2} (h : cr a b = 0) (hd : 0 ≤ dt a b) (hs : dt a a = dt b b) : a = b := by
  have e := lagr a b
  rw [h, ← hs] at e
  have h1 : dt a b = dt a a := by
    have k1 := le_of_sq (a := dt a b) (b := dt a a) (dt_nn a) (by omega)
    have k2 := le_of_sq (a := dt a a) (b := dt a b) hd (by omega)
    omega
  have h2 : dt (mi a b) (mi a b) = dt a a + dt b b - 2 * dt a b := by unfold dt mi; grind
  have h3 : dt (mi a b) (mi a b) = 0 := by omega
  have h4 := dt_zero h3
  unfold mi at h4
  simp at h4
  exact Prod.ext (by omega) (by omega)

/-- Directions of which no two are opposite, on one side of a line. -/
structure Cone (d : V2) (C : V2 → Prop) : Prop where
  ne : d ≠ (0, 0)
  side : ∀ u, C u → 0 ≤ cr d u
  nz : ∀ u, C u → u ≠ (0, 0)
  same : ∀ u v, C u → C v → cr u v = 0 → 0 < dt u v
/-- v does not come ahead of u. -/
def ge (u v : V2) : Prop := 0 ≤ cr u v ∧ (cr u v = 0 → dt v v ≤ dt u u)
theorem ge_refl (u : V2) : ge u u := ⟨by rw [cr_self]; omega, fun _ => Int.le_refl _⟩
def bet (u v : V2) : Bool := decide (cr u v < 0) || (cr u v == 0 && decide (dt u u < dt v v))
theorem bet_iff {u v : V2} : bet u v = true ↔ ¬ ge u v := by
  unfold bet ge
  simp only [Bool.or_eq_true, Bool.and_eq_true, decide_eq_true_eq, beq_iff_eq]
  constructor
  · rintro (h | ⟨h1, h2⟩) ⟨k1, k2⟩
    · omega
    · have := k2 h1; omega
  · intro h
    rcases Int.lt_trichotomy (cr u v) 0 with k | k | k
    · exact .inl k
    · refine .inr ⟨k, ?_⟩
      rcases Int.lt_or_le (dt u u) (dt v v) with l | l
      · exact l
      · exact absurd ⟨by omega, fun _ => l⟩ h
    · exact absurd ⟨by omega, fun e => by omega⟩ h
theorem bet_false {u v : V2} : bet u v = false ↔ ge u v := by
  have := @bet_iff u v
  cases h : bet u v
  · simp [h] at this ⊢; exact this
  · simp [h] at this ⊢; exact this
theorem bet_ge {u v : V2} (h : bet u v = true) : ge v u := by
  unfold bet at h
  simp only [Bool.or_eq_true, Bool.and_eq_true, decide_eq_true_eq, beq_iff_eq] at h
  unfold ge
  rw [cr_swap u v]
  rcases h with h | ⟨h1, h2⟩
  · exact ⟨by omega, fun e => by omega⟩
  · exact ⟨by omega, fun _ => by omega⟩
theorem pos_of_mul {a b : Int} (ha : 0 < a) (h : 0 ≤ a * b) : 0 ≤ b := by
  rcases Int.lt_or_le b 0 with hl | hl
  · have := Int.mul_neg_of_pos_of_neg ha hl; omega
  · exact hl
section
variable {d : V2} {C : V2 → Prop}
/-- Parallel ones can be put for each other. -/
theorem par_left {u v : V2} (x : V2) (e : cr u v = 0) : dt u u * cr v x = dt u v * cr u x := by
  have := par_cr x u v e
  rw [cr_swap x v, cr_swap x u, Int.mul_neg, Int.mul_neg, this]
theorem par_right {u v : V2} (x : V2) (e : cr u v = 0) : dt u u * cr x v = dt u v * cr x u := par_cr x u v e
theorem Cone.trans (h : Cone d C) {u v x : V2} (hu : C u) (hv : C v) (hx : C x) (h1 : ge u v) (h2 : ge v x) : ge u x := by
  have su := h.side u hu
  have sv := h.side v hv
  have sx := h.side x hx
  have id := cr3 d u v x
  have pu := dt_pos (h.nz u hu)
  have pv := dt_pos (h.nz v hv)
  have n1 : 0 ≤ cr u v * cr d x := Int.mul_nonneg h1.1 sx
  have n2 : 0 ≤ cr v x * cr d u := Int.mul_nonneg h2.1 su
  have main : 0 ≤ cr u x := by
    rcases Int.lt_or_eq_of_le sv with k | k
    · refine pos_of_mul k ?_
      rw [Int.mul_comm]; omega
    · by_cases e1 : cr u v = 0
      · refine pos_of_mul (a := dt v v) pv ?_
        have e1' : cr v u = 0 := by rw [cr_swap u v]; omega
        rw [par_left x e1']
        exact Int.mul_nonneg (by rw [dt_swap u v]; exact Int.le_of_lt (h.same u v hu hv e1)) h2.1
      · by_cases e2 : cr v x = 0
        · refine pos_of_mul (a := dt v v) pv ?_
          rw [par_right u e2]
          exact Int.mul_nonneg (Int.le_of_lt (h.same v x hv hx e2)) h1.1
        · exfalso
          have k1 : 0 < cr u v := by have := h1.1; omega
          have k2 : 0 < cr v x := by have := h2.1; omega
          rw [← k, Int.mul_zero] at id
          have z1 : cr u v * cr d x = 0 := by omega
          have z2 : cr v x * cr d u = 0 := by omega
          have e3 : cr d x = 0 := by rcases Int.mul_eq_zero.1 z1 with l | l <;> omega
          have e4 : cr d u = 0 := by rcases Int.mul_eq_zero.1 z2 with l | l <;> omega
          exact e1 (par_par h.ne e4 k.symm)
  refine ⟨main, fun e => ?_⟩
  have hp := h.same u x hu hx e
  have e1 := par_right v e
  rw [cr_swap u v, Int.mul_neg] at e1
  have m1 : 0 ≤ dt u u * cr v x := Int.mul_nonneg (Int.le_of_lt pu) h2.1
  have m2 : 0 ≤ dt u x * cr u v := Int.mul_nonneg (Int.le_of_lt hp) h1.1
  have z1 : dt u u * cr v x = 0 := by omega
  have z2 : dt u x * cr u v = 0 := by omega
  have e3 : cr v x = 0 := by rcases Int.mul_eq_zero.1 z1 with l | l <;> omega
  have e4 : cr u v = 0 := by rcases Int.mul_eq_zero.1 z2 with l | l <;> omega
  have := h1.2 e4
  have := h2.2 e3
  omega
theorem Cone.anti (h : Cone d C) {u v : V2} (hu : C u) (hv : C v) (h1 : ge u v) (h2 : ge v u) : u = v := by
  have k1 := h1.1
  have k2 := h2.1
  rw [cr_swap u v] at k2
  have e : cr u v = 0 := by omega
  have l1 := h1.2 e
  have l2 := h2.2 (by rw [cr_swap u v]; omega)
  exact par_same e (Int.le_of_lt (h.same u v hu hv e)) (by omega)
end

/-! ### Edges -/
section
variable (P : Nat → V2) (n : Nat)
/-- What is seen from a point. -/
def Seen (a : V2) (u : V2) : Prop := ∃ i, i < n ∧ P i ≠ a ∧ u = mi (P i) a
def ConeAt (a : V2) : Prop := ∃ d, Cone d (Seen P n a)
/-- An edge of the hull. -/
def Edge (a m : V2) : Prop := a ≠ m ∧ ∀ i, i < n → 0 ≤ cr (mi m a) (mi (P i) m) ∧ (cr (mi m a) (mi (P i) m) = 0 → dt (mi m a) (mi (P i) m) ≤ 0)
/-- The next corner. -/
def IsNext (a : V2) (r : Nat) : Prop := r < n ∧ P r ≠ a ∧ (∀ i, i < n → P i = P r → r ≤ i) ∧ ∀ i, i < n → P i ≠ a → ge (mi (P r) a) (mi (P i) a)
variable {P n}
theorem mi_ne {a b : V2} (h : a ≠ b) : mi a b ≠ (0, 0) := by
  intro e
  unfold mi at e
  simp at e
  exact h (Prod.ext (by omega) (by omega))
theorem mi_inj {a b c : V2} (h : mi a c = mi b c) : a = b := by
  unfold mi at h
  simp at h
  exact Prod.ext (by omega) (by omega)
theorem IsNext.uniq {a : V2} {r r' : Nat} (hc : ConeAt P n a) (h : IsNext P n a r) (h' : IsNext P n a r') : r = r' := by
  obtain ⟨d, hd⟩ := hc
  obtain ⟨h1, h2, h3, h4⟩ := h
  obtain ⟨k1, k2, k3, k4⟩ := h'
  have e := hd.anti ⟨r, h1, h2, rfl⟩ ⟨r', k1, k2, rfl⟩ (h4 r' k1 k2) (k4 r h1 h2)
  have e := mi_inj e
  have := h3 r' k1 e.symm
  have := k3 r h1 e
  omega
theorem cone_of (d c : V2) (hd : d ≠ (0, 0)) (hs : ∀ i, i < n → 0 ≤ cr d (mi (P i) c)) (ho : ∀ i j, i < n → j < n → P i ≠ c → P j ≠ c → cr d (mi (P i) c) = 0 → cr d (mi (P j) c) = 0 → 0 < dt (mi (P i) c) (mi (P j) c)) : ConeAt P n c := by
  refine ⟨d, hd, ?_, ?_, ?_⟩
  · rintro u ⟨i, hi, _, rfl⟩; exact hs i hi
  · rintro u ⟨i, hi, hn, rfl⟩; exact mi_ne hn
  · rintro u v ⟨i, hi, hn, rfl⟩ ⟨j, hj, hm, rfl⟩ e
    rcases Int.lt_trichotomy (dt (mi (P i) c) (mi (P j) c)) 0 with k | k | k
    · have e1 := par_right d e
      have pu := dt_pos (mi_ne hn)
      have s1 := hs i hi
      have s2 := hs j hj
      have m1 := Int.mul_nonneg (Int.le_of_lt pu) s2
      have m2 := mul_nonpos_left (Int.le_of_lt k) s1
      have z1 : dt (mi (P i) c) (mi (P i) c) * cr d (mi (P j) c) = 0 := by omega
      have z2 : dt (mi (P i) c) (mi (P j) c) * cr d (mi (P i) c) = 0 := by omega
      refine ho i j hi hj hn hm ?_ ?_
      · rcases Int.mul_eq_zero.1 z2 with l | l <;> omega
      · rcases Int.mul_eq_zero.1 z1 with l | l <;> omega
    · exact absurd k (par_ne (mi_ne hn) (mi_ne hm) e)
    · exact k
theorem Edge.cone {a m : V2} (h : Edge P n a m) : ConeAt P n m := by
  obtain ⟨hne, h⟩ := h
  have hd : mi m a ≠ (0, 0) := mi_ne (Ne.symm hne)
  refine cone_of (mi m a) m hd (fun i hi => (h i hi).1) ?_
  intro i j hi hj hn hm e1 e2
  have d1 := (h i hi).2 e1
  have d2 := (h j hj).2 e2
  have e := par_par hd e1 e2
  have k0 := par_ne (mi_ne hn) (mi_ne hm) e
  rcases Int.lt_trichotomy (dt (mi (P i) m) (mi (P j) m)) 0 with k | k | k
  · exfalso
    have q := par_dt (mi m a) _ _ e
    have pu := dt_pos (mi_ne hn)
    have m1 := mul_nonpos_right (Int.le_of_lt pu) d2
    have m2 := mul_nn_of_np (Int.le_of_lt k) d1
    have z2 : dt (mi (P i) m) (mi (P j) m) * dt (mi m a) (mi (P i) m) = 0 := by omega
    have z3 : dt (mi m a) (mi (P i) m) = 0 := by rcases Int.mul_eq_zero.1 z2 with l | l <;> omega
    exact mi_ne hn (zero_of hd e1 z3)
  · exact absurd k k0
  · exact k
theorem cone_start {s : V2} (h : ∀ i, i < n → s.2 < (P i).2 ∨ (s.2 = (P i).2 ∧ s.1 ≤ (P i).1)) : ConeAt P n s := by
  refine cone_of (1, 0) s (by simp) (fun i hi => ?_) ?_
  · have := h i hi
    unfold cr mi
    simp only
    omega
  · intro i j hi hj hn hm e1 e2
    unfold cr mi at e1 e2
    simp only at e1 e2
    have k1 := h i hi
    have k2 := h j hj
    have x1 : s.1 < (P i).1 := by
      rcases Int.lt_or_eq_of_le (show s.1 ≤ (P i).1 by omega) with l | l
      · exact l
      · exact absurd (Prod.ext l.symm (by omega)) hn
    have x2 : s.1 < (P j).1 := by
      rcases Int.lt_or_eq_of_le (show s.1 ≤ (P j).1 by omega) with l | l
      · exact l
      · exact absurd (Prod.ext l.symm (by omega)) hm
    unfold dt mi
    simp only
    rw [show (P i).2 - s.2 = 0 by omega, Int.zero_mul, Int.add_zero]
    exact Int.mul_pos (by omega) (by omega)
theorem IsNext.edge {a : V2} {r : Nat} (hc : ConeAt P n a) (h : IsNext P n a r) : Edge P n a (P r) := by
  obtain ⟨d, hd⟩ := hc
  obtain ⟨h1, h2, h3, h4⟩ := h
  refine ⟨Ne.symm h2, fun i hi => ?_⟩
  have hu : Seen P n a (mi (P r) a) := ⟨r, h1, h2, rfl⟩
  have e1 : cr (mi (P r) a) (mi (P i) (P r)) = cr (mi (P r) a) (mi (P i) a) := by unfold cr mi; grind
  have e2 : dt (mi (P r) a) (mi (P i) (P r)) = dt (mi (P r) a) (mi (P i) a) - dt (mi (P r) a) (mi (P r) a) := by unfold dt mi; grind
  rw [e1, e2]
  have pu := dt_nn (mi (P r) a)
  by_cases hi2 : P i = a
  · have e3 : cr (mi (P r) a) (mi (P i) a) = 0 := by rw [hi2]; unfold cr mi; grind
    have e4 : dt (mi (P r) a) (mi (P i) a) = 0 := by rw [hi2]; unfold dt mi; grind
    exact ⟨by omega, fun _ => by omega⟩
  · have k := h4 i hi hi2
    refine ⟨k.1, fun e => ?_⟩
    have l := k.2 e
    have hp := hd.same _ _ hu ⟨i, hi, hi2, rfl⟩ e
    have q := lagr (mi (P r) a) (mi (P i) a)
    rw [e] at q
    have m := Int.mul_le_mul_of_nonneg_left l pu
    have := le_of_sq (a := dt (mi (P r) a) (mi (P i) a)) pu (by omega)
    omega
/-- What lies between two others is no corner. -/
theorem not_between {a b m : V2} (hb : ConeAt P n b) (ia : ∃ i, i < n ∧ P i = a) (im : ∃ i, i < n ∧ P i = m) (hab : a ≠ b) (hmb : m ≠ b) (e : cr (mi a m) (mi b m) = 0) (hp : 0 ≤ dt (mi a m) (mi b m)) (hl : dt (mi b m) (mi b m) < dt (mi a m) (mi a m)) : False := by
  obtain ⟨d, hd⟩ := hb
  obtain ⟨i, hi, rfl⟩ := ia
  obtain ⟨j, hj, rfl⟩ := im
  have q := lagr (mi (P i) (P j)) (mi b (P j))
  rw [e] at q
  have pv := dt_pos (mi_ne (Ne.symm hmb))
  have k : dt (mi b (P j)) (mi b (P j)) < dt (mi (P i) (P j)) (mi b (P j)) := by
    refine lt_of_sq hp ?_
    have := Int.mul_lt_mul_of_pos_right hl pv
    omega
  have e1 : cr (mi (P i) b) (mi (P j) b) = 0 := by
    have : cr (mi (P i) b) (mi (P j) b) = - cr (mi (P i) (P j)) (mi b (P j)) := by unfold cr mi; grind
    omega
  have e2 : dt (mi (P i) b) (mi (P j) b) = dt (mi b (P j)) (mi b (P j)) - dt (mi (P i) (P j)) (mi b (P j)) := by unfold dt mi; grind
  have := hd.same _ _ ⟨i, hi, hab, rfl⟩ ⟨j, hj, hmb, rfl⟩ e1
  omega
theorem edge_inj {a b m : V2} (ha : ConeAt P n a) (hb : ConeAt P n b) (ia : ∃ i, i < n ∧ P i = a) (ib : ∃ i, i < n ∧ P i = b) (im : ∃ i, i < n ∧ P i = m) (h1 : Edge P n a m) (h2 : Edge P n b m) : a = b := by
  have hma := h1.1
  have hmb := h2.1
  obtain ⟨i, hi, ei⟩ := ia
  obtain ⟨j, hj, ej⟩ := ib
  have k1 := h1.2 j hj
  have k2 := h2.2 i hi
  rw [ej] at k1
  rw [ei] at k2
  have x1 : cr (mi m a) (mi b m) = - cr (mi a m) (mi b m) := by unfold cr mi; grind
  have x2 : cr (mi m b) (mi a m) = cr (mi a m) (mi b m) := by unfold cr mi; grind
  have x3 : dt (mi m a) (mi b m) = - dt (mi a m) (mi b m) := by unfold dt mi; grind
  rw [x1, x3] at k1
  rw [x2] at k2
  have e : cr (mi a m) (mi b m) = 0 := by omega
  have hp : 0 ≤ dt (mi a m) (mi b m) := by have := k1.2 (by omega); omega
  by_cases hab : a = b
  · exact hab
  exfalso
  rcases Int.lt_trichotomy (dt (mi a m) (mi a m)) (dt (mi b m) (mi b m)) with l | l | l
  · refine not_between (b := a) (a := b) ha ⟨j, hj, ej⟩ im (Ne.symm hab) (Ne.symm hma) ?_ ?_ l
    · rw [cr_swap (mi a m) (mi b m)]; omega
    · rw [dt_swap (mi a m) (mi b m)]; exact hp
  · exact hab (mi_inj (par_same e hp l))
  · exact not_between hb ⟨i, hi, ei⟩ im hab (Ne.symm hmb) e hp l
end

/-! ### Looking for the next corner -/
section
variable (P : Nat → V2) (n : Nat)
def First (r : Nat) : Prop := ∀ i, i < n → P i = P r → r ≤ i
def scanStep (a : V2) (r i : Nat) : Nat := if P i ≠ a ∧ (P r = a ∨ bet (mi (P r) a) (mi (P i) a) = true) then i else r
def scan (a : V2) (s : Nat) : Nat → Nat
  | 0 => s
  | k + 1 => scanStep P a (scan a s k) k
variable {P n}
theorem scan_inv {a : V2} {s : Nat} (hc : ConeAt P n a) (hs : s < n) (hf : First P n s) : ∀ k, k ≤ n → let r := scan P a s k
    r < n ∧ First P n r ∧ ((r = s ∧ P s = a ∧ ∀ i, i < k → P i = a) ∨ (P r ≠ a ∧ (P s ≠ a → ge (mi (P r) a) (mi (P s) a)) ∧ ∀ i, i < k → P i ≠ a → ge (mi (P r) a) (mi (P i) a)))
  | 0, _ => by
    refine ⟨hs, hf, ?_⟩
    by_cases h : P s = a
    · exact .inl ⟨rfl, h, fun i hi => by omega⟩
    · exact .inr ⟨h, fun _ => ge_refl _, fun i hi => by omega⟩
  | k + 1, hk => by
    obtain ⟨h1, h2, h3⟩ := scan_inv hc hs hf k (by omega)
    obtain ⟨d, hd⟩ := hc
    have hstep : scan P a s (k + 1) = scanStep P a (scan P a s k) k := rfl
    generalize hr : scan P a s k = r at h1 h2 h3 hstep
    rw [hstep]
    dsimp only at h1 h2 h3 ⊢
    unfold scanStep
    by_cases hk2 : P k = a
    · rw [if_neg (fun h => h.1 hk2)]
      refine ⟨h1, h2, h3.imp (fun h => ⟨h.1, h.2.1, fun i hi => ?_⟩) (fun h => ⟨h.1, h.2.1, fun i hi hi2 => ?_⟩)⟩
      · rcases Nat.lt_or_eq_of_le (Nat.le_of_lt_succ hi) with l | l
        · exact h.2.2 i l
        · rw [l]; exact hk2
      · rcases Nat.lt_or_eq_of_le (Nat.le_of_lt_succ hi) with l | l
        · exact h.2.2 i l hi2
        · rw [l] at hi2; exact absurd hk2 hi2
    · rcases h3 with ⟨e1, e2, e3⟩ | ⟨e1, e2, e3⟩
      · rw [if_pos ⟨hk2, .inl (by rw [e1]; exact e2)⟩]
        refine ⟨by omega, ?_, .inr ⟨hk2, fun h => absurd e2 h, fun i hi hi2 => ?_⟩⟩
        · intro i hi e
          rcases Nat.lt_or_ge i k with l | l
          · exact absurd (e ▸ e3 i l) hk2
          · exact l
        · rcases Nat.lt_or_eq_of_le (Nat.le_of_lt_succ hi) with l | l
          · exact absurd (e3 i l) hi2
          · rw [l]; exact ge_refl _
      · by_cases hb : bet (mi (P r) a) (mi (P k) a) = true
        · rw [if_pos ⟨hk2, .inr hb⟩]
          have hg := bet_ge hb
          have cr' : Seen P n a (mi (P r) a) := ⟨r, h1, e1, rfl⟩
          have ck : Seen P n a (mi (P k) a) := ⟨k, by omega, hk2, rfl⟩
          refine ⟨by omega, ?_, .inr ⟨hk2, fun h => hd.trans ck cr' ⟨s, hs, h, rfl⟩ hg (e2 h), fun i hi hi2 => ?_⟩⟩
          · intro i hi e
            rcases Nat.lt_or_ge i k with l | l
            · have := e3 i l (by rw [e]; exact hk2)
              rw [e] at this
              exact absurd this (bet_iff.1 hb)
            · exact l
          · rcases Nat.lt_or_eq_of_le (Nat.le_of_lt_succ hi) with l | l
            · exact hd.trans ck cr' ⟨i, by omega, hi2, rfl⟩ hg (e3 i l hi2)
            · rw [l]; exact ge_refl _
        · rw [if_neg (fun h => h.2.elim e1 hb)]
          refine ⟨h1, h2, .inr ⟨e1, e2, fun i hi hi2 => ?_⟩⟩
          rcases Nat.lt_or_eq_of_le (Nat.le_of_lt_succ hi) with l | l
          · exact e3 i l hi2
          · rw [l]
            exact bet_false.1 (by simpa using hb)
theorem scan_next {a : V2} {s : Nat} (hc : ConeAt P n a) (hs : s < n) (hf : First P n s) (hx : ∃ i, i < n ∧ P i ≠ a) : IsNext P n a (scan P a s n) := by
  obtain ⟨h1, h2, h3⟩ := scan_inv hc hs hf n (Nat.le_refl n)
  rcases h3 with ⟨_, _, e⟩ | ⟨e1, _, e3⟩
  · obtain ⟨i, hi, hn⟩ := hx
    exact absurd (e i hi) hn
  · exact ⟨h1, e1, h2, e3⟩
theorem scan_all {a : V2} {s : Nat} (h : ∀ i, i < n → P i = a) : ∀ k, k ≤ n → scan P a s k = s
  | 0, _ => rfl
  | k + 1, hk => by
    show scanStep P a (scan P a s k) k = s
    rw [scan_all h k (by omega)]
    unfold scanStep
    rw [if_neg (fun e => e.1 (h k (by omega)))]

/-! The same over the points that are new. -/
variable (P)
def fresh (i : Nat) : Bool := (List.range i).all fun k => P k != P i
def scanSStep (a : V2) (t : Nat) (b : Option Nat) (i : Nat) : Option Nat := if i = t then b else match b with
  | none => some i
  | some r => if bet (mi (P r) a) (mi (P i) a) = true then some i else some r
def scanS (a : V2) (t : Nat) : Nat → Option Nat
  | 0 => none
  | k + 1 => if fresh P k = true then scanSStep P a t (scanS a t k) k else scanS a t k
variable {P}
theorem fresh_iff {i : Nat} : fresh P i = true ↔ ∀ k, k < i → P k ≠ P i := by
  unfold fresh
  simp
theorem fresh_first {i : Nat} (h : fresh P i = true) : First P n i := fun k _ e => by
  rcases Nat.lt_or_ge k i with l | l
  · exact absurd e (fresh_iff.1 h k l)
  · exact l
theorem first_fresh {i : Nat} (hi : i < n) (h : First P n i) : fresh P i = true := fresh_iff.2 fun k hk e => by
  have := h k (by omega) e
  omega
/-- The first point like one. -/
theorem first_of (i : Nat) : ∃ r, r ≤ i ∧ P r = P i ∧ fresh P r = true := by
  induction i using Nat.strongRecOn with
  | _ i ih =>
    by_cases h : fresh P i = true
    · exact ⟨i, Nat.le_refl i, rfl, h⟩
    · have : ¬ ∀ k, k < i → P k ≠ P i := fun e => h (fresh_iff.2 e)
      simp only [Classical.not_forall] at this
      obtain ⟨k, hk, e⟩ := this
      have e : P k = P i := Classical.byContradiction e
      obtain ⟨r, h1, h2, h3⟩ := ih k hk
      exact ⟨r, by omega, h2.trans e, h3⟩
theorem scanS_inv {a : V2} {t : Nat} (hc : ConeAt P n a) (ha : P t = a) (hf : First P n t) : ∀ k, k ≤ n →
    (scanS P a t k = none ∧ ∀ i, i < k → fresh P i = true → P i = a) ∨ ∃ r, scanS P a t k = some r ∧ r < n ∧ fresh P r = true ∧ P r ≠ a ∧ ∀ i, i < k → fresh P i = true → P i ≠ a → ge (mi (P r) a) (mi (P i) a)
  | 0, _ => .inl ⟨rfl, fun i hi => by omega⟩
  | k + 1, hk => by
    have ih := scanS_inv hc ha hf k (by omega)
    obtain ⟨d, hd⟩ := hc
    show (_ = none ∧ _) ∨ _
    unfold scanS
    by_cases hfk : fresh P k = true
    · rw [if_pos hfk]
      unfold scanSStep
      by_cases hkt : k = t
      · rw [if_pos hkt]
        refine ih.imp (fun h => ⟨h.1, fun i hi hi2 => ?_⟩) (fun ⟨r, h1, h2, h3, h4, h5⟩ => ⟨r, h1, h2, h3, h4, fun i hi hi2 hi3 => ?_⟩)
        · rcases Nat.lt_or_eq_of_le (Nat.le_of_lt_succ hi) with l | l
          · exact h.2 i l hi2
          · rw [l, hkt]; exact ha
        · rcases Nat.lt_or_eq_of_le (Nat.le_of_lt_succ hi) with l | l
          · exact h5 i l hi2 hi3
          · rw [l, hkt] at hi3; exact absurd ha hi3
      · rw [if_neg hkt]
        have hka : P k ≠ a := fun e => by
          have := hf k (by omega) (e.trans ha.symm)
          have := fresh_first (n := n) hfk
          rcases Nat.lt_or_ge t k with l | l
          · exact fresh_iff.1 hfk t l (ha.trans e.symm)
          · omega
        rcases ih with ⟨e, h⟩ | ⟨r, e, h2, h3, h4, h5⟩
        · rw [e]
          refine .inr ⟨k, rfl, by omega, hfk, hka, fun i hi hi2 hi3 => ?_⟩
          rcases Nat.lt_or_eq_of_le (Nat.le_of_lt_succ hi) with l | l
          · exact absurd (h i l hi2) hi3
          · rw [l]; exact ge_refl _
        · rw [e]
          dsimp only
          have crr : Seen P n a (mi (P r) a) := ⟨r, h2, h4, rfl⟩
          have ck : Seen P n a (mi (P k) a) := ⟨k, by omega, hka, rfl⟩
          by_cases hb : bet (mi (P r) a) (mi (P k) a) = true
          · rw [if_pos hb]
            refine .inr ⟨k, rfl, by omega, hfk, hka, fun i hi hi2 hi3 => ?_⟩
            rcases Nat.lt_or_eq_of_le (Nat.le_of_lt_succ hi) with l | l
            · exact hd.trans ck crr ⟨i, by omega, hi3, rfl⟩ (bet_ge hb) (h5 i l hi2 hi3)
            · rw [l]; exact ge_refl _
          · rw [if_neg hb]
            refine .inr ⟨r, rfl, h2, h3, h4, fun i hi hi2 hi3 => ?_⟩
            rcases Nat.lt_or_eq_of_le (Nat.le_of_lt_succ hi) with l | l
            · exact h5 i l hi2 hi3
            · rw [l]; exact bet_false.1 (by simpa using hb)
    · rw [if_neg hfk]
      refine ih.imp (fun h => ⟨h.1, fun i hi hi2 => ?_⟩) (fun ⟨r, h1, h2, h3, h4, h5⟩ => ⟨r, h1, h2, h3, h4, fun i hi hi2 hi3 => ?_⟩)
      · rcases Nat.lt_or_eq_of_le (Nat.le_of_lt_succ hi) with l | l
        · exact h.2 i l hi2
        · rw [l] at hi2; exact absurd hi2 hfk
      · rcases Nat.lt_or_eq_of_le (Nat.le_of_lt_succ hi) with l | l
        · exact h5 i l hi2 hi3
        · rw [l] at hi2; exact absurd hi2 hfk
theorem scanS_next {a : V2} {t : Nat} (hc : ConeAt P n a) (ha : P t = a) (hf : First P n t) (hx : ∃ i, i < n ∧ P i ≠ a) : ∃ r, scanS P a t n = some r ∧ IsNext P n a r := by
  rcases scanS_inv hc ha hf n (Nat.le_refl n) with ⟨_, h⟩ | ⟨r, e, h2, h3, h4, h5⟩
  · obtain ⟨i, hi, hn⟩ := hx
    obtain ⟨r, k1, k2, k3⟩ := first_of (P := P) i
    exact absurd (k2.symm.trans (h r (by omega) k3)) hn
  · refine ⟨r, e, h2, h4, fresh_first h3, fun i hi hi2 => ?_⟩
    obtain ⟨q, k1, k2, k3⟩ := first_of (P := P) i
    rw [← k2]
    exact h5 q (by omega) k3 (by rw [k2]; exact hi2)
theorem scanS_all {a : V2} {t : Nat} (hc : ConeAt P n a) (ha : P t = a) (hf : First P n t) (h : ∀ i, i < n → P i = a) : scanS P a t n = none := by
  rcases scanS_inv hc ha hf n (Nat.le_refl n) with ⟨e, _⟩ | ⟨r, e, h2, h3, h4, h5⟩
  · exact e
  · exact absurd (h r h2) h4
end

/-! ### The way round -/
section
variable (P : Nat → V2) (n s : Nat)
def way : Nat → Nat
  | 0 => s
  | k + 1 => scan P (P (way k)) s n
structure Begin : Prop where
  lt : s < n
  first : First P n s
  cone : ConeAt P n (P s)
variable {P n s}
theorem way_all (h : ∀ i, i < n → P i = P s) : ∀ k, way P n s k = s
  | 0 => rfl
  | k + 1 => by
    show scan P (P (way P n s k)) s n = s
    rw [way_all h k]
    exact scan_all h n (Nat.le_refl n)
theorem way_inv (hb : Begin P n s) (hx : ∃ i, i < n ∧ P i ≠ P s) : ∀ k, way P n s k < n ∧ First P n (way P n s k) ∧ ConeAt P n (P (way P n s k)) ∧ (∃ i, i < n ∧ P i ≠ P (way P n s k)) ∧ IsNext P n (P (way P n s k)) (way P n s (k + 1))
  | 0 => ⟨hb.lt, hb.first, hb.cone, hx, scan_next hb.cone hb.lt hb.first hx⟩
  | k + 1 => by
    obtain ⟨h1, h2, h3, h4, h5⟩ := way_inv hb hx k
    have he := h5.edge h3
    have hx' : ∃ i, i < n ∧ P i ≠ P (way P n s (k + 1)) := ⟨way P n s k, h1, he.1⟩
    exact ⟨h5.1, h5.2.2.1, he.cone, hx', scan_next he.cone hb.lt hb.first hx'⟩
theorem way_edge (hb : Begin P n s) (hx : ∃ i, i < n ∧ P i ≠ P s) (k : Nat) : Edge P n (P (way P n s k)) (P (way P n s (k + 1))) := by
  obtain ⟨h1, h2, h3, h4, h5⟩ := way_inv hb hx k
  exact h5.edge h3
theorem first_eq {i j : Nat} (hi : i < n) (hj : j < n) (h1 : First P n i) (h2 : First P n j) (e : P i = P j) : i = j := by
  have := h1 j hj e.symm
  have := h2 i hi e
  omega
theorem way_back (hb : Begin P n s) (hx : ∃ i, i < n ∧ P i ≠ P s) {i j : Nat} (e : way P n s (i + 1) = way P n s (j + 1)) : way P n s i = way P n s j := by
  obtain ⟨a1, a2, a3, a4, a5⟩ := way_inv hb hx i
  obtain ⟨b1, b2, b3, b4, b5⟩ := way_inv hb hx j
  have h1 := a5.edge a3
  have h2 := b5.edge b3
  rw [← e] at h2
  exact first_eq a1 b1 a2 b2 (edge_inj a3 b3 ⟨_, a1, rfl⟩ ⟨_, b1, rfl⟩ ⟨_, a5.1, rfl⟩ h1 h2)
theorem way_back' (hb : Begin P n s) (hx : ∃ i, i < n ∧ P i ≠ P s) : ∀ (k i j : Nat), way P n s (i + k) = way P n s (j + k) → way P n s i = way P n s j
  | 0, _, _, e => e
  | k + 1, i, j, e => way_back' hb hx k i j (way_back hb hx (i := i + k) (j := j + k) e)
theorem pigeon : ∀ (n : Nat) (f : Nat → Nat), (∀ k, k ≤ n → f k < n) → ∃ i j, i < j ∧ j ≤ n ∧ f i = f j
  | 0, f, h => by have := h 0 (Nat.le_refl 0); omega
  | n + 1, f, h => by
    by_cases hx : ∃ i, i < n + 1 ∧ f i = f (n + 1)
    · obtain ⟨i, hi, e⟩ := hx
      exact ⟨i, n + 1, hi, Nat.le_refl _, e⟩
    · obtain ⟨i, j, h1, h2, h3⟩ := pigeon n (fun k => if f k = n then f (n + 1) else f k) (fun k hk => by
        have l1 := h k (by omega)
        have l2 := h (n + 1) (Nat.le_refl _)
        by_cases e : f k = n
        · simp only [e, if_true]
          have : f k ≠ f (n + 1) := fun e => hx ⟨k, by omega, e⟩
          omega
        · simp only [e, if_false]; omega)
      refine ⟨i, j, h1, by omega, ?_⟩
      have n1 : f i ≠ f (n + 1) := fun e => hx ⟨i, by omega, e⟩
      have n2 : f j ≠ f (n + 1) := fun e => hx ⟨j, by omega, e⟩
      by_cases e1 : f i = n <;> by_cases e2 : f j = n <;> simp only [e1, e2, if_true, if_false] at h3 <;> omega
theorem least {p : Nat → Prop} : ∀ (n : Nat), p n → ∃ m, m ≤ n ∧ p m ∧ ∀ k, k < m → ¬ p k := by
  intro n
  induction n using Nat.strongRecOn with
  | _ n ih =>
    intro h
    by_cases hx : ∃ k, k < n ∧ p k
    · obtain ⟨k, hk, h⟩ := hx
      obtain ⟨m, h1, h2, h3⟩ := ih k hk h
      exact ⟨m, by omega, h2, h3⟩
    · exact ⟨n, Nat.le_refl n, h, fun k hk e => hx ⟨k, hk, e⟩⟩
/-- How many corners there are. -/
structure Round (P : Nat → V2) (n s m : Nat) : Prop where
  pos : 1 ≤ m
  le : m ≤ n
  back : way P n s m = s
  not : ∀ k, 0 < k → k < m → P (way P n s k) ≠ P s
theorem round (hb : Begin P n s) : ∃ m, Round P n s m := by
  by_cases hx : ∃ i, i < n ∧ P i ≠ P s
  · obtain ⟨i, j, h1, h2, h3⟩ := pigeon n (way P n s) (fun k _ => (way_inv hb hx k).1)
    have e : way P n s (j - i) = s := by
      have := way_back' hb hx i 0 (j - i) (by rw [Nat.zero_add, Nat.sub_add_cancel (by omega)]; exact h3)
      exact this.symm
    obtain ⟨m, k1, ⟨k2, k4⟩, k3⟩ := least (p := fun k => 0 < k ∧ way P n s k = s) (j - i) ⟨by omega, e⟩
    refine ⟨m, k2, by omega, k4, fun k l1 l2 e => k3 k l2 ⟨l1, ?_⟩⟩
    obtain ⟨a1, a2, _⟩ := way_inv hb hx k
    exact first_eq a1 hb.lt a2 hb.first e
  · have h : ∀ i, i < n → P i = P s := fun i hi => Classical.byContradiction fun e => hx ⟨i, hi, e⟩
    exact ⟨1, Nat.le_refl 1, by have := hb.lt; omega, way_all h 1, fun k _ _ => by omega⟩
theorem way_per {m : Nat} (h : way P n s m = s) : ∀ k, way P n s (k + m) = way P n s k
  | 0 => by rw [Nat.zero_add]; exact h
  | k + 1 => by
    rw [Nat.add_right_comm]
    show scan P (P (way P n s (k + m))) s n = scan P (P (way P n s k)) s n
    rw [way_per h k]
end

/-! ### Areas -/
def sumF (g : Nat → Int) : Nat → Int
  | 0 => 0
  | k + 1 => sumF g k + g k
theorem sumF_shift (g : Nat → Int) (k : Nat) : sumF (fun i => g (i + 1)) k + g 0 = sumF g k + g k := by
  induction k with
  | zero => simp [sumF]
  | succ k ih => simp only [sumF]; omega
theorem sumF_add (g h : Nat → Int) (k : Nat) : sumF (fun i => g i + h i) k = sumF g k + sumF h k := by
  induction k with
  | zero => rfl
  | succ k ih => simp only [sumF, ih]; omega
theorem sumF_congr {g h : Nat → Int} : ∀ {k : Nat}, (∀ i, i < k → g i = h i) → sumF g k = sumF h k
  | 0, _ => rfl
  | k + 1, e => by simp only [sumF]; rw [sumF_congr (fun i hi => e i (by omega)), e k (by omega)]
theorem sumF_tele (g : Nat → Int) (k : Nat) : sumF (fun i => g (i + 1) - g i) k = g k - g 0 := by
  induction k with
  | zero => simp [sumF]
  | succ k ih => simp only [sumF, ih]; omega
theorem sumF_round {g : Nat → Int} {m : Nat} (hg : ∀ k, g (k + m) = g k) : ∀ j, sumF (fun i => g (j + i)) m = sumF g m
  | 0 => by simp only [Nat.zero_add]
  | j + 1 => by
    have h1 := sumF_shift (fun i => g (j + i)) m
    have h2 : sumF (fun i => g (j + 1 + i)) m = sumF (fun i => g (j + (i + 1))) m := sumF_congr fun i _ => by rw [show j + 1 + i = j + (i + 1) by omega]
    rw [h2]
    have h3 := sumF_round hg j
    have h4 := hg j
    simp only [Nat.add_zero] at h1
    omega
def xx (a b : V2) : Int := a.1 * b.2 - a.2 * b.1
def crs (a b c : V2) : Int := (b.1 - a.1) * (c.2 - a.2) - (b.2 - a.2) * (c.1 - a.1)
theorem crs_xx (a b c : V2) : crs a b c = xx b c + (xx c a - xx b a) := by unfold crs xx; grind
/-- The fan from the first corner. -/
theorem fan_eq (Q : Nat → V2) {m : Nat} (hm : 2 ≤ m) (hQ : Q m = Q 0) : sumF (fun i => crs (Q 0) (Q (i + 1)) (Q (i + 2))) (m - 2) = sumF (fun i => xx (Q i) (Q (i + 1))) m := by
  obtain ⟨k, rfl⟩ : ∃ k, m = k + 2 := ⟨m - 2, by omega⟩
  rw [Nat.add_sub_cancel]
  have h1 : sumF (fun i => crs (Q 0) (Q (i + 1)) (Q (i + 2))) k = sumF (fun i => xx (Q (i + 1)) (Q (i + 2)) + (xx (Q (i + 1 + 1)) (Q 0) - xx (Q (i + 1)) (Q 0))) k := sumF_congr fun i _ => crs_xx _ _ _
  rw [h1, sumF_add]
  have h2 := sumF_tele (fun i => xx (Q (i + 1)) (Q 0)) k
  have h3 := sumF_shift (fun i => xx (Q i) (Q (i + 1))) k
  simp only [sumF]
  have h4 : xx (Q (k + 1)) (Q (k + 1 + 1)) = xx (Q (k + 1)) (Q 0) := by rw [show k + 1 + 1 = k + 2 from rfl, hQ]
  have h5 : xx (Q 0) (Q (0 + 1)) = - xx (Q (0 + 1)) (Q 0) := by unfold xx; grind
  simp only [Nat.add_assoc] at *
  simp only [show 1 + 1 = 2 from rfl] at *
  omega
theorem xx_self (a : V2) : xx a a = 0 := by unfold xx; grind

/-! ### A quarter turn -/
def rot (H : Int) (p : V2) : V2 := (H - p.2, p.1)
theorem rot_inj {H : Int} {a b : V2} (h : rot H a = rot H b) : a = b := by
  unfold rot at h
  simp at h
  exact Prod.ext h.2 (by omega)
theorem rot_cr (H : Int) (a b c : V2) (d : V2) : cr (mi (rot H a) (rot H b)) (mi (rot H c) (rot H d)) = cr (mi a b) (mi c d) := by unfold cr mi rot; grind
theorem rot_dt (H : Int) (a b c : V2) (d : V2) : dt (mi (rot H a) (rot H b)) (mi (rot H c) (rot H d)) = dt (mi a b) (mi c d) := by unfold dt mi rot; grind
theorem rot_ge {H : Int} {a b c : V2} (h : ge (mi a c) (mi b c)) : ge (mi (rot H a) (rot H c)) (mi (rot H b) (rot H c)) := by
  unfold ge at *
  rw [rot_cr, rot_dt, rot_dt]; exact h
theorem rot_xx (H : Int) (a b : V2) : xx (rot H a) (rot H b) = xx a b + (H * b.1 - H * a.1) := by unfold xx rot; grind
section
variable {P : Nat → V2} {n s t m m' : Nat} {H : Int}
theorem rot_first {r : Nat} (h : First P n r) : First (fun i => rot H (P i)) n r := fun i hi e => h i hi (rot_inj e)
theorem rot_first' {r : Nat} (h : First (fun i => rot H (P i)) n r) : First P n r := fun i hi e => h i hi (by show rot H _ = rot H _; rw [e])
theorem rot_next {a : V2} {r : Nat} (h : IsNext P n a r) : IsNext (fun i => rot H (P i)) n (rot H a) r :=
  ⟨h.1, fun e => h.2.1 (rot_inj e), rot_first h.2.2.1, fun i hi hn => rot_ge (h.2.2.2 i hi fun e => hn (by show rot H _ = rot H _; rw [e]))⟩
/-- Ahead of the others in the other order: the least x, then the greatest y. -/
def lexp (u : V2) : Prop := 0 < u.1 ∨ (u.1 = 0 ∧ u.2 ≤ 0)
theorem lexp_comb {a b q : V2} {x y z : Int} (hx : 0 < x) (hy : 0 ≤ y) (hz : 0 ≤ z) (ha : lexp a) (hb : lexp b) (e1 : x * q.1 = y * a.1 + z * b.1) (e2 : x * q.2 = y * a.2 + z * b.2) : lexp q := by
  have a1 : 0 ≤ a.1 := by unfold lexp at ha; omega
  have b1 : 0 ≤ b.1 := by unfold lexp at hb; omega
  have m1 := Int.mul_nonneg hy a1
  have m2 := Int.mul_nonneg hz b1
  have q1 : 0 ≤ q.1 := pos_of_mul hx (by omega)
  unfold lexp
  rcases Int.lt_or_eq_of_le q1 with l | l
  · exact .inl l
  · refine .inr ⟨l.symm, ?_⟩
    rw [← l, Int.mul_zero] at e1
    have z1 : y * a.1 = 0 := by omega
    have z2 : z * b.1 = 0 := by omega
    have n1 : y * a.2 ≤ 0 := by
      rcases Int.mul_eq_zero.1 z1 with k | k
      · rw [k, Int.zero_mul]; omega
      · refine mul_nonpos_right hy ?_
        unfold lexp at ha; omega
    have n2 : z * b.2 ≤ 0 := by
      rcases Int.mul_eq_zero.1 z2 with k | k
      · rw [k, Int.zero_mul]; omega
      · refine mul_nonpos_right hz ?_
        unfold lexp at hb; omega
    rcases Int.lt_or_le 0 q.2 with k | k
    · have := Int.mul_pos hx k; omega
    · exact k
theorem par_comp {w q : V2} (h : cr w q = 0) : dt w w * q.1 = dt w q * w.1 ∧ dt w w * q.2 = dt w q * w.2 := by
  unfold cr at h
  unfold dt
  constructor <;> grind
theorem cramer (w u q : V2) : cr w u * q.1 = cr q u * w.1 + cr w q * u.1 ∧ cr w u * q.2 = cr q u * w.2 + cr w q * u.2 := by
  unfold cr
  constructor <;> grind
/-- A corner that is ahead of its neighbours is ahead of all. -/
theorem lexp_all {a v b : V2} (h1 : Edge P n a v) (h2 : Edge P n v b) (ia : ∃ i, i < n ∧ P i = a) (ib : ∃ i, i < n ∧ P i = b) (la : lexp (mi a v)) (lb : lexp (mi b v)) (i : Nat) (hi : i < n) : lexp (mi (P i) v) := by
  obtain ⟨d, hd⟩ := h1.cone
  obtain ⟨j, hj, ea⟩ := ia
  obtain ⟨k, hk, eb⟩ := ib
  have k1 := (h1.2 i hi).1
  have k2 := (h2.2 i hi).1
  have x1 : cr (mi v a) (mi (P i) v) = cr (mi (P i) v) (mi a v) := by unfold cr mi; grind
  have x2 : cr (mi b v) (mi (P i) b) = cr (mi b v) (mi (P i) v) := by unfold cr mi; grind
  rw [x1] at k1
  rw [x2] at k2
  have k3 := (h2.2 j hj).1
  have x3 : cr (mi b v) (mi (P j) b) = cr (mi b v) (mi a v) := by rw [ea]; unfold cr mi; grind
  rw [x3] at k3
  by_cases hv : P i = v
  · rw [hv]; unfold lexp mi; simp
  have sa : Seen P n v (mi a v) := ⟨j, hj, by rw [ea]; exact h1.1, by rw [ea]⟩
  have sb : Seen P n v (mi b v) := ⟨k, hk, by rw [eb]; exact Ne.symm h2.1, by rw [eb]⟩
  have si : Seen P n v (mi (P i) v) := ⟨i, hi, hv, rfl⟩
  generalize mi a v = u at *
  generalize mi b v = w at *
  generalize mi (P i) v = q at *
  rcases Int.lt_or_eq_of_le k3 with l | l
  · refine lexp_comb l k1 k2 lb la ?_ ?_ <;> · unfold cr; grind
  · have hs := hd.same w u sb sa l.symm
    have e := par_right q l.symm
    have m1 := Int.mul_nonneg (dt_nn w) k1
    have m2 : 0 ≤ cr q w := pos_of_mul hs (by omega)
    have z : cr w q = 0 := by have := cr_swap w q; omega
    have hp := hd.same w q sb si z
    have pw := dt_pos (hd.nz w sb)
    obtain ⟨c1, c2⟩ := par_comp z
    exact lexp_comb (x := dt w w) (y := dt w q) (z := 0) pw (Int.le_of_lt hp) (Int.le_refl _) lb la (by rw [c1, Int.zero_mul, Int.add_zero]) (by rw [c2, Int.zero_mul, Int.add_zero])
theorem lexp_total (u : V2) (h : ¬ lexp u) : lexp (-u.1, -u.2) := by unfold lexp at *; simp only; omega
/-- One of the corners is ahead of its two neighbours. -/
theorem min_of (Q : Nat → V2) : ∀ m, ∃ j, j ≤ m ∧ ∀ k, k ≤ m → lexp (mi (Q k) (Q j))
  | 0 => ⟨0, Nat.le_refl 0, fun k hk => by
    have : k = 0 := by omega
    subst this
    unfold lexp mi; simp⟩
  | m + 1 => by
    obtain ⟨j, hj, h⟩ := min_of Q m
    by_cases hl : lexp (mi (Q (m + 1)) (Q j))
    · refine ⟨j, by omega, fun k hk => ?_⟩
      rcases Nat.lt_or_eq_of_le hk with l | l
      · exact h k (by omega)
      · rw [l]; exact hl
    · refine ⟨m + 1, Nat.le_refl _, fun k hk => ?_⟩
      have h1 := lexp_total _ hl
      rcases Nat.lt_or_eq_of_le hk with l | l
      · have h2 := h k (by omega)
        unfold lexp mi at h1 h2 ⊢
        simp only at h1 h2 ⊢
        omega
      · rw [l]; unfold lexp mi; simp
/-- Where the turned plate begins is a corner. -/
theorem turned_begin (hb : Begin P n s) (hx : ∃ i, i < n ∧ P i ≠ P s) (hm : Round P n s m) (ht : t < n) (hf : First P n t) (hmin : ∀ i, i < n → lexp (mi (P i) (P t))) : ∃ j, way P n s j = t := by
  obtain ⟨j, hj, h⟩ := min_of (fun k => P (way P n s (k + m))) (m + 1)
  have hall : ∀ k, lexp (mi (P (way P n s k)) (P (way P n s (j + m)))) := by
    intro k
    have hk : ∃ k', k' ≤ m + 1 ∧ way P n s (k' + m) = way P n s k := by
      induction k using Nat.strongRecOn with
      | _ k ih =>
        rcases Nat.lt_or_ge k m with l | l
        · exact ⟨k, by omega, way_per hm.back k⟩
        · obtain ⟨k', h1, h2⟩ := ih (k - m) (by have := hm.pos; omega)
          refine ⟨k', h1, h2.trans ?_⟩
          have := way_per hm.back (k - m)
          rw [Nat.sub_add_cancel l] at this
          exact this.symm
    obtain ⟨k', h1, h2⟩ := hk
    have := h k' h1
    simp only [h2] at this
    exact this
  obtain ⟨q, hq⟩ : ∃ q, j + m = q + 1 := ⟨j + m - 1, by have := hm.pos; omega⟩
  have e1 := way_edge hb hx q
  have e2 := way_edge hb hx (q + 1)
  rw [← hq] at e1 e2
  have i0 := way_inv hb hx q
  have i1 := way_inv hb hx (j + m)
  have i2 := way_inv hb hx (j + m + 1)
  have l1 := lexp_all e1 e2 ⟨_, i0.1, rfl⟩ ⟨_, i2.1, rfl⟩ (hall q) (hall (j + m + 1)) t ht
  have l2 := hmin _ i1.1
  refine ⟨j + m, first_eq i1.1 ht i1.2.1 hf ?_⟩
  unfold lexp mi at l1 l2
  simp only at l1 l2
  exact Prod.ext (by omega) (by omega)
theorem turned_way (hb : Begin P n s) (hx : ∃ i, i < n ∧ P i ≠ P s) (hb' : Begin (fun i => rot H (P i)) n t) {j : Nat} (hj : way P n s j = t) : ∀ k, way (fun i => rot H (P i)) n t k = way P n s (j + k)
  | 0 => hj.symm
  | k + 1 => by
    have ih := turned_way hb hx hb' hj k
    obtain ⟨i, hi, hn⟩ := (way_inv hb hx j).2.2.2.1
    have hx' : ∃ i, i < n ∧ rot H (P i) ≠ rot H (P t) := ⟨i, hi, fun e => hn (by rw [hj]; exact rot_inj e)⟩
    obtain ⟨a1, a2, a3, a4, a5⟩ := way_inv hb' hx' k
    obtain ⟨b1, b2, b3, b4, b5⟩ := way_inv hb hx (j + k)
    rw [ih] at a3 a5
    exact a5.uniq a3 (rot_next b5)
def areaOf (Q : Nat → V2) (n s m : Nat) : Int := sumF (fun k => xx (Q (way Q n s k)) (Q (way Q n s (k + 1)))) m
theorem area_turned (hb : Begin P n s) (hb' : Begin (fun i => rot H (P i)) n t) (hmin : ∀ i, i < n → lexp (mi (P i) (P t))) (hm : Round P n s m) (hm' : Round (fun i => rot H (P i)) n t m') :
    areaOf (fun i => rot H (P i)) n t m' = areaOf P n s m := by
  by_cases hx : ∃ i, i < n ∧ P i ≠ P s
  · obtain ⟨j, hj⟩ := turned_begin hb hx hm hb'.lt (rot_first' hb'.first) hmin
    have hw := turned_way hb hx hb' hj
    have hmm : m' = m := by
      have e1 : way (fun i => rot H (P i)) n t m = t := by rw [hw, way_per hm.back, hj]
      have l1 : m' ≤ m := by
        rcases Nat.lt_or_ge m m' with l | l
        · exact absurd (by show rot H _ = rot H _; rw [e1]) (hm'.not m hm.pos l)
        · exact l
      rcases Nat.lt_or_ge m' m with l | l
      · have e2 := hm'.back
        rw [hw, ← hj] at e2
        have := way_back' hb hx j m' 0 (by rw [Nat.add_comm m' j, Nat.zero_add]; exact e2)
        exact absurd (congrArg P this) (hm.not m' hm'.pos l)
      · omega
    subst hmm
    unfold areaOf
    have e1 : sumF (fun k => xx (rot H (P (way (fun i => rot H (P i)) n t k))) (rot H (P (way (fun i => rot H (P i)) n t (k + 1))))) m' = sumF (fun k => xx (P (way P n s (j + k))) (P (way P n s (j + k + 1))) + (H * (P (way P n s (j + (k + 1)))).1 - H * (P (way P n s (j + k))).1)) m' :=
      sumF_congr fun k _ => by rw [hw, hw, rot_xx]; rfl
    show sumF _ _ = _
    rw [e1, sumF_add, sumF_tele (fun k => H * (P (way P n s (j + k))).1) m']
    rw [way_per hm.back j, Nat.add_zero]
    have := sumF_round (g := fun k => xx (P (way P n s k)) (P (way P n s (k + 1)))) (m := m') (fun k => by
      rw [way_per hm.back k, Nat.add_right_comm, way_per hm.back (k + 1)]) j
    omega
  · have h : ∀ i, i < n → P i = P s := fun i hi => Classical.byContradiction fun e => hx ⟨i, hi, e⟩
    have h' : ∀ i, i < n → rot H (P i) = rot H (P t) := fun i hi => by rw [h i hi, h t hb'.lt]
    have e1 : m = 1 := by
      rcases Nat.lt_or_ge 1 m with l | l
      · exact absurd (by rw [way_all h]) (hm.not 1 (by omega) l)
      · have := hm.pos; omega
    have e2 : m' = 1 := by
      rcases Nat.lt_or_ge 1 m' with l | l
      · exact absurd (by rw [way_all h']) (hm'.not 1 (by omega) l)
      · have := hm'.pos; omega
    subst e1 e2
    unfold areaOf
    simp only [sumF]
    rw [way_all h, way_all h, way_all h', way_all h', xx_self, xx_self]
end
/-! ### Corners turn left -/
section
variable {P : Nat → V2} {n s m : Nat}
theorem crs_cr (a b c : V2) : crs a b c = cr (mi b a) (mi c b) := by unfold crs cr mi; grind
theorem crs_out (hb : Begin P n s) (hx : ∃ i, i < n ∧ P i ≠ P s) (k i : Nat) (hi : i < n) : 0 ≤ crs (P (way P n s k)) (P (way P n s (k + 1))) (P i) := by
  rw [crs_cr]
  exact ((way_edge hb hx k).2 i hi).1
theorem crs_left (hb : Begin P n s) (hx : ∃ i, i < n ∧ P i ≠ P s) (hm : Round P n s m) (h2 : 2 < m) (k : Nat) : 0 < crs (P (way P n s k)) (P (way P n s (k + 1))) (P (way P n s (k + 2))) := by
  have i0 := way_inv hb hx k
  have i1 := way_inv hb hx (k + 1)
  have i2 := way_inv hb hx (k + 2)
  rcases Int.lt_or_eq_of_le (crs_out hb hx k _ i2.1) with l | l
  · exact l
  exfalso
  have e := way_edge hb hx k
  rw [crs_cr] at l
  have hd := (e.2 _ i2.1).2 l.symm
  have hmax := i1.2.2.2.2.2.2.2 _ i0.1 e.1
  have n2 : P (way P n s (k + 2)) ≠ P (way P n s (k + 1)) := i1.2.2.2.2.2.1
  have n02 : P (way P n s k) ≠ P (way P n s (k + 2)) := fun e0 => by
    have := first_eq i0.1 i2.1 i0.2.1 i2.2.1 e0
    have := way_back' hb hx k 0 2 (by rw [Nat.zero_add, Nat.add_comm 2 k]; exact this)
    exact hm.not 2 (by omega) h2 (congrArg P this.symm)
  have x1 : cr (mi (P (way P n s (k + 2))) (P (way P n s (k + 1)))) (mi (P (way P n s k)) (P (way P n s (k + 1)))) = cr (mi (P (way P n s (k + 1))) (P (way P n s k))) (mi (P (way P n s (k + 2))) (P (way P n s (k + 1)))) := by unfold cr mi; grind
  have x2 : dt (mi (P (way P n s (k + 2))) (P (way P n s (k + 1)))) (mi (P (way P n s k)) (P (way P n s (k + 1)))) = - dt (mi (P (way P n s (k + 1))) (P (way P n s k))) (mi (P (way P n s (k + 2))) (P (way P n s (k + 1)))) := by unfold dt mi; grind
  have z : cr (mi (P (way P n s (k + 2))) (P (way P n s (k + 1)))) (mi (P (way P n s k)) (P (way P n s (k + 1)))) = 0 := x1.trans l.symm
  have hs := hmax.2 z
  rcases Int.lt_or_eq_of_le hs with q | q
  · exact not_between (a := P (way P n s (k + 2))) (b := P (way P n s k)) (m := P (way P n s (k + 1))) i0.2.2.1 ⟨_, i2.1, rfl⟩ ⟨_, i1.1, rfl⟩ (Ne.symm n02) (Ne.symm e.1) z (by omega) q
  · exact n02 (mi_inj (par_same z (by omega) q.symm)).symm
end

/-! ### Points that are the same as far as they are looked at -/
section
variable {P P' : Nat → V2} {n s m : Nat}
theorem scan_congr (h : ∀ i, i < n → P i = P' i) (a : V2) (hs : s < n) : ∀ k, k ≤ n → scan P a s k = scan P' a s k ∧ scan P' a s k < n
  | 0, _ => ⟨rfl, hs⟩
  | k + 1, hk => by
    obtain ⟨h1, h2⟩ := scan_congr h a hs k (by omega)
    show scanStep P a (scan P a s k) k = scanStep P' a (scan P' a s k) k ∧ scanStep P' a (scan P' a s k) k < n
    rw [h1]
    unfold scanStep
    rw [h k (by omega), h _ h2]
    refine ⟨rfl, ?_⟩
    split
    · omega
    · exact h2
theorem way_congr (h : ∀ i, i < n → P i = P' i) (hs : s < n) : ∀ k, way P n s k = way P' n s k ∧ way P' n s k < n
  | 0 => ⟨rfl, hs⟩
  | k + 1 => by
    obtain ⟨h1, h2⟩ := way_congr h hs k
    show scan P (P (way P n s k)) s n = scan P' (P' (way P' n s k)) s n ∧ scan P' (P' (way P' n s k)) s n < n
    rw [h1, h _ h2]
    exact scan_congr h _ hs n (Nat.le_refl n)
theorem begin_congr (h : ∀ i, i < n → P i = P' i) (hb : Begin P n s) : Begin P' n s := by
  obtain ⟨h1, h2, d, h3⟩ := hb
  have hseen : ∀ a u, Seen P' n a u → Seen P n a u := by
    rintro a u ⟨i, hi, hn, rfl⟩
    exact ⟨i, hi, by rw [h i hi]; exact hn, by rw [h i hi]⟩
  refine ⟨h1, fun i hi e => h2 i hi (by rw [h i hi, h s h1]; exact e), d, ?_⟩
  rw [← h s h1]
  exact ⟨h3.ne, fun u hu => h3.side u (hseen _ u hu), fun u hu => h3.nz u (hseen _ u hu), fun u v hu hv => h3.same u v (hseen _ u hu) (hseen _ v hv)⟩
theorem round_congr (h : ∀ i, i < n → P i = P' i) (hs : s < n) (hr : Round P n s m) : Round P' n s m :=
  ⟨hr.pos, hr.le, by rw [← (way_congr h hs m).1]; exact hr.back, fun k k1 k2 => by
    have := hr.not k k1 k2
    rw [h s hs, (way_congr h hs k).1, h _ (way_congr h hs k).2] at this
    exact this⟩
theorem area_congr (h : ∀ i, i < n → P i = P' i) (hs : s < n) : areaOf P n s m = areaOf P' n s m :=
  sumF_congr fun k _ => by
    rw [(way_congr h hs k).1, (way_congr h hs (k + 1)).1, h _ (way_congr h hs k).2, h _ (way_congr h hs (k + 1)).2]
theorem way_mod (h : way P n s m = s) (hm : 0 < m) (j : Nat) : way P n s (j % m) = way P n s j := by
  induction j using Nat.strongRecOn with
  | _ j ih =>
    rcases Nat.lt_or_ge j m with l | l
    · rw [Nat.mod_eq_of_lt l]
    · have := ih (j - m) (by omega)
      rw [← Nat.mod_eq_sub_mod l] at this
      rw [this]
      have := way_per h (j - m)
      rw [Nat.sub_add_cancel l] at this
      exact this.symm
theorem sumF_bd {g : Nat → Int} (hg : ∀ k, -200000000 ≤ g k ∧ g k ≤ 200000000) : ∀ k : Nat, -200000000 * (k : Int) ≤ sumF g k ∧ sumF g k ≤ 200000000 * (k : Int)
  | 0 => by simp [sumF]
  | k + 1 => by
    have h1 := sumF_bd hg k
    have h2 := hg k
    simp only [sumF]
    omega
end
end Hull
end Rx
end Go.Proofs.Ytckbhfbcblehmaa
