/- The mathematics of third points, in plain integers: rounding, distances, sides. No program in sight. -/
import Derived.Test.YtckbhfbcblehmaaRoots
namespace Go.Proofs.Ytckbhfbcblehmaa
namespace Rx

/-! ### Rounding -/
theorem near_bd {n D : Int} (hD : 1 ≤ D) : -D ≤ 2 * D * near n (2 * D) - n ∧ 2 * D * near n (2 * D) - n ≤ D := by
  unfold near
  have h1 := Int.mul_ediv_add_emod (2 * n + 2 * D) (2 * (2 * D))
  have h2 := Int.emod_nonneg (2 * n + 2 * D) (show 2 * (2 * D) ≠ 0 by omega)
  have h3 := Int.emod_lt_of_pos (2 * n + 2 * D) (show 0 < 2 * (2 * D) by omega)
  generalize (2 * n + 2 * D) / (2 * (2 * D)) = q at *
  have e : 2 * (2 * D) * q = 2 * (2 * D * q) := by rw [Int.mul_assoc]
  rw [e] at h1
  omega
theorem near_shift {n m k : Int} (hm : 1 ≤ m) : near (n - m * k) m = near n m - k := by
  unfold near
  have e : 2 * (n - m * k) + m = 2 * n + m + 2 * m * (-k) := by grind
  rw [e, Int.add_mul_ediv_left _ _ (show 2 * m ≠ 0 by omega)]
  omega
def ab (n : Int) : Int := if n < 0 then -n else n
theorem ab_nn (n : Int) : 0 ≤ ab n := by unfold ab; split <;> omega
theorem ab_le (n : Int) : n ≤ ab n ∧ -n ≤ ab n := by unfold ab; split <;> omega
theorem ab_sq (n : Int) : ab n * ab n = n * n := by
  unfold ab
  split
  · rw [Int.neg_mul_neg]
  · rfl
theorem ab_mul {n e D : Int} (h1 : -D ≤ e) (h2 : e ≤ D) : -(ab n * D) ≤ n * e ∧ n * e ≤ ab n * D := by
  unfold ab
  split
  · have a1 := Int.mul_le_mul_of_nonneg_left h1 (show 0 ≤ -n by omega)
    have a2 := Int.mul_le_mul_of_nonneg_left h2 (show 0 ≤ -n by omega)
    rw [Int.mul_neg] at a1
    rw [Int.neg_mul, Int.neg_mul] at a2
    rw [Int.neg_mul, Int.neg_mul] at a1
    rw [Int.neg_mul]
    omega
  · have a1 := Int.mul_le_mul_of_nonneg_left h1 (show 0 ≤ n by omega)
    have a2 := Int.mul_le_mul_of_nonneg_left h2 (show 0 ≤ n by omega)
    rw [Int.mul_neg] at a1
    omega
theorem le_of_sq {a b : Int} (hb : 0 ≤ b) (h : a * a ≤ b * b) : a ≤ b := by
  rcases (by omega : a ≤ b ∨ b < a) with h1 | h1
  · exact h1
  · have : b * b < a * a := Int.mul_lt_mul' (by omega) h1 hb (by omega)
    omega

/-! ### Distances -/
/-- How far the point is from where it should be. -/
theorem dist_bd {dx dy D ra A s r R u v : Int} (hD : D = dx * dx + dy * dy) (hD1 : 1 ≤ D) (hra : 0 ≤ ra) (hs : s = 4 * D * ra * ra - A * A) (hR0 : 0 ≤ R) (hR : R * R ≤ s) (hR2 : s < (R + 1) * (R + 1)) (hr : r = R ∨ r = -R)
    (hu : u = near (A * dx - r * dy) (2 * D)) (hv : v = near (A * dy + r * dx) (2 * D)) :
    -(3 * ra + 3) ≤ u * u + v * v - ra * ra ∧ u * u + v * v - ra * ra ≤ 3 * ra + 3 := by
  have e1 := near_bd (n := A * dx - r * dy) hD1
  have e2 := near_bd (n := A * dy + r * dx) hD1
  rw [← hu] at e1
  rw [← hv] at e2
  generalize hN1 : A * dx - r * dy = N1 at *
  generalize hN2 : A * dy + r * dx = N2 at *
  generalize hf1 : 2 * D * u - N1 = f1 at *
  generalize hf2 : 2 * D * v - N2 = f2 at *
  have hrr : r * r = R * R := by
    rcases hr with rfl | rfl
    · rfl
    · rw [Int.neg_mul_neg]
  have hNN : N1 * N1 + N2 * N2 = (A * A + R * R) * D := by rw [← hrr, hD, ← hN1, ← hN2]; grind
  have hDD : 0 < D * D := Int.mul_pos (by omega) (by omega)
  -- the root is not too great
  have hDra : 0 ≤ D * ra := Int.mul_nonneg (by omega) hra
  have hAA : 0 ≤ A * A := by have := ab_sq A; have := Int.mul_nonneg (ab_nn A) (ab_nn A); omega
  have hrara : 0 ≤ ra * ra := Int.mul_nonneg hra hra
  have hRle : R ≤ 2 * (D * ra) := by
    refine le_of_sq (by omega) ?_
    have h1 : R * R ≤ 4 * D * ra * ra := by omega
    have h2 : D * (ra * ra) ≤ D * (D * (ra * ra)) := by
      have := Int.mul_le_mul_of_nonneg_right (show 1 ≤ D from hD1) (Int.mul_nonneg (show 0 ≤ D by omega) hrara)
      rw [Int.one_mul] at this
      exact this
    have h3 : 4 * D * ra * ra = 4 * (D * (ra * ra)) := by grind
    have h4 : 2 * (D * ra) * (2 * (D * ra)) = 4 * (D * (D * (ra * ra))) := by grind
    omega
  -- nor are the steps
  have hM : ab N1 + ab N2 ≤ 3 * (D * ra) := by
    refine le_of_sq (by omega) ?_
    have h1 : (ab N1 + ab N2) * (ab N1 + ab N2) + (ab N1 - ab N2) * (ab N1 - ab N2) = 2 * (ab N1 * ab N1 + ab N2 * ab N2) := by grind
    have h2 : 0 ≤ (ab N1 - ab N2) * (ab N1 - ab N2) := by
      have := ab_sq (ab N1 - ab N2)
      have := Int.mul_nonneg (ab_nn (ab N1 - ab N2)) (ab_nn (ab N1 - ab N2))
      omega
    rw [ab_sq, ab_sq, hNN] at h1
    have h3 : (A * A + R * R) * D ≤ 4 * D * ra * ra * D := Int.mul_le_mul_of_nonneg_right (by omega) (by omega)
    have h4 : 4 * D * ra * ra * D = 4 * (D * (D * (ra * ra))) := by grind
    have h5 : 3 * (D * ra) * (3 * (D * ra)) = 9 * (D * (D * (ra * ra))) := by grind
    have h6 : 0 ≤ D * (D * (ra * ra)) := Int.mul_nonneg (by omega) (Int.mul_nonneg (by omega) hrara)
    omega
  have k1 := ab_mul (n := N1) e1.1 e1.2
  have k2 := ab_mul (n := N2) e2.1 e2.2
  have g1 := ab_mul (n := f1) e1.1 e1.2
  have g2 := ab_mul (n := f2) e2.1 e2.2
  have q1 : ab f1 * D ≤ D * D := Int.mul_le_mul_of_nonneg_right (by unfold ab; split <;> omega) (by omega)
  have q2 : ab f2 * D ≤ D * D := Int.mul_le_mul_of_nonneg_right (by unfold ab; split <;> omega) (by omega)
  have p1 : 0 ≤ f1 * f1 := by have := ab_sq f1; have := Int.mul_nonneg (ab_nn f1) (ab_nn f1); omega
  have p2 : 0 ≤ f2 * f2 := by have := ab_sq f2; have := Int.mul_nonneg (ab_nn f2) (ab_nn f2); omega
  have m1 : (ab N1 + ab N2) * D ≤ 3 * (D * ra) * D := Int.mul_le_mul_of_nonneg_right hM (by omega)
  have m2 : (ab N1 + ab N2) * D = ab N1 * D + ab N2 * D := Int.add_mul ..
  have m3 : 3 * (D * ra) * D = 3 * (D * D * ra) := by grind
  -- what is lost by rounding the root
  have d1 : 0 ≤ s - R * R := by omega
  have d2 : s - R * R ≤ 2 * R := by
    have : (R + 1) * (R + 1) = R * R + 2 * R + 1 := by grind
    omega
  have d3 : D * (s - R * R) ≤ D * (2 * (2 * (D * ra))) := Int.mul_le_mul_of_nonneg_left (by omega) (by omega)
  have d4 : D * (2 * (2 * (D * ra))) = 4 * (D * D * ra) := by grind
  have d5 : 0 ≤ D * (s - R * R) := Int.mul_nonneg (by omega) d1
  have key : 4 * (D * D) * (u * u + v * v - ra * ra) = -(D * (s - R * R)) + 2 * (N1 * f1 + N2 * f2) + (f1 * f1 + f2 * f2) := by
    have a1 : 4 * (D * D) * (u * u) = (N1 + f1) * (N1 + f1) := by rw [show N1 + f1 = 2 * D * u by omega]; grind
    have a2 : 4 * (D * D) * (v * v) = (N2 + f2) * (N2 + f2) := by rw [show N2 + f2 = 2 * D * v by omega]; grind
    have a3 : 4 * (D * D) * (u * u + v * v - ra * ra) = (N1 + f1) * (N1 + f1) + (N2 + f2) * (N2 + f2) - 4 * (D * D) * (ra * ra) := by rw [← a1, ← a2]; grind
    have a4 : (N1 + f1) * (N1 + f1) + (N2 + f2) * (N2 + f2) = (N1 * N1 + N2 * N2) + 2 * (N1 * f1 + N2 * f2) + (f1 * f1 + f2 * f2) := by grind
    rw [a3, a4, hNN, hs]
    grind
  have z : 0 ≤ D * D * ra := Int.mul_nonneg (by omega) hra
  have w1 : 4 * (D * D) * (3 * ra + 3) = 12 * (D * D * ra) + 12 * (D * D) := by grind
  constructor
  · refine Int.le_of_mul_le_mul_left ?_ (show 0 < 4 * (D * D) by omega)
    rw [key, Int.mul_neg, w1]
    omega
  · refine Int.le_of_mul_le_mul_left ?_ (show 0 < 4 * (D * D) by omega)
    rw [key, w1]
    omega

/-! ### Sides -/
theorem side_bd {dx dy D A r R u v t : Int} (hD : D = dx * dx + dy * dy) (hD1 : 1 ≤ D) (hR0 : 0 ≤ R)
    (hu : u = near (A * dx - r * dy) (2 * D)) (hv : v = near (A * dy + r * dx) (2 * D)) (ht : (r = R ∧ t = dx * v - dy * u) ∨ (r = -R ∧ t = -(dx * v - dy * u))) :
    0 ≤ t ∨ t * t ≤ 2 * D := by
  have e1 := near_bd (n := A * dx - r * dy) hD1
  have e2 := near_bd (n := A * dy + r * dx) hD1
  rw [← hu] at e1
  rw [← hv] at e2
  generalize hN1 : A * dx - r * dy = N1 at *
  generalize hN2 : A * dy + r * dx = N2 at *
  generalize hf1 : 2 * D * u - N1 = f1 at *
  generalize hf2 : 2 * D * v - N2 = f2 at *
  have key : 2 * D * (dx * v - dy * u) = r * D + (dx * f2 - dy * f1) := by
    have a1 : 2 * D * (dx * v - dy * u) = dx * (N2 + f2) - dy * (N1 + f1) := by
      rw [show N2 + f2 = 2 * D * v by omega, show N1 + f1 = 2 * D * u by omega]; grind
    rw [a1, ← hN1, ← hN2, hD]
    grind
  have k1 := ab_mul (n := dx) e2.1 e2.2
  have k2 := ab_mul (n := dy) e1.1 e1.2
  have hRD : 0 ≤ R * D := Int.mul_nonneg hR0 (by omega)
  by_cases h0 : 0 ≤ t
  · exact .inl h0
  · right
    have h1 : D * (2 * -t) ≤ D * (ab dx + ab dy) := by
      have m1 : D * (ab dx + ab dy) = ab dx * D + ab dy * D := by grind
      rcases ht with ⟨rfl, rfl⟩ | ⟨rfl, rfl⟩
      · have : D * (2 * -(dx * v - dy * u)) = -(2 * D * (dx * v - dy * u)) := by grind
        omega
      · have : D * (2 * - -(dx * v - dy * u)) = 2 * D * (dx * v - dy * u) := by grind
        have : -R * D = -(R * D) := Int.neg_mul ..
        omega
    have h2 := Int.le_of_mul_le_mul_left h1 (show 0 < D by omega)
    have h3 : (2 * -t) * (2 * -t) ≤ (ab dx + ab dy) * (ab dx + ab dy) := Int.mul_le_mul h2 h2 (by omega) (by have := ab_nn dx; have := ab_nn dy; omega)
    have h4 : (ab dx + ab dy) * (ab dx + ab dy) + (ab dx - ab dy) * (ab dx - ab dy) = 2 * (ab dx * ab dx + ab dy * ab dy) := by grind
    have h5 : 0 ≤ (ab dx - ab dy) * (ab dx - ab dy) := by
      have := ab_sq (ab dx - ab dy)
      have := Int.mul_nonneg (ab_nn (ab dx - ab dy)) (ab_nn (ab dx - ab dy))
      omega
    rw [ab_sq, ab_sq, ← hD] at h4
    have h6 : (2 * -t) * (2 * -t) = 4 * (t * t) := by grind
    have h7 : 0 ≤ t * t := by have := ab_sq t; have := Int.mul_nonneg (ab_nn t) (ab_nn t); omega
    omega
end Rx
end Go.Proofs.Ytckbhfbcblehmaa
