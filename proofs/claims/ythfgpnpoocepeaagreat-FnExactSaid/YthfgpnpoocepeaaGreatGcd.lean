/- Plain arithmetic: the ratio of two numbers in lowest terms. No program in sight, no conditions. -/
namespace Go.Proofs.YthfgpnpoocepeaaGreat

theorem gcd_nat (a b : Int) : Int.gcd a b = Nat.gcd a.natAbs b.natAbs := rfl
theorem gcd_tmod (a b : Int) : Int.gcd b (a.tmod b) = Int.gcd a b := by
  rw [gcd_nat, gcd_nat, Int.natAbs_tmod, Nat.gcd_comm a.natAbs, Nat.gcd_rec b.natAbs a.natAbs, Nat.gcd_comm]
theorem gcd_emod {a b : Int} (ha : 0 ≤ a) : Int.gcd b (a % b) = Int.gcd a b := by
  rw [← Int.tmod_eq_emod_of_nonneg ha]; exact gcd_tmod a b
theorem gcd_zero_right (a : Int) : (Int.gcd a 0 : Int) = if a < 0 then -a else a := by
  rw [Int.gcd_zero_right]; split <;> omega

theorem gcd_neg (a b : Int) : Int.gcd (-a) b = Int.gcd a b := by rw [gcd_nat, gcd_nat, Int.natAbs_neg]
/-- A number from 0 on. -/
def mag (n : Int) : Int := n.natAbs
theorem mag_nn (n : Int) : 0 ≤ mag n := by unfold mag; omega
theorem mag_le {n B : Int} (h1 : -B ≤ n) (h2 : n ≤ B) : mag n ≤ B := by unfold mag; omega
theorem mag_of_neg {n : Int} (h : n < 0) : mag n = -n := by unfold mag; omega
theorem mag_of_nn {n : Int} (h : 0 ≤ n) : mag n = n := by unfold mag; omega

/-- The ratio of two numbers in lowest terms, if its terms are not too great. -/
def mkR (n d : Int) : Option (Int × Int) :=
  let g : Int := Int.gcd n d
  if 1000000000 < mag n / g ∨ 1000000000 < mag d / g then none
  else some (if decide (n < 0) != decide (d < 0) then -(mag n / g) else mag n / g, mag d / g)

def vRat (n d : Int) : Bool := decide (1 ≤ d ∧ d ≤ 1000000000) && (decide (-1000000000 ≤ n ∧ n ≤ 1000000000) && decide ((Int.gcd n d : Int) = 1))
theorem vRat_bd {n d : Int} (h : vRat n d = true) : 1 ≤ d ∧ d ≤ 1000000000 ∧ -1000000000 ≤ n ∧ n ≤ 1000000000 := by
  simp [vRat] at h; omega
theorem vRat_gcd {n d : Int} (h : vRat n d = true) : Int.gcd n d = 1 := by
  simp [vRat] at h; omega

theorem gcd_pos {n d : Int} (h : d ≠ 0) : (1 : Int) ≤ Int.gcd n d := by
  have : 0 < Int.gcd n d := Int.gcd_pos_of_ne_zero_right n h
  omega
theorem div_bd {x g B : Int} (hg : 1 ≤ g) (h0 : 0 ≤ x) (h1 : x ≤ B) : 0 ≤ x / g ∧ x / g ≤ B := by
  refine ⟨Int.ediv_nonneg h0 (by omega), ?_⟩
  have : x / g ≤ x := Int.ediv_le_self g h0
  omega
theorem div_pos {d g : Int} (hg : 1 ≤ g) (hd : g ∣ d) (h0 : 1 ≤ d) : 1 ≤ d / g := by
  obtain ⟨k, rfl⟩ := hd
  rw [Int.mul_ediv_cancel_left _ (by omega)]
  rcases (by omega : k ≤ 0 ∨ 1 ≤ k) with h | h
  · have := Int.mul_nonpos_of_nonneg_of_nonpos (show 0 ≤ g by omega) h; omega
  · exact h
theorem mag_dvd {g n : Int} (h : g ∣ n) : g ∣ mag n := by
  unfold mag; exact Int.dvd_natAbs.2 h

/-- What comes out is a valid ratio. -/
theorem mkR_valid {n d x y : Int} (hd : d ≠ 0) (h : mkR n d = some (x, y)) : vRat x y = true := by
  unfold mkR at h
  have hg := gcd_pos (n := n) hd
  have d1 : (Int.gcd n d : Int) ∣ n := Int.gcd_dvd_left ..
  have d2 : (Int.gcd n d : Int) ∣ d := Int.gcd_dvd_right ..
  dsimp only at h
  split at h
  · cases h
  · rename_i hb
    simp only [Option.some.injEq, Prod.mk.injEq] at h
    obtain ⟨hx, hy⟩ := h
    have p1 := (div_bd hg (mag_nn n) (Int.le_refl _)).1
    have p2 := div_pos hg (mag_dvd d2) (by have : mag d ≠ 0 := by unfold mag; omega
                                           have := mag_nn d; omega)
    have key : Int.gcd (mag n / (Int.gcd n d : Int)) (mag d / (Int.gcd n d : Int)) = 1 := by
      have e1 : mag n / (Int.gcd n d : Int) = ((n.natAbs / Nat.gcd n.natAbs d.natAbs : Nat) : Int) := by
        unfold mag; rw [gcd_nat]; simp
      have e2 : mag d / (Int.gcd n d : Int) = ((d.natAbs / Nat.gcd n.natAbs d.natAbs : Nat) : Int) := by
        unfold mag; rw [gcd_nat]; simp
      rw [e1, e2, gcd_nat, Int.natAbs_natCast, Int.natAbs_natCast]
      rw [Nat.gcd_div (Nat.gcd_dvd_left _ _) (Nat.gcd_dvd_right _ _)]
      exact Nat.div_self (Nat.gcd_pos_of_pos_right _ (by omega))
    have gx : Int.gcd x y = 1 := by
      rw [← hy, ← hx]
      split
      · rw [gcd_neg]; exact key
      · exact key
    have bx : -1000000000 ≤ x ∧ x ≤ 1000000000 := by
      rw [← hx]; split <;> omega
    simp only [vRat, Bool.and_eq_true, decide_eq_true_eq]
    exact ⟨by omega, bx, by omega⟩

theorem mkR_bd {n d x y : Int} (hd : d ≠ 0) (h : mkR n d = some (x, y)) : 1 ≤ y ∧ y ≤ 1000000000 ∧ -1000000000 ≤ x ∧ x ≤ 1000000000 := vRat_bd (mkR_valid hd h)
end Go.Proofs.YthfgpnpoocepeaaGreat
