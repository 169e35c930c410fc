/- Plain arithmetic: integer roots, quotients that are rounded. No program in sight, no conditions. -/
import Derived.Lib.BitFns
import Derived.Lib.ItoaNum
namespace Go.Proofs.Ytckbhfbcblehmaa

def IsRoot (n r : Int) : Prop := 0 ≤ r ∧ r * r ≤ n ∧ n < (r + 1) * (r + 1)
theorem sq_le {a b : Int} (h0 : 0 ≤ a) (h : a ≤ b) : a * a ≤ b * b := Int.mul_le_mul h h h0 (Int.le_trans h0 h)
theorem sq_lt_inv {a b : Int} (hb : 0 ≤ b) (h : a * a < b * b) : a < b := by
  rcases (by omega : a < b ∨ b ≤ a) with h1 | h1
  · exact h1
  · have := sq_le hb h1; omega
theorem IsRoot.unique {n r s : Int} (h : IsRoot n r) (k : IsRoot n s) : r = s := by
  obtain ⟨h1, h2, h3⟩ := h
  obtain ⟨k1, k2, k3⟩ := k
  have a := sq_lt_inv (a := r) (b := s + 1) (by omega) (by omega)
  have b := sq_lt_inv (a := s) (b := r + 1) (by omega) (by omega)
  omega
theorem root_exists : ∀ n : Nat, ∃ r : Int, IsRoot n r
  | 0 => ⟨0, by decide, by decide, by decide⟩
  | n + 1 => by
    obtain ⟨r, h1, h2, h3⟩ := root_exists n
    by_cases h : ((n + 1 : Nat) : Int) < (r + 1) * (r + 1)
    · exact ⟨r, h1, by omega, h⟩
    · refine ⟨r + 1, by omega, by omega, ?_⟩
      have := sq_le (a := r + 1) (b := r + 1 + 1) (by omega) (by omega)
      have e : (r + 1 + 1) * (r + 1 + 1) = (r + 1) * (r + 1) + 2 * r + 3 := by
        simp only [Int.add_mul, Int.mul_add]; omega
      omega
/-- The greatest integer whose square is at most n. -/
noncomputable def isq (n : Int) : Int := Classical.epsilon (IsRoot n)
theorem isq_spec {n : Int} (h : 0 ≤ n) : IsRoot n (isq n) := by
  obtain ⟨k, rfl⟩ := Int.eq_ofNat_of_zero_le h
  exact Classical.epsilon_spec (root_exists k)
theorem isq_of {n r : Int} (h : IsRoot n r) : r = isq n := h.unique (isq_spec (Int.le_trans (Int.mul_nonneg h.1 h.1) h.2.1))
theorem isq_zero : isq 0 = 0 := (isq_of ⟨by decide, by decide, by decide⟩).symm

/-- One step of Newton's way from above. -/
theorem newton_ge {n r s : Int} (hs : IsRoot n s) (hr : 1 ≤ r) : s ≤ (r + n / r) / 2 := by
  obtain ⟨h1, h2, h3⟩ := hs
  -- n / r ≥ 2 s - r, since r * (2 s - r) ≤ s * s ≤ n
  have k : r * (2 * s - r) ≤ n := by
    have e : s * s - r * (2 * s - r) = (s - r) * (s - r) := by
      simp only [Int.sub_mul, Int.mul_sub]
      have := Int.mul_comm r s
      have e2 : r * (2 * s) = 2 * (r * s) := by rw [← Int.mul_assoc, Int.mul_comm r 2, Int.mul_assoc]
      omega
    have p : 0 ≤ (s - r) * (s - r) := by
      rcases Int.le_total 0 (s - r) with h | h
      · exact Int.mul_nonneg h h
      · exact Int.mul_nonneg_of_nonpos_of_nonpos h h
    omega
  have q : 2 * s - r ≤ n / r := by
    rw [Int.le_ediv_iff_mul_le (by omega), Int.mul_comm]; exact k
  omega
theorem newton_end {n r s : Int} (hs : IsRoot n s) (hr : 1 ≤ r) (hge : s ≤ r) (hend : ¬ (r + n / r) / 2 < r) : r = s := by
  obtain ⟨h1, h2, h3⟩ := hs
  have q : r ≤ n / r := by omega
  rw [Int.le_ediv_iff_mul_le (by omega)] at q
  have := sq_lt_inv (a := r) (b := s + 1) (by omega) (by omega)
  omega
theorem root_pos {n s : Int} (hs : IsRoot n s) (hn : 1 ≤ n) : 1 ≤ s := by
  obtain ⟨h1, h2, h3⟩ := hs
  rcases (by omega : s < 1 ∨ 1 ≤ s) with h | h
  · have e : s = 0 := by omega
    subst e
    simp at h3
    omega
  · exact h
theorem root_le {n s M : Int} (hs : IsRoot n s) (hM : 0 ≤ M) (hn : n ≤ M * M) : s ≤ M := by
  obtain ⟨h1, h2, h3⟩ := hs
  rcases (by omega : M < s ∨ s ≤ M) with h | h
  · have := sq_le (a := M + 1) (b := s) (by omega) (by omega)
    have e : (M + 1) * (M + 1) = M * M + 2 * M + 1 := by simp only [Int.add_mul, Int.mul_add]; omega
    omega
  · exact h

theorem bitLen_lt (x : Nat) (h : x < 2 ^ 64) : x < 2 ^ Lib.bitLen x := by
  by_cases h0 : x = 0
  · subst h0; exact Nat.pow_pos (by decide)
  · exact (Lib.bitLenAux_bounds 64 x h h0).2.2
theorem start_ge (n L : Nat) (h : n < 2 ^ L) : n ≤ 2 ^ ((L + 1) / 2) * 2 ^ ((L + 1) / 2) := by
  rw [← Nat.pow_add]
  exact Nat.le_of_lt (Nat.lt_of_lt_of_le h (Nat.pow_le_pow_right (by decide) (by omega)))

theorem ediv_of {n d q : Int} (hd : 1 ≤ d) (h1 : q * d ≤ n) (h2 : n < q * d + d) : n / d = q := by
  have a := (Int.le_ediv_iff_mul_le (a := q) (b := n) (c := d) (by omega)).2 h1
  have b : n / d < q + 1 := Int.ediv_lt_of_lt_mul (by omega) (by rw [Int.add_mul]; omega)
  omega
theorem tmod_gt {n d : Int} (hd : 1 ≤ d) : -d < n.tmod d := by
  have h4 := Int.tmod_lt_of_pos (-n) (b := d) (by omega)
  rw [Int.neg_tmod] at h4
  omega
/-- The quotient rounded down, as Go's code finds it. -/
theorem down_neg {n d : Int} (hd : 1 ≤ d) (h : n.tmod d < 0) : n.tdiv d - 1 = n / d := by
  have e1 := Int.mul_tdiv_add_tmod n d
  have e3 := tmod_gt (n := n) hd
  refine (ediv_of hd ?_ ?_).symm <;> rw [Int.sub_mul, Int.mul_comm] <;> omega
theorem down_pos {n d : Int} (hd : 1 ≤ d) (h : ¬ n.tmod d < 0) : n.tdiv d = n / d := by
  have e1 := Int.mul_tdiv_add_tmod n d
  have e2 := Int.tmod_lt_of_pos n (b := d) (by omega)
  refine (ediv_of hd ?_ ?_).symm <;> rw [Int.mul_comm] <;> omega
theorem ediv_bd {n d B : Int} (hd : 1 ≤ d) (h1 : -B ≤ n) (h2 : n ≤ B) (hB : 0 ≤ B) : -B ≤ n / d ∧ n / d ≤ B := by
  constructor
  · rw [Int.le_ediv_iff_mul_le (by omega)]
    have := Int.mul_le_mul_of_nonneg_left hd hB
    have e : -B * d = -(B * d) := Int.neg_mul B d
    omega
  · have : n / d < B + 1 := Int.ediv_lt_of_lt_mul (by omega) (by
      have := Int.mul_le_mul_of_nonneg_left hd (show 0 ≤ B + 1 by omega)
      omega)
    omega
theorem tdiv_bd {n d B : Int} (hd : 1 ≤ d) (h1 : -B ≤ n) (h2 : n ≤ B) (hB : 0 ≤ B) : -B ≤ n.tdiv d ∧ n.tdiv d ≤ B + 1 := by
  have k := ediv_bd hd h1 h2 hB
  by_cases h : n.tmod d < 0
  · have := down_neg hd h; omega
  · have := down_pos hd h; omega
theorem ediv_mul_bd {n d : Int} (hd : 1 ≤ d) : n / d * d ≤ n ∧ n < n / d * d + d := by
  have e1 := Int.mul_ediv_add_emod n d
  have e2 := Int.emod_nonneg n (b := d) (by omega)
  have e3 := Int.emod_lt_of_pos n (b := d) (by omega)
  rw [Int.mul_comm] at e1
  omega
/-- The nearest quotient, halves up. -/
def near (n d : Int) : Int := (2 * n + d) / (2 * d)
theorem near_up {n d : Int} (hd : 1 ≤ d) (h : d - (n - n / d * d) ≤ n - n / d * d) : n / d + 1 = near n d := by
  obtain ⟨e1, e2⟩ := ediv_mul_bd (n := n) hd
  generalize n / d = q at *
  have e3 : (q + 1) * (2 * d) = 2 * (q * d) + 2 * d := by rw [Int.add_mul, Int.one_mul, ← Int.mul_assoc, Int.mul_comm q 2, Int.mul_assoc]
  exact (ediv_of (by omega) (by omega) (by omega)).symm
theorem near_down {n d : Int} (hd : 1 ≤ d) (h : ¬ d - (n - n / d * d) ≤ n - n / d * d) : n / d = near n d := by
  obtain ⟨e1, e2⟩ := ediv_mul_bd (n := n) hd
  generalize n / d = q at *
  have e3 : q * (2 * d) = 2 * (q * d) := by rw [← Int.mul_assoc, Int.mul_comm q 2, Int.mul_assoc]
  exact (ediv_of (by omega) (by omega) (by omega)).symm
end Go.Proofs.Ytckbhfbcblehmaa
