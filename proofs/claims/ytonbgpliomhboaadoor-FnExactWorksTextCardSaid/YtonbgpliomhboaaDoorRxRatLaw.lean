/- The ratios: what the implementation's functions and the spec's come to, in plain arithmetic. No program in sight. -/
import Derived.Test.YtonbgpliomhboaaDoorGcd
import Derived.Test.YtonbgpliomhboaaDoorRxPlain
import Derived.Test.YtonbgpliomhboaaDoorRxRatI
import Derived.Test.YtonbgpliomhboaaDoorRxRatS
namespace Go.Proofs.YtonbgpliomhboaaDoor
namespace Rx
open Go

theorem within_eq (v lo hi : Int) : withinI (v, lo, hi) = some (decide (lo ≤ v) && decide (v ≤ hi)) := by
  show br (decide (lo ≤ v)) (some (decide (v ≤ hi))) (some false) = _
  cases decide (lo ≤ v) <;> rfl
theorem in_eq : inS = withinI := rfl
theorem teeth_eq : teethS = toothedI := rfl
theorem toothed_eq (v : Int) : toothedI v = some (decide (6 ≤ v) && decide (v ≤ 240)) := by
  show ob (withinI (v, 6, 240)) _ = _
  rw [within_eq]; rfl

theorem gcd_le_d {a d : Int} (h1 : 1 ≤ d) : (Int.gcd a d : Int) ≤ d := Int.le_of_dvd (by omega) (Int.gcd_dvd_right ..)
/-- A number of 64 bits. -/
def I64 (n : Int) : Prop := -9223372036854775808 ≤ n ∧ n ≤ 9223372036854775807
/-- The pair in lowest terms, with its flag. -/
def redF (n d : Int) : (Int × Int) × Bool := match mkR n d with
  | none => ((0, 0), false)
  | some p => (p, true)
theorem gcd_mag (n d : Int) : Int.gcd (mag n) (mag d) = Int.gcd n d := by
  rw [gcd_nat, gcd_nat]; unfold mag; simp
theorem redTail {n d : Int} (hn : I64 n) (hd : I64 d) (h0 : d ≠ 0) {t : Option ((Int × Int) × Bool)}
    (ht : t = br ((Int.gcd n d : Int) == (0 : Int)) none
          (br ((Int.gcd n d : Int) == (0 : Int)) none
            (br (decide ((1000000000 : Int) < IntKind.u64.wrap (Int.tdiv (mag n) (Int.gcd n d))))
              (some (((0 : Int), (0 : Int)), false))
              (br
                (decide ((1000000000 : Int) < IntKind.u64.wrap (Int.tdiv (mag d) (Int.gcd n d))))
                (some (((0 : Int), (0 : Int)), false))
                (br (!decide (n < (0 : Int)) == decide (d < (0 : Int)))
                  (some
                    ((IntKind.i64.wrap
                          ((0 : Int) -
                            IntKind.i64.wrap (IntKind.u64.wrap (Int.tdiv (mag n) (Int.gcd n d)))),
                        IntKind.i64.wrap (IntKind.u64.wrap (Int.tdiv (mag d) (Int.gcd n d)))),
                      true))
                  (some
                    ((IntKind.i64.wrap (IntKind.u64.wrap (Int.tdiv (mag n) (Int.gcd n d))),
                        IntKind.i64.wrap (IntKind.u64.wrap (Int.tdiv (mag d) (Int.gcd n d)))),
                      true))))))) : t = some (redF n d) := by
  subst ht
  have hg := gcd_pos (n := n) h0
  obtain ⟨n1, n2⟩ := hn
  obtain ⟨d1, d2⟩ := hd
  have bn : 0 ≤ mag n ∧ mag n ≤ 9223372036854775808 := by unfold mag; omega
  have bd : 0 ≤ mag d ∧ mag d ≤ 9223372036854775808 := by unfold mag; omega
  have qn := div_bd hg bn.1 bn.2
  have qd := div_bd hg bd.1 bd.2
  rw [br_f (by simp; omega), br_f (by simp; omega), Int.tdiv_eq_ediv_of_nonneg bn.1, Int.tdiv_eq_ediv_of_nonneg bd.1]
  rw [wu64 qn.1 (by omega), wu64 qd.1 (by omega)]
  unfold redF mkR
  dsimp only
  by_cases c1 : 1000000000 < mag n / (Int.gcd n d : Int)
  · rw [br_t (by simpa using c1), if_pos (.inl c1)]
  · rw [br_f (by simpa using c1)]
    by_cases c2 : 1000000000 < mag d / (Int.gcd n d : Int)
    · rw [br_t (by simpa using c2), if_pos (.inr c2)]
    · rw [br_f (by simpa using c2), if_neg (by omega)]
      rw [w64 (x := mag n / (Int.gcd n d : Int)) (by omega) (by omega), w64 (x := mag d / (Int.gcd n d : Int)) (by omega) (by omega), w64 (by omega) (by omega)]
      have e : (!decide (n < (0 : Int)) == decide (d < (0 : Int))) = (decide (n < 0) != decide (d < 0)) := by cases decide (n < 0) <;> cases decide (d < 0) <;> rfl
      rw [e]
      cases (decide (n < 0) != decide (d < 0)) with
      | true => show some _ = some _; rw [Int.zero_sub]; rfl
      | false => rfl
/-- Whether a pair is a ratio in lowest terms, and how large it may be. -/
def vR (p : Int × Int) : Bool := vRat p.1 p.2
theorem vR_bd {p : Int × Int} (h : vR p = true) : 1 ≤ p.2 ∧ p.2 ≤ 1000000000 ∧ -1000000000 ≤ p.1 ∧ p.1 ≤ 1000000000 := vRat_bd h

/-- The ratio with its code. -/
def ratF (n d : Int) : (Int × Int) × Int := match mkR n d with
  | none => ((0, 0), 2)
  | some p => (p, 0)
theorem ratF_valid {n d : Int} (h0 : d ≠ 0) (h : (ratF n d).2 = 0) : vR (ratF n d).1 = true ∧ mkR n d = some (ratF n d).1 := by
  unfold ratF at h ⊢
  cases e : mkR n d with
  | none => rw [e] at h; cases h
  | some p => exact ⟨mkR_valid h0 e, rfl⟩
theorem pb {x y A B : Int} (h1 : -A ≤ x) (h2 : x ≤ A) (h3 : -B ≤ y) (h4 : y ≤ B) : -(A * B) ≤ x * y ∧ x * y ≤ A * B := by
  have hA : 0 ≤ A := by omega
  have hB : 0 ≤ B := by omega
  have k1 : (A - x) * (B + y) ≥ 0 := Int.mul_nonneg (by omega) (by omega)
  have k2 : (A + x) * (B - y) ≥ 0 := Int.mul_nonneg (by omega) (by omega)
  have k3 : (A - x) * (B - y) ≥ 0 := Int.mul_nonneg (by omega) (by omega)
  have k4 : (A + x) * (B + y) ≥ 0 := Int.mul_nonneg (by omega) (by omega)
  rw [Int.sub_mul, Int.mul_add, Int.mul_add] at k1
  rw [Int.add_mul, Int.mul_sub, Int.mul_sub] at k2
  rw [Int.sub_mul, Int.mul_sub, Int.mul_sub] at k3
  rw [Int.add_mul, Int.mul_add, Int.mul_add] at k4
  omega
theorem pp1 {x y : Int} (h1 : 1 ≤ x) (h2 : 1 ≤ y) : 1 ≤ x * y := by
  have : 0 < x * y := Int.mul_pos (by omega) (by omega)
  omega

theorem ifAnd {α : Type} {p q : Bool} {a b : α} : (if p = true ∧ q = true then a else b) = br p (br q a b) b := by cases p <;> cases q <;> simp [br]
end Rx
end Go.Proofs.YtonbgpliomhboaaDoor
