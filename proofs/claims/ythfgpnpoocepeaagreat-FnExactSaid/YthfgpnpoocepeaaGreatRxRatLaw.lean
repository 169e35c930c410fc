/- The ratios: what the implementation's functions and the spec's come to, in plain arithmetic. No program in sight. -/
import Derived.Test.YthfgpnpoocepeaaGreatGcd
import Derived.Test.YthfgpnpoocepeaaGreatRxPlain
import Derived.Test.YthfgpnpoocepeaaGreatRxRatI
import Derived.Test.YthfgpnpoocepeaaGreatRxRatS
namespace Go.Proofs.YthfgpnpoocepeaaGreat
namespace Rx
open Go

theorem within_eq (v lo hi : Int) : withinI (v, lo, hi) = some (decide (lo ≤ v) && decide (v ≤ hi)) := by
  show br (decide (lo ≤ v)) (some (decide (v ≤ hi))) (some false) = _
  cases decide (lo ≤ v) <;> rfl
theorem in_eq : inS = withinI := rfl
theorem teeth_eq : teethS = toothedI := rfl
theorem part_eq : partS = magI := rfl
theorem toothed_eq (v : Int) : toothedI v = some (decide (6 ≤ v) && decide (v ≤ 240)) := by
  show ob (withinI (v, 6, 240)) _ = _
  rw [within_eq]; rfl

/-- What the walk down to the common divisor does. -/
theorem gcd_walkI : ∀ (n : Nat) (a b : Int), b.natAbs < n → ∃ g : Int, iterP gcdIL_step n (a, b) = some (g, 0) ∧ g.natAbs = Int.gcd a b
  | 0, _, _, h => by omega
  | n + 1, a, b, h => by
    show ∃ g : Int, ob (gcdIL_step (a, b)) _ = _ ∧ _
    by_cases hb : b = 0
    · subst hb
      exact ⟨a, rfl, by rw [Int.gcd_zero_right]⟩
    · have e : gcdIL_step (a, b) = some (LRes.next, b, a.tmod b) := by
        show br (b != 0) (br (b == 0) none _) _ = _
        rw [br_t (by simpa using hb), br_f (by simpa using hb)]
      rw [e]
      have hm : (a.tmod b).natAbs < b.natAbs := by rw [Int.natAbs_tmod]; exact Nat.mod_lt _ (by omega)
      obtain ⟨g, h1, h2⟩ := gcd_walkI n b (a.tmod b) (by omega)
      exact ⟨g, h1, by rw [h2, gcd_tmod]⟩
theorem gcdIL_eq (a b : Int) : ∃ g : Int, gcdIL (a, b) = some (g, 0) ∧ g.natAbs = Int.gcd a b :=
  gcd_walkI _ a b (by show _ < b.natAbs + 1; omega)
theorem gcd_le_d {a d : Int} (h1 : 1 ≤ d) : (Int.gcd a d : Int) ≤ d := Int.le_of_dvd (by omega) (Int.gcd_dvd_right ..)
theorem gcdI_eq {a d : Int} (h1 : 1 ≤ d) (h2 : d ≤ 1000000000) : gcdI (a, d) = some (Int.gcd a d : Int) := by
  obtain ⟨g, e, hg⟩ := gcdIL_eq a d
  have hd := gcd_le_d (a := a) h1
  show ob (gcdIL (a, d)) _ = _
  rw [e]
  show br (decide (g < 0)) _ _ = _
  by_cases hn : g < 0
  · rw [br_t (by simpa using hn), w64 (by omega) (by omega)]; congr 1; omega
  · rw [br_f (by simpa using hn)]; congr 1; omega

theorem gcd_walkS : ∀ (n : Nat) (a b : Int), b.natAbs < n → 0 ≤ a → 0 ≤ b → iterP gcdSL_step n (a, b) = some ((Int.gcd a b : Int), 0)
  | 0, _, _, h, _, _ => by omega
  | n + 1, a, b, h, ha, hb => by
    show ob (gcdSL_step (a, b)) _ = _
    by_cases hz : b = 0
    · subst hz
      show some (a, 0) = _
      rw [gcd_zero_right, if_neg (by omega)]
    · have e : gcdSL_step (a, b) = some (LRes.next, b, a.tmod b) := by
        show br (decide (0 < b)) (br (b == 0) none _) _ = _
        rw [br_t (by simpa using (by omega : 0 < b)), br_f (by simpa using hz)]
      rw [e]
      have hm : (a.tmod b).natAbs < b.natAbs := by rw [Int.natAbs_tmod]; exact Nat.mod_lt _ (by omega)
      have h0 : 0 ≤ a.tmod b := Int.tmod_nonneg _ ha
      rw [← gcd_tmod a b]
      exact gcd_walkS n b (a.tmod b) (by omega) hb h0
theorem gcdS_eq {a d : Int} (h0 : 0 ≤ a) (h1 : 1 ≤ d) : gcdS (a, d) = some (Int.gcd a d : Int) := by
  show ob (iterP gcdSL_step (d.natAbs + 1) (a, d)) _ = _
  rw [gcd_walkS _ a d (by omega) h0 (by omega)]; rfl

theorem red_walkI : ∀ (n : Nat) (p q : Int) (z : Int × Int) (u v a b : Int), b.natAbs < n → 0 ≤ a → 0 ≤ b → iterP redIL_step n (p, q, z, u, v, a, b) = some (p, q, z, u, v, (Int.gcd a b : Int), 0)
  | 0, _, _, _, _, _, _, _, h, _, _ => by omega
  | n + 1, p, q, z, u, v, a, b, h, ha, hb => by
    show ob (redIL_step (p, q, z, u, v, a, b)) _ = _
    by_cases hz : b = 0
    · subst hz
      show some (p, q, z, u, v, a, 0) = _
      rw [gcd_zero_right, if_neg (by omega)]
    · have e : redIL_step (p, q, z, u, v, a, b) = some (LRes.next, p, q, z, u, v, b, a.tmod b) := by
        show br (b != 0) (br (b == 0) none _) _ = _
        rw [br_t (by simpa using hz), br_f (by simpa using hz)]
      rw [e]
      have hm : (a.tmod b).natAbs < b.natAbs := by rw [Int.natAbs_tmod]; exact Nat.mod_lt _ (by omega)
      have h0 : 0 ≤ a.tmod b := Int.tmod_nonneg _ ha
      rw [← gcd_tmod a b]
      exact red_walkI n p q z u v b (a.tmod b) (by omega) hb h0
theorem mk_walkS : ∀ (n : Nat) (p q : Int) (z : Int × Int) (u v a b : Int), b.natAbs < n → 0 ≤ a → 0 ≤ b → iterP mkSL_step n (p, q, z, u, v, a, b) = some (p, q, z, u, v, (Int.gcd a b : Int), 0)
  | 0, _, _, _, _, _, _, _, h, _, _ => by omega
  | n + 1, p, q, z, u, v, a, b, h, ha, hb => by
    show ob (mkSL_step (p, q, z, u, v, a, b)) _ = _
    by_cases hz : b = 0
    · subst hz
      show some (p, q, z, u, v, a, 0) = _
      rw [gcd_zero_right, if_neg (by omega)]
    · have e : mkSL_step (p, q, z, u, v, a, b) = some (LRes.next, p, q, z, u, v, b, a.tmod b) := by
        show br (decide (0 < b)) (br (b == 0) none _) _ = _
        rw [br_t (by simpa using (by omega : 0 < b)), br_f (by simpa using hz)]
      rw [e]
      have hm : (a.tmod b).natAbs < b.natAbs := by rw [Int.natAbs_tmod]; exact Nat.mod_lt _ (by omega)
      have h0 : 0 ≤ a.tmod b := Int.tmod_nonneg _ ha
      rw [← gcd_tmod a b]
      exact mk_walkS n p q z u v b (a.tmod b) (by omega) hb h0

/-- A number of 64 bits. -/
def I64 (n : Int) : Prop := -9223372036854775808 ≤ n ∧ n ≤ 9223372036854775807
theorem magI_eq {n : Int} (h : I64 n) : magI n = some (mag n) := by
  obtain ⟨h1, h2⟩ := h
  show br (decide (n < 0)) _ _ = _
  by_cases hn : n < 0
  · rw [br_t (by simpa using hn), mag_of_neg hn, IntKind.wrap_u64, IntKind.wrap_u64]; congr 1; omega
  · rw [br_f (by simpa using hn), mag_of_nn (by omega), wu64 (by omega) (by omega)]

/-- The pair in lowest terms, with its flag. -/
def redF (n d : Int) : (Int × Int) × Bool := match mkR n d with
  | none => ((0, 0), false)
  | some p => (p, true)
theorem gcd_mag (n d : Int) : Int.gcd (mag n) (mag d) = Int.gcd n d := by
  rw [gcd_nat, gcd_nat]; unfold mag; simp
theorem redTail {n d : Int} (hn : I64 n) (hd : I64 d) (h0 : d ≠ 0) {t : Option ((Int × Int) × Bool)}
    (ht : t = br ((Int.gcd n d : Int) == (0 : Int)) none
          (br ((Int.gcd n d : Int) == (0 : Int)) none
            (br (decide ((1000000000 : Int) < IntKind.u64.wrap (Int.tdiv (mag n) (Int.gcd n d))))
              (some (((0 : Int), (0 : Int)), false))
              (br
                (decide ((1000000000 : Int) < IntKind.u64.wrap (Int.tdiv (mag d) (Int.gcd n d))))
                (some (((0 : Int), (0 : Int)), false))
                (br (!decide (n < (0 : Int)) == decide (d < (0 : Int)))
                  (some
                    ((IntKind.i64.wrap
                          ((0 : Int) -
                            IntKind.i64.wrap (IntKind.u64.wrap (Int.tdiv (mag n) (Int.gcd n d)))),
                        IntKind.i64.wrap (IntKind.u64.wrap (Int.tdiv (mag d) (Int.gcd n d)))),
                      true))
                  (some
                    ((IntKind.i64.wrap (IntKind.u64.wrap (Int.tdiv (mag n) (Int.gcd n d))),
                        IntKind.i64.wrap (IntKind.u64.wrap (Int.tdiv (mag d) (Int.gcd n d)))),
                      true))))))) : t = some (redF n d) := by
  subst ht
  have hg := gcd_pos (n := n) h0
  obtain ⟨n1, n2⟩ := hn
  obtain ⟨d1, d2⟩ := hd
  have bn : 0 ≤ mag n ∧ mag n ≤ 9223372036854775808 := by unfold mag; omega
  have bd : 0 ≤ mag d ∧ mag d ≤ 9223372036854775808 := by unfold mag; omega
  have qn := div_bd hg bn.1 bn.2
  have qd := div_bd hg bd.1 bd.2
  rw [br_f (by simp; omega), br_f (by simp; omega), Int.tdiv_eq_ediv_of_nonneg bn.1, Int.tdiv_eq_ediv_of_nonneg bd.1]
  rw [wu64 qn.1 (by omega), wu64 qd.1 (by omega)]
  unfold redF mkR
  dsimp only
  by_cases c1 : 1000000000 < mag n / (Int.gcd n d : Int)
  · rw [br_t (by simpa using c1), if_pos (.inl c1)]
  · rw [br_f (by simpa using c1)]
    by_cases c2 : 1000000000 < mag d / (Int.gcd n d : Int)
    · rw [br_t (by simpa using c2), if_pos (.inr c2)]
    · rw [br_f (by simpa using c2), if_neg (by omega)]
      rw [w64 (x := mag n / (Int.gcd n d : Int)) (by omega) (by omega), w64 (x := mag d / (Int.gcd n d : Int)) (by omega) (by omega), w64 (by omega) (by omega)]
      have e : (!decide (n < (0 : Int)) == decide (d < (0 : Int))) = (decide (n < 0) != decide (d < 0)) := by cases decide (n < 0) <;> cases decide (d < 0) <;> rfl
      rw [e]
      cases (decide (n < 0) != decide (d < 0)) with
      | true => show some _ = some _; rw [Int.zero_sub]; rfl
      | false => rfl
theorem redI_eq {n d : Int} (hn : I64 n) (hd : I64 d) (h0 : d ≠ 0) : redI (n, d) = some (redF n d) := by
  refine redTail hn hd h0 ?_
  show ob (magI n) _ = _
  rw [magI_eq hn]
  show ob (magI d) _ = _
  rw [magI_eq hd]
  show ob (iterP redIL_step ((mag d).natAbs + 1) (n, d, (0, 0), mag n, mag d, mag n, mag d)) _ = _
  rw [red_walkI _ _ _ _ _ _ _ _ (by omega) (mag_nn n) (mag_nn d), gcd_mag]; rfl
theorem mkS_eq {n d : Int} (hn : I64 n) (hd : I64 d) (h0 : d ≠ 0) : mkS (n, d) = some (redF n d) := by
  refine redTail hn hd h0 ?_
  show ob (magI n) _ = _
  rw [magI_eq hn]
  show ob (magI d) _ = _
  rw [magI_eq hd]
  show ob (iterP mkSL_step ((mag d).natAbs + 1) (n, d, (0, 0), mag n, mag d, mag n, mag d)) _ = _
  rw [mk_walkS _ _ _ _ _ _ _ _ (by omega) (mag_nn n) (mag_nn d), gcd_mag]; rfl

/-- Whether a pair is a ratio in lowest terms, and how large it may be. -/
def vR (p : Int × Int) : Bool := vRat p.1 p.2
theorem validRatI_eq (p : Int × Int) : validRatI p = some (vR p) := by
  obtain ⟨n, d⟩ := p
  show ob (withinI (d, 1, 1000000000)) _ = _
  rw [within_eq]
  show br _ (ob (withinI (n, -1000000000, 1000000000)) _) _ = some (vRat n d)
  rw [within_eq]
  unfold vRat
  by_cases h : 1 ≤ d ∧ d ≤ 1000000000
  · rw [br_t (by simpa using h)]
    show br _ (ob (gcdI (n, d)) _) _ = _
    by_cases k : -1000000000 ≤ n ∧ n ≤ 1000000000
    · rw [br_t (by simpa using k), gcdI_eq h.1 h.2]
      simp only [h, k, decide_true, and_self, Bool.true_and, ob_s]
      congr 1
    · rw [br_f (by rw [← Bool.decide_and]; simpa using k)]
      simp only [h, k, decide_true, decide_false, and_self, Bool.true_and, Bool.false_and]
  · rw [br_f (by rw [← Bool.decide_and]; simpa using h)]
    simp only [h, decide_false, Bool.false_and]
theorem okRatS_eq (p : Int × Int) : okRatS p = some (vR p) := by
  obtain ⟨n, d⟩ := p
  rw [← validRatI_eq]
  show ob (withinI (d, 1, 1000000000)) _ = ob (withinI (d, 1, 1000000000)) _
  rw [within_eq]
  show br _ (ob (withinI (n, -1000000000, 1000000000)) _) _ = br _ (ob (withinI (n, -1000000000, 1000000000)) _) _
  rw [within_eq]
  by_cases h : 1 ≤ d ∧ d ≤ 1000000000
  · by_cases k : -1000000000 ≤ n ∧ n ≤ 1000000000
    · rw [br_t (by simpa using h), br_t (by simpa using h)]
      show br _ (ob (sizeS n) _) _ = br _ (ob (gcdI (n, d)) _) _
      rw [br_t (by simpa using k), br_t (by simpa using k), gcdI_eq h.1 h.2]
      have e : sizeS n = some (mag n) := by
        show br (decide (n < 0)) _ _ = _
        by_cases hn : n < 0
        · rw [br_t (by simpa using hn), mag_of_neg hn, w64 (by omega) (by omega)]; congr 1; omega
        · rw [br_f (by simpa using hn), mag_of_nn (by omega)]
      rw [e]
      show ob (gcdS (mag n, d)) _ = _
      rw [gcdS_eq (mag_nn n) h.1]
      have : Int.gcd (mag n) d = Int.gcd n d := by rw [gcd_nat, gcd_nat]; unfold mag; simp
      rw [this]
    · rw [br_t (by simpa using h), br_t (by simpa using h)]
      show br _ (ob (sizeS n) _) _ = br _ (ob (gcdI (n, d)) _) _
      rw [br_f (by rw [← Bool.decide_and]; simpa using k), br_f (by rw [← Bool.decide_and]; simpa using k)]
  · rw [br_f (by rw [← Bool.decide_and]; simpa using h), br_f (by rw [← Bool.decide_and]; simpa using h)]
theorem okRatS_same : okRatS = validRatI := by funext p; rw [okRatS_eq, validRatI_eq]
theorem vR_bd {p : Int × Int} (h : vR p = true) : 1 ≤ p.2 ∧ p.2 ≤ 1000000000 ∧ -1000000000 ≤ p.1 ∧ p.1 ≤ 1000000000 := vRat_bd h

/-- The ratio with its code. -/
def ratF (n d : Int) : (Int × Int) × Int := match mkR n d with
  | none => ((0, 0), 2)
  | some p => (p, 0)
theorem ratF_valid {n d : Int} (h0 : d ≠ 0) (h : (ratF n d).2 = 0) : vR (ratF n d).1 = true ∧ mkR n d = some (ratF n d).1 := by
  unfold ratF at h ⊢
  cases e : mkR n d with
  | none => rw [e] at h; cases h
  | some p => exact ⟨mkR_valid h0 e, rfl⟩
theorem makeRatI_eq {n d : Int} (hn : I64 n) (hd : I64 d) (h0 : d ≠ 0) : makeRatI (n, d) = some (ratF n d) := by
  show br (d == 0) _ (ob (redI (n, d)) _) = _
  rw [br_f (by simpa using h0), redI_eq hn hd h0]
  unfold redF ratF
  cases mkR n d <;> rfl

theorem pb {x y A B : Int} (h1 : -A ≤ x) (h2 : x ≤ A) (h3 : -B ≤ y) (h4 : y ≤ B) : -(A * B) ≤ x * y ∧ x * y ≤ A * B := by
  have hA : 0 ≤ A := by omega
  have hB : 0 ≤ B := by omega
  have k1 : (A - x) * (B + y) ≥ 0 := Int.mul_nonneg (by omega) (by omega)
  have k2 : (A + x) * (B - y) ≥ 0 := Int.mul_nonneg (by omega) (by omega)
  have k3 : (A - x) * (B - y) ≥ 0 := Int.mul_nonneg (by omega) (by omega)
  have k4 : (A + x) * (B + y) ≥ 0 := Int.mul_nonneg (by omega) (by omega)
  rw [Int.sub_mul, Int.mul_add, Int.mul_add] at k1
  rw [Int.add_mul, Int.mul_sub, Int.mul_sub] at k2
  rw [Int.sub_mul, Int.mul_sub, Int.mul_sub] at k3
  rw [Int.add_mul, Int.mul_add, Int.mul_add] at k4
  omega
theorem pp1 {x y : Int} (h1 : 1 ≤ x) (h2 : 1 ≤ y) : 1 ≤ x * y := by
  have : 0 < x * y := Int.mul_pos (by omega) (by omega)
  omega

/-- What two ratios come to by a sum of products. -/
theorem subRatI_eq (a b : Int × Int) : subRatI (a, b) = some (if vR a = true ∧ vR b = true then ratF (a.1 * b.2 - b.1 * a.2) (a.2 * b.2) else ((0, 0), 1)) := by
  show ob (validRatI a) _ = _
  rw [validRatI_eq]
  cases ha : vR a with
  | false => rfl
  | true =>
    show ob (validRatI b) _ = _
    rw [validRatI_eq]
    cases hb : vR b with
    | false => rfl
    | true =>
      obtain ⟨a1, a2, a3, a4⟩ := vR_bd ha
      obtain ⟨b1, b2, b3, b4⟩ := vR_bd hb
      show ob (makeRatI (IntKind.i64.wrap (IntKind.i64.wrap (a.1 * b.2) - IntKind.i64.wrap (b.1 * a.2)), IntKind.i64.wrap (a.2 * b.2))) _ = _
      have p1 := pb (x := a.1) (y := b.2) (A := 1000000000) (B := 1000000000) a3 a4 (by omega) (by omega)
      have p2 := pb (x := b.1) (y := a.2) (A := 1000000000) (B := 1000000000) b3 b4 (by omega) (by omega)
      have p3 := pb (x := a.2) (y := b.2) (A := 1000000000) (B := 1000000000) (by omega) a2 (by omega) b2
      have p4 := pp1 a1 b1
      rw [w64 (x := a.1 * b.2) (by omega) (by omega), w64 (x := b.1 * a.2) (by omega) (by omega), w64 (x := a.2 * b.2) (by omega) (by omega), w64 (by omega) (by omega)]
      rw [makeRatI_eq ⟨by omega, by omega⟩ ⟨by omega, by omega⟩ (by omega)]; rfl
theorem mulRatI_eq (a b : Int × Int) : mulRatI (a, b) = some (if vR a = true ∧ vR b = true then ratF (a.1 * b.1) (a.2 * b.2) else ((0, 0), 1)) := by
  show ob (validRatI a) _ = _
  rw [validRatI_eq]
  cases ha : vR a with
  | false => rfl
  | true =>
    show ob (validRatI b) _ = _
    rw [validRatI_eq]
    cases hb : vR b with
    | false => rfl
    | true =>
      obtain ⟨a1, a2, a3, a4⟩ := vR_bd ha
      obtain ⟨b1, b2, b3, b4⟩ := vR_bd hb
      show ob (makeRatI (IntKind.i64.wrap (a.1 * b.1), IntKind.i64.wrap (a.2 * b.2))) _ = _
      have p1 := pb (x := a.1) (y := b.1) (A := 1000000000) (B := 1000000000) a3 a4 b3 b4
      have p3 := pb (x := a.2) (y := b.2) (A := 1000000000) (B := 1000000000) (by omega) a2 (by omega) b2
      have p4 := pp1 a1 b1
      rw [w64 (x := a.1 * b.1) (by omega) (by omega), w64 (x := a.2 * b.2) (by omega) (by omega)]
      rw [makeRatI_eq ⟨by omega, by omega⟩ ⟨by omega, by omega⟩ (by omega)]; rfl

theorem addS_eq {a b : Int × Int} (ha : vR a = true) (hb : vR b = true) : addS (a, b) = some (redF (a.1 * b.2 + b.1 * a.2) (a.2 * b.2)) := by
  obtain ⟨a1, a2, a3, a4⟩ := vR_bd ha
  obtain ⟨b1, b2, b3, b4⟩ := vR_bd hb
  show ob (mkS (IntKind.i64.wrap (IntKind.i64.wrap (a.1 * b.2) + IntKind.i64.wrap (b.1 * a.2)), IntKind.i64.wrap (a.2 * b.2))) _ = _
  have p1 := pb (x := a.1) (y := b.2) (A := 1000000000) (B := 1000000000) a3 a4 (by omega) (by omega)
  have p2 := pb (x := b.1) (y := a.2) (A := 1000000000) (B := 1000000000) b3 b4 (by omega) (by omega)
  have p3 := pb (x := a.2) (y := b.2) (A := 1000000000) (B := 1000000000) (by omega) a2 (by omega) b2
  have p4 := pp1 a1 b1
  rw [w64 (x := a.1 * b.2) (by omega) (by omega), w64 (x := b.1 * a.2) (by omega) (by omega), w64 (x := a.2 * b.2) (by omega) (by omega), w64 (by omega) (by omega)]
  rw [mkS_eq ⟨by omega, by omega⟩ ⟨by omega, by omega⟩ (by omega)]; rfl
theorem mulS_eq {a b : Int × Int} (ha : vR a = true) (hb : vR b = true) : mulS (a, b) = some (redF (a.1 * b.1) (a.2 * b.2)) := by
  obtain ⟨a1, a2, a3, a4⟩ := vR_bd ha
  obtain ⟨b1, b2, b3, b4⟩ := vR_bd hb
  show ob (mkS (IntKind.i64.wrap (a.1 * b.1), IntKind.i64.wrap (a.2 * b.2))) _ = _
  have p1 := pb (x := a.1) (y := b.1) (A := 1000000000) (B := 1000000000) a3 a4 b3 b4
  have p3 := pb (x := a.2) (y := b.2) (A := 1000000000) (B := 1000000000) (by omega) a2 (by omega) b2
  have p4 := pp1 a1 b1
  rw [w64 (x := a.1 * b.1) (by omega) (by omega), w64 (x := a.2 * b.2) (by omega) (by omega)]
  rw [mkS_eq ⟨by omega, by omega⟩ ⟨by omega, by omega⟩ (by omega)]; rfl
theorem ifAnd {α : Type} {p q : Bool} {a b : α} : (if p = true ∧ q = true then a else b) = br p (br q a b) b := by cases p <;> cases q <;> simp [br]
end Rx
end Go.Proofs.YthfgpnpoocepeaaGreat
