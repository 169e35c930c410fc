/- Ratios in lowest terms, as rational numbers. No program in sight. No conditions. -/
import Derived.Test.YthehdbedojcpdaaRxRatAddLaw
namespace Go.Proofs.Ythehdbedojcpdaa
namespace Rx
open Go

/-! ### Ratios in lowest terms -/
theorem mkR_parts {n d : Int} {p : Int × Int} (hd : 0 < d) (h : mkR n d = some p) : ∃ g : Int, 1 ≤ g ∧ n = g * p.1 ∧ d = g * p.2 := by
  have g1 := gcd_pos (n := n) (show d ≠ 0 by omega)
  refine ⟨Int.gcd n d, g1, ?_⟩
  have d1 : (Int.gcd n d : Int) ∣ n := Int.gcd_dvd_left ..
  have d2 : (Int.gcd n d : Int) ∣ d := Int.gcd_dvd_right ..
  unfold mkR at h
  dsimp only at h
  generalize (Int.gcd n d : Int) = g at *
  split at h
  · cases h
  · cases h
    obtain ⟨n', rfl⟩ := d1
    obtain ⟨d', rfl⟩ := d2
    dsimp only
    have e1 : decide (g * d' < 0) = false := decide_eq_false (by omega)
    have e2 : mag (g * d') = g * d' := mag_of_nn (by omega)
    rw [e1, e2, Int.mul_ediv_cancel_left _ (show g ≠ 0 by omega)]
    by_cases hn : g * n' < 0
    · have e3 : mag (g * n') = g * (-n') := by rw [mag_of_neg hn, Int.mul_neg]
      rw [decide_eq_true hn]
      show g * n' = g * (-(mag (g * n') / g)) ∧ _
      rw [e3, Int.mul_ediv_cancel_left _ (show g ≠ 0 by omega), Int.neg_neg]
      exact ⟨rfl, rfl⟩
    · have e3 : mag (g * n') = g * n' := mag_of_nn (by omega)
      rw [decide_eq_false hn]
      show g * n' = g * (mag (g * n') / g) ∧ _
      rw [e3, Int.mul_ediv_cancel_left _ (show g ≠ 0 by omega)]
      exact ⟨rfl, rfl⟩
theorem mkR_cross {n d : Int} {p : Int × Int} (hd : 0 < d) (h : mkR n d = some p) : n * p.2 = p.1 * d := by
  obtain ⟨g, _, h1, h2⟩ := mkR_parts hd h
  generalize p.1 = x at *
  generalize p.2 = y at *
  subst h1; subst h2
  rw [Int.mul_comm g x, Int.mul_assoc]
theorem cop_dvd {p : Int × Int} {x y : Int} (hp : vR p = true) (h : p.1 * x = y * p.2) : p.2.natAbs ∣ x.natAbs := by
  have hg : Nat.gcd p.1.natAbs p.2.natAbs = 1 := vRat_gcd hp
  have h1 : p.2.natAbs ∣ p.1.natAbs * x.natAbs := by
    rw [← Int.natAbs_mul, h, Int.natAbs_mul]
    exact Nat.dvd_mul_left ..
  exact Nat.Coprime.dvd_of_dvd_mul_left (show Nat.Coprime p.2.natAbs p.1.natAbs by rw [Nat.Coprime, Nat.gcd_comm]; exact hg) h1
theorem rat_unique {p q : Int × Int} (hp : vR p = true) (hq : vR q = true) (h : p.1 * q.2 = q.1 * p.2) : p = q := by
  have b1 := vR_bd hp
  have b2 := vR_bd hq
  have e := Nat.dvd_antisymm (cop_dvd hp h) (cop_dvd hq h.symm)
  have e2 : p.2 = q.2 := by omega
  have e1 : p.1 = q.1 := by
    rw [e2] at h
    exact Int.eq_of_mul_eq_mul_right (by omega) h
  exact Prod.ext e1 e2
theorem mkR_some {n d : Int} (hn : -1000000000 ≤ n ∧ n ≤ 1000000000) (hd : 1 ≤ d ∧ d ≤ 1000000000) : ∃ p, mkR n d = some p := by
  have hg := gcd_pos (n := n) (d := d) (by omega)
  have qn := div_bd (x := mag n) (B := 1000000000) hg (mag_nn n) (by unfold mag; omega)
  have qd := div_bd (x := mag d) (B := 1000000000) hg (mag_nn d) (by unfold mag; omega)
  unfold mkR
  dsimp only
  rw [if_neg (by omega)]
  exact ⟨_, rfl⟩
theorem mkR_self {p : Int × Int} (hp : vR p = true) : mkR p.1 p.2 = some p := by
  obtain ⟨b1, b2, b3, b4⟩ := vR_bd hp
  obtain ⟨q, hq⟩ := mkR_some (n := p.1) (d := p.2) ⟨b3, b4⟩ ⟨b1, b2⟩
  have vq : vR q = true := mkR_valid (by omega) hq
  rw [hq, rat_unique vq hp (mkR_cross (by omega) hq).symm]
theorem ratF_self {p : Int × Int} (hp : vR p = true) : ratF p.1 p.2 = (p, 0) := by
  unfold ratF
  rw [mkR_self hp]
theorem ratF_zero {d : Int} (hd : 1 ≤ d ∧ d ≤ 1000000000) : ratF 0 d = ((0, 1), 0) := by
  obtain ⟨q, hq⟩ := mkR_some (n := 0) (d := d) (by omega) hd
  have vq : vR q = true := mkR_valid (by omega) hq
  have h := mkR_cross (by omega) hq
  have v0 : vR (0, 1) = true := by decide
  unfold ratF
  have h0 : q.1 = 0 := by
    rw [Int.zero_mul] at h
    rcases Int.mul_eq_zero.1 h.symm with h | h
    · exact h
    · omega
  rw [hq, rat_unique vq v0 (by show q.1 * 1 = 0 * q.2; rw [h0, Int.zero_mul, Int.zero_mul])]
theorem ratF_code (n d : Int) : (ratF n d).2 = 0 ∨ (ratF n d).2 = 2 := by
  unfold ratF
  cases mkR n d with
  | none => exact .inr rfl
  | some p => exact .inl rfl

/-! ### Ratios as numbers -/
noncomputable def val (p : Int × Int) : Rat := (p.1 : Rat) / (p.2 : Rat)
theorem frac_eq {a b c d : Rat} (hb : b ≠ 0) (hd : d ≠ 0) (h : a * d = c * b) : a / b = c / d := by grind
theorem frac_cross {a b c d : Rat} (hb : b ≠ 0) (hd : d ≠ 0) (h : a / b = c / d) : a * d = c * b := by grind
theorem frac_sub {a b c d : Rat} (hb : b ≠ 0) (hd : d ≠ 0) : (a * d - c * b) / (b * d) = a / b - c / d := by grind
theorem frac_mul {a b c d : Rat} (hb : b ≠ 0) (hd : d ≠ 0) : (a * c) / (b * d) = (a / b) * (c / d) := by grind
theorem frac_add {a b c d : Rat} (hb : b ≠ 0) (hd : d ≠ 0) : (a * d + c * b) / (b * d) = a / b + c / d := by grind
theorem cast_ne {a : Int} (h : 0 < a) : (a : Rat) ≠ 0 := by
  intro e
  have : a = 0 := Rat.intCast_inj.1 e
  omega
theorem val_ratF {n d : Int} (hd : 0 < d) (h : (ratF n d).2 = 0) : vR (ratF n d).1 = true ∧ val (ratF n d).1 = (n : Rat) / (d : Rat) := by
  obtain ⟨v, hm⟩ := ratF_valid (by omega) h
  have hc := mkR_cross hd hm
  have hp := vR_bd v
  refine ⟨v, ?_⟩
  generalize (ratF n d).1 = p at hc hp
  have hc : (n : Rat) * (p.2 : Rat) = (p.1 : Rat) * (d : Rat) := by
    rw [← Rat.intCast_mul, ← Rat.intCast_mul, hc]
  exact frac_eq (cast_ne (by omega)) (cast_ne hd) hc.symm
theorem val_inj {p q : Int × Int} (hp : vR p = true) (hq : vR q = true) (h : val p = val q) : p = q := by
  have bp := vR_bd hp
  have bq := vR_bd hq
  have hc := frac_cross (cast_ne (by omega)) (cast_ne (by omega)) h
  rw [← Rat.intCast_mul, ← Rat.intCast_mul] at hc
  exact rat_unique hp hq (Rat.intCast_inj.1 hc)
theorem den_ne {p : Int × Int} (hp : vR p = true) : ((p.2 : Int) : Rat) ≠ 0 := cast_ne (by have := vR_bd hp; omega)
theorem den_pos {p q : Int × Int} (hp : vR p = true) (hq : vR q = true) : 0 < p.2 * q.2 := by
  have := pp1 (vR_bd hp).1 (vR_bd hq).1
  omega
theorem val_sub {a b : Int × Int} (ha : vR a = true) (hb : vR b = true) (h : (ratF (a.1 * b.2 - b.1 * a.2) (a.2 * b.2)).2 = 0) : vR (ratF (a.1 * b.2 - b.1 * a.2) (a.2 * b.2)).1 = true ∧ val (ratF (a.1 * b.2 - b.1 * a.2) (a.2 * b.2)).1 = val a - val b := by
  obtain ⟨v, e⟩ := val_ratF (den_pos ha hb) h
  refine ⟨v, e.trans ?_⟩
  rw [Rat.intCast_sub, Rat.intCast_mul, Rat.intCast_mul, Rat.intCast_mul]
  exact frac_sub (den_ne ha) (den_ne hb)
theorem val_mul {a b : Int × Int} (ha : vR a = true) (hb : vR b = true) (h : (ratF (a.1 * b.1) (a.2 * b.2)).2 = 0) : vR (ratF (a.1 * b.1) (a.2 * b.2)).1 = true ∧ val (ratF (a.1 * b.1) (a.2 * b.2)).1 = val a * val b := by
  obtain ⟨v, e⟩ := val_ratF (den_pos ha hb) h
  refine ⟨v, e.trans ?_⟩
  rw [Rat.intCast_mul, Rat.intCast_mul]
  exact frac_mul (den_ne ha) (den_ne hb)
theorem val_add {a b : Int × Int} (ha : vR a = true) (hb : vR b = true) (h : (ratF (a.1 * b.2 + b.1 * a.2) (a.2 * b.2)).2 = 0) : vR (ratF (a.1 * b.2 + b.1 * a.2) (a.2 * b.2)).1 = true ∧ val (ratF (a.1 * b.2 + b.1 * a.2) (a.2 * b.2)).1 = val a + val b := by
  obtain ⟨v, e⟩ := val_ratF (den_pos ha hb) h
  refine ⟨v, e.trans ?_⟩
  rw [Rat.intCast_add, Rat.intCast_mul, Rat.intCast_mul, Rat.intCast_mul]
  exact frac_add (den_ne ha) (den_ne hb)
theorem val_mk {n d : Int} {k : Int × Int} (hd : 0 < d) (h : mkR n d = some k) : vR k = true ∧ val k = (n : Rat) / (d : Rat) := by
  have e : ratF n d = (k, 0) := by unfold ratF; rw [h]
  have := val_ratF (n := n) (d := d) hd (by rw [e])
  rw [e] at this
  exact this

theorem v11 : vR (1, 1) = true := by decide
theorem v01 : vR (0, 1) = true := by decide
theorem val11 : val (1, 1) = 1 := by unfold val; simp; grind
theorem val01 : val (0, 1) = 0 := by unfold val; simp; grind
theorem neg_val (k : Int × Int) : val (-k.1, k.2) = -val k := by
  unfold val
  rw [Rat.intCast_neg]
  grind
theorem ratF_same {n : Int} (hn : 0 < n) : ratF n n = ((1, 1), 0) := by
  have hg : (Int.gcd n n : Int) = n := by rw [Int.gcd_self]; omega
  have hm : mag n = n := by unfold mag; omega
  have : mkR n n = some (1, 1) := by
    unfold mkR
    dsimp only
    rw [hg, hm, Int.ediv_self (by omega)]
    simp
  unfold ratF
  rw [this]
theorem mul_back {x y : Int × Int} (hx : vR x = true) (hy : vR y = true) (h : val x * val y = 1) : mulRatS ((x.1, x.2), y.1, y.2) = some ((1, 1), 0) := by
  rw [mulRatS_same]
  have e := mulRatI_eq x y
  rw [if_pos ⟨hx, hy⟩] at e
  refine e.trans ?_
  have hp := den_pos hx hy
  have hq : x.1 * y.1 = x.2 * y.2 := by
    have h1 : ((x.1 : Int) : Rat) * y.1 / (x.2 * y.2) = 1 := (frac_mul (den_ne hx) (den_ne hy)).trans h
    have h2 : ((x.2 : Int) : Rat) * y.2 ≠ 0 := by rw [← Rat.intCast_mul]; exact cast_ne hp
    have h3 : ((x.1 : Int) : Rat) * y.1 = x.2 * y.2 := by grind
    rw [← Rat.intCast_mul, ← Rat.intCast_mul] at h3
    exact Rat.intCast_inj.1 h3
  rw [hq, ratF_same hp]

end Rx
end Go.Proofs.Ythehdbedojcpdaa
