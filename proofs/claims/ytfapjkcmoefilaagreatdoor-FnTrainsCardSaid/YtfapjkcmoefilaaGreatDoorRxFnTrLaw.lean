/- Ratios in lowest terms, as rational numbers. No program in sight. No conditions. -/
import Derived.Test.YtfapjkcmoefilaaGreatDoorRxEpiLaw
import Derived.Test.YtfapjkcmoefilaaGreatDoorRxRatAddLaw
import Derived.Test.YtfapjkcmoefilaaGreatDoorRxReadLaw
import Derived.Test.YtfapjkcmoefilaaGreatDoorRxSortLaw
import Derived.Test.YtfapjkcmoefilaaGreatDoorRxReadTLaw
import Derived.Test.YtfapjkcmoefilaaGreatDoorRxSrcLaw
import Derived.Test.YtfapjkcmoefilaaGreatDoorRxFnTr
namespace Go.Proofs.YtfapjkcmoefilaaGreatDoor
namespace Rx
open Go

/-! ### Ratios in lowest terms -/
theorem mkR_parts {n d : Int} {p : Int × Int} (hd : 0 < d) (h : mkR n d = some p) : ∃ g : Int, 1 ≤ g ∧ n = g * p.1 ∧ d = g * p.2 := by
  have g1 := gcd_pos (n := n) (show d ≠ 0 by omega)
  refine ⟨Int.gcd n d, g1, ?_⟩
  have d1 : (Int.gcd n d : Int) ∣ n := Int.gcd_dvd_left ..
  have d2 : (Int.gcd n d : Int) ∣ d := Int.gcd_dvd_right ..
  unfold mkR at h
  dsimp only at h
  generalize (Int.gcd n d : Int) = g at *
  split at h
  · cases h
  · cases h
    obtain ⟨n', rfl⟩ := d1
    obtain ⟨d', rfl⟩ := d2
    dsimp only
    have e1 : decide (g * d' < 0) = false := decide_eq_false (by omega)
    have e2 : mag (g * d') = g * d' := mag_of_nn (by omega)
    rw [e1, e2, Int.mul_ediv_cancel_left _ (show g ≠ 0 by omega)]
    by_cases hn : g * n' < 0
    · have e3 : mag (g * n') = g * (-n') := by rw [mag_of_neg hn, Int.mul_neg]
      rw [decide_eq_true hn]
      show g * n' = g * (-(mag (g * n') / g)) ∧ _
      rw [e3, Int.mul_ediv_cancel_left _ (show g ≠ 0 by omega), Int.neg_neg]
      exact ⟨rfl, rfl⟩
    · have e3 : mag (g * n') = g * n' := mag_of_nn (by omega)
      rw [decide_eq_false hn]
      show g * n' = g * (mag (g * n') / g) ∧ _
      rw [e3, Int.mul_ediv_cancel_left _ (show g ≠ 0 by omega)]
      exact ⟨rfl, rfl⟩
theorem mkR_cross {n d : Int} {p : Int × Int} (hd : 0 < d) (h : mkR n d = some p) : n * p.2 = p.1 * d := by
  obtain ⟨g, _, h1, h2⟩ := mkR_parts hd h
  generalize p.1 = x at *
  generalize p.2 = y at *
  subst h1; subst h2
  rw [Int.mul_comm g x, Int.mul_assoc]
theorem cop_dvd {p : Int × Int} {x y : Int} (hp : vR p = true) (h : p.1 * x = y * p.2) : p.2.natAbs ∣ x.natAbs := by
  have hg : Nat.gcd p.1.natAbs p.2.natAbs = 1 := vRat_gcd hp
  have h1 : p.2.natAbs ∣ p.1.natAbs * x.natAbs := by
    rw [← Int.natAbs_mul, h, Int.natAbs_mul]
    exact Nat.dvd_mul_left ..
  exact Nat.Coprime.dvd_of_dvd_mul_left (show Nat.Coprime p.2.natAbs p.1.natAbs by rw [Nat.Coprime, Nat.gcd_comm]; exact hg) h1
theorem rat_unique {p q : Int × Int} (hp : vR p = true) (hq : vR q = true) (h : p.1 * q.2 = q.1 * p.2) : p = q := by
  have b1 := vR_bd hp
  have b2 := vR_bd hq
  have e := Nat.dvd_antisymm (cop_dvd hp h) (cop_dvd hq h.symm)
  have e2 : p.2 = q.2 := by omega
  have e1 : p.1 = q.1 := by
    rw [e2] at h
    exact Int.eq_of_mul_eq_mul_right (by omega) h
  exact Prod.ext e1 e2
theorem mkR_some {n d : Int} (hn : -1000000000 ≤ n ∧ n ≤ 1000000000) (hd : 1 ≤ d ∧ d ≤ 1000000000) : ∃ p, mkR n d = some p := by
  have hg := gcd_pos (n := n) (d := d) (by omega)
  have qn := div_bd (x := mag n) (B := 1000000000) hg (mag_nn n) (by unfold mag; omega)
  have qd := div_bd (x := mag d) (B := 1000000000) hg (mag_nn d) (by unfold mag; omega)
  unfold mkR
  dsimp only
  rw [if_neg (by omega)]
  exact ⟨_, rfl⟩
theorem mkR_self {p : Int × Int} (hp : vR p = true) : mkR p.1 p.2 = some p := by
  obtain ⟨b1, b2, b3, b4⟩ := vR_bd hp
  obtain ⟨q, hq⟩ := mkR_some (n := p.1) (d := p.2) ⟨b3, b4⟩ ⟨b1, b2⟩
  have vq : vR q = true := mkR_valid (by omega) hq
  rw [hq, rat_unique vq hp (mkR_cross (by omega) hq).symm]
theorem ratF_self {p : Int × Int} (hp : vR p = true) : ratF p.1 p.2 = (p, 0) := by
  unfold ratF
  rw [mkR_self hp]
theorem ratF_zero {d : Int} (hd : 1 ≤ d ∧ d ≤ 1000000000) : ratF 0 d = ((0, 1), 0) := by
  obtain ⟨q, hq⟩ := mkR_some (n := 0) (d := d) (by omega) hd
  have vq : vR q = true := mkR_valid (by omega) hq
  have h := mkR_cross (by omega) hq
  have v0 : vR (0, 1) = true := by decide
  unfold ratF
  have h0 : q.1 = 0 := by
    rw [Int.zero_mul] at h
    rcases Int.mul_eq_zero.1 h.symm with h | h
    · exact h
    · omega
  rw [hq, rat_unique vq v0 (by show q.1 * 1 = 0 * q.2; rw [h0, Int.zero_mul, Int.zero_mul])]
theorem ratF_code (n d : Int) : (ratF n d).2 = 0 ∨ (ratF n d).2 = 2 := by
  by_cases h : (ratF n d).2 = 0
  · exact .inl h
  · exact .inr (ratF_two h)

/-! ### Ratios as numbers -/
noncomputable def val (p : Int × Int) : Rat := (p.1 : Rat) / (p.2 : Rat)
theorem frac_eq {a b c d : Rat} (hb : b ≠ 0) (hd : d ≠ 0) (h : a * d = c * b) : a / b = c / d := by grind
theorem frac_cross {a b c d : Rat} (hb : b ≠ 0) (hd : d ≠ 0) (h : a / b = c / d) : a * d = c * b := by grind
theorem frac_sub {a b c d : Rat} (hb : b ≠ 0) (hd : d ≠ 0) : (a * d - c * b) / (b * d) = a / b - c / d := by grind
theorem frac_mul {a b c d : Rat} (hb : b ≠ 0) (hd : d ≠ 0) : (a * c) / (b * d) = (a / b) * (c / d) := by grind
theorem frac_add {a b c d : Rat} (hb : b ≠ 0) (hd : d ≠ 0) : (a * d + c * b) / (b * d) = a / b + c / d := by grind
theorem cast_ne {a : Int} (h : 0 < a) : (a : Rat) ≠ 0 := by
  intro e
  have : a = 0 := Rat.intCast_inj.1 e
  omega
theorem val_ratF {n d : Int} (hd : 0 < d) (h : (ratF n d).2 = 0) : vR (ratF n d).1 = true ∧ val (ratF n d).1 = (n : Rat) / (d : Rat) := by
  obtain ⟨v, hm⟩ := ratF_valid (by omega) h
  have hc := mkR_cross hd hm
  have hp := vR_bd v
  refine ⟨v, ?_⟩
  generalize (ratF n d).1 = p at hc hp
  have hc : (n : Rat) * (p.2 : Rat) = (p.1 : Rat) * (d : Rat) := by
    rw [← Rat.intCast_mul, ← Rat.intCast_mul, hc]
  exact frac_eq (cast_ne (by omega)) (cast_ne hd) hc.symm
theorem val_inj {p q : Int × Int} (hp : vR p = true) (hq : vR q = true) (h : val p = val q) : p = q := by
  have bp := vR_bd hp
  have bq := vR_bd hq
  have hc := frac_cross (cast_ne (by omega)) (cast_ne (by omega)) h
  rw [← Rat.intCast_mul, ← Rat.intCast_mul] at hc
  exact rat_unique hp hq (Rat.intCast_inj.1 hc)
theorem den_ne {p : Int × Int} (hp : vR p = true) : ((p.2 : Int) : Rat) ≠ 0 := cast_ne (by have := vR_bd hp; omega)
theorem den_pos {p q : Int × Int} (hp : vR p = true) (hq : vR q = true) : 0 < p.2 * q.2 := by
  have := pp1 (vR_bd hp).1 (vR_bd hq).1
  omega
theorem val_sub {a b : Int × Int} (ha : vR a = true) (hb : vR b = true) (h : (ratF (a.1 * b.2 - b.1 * a.2) (a.2 * b.2)).2 = 0) : vR (ratF (a.1 * b.2 - b.1 * a.2) (a.2 * b.2)).1 = true ∧ val (ratF (a.1 * b.2 - b.1 * a.2) (a.2 * b.2)).1 = val a - val b := by
  obtain ⟨v, e⟩ := val_ratF (den_pos ha hb) h
  refine ⟨v, e.trans ?_⟩
  rw [Rat.intCast_sub, Rat.intCast_mul, Rat.intCast_mul, Rat.intCast_mul]
  exact frac_sub (den_ne ha) (den_ne hb)
theorem val_mul {a b : Int × Int} (ha : vR a = true) (hb : vR b = true) (h : (ratF (a.1 * b.1) (a.2 * b.2)).2 = 0) : vR (ratF (a.1 * b.1) (a.2 * b.2)).1 = true ∧ val (ratF (a.1 * b.1) (a.2 * b.2)).1 = val a * val b := by
  obtain ⟨v, e⟩ := val_ratF (den_pos ha hb) h
  refine ⟨v, e.trans ?_⟩
  rw [Rat.intCast_mul, Rat.intCast_mul]
  exact frac_mul (den_ne ha) (den_ne hb)
theorem val_add {a b : Int × Int} (ha : vR a = true) (hb : vR b = true) (h : (ratF (a.1 * b.2 + b.1 * a.2) (a.2 * b.2)).2 = 0) : vR (ratF (a.1 * b.2 + b.1 * a.2) (a.2 * b.2)).1 = true ∧ val (ratF (a.1 * b.2 + b.1 * a.2) (a.2 * b.2)).1 = val a + val b := by
  obtain ⟨v, e⟩ := val_ratF (den_pos ha hb) h
  refine ⟨v, e.trans ?_⟩
  rw [Rat.intCast_add, Rat.intCast_mul, Rat.intCast_mul, Rat.intCast_mul]
  exact frac_add (den_ne ha) (den_ne hb)
theorem val_mk {n d : Int} {k : Int × Int} (hd : 0 < d) (h : mkR n d = some k) : vR k = true ∧ val k = (n : Rat) / (d : Rat) := by
  have e : ratF n d = (k, 0) := by unfold ratF; rw [h]
  have := val_ratF (n := n) (d := d) hd (by rw [e])
  rw [e] at this
  exact this

theorem v11 : vR (1, 1) = true := by decide
theorem v01 : vR (0, 1) = true := by decide
theorem val11 : val (1, 1) = 1 := by unfold val; simp; grind
theorem val01 : val (0, 1) = 0 := by unfold val; simp; grind
theorem neg_val (k : Int × Int) : val (-k.1, k.2) = -val k := by
  unfold val
  rw [Rat.intCast_neg]
  grind
theorem ratF_same {n : Int} (hn : 0 < n) : ratF n n = ((1, 1), 0) := by
  have hg : (Int.gcd n n : Int) = n := by rw [Int.gcd_self]; omega
  have hm : mag n = n := by unfold mag; omega
  have : mkR n n = some (1, 1) := by
    unfold mkR
    dsimp only
    rw [hg, hm, Int.ediv_self (by omega)]
    simp
  unfold ratF
  rw [this]
theorem mul_back {x y : Int × Int} (hx : vR x = true) (hy : vR y = true) (h : val x * val y = 1) : mulRatS ((x.1, x.2), y.1, y.2) = some ((1, 1), 0) := by
  rw [mulRatS_same]
  have e := mulRatI_eq x y
  rw [if_pos ⟨hx, hy⟩] at e
  refine e.trans ?_
  have hp := den_pos hx hy
  have hq : x.1 * y.1 = x.2 * y.2 := by
    have h1 : ((x.1 : Int) : Rat) * y.1 / (x.2 * y.2) = 1 := (frac_mul (den_ne hx) (den_ne hy)).trans h
    have h2 : ((x.2 : Int) : Rat) * y.2 ≠ 0 := by rw [← Rat.intCast_mul]; exact cast_ne hp
    have h3 : ((x.1 : Int) : Rat) * y.1 = x.2 * y.2 := by grind
    rw [← Rat.intCast_mul, ← Rat.intCast_mul] at h3
    exact Rat.intCast_inj.1 h3
  rw [hq, ratF_same hp]

end Rx
end Go.Proofs.YtfapjkcmoefilaaGreatDoor

namespace Go.Proofs.YtfapjkcmoefilaaGreatDoor
namespace Rx
open Go

theorem dval_app : ∀ (l : List UInt8) (a : Nat) (b : UInt8), dval a (l ++ [b]) = nxt (dval a l) b
  | [], _, _ => rfl
  | c :: l, a, b => by
    rw [List.cons_append, dval_cons, dval_cons]
    exact dval_app l _ b
theorem dig_nat {m : Nat} (h : m < 10) : (UInt8.ofNat (48 + m)).toNat = 48 + m := by
  have := dig_byte h
  omega
theorem dval_dec : ∀ (u : Nat), dval 0 (Lib.decDigits u) = u := by
  intro u
  induction u using Nat.strongRecOn with
  | ind u ih =>
    by_cases h : u < 10
    · rw [dec_small h, dval_cons, nxt_eq, dig_nat h]
      show 10 * 0 + (48 + u - 48) = u
      omega
    · rw [dec_big h, dval_app, ih (u / 10) (by omega), nxt_eq, dig_nat (by omega)]
      omega
theorem numF_dec {n : Int} (h : 0 ≤ n ∧ n ≤ 1000000) : numF (decB n) = (n, true) := by
  have hl : (decB n).data.toList = Lib.decDigits n.toNat := by
    show Lib.itoa n = _
    unfold Lib.itoa
    rw [if_neg (by omega)]
  have hlen := dec_len 6 n.toNat (by omega)
  have hall : (Lib.decDigits n.toNat).all isD = true := List.all_eq_true.2 fun b hb => dig_is _ b hb
  have hneg : negL (Lib.decDigits n.toNat) = false := by
    unfold negL
    cases hd : Lib.decDigits n.toNat with
    | nil => rfl
    | cons c r =>
      have hc := dig_is n.toNat c (by rw [hd]; simp)
      have : c ≠ 45 := fun e => by rw [e] at hc; exact absurd hc (by decide)
      simp [this]
  have ht : tailL (Lib.decDigits n.toNat) = Lib.decDigits n.toNat := by unfold tailL; rw [hneg]; rfl
  have hv : numV (Lib.decDigits n.toNat) = n := by
    unfold numV
    rw [hneg, ht, dval_dec]
    show ((n.toNat : Nat) : Int) = n
    omega
  unfold numF
  rw [hl, ht, hv, if_pos ⟨⟨by omega, by omega⟩, hall, rfl⟩]

end Rx
end Go.Proofs.YtfapjkcmoefilaaGreatDoor

namespace Go.Proofs.YtfapjkcmoefilaaGreatDoor
namespace Rx
open Go

/-! ### Sums and products -/
def sz : List Int → Int
  | [] => 0
  | x :: l => x + sz l
def pz : List Int → Rat
  | [] => 1
  | x :: l => (x : Rat) * pz l
theorem sz_perm {a b : List Int} (h : a.Perm b) : sz a = sz b := by
  induction h with
  | nil => rfl
  | cons x _ ih => simp only [sz, ih]
  | swap x y l => simp only [sz]; omega
  | trans _ _ h1 h2 => exact h1.trans h2
theorem pz_perm {a b : List Int} (h : a.Perm b) : pz a = pz b := by
  induction h with
  | nil => rfl
  | cons x _ ih => simp only [pz, ih]
  | swap x y l => simp only [pz]; grind
  | trans _ _ h1 h2 => exact h1.trans h2
def sg : Nat → Rat
  | 0 => 1
  | n + 1 => -sg n
theorem sg_sq : ∀ n, sg n * sg n = 1
  | 0 => by simp [sg]
  | n + 1 => by
    have := sg_sq n
    simp only [sg]; grind
def pq : List (Int × Int) → Rat
  | [] => 1
  | y :: l => (-(y.1 : Rat) / (y.2 : Rat)) * pq l
theorem pq_step {a b q z s f : Rat} (hb : b ≠ 0) (h : q * z = s * f) : (-a / b) * q * (b * z) = -s * (a * f) := by grind
theorem pq_eq : ∀ (t : List (Int × Int)), (∀ y ∈ t, 0 < y.2) → pq t * pz (t.map (·.2)) = sg t.length * pz (t.map (·.1))
  | [], _ => by simp [pq, pz, sg]
  | y :: t, h => by
    have ih := pq_eq t (fun z hz => h z (List.mem_cons_of_mem _ hz))
    exact pq_step (cast_ne (h y (by simp))) ih
theorem pz_ne : ∀ (l : List Int), (∀ x ∈ l, 0 < x) → pz l ≠ 0
  | [], _ => by simp [pz]
  | x :: l, h => by
    have h1 := pz_ne l (fun z hz => h z (List.mem_cons_of_mem _ hz))
    have h2 : (x : Rat) ≠ 0 := cast_ne (h x (by simp))
    simp only [pz]
    grind

/-! ### Rows of a train -/
theorem drv_eq {t : List (Int × Int)} (hl : t.length ≤ 1000) : drvI t = some (t.map (·.1)) := by
  have hf := fold_loop (step := drvL_step) (l := t) (fun i (a : List Int) => (a, t, (t.length : Int), i)) (fun a y => a ++ [y.1]) (fun i a => (a.length : Int) ≤ i) (fun a => (a, t, (t.length : Int), (t.length : Int)))
    (fun i a y h0 h1 hy hJ => by
      refine ⟨?_, by simp; omega⟩
      unfold drvL_step
      dsimp only
      rw [br_t (by simpa using h1), ob_val hy, br_t (by simp; omega), w64 (x := i + 1) (by omega) (by omega)])
    (fun a _ => by
      show br (decide ((t.length : Int) < (t.length : Int))) _ _ = _
      rw [br_f (by simp)]) (n := ((t.length : Int) - 0).toNat + 1) (by omega) (a0 := []) (by simp)
  have h2 := hf.1
  rw [foldl_append] at h2
  exact ob_val h2
theorem dvn_eq {t : List (Int × Int)} (hl : t.length ≤ 1000) : dvnI t = some (t.map (·.2)) := by
  have hf := fold_loop (step := dvnL_step) (l := t) (fun i (a : List Int) => (a, t, (t.length : Int), i)) (fun a y => a ++ [y.2]) (fun i a => (a.length : Int) ≤ i) (fun a => (a, t, (t.length : Int), (t.length : Int)))
    (fun i a y h0 h1 hy hJ => by
      refine ⟨?_, by simp; omega⟩
      unfold dvnL_step
      dsimp only
      rw [br_t (by simpa using h1), ob_val hy, br_t (by simp; omega), w64 (x := i + 1) (by omega) (by omega)])
    (fun a _ => by
      show br (decide ((t.length : Int) < (t.length : Int))) _ _ = _
      rw [br_f (by simp)]) (n := ((t.length : Int) - 0).toNat + 1) (by omega) (a0 := []) (by simp)
  have h2 := hf.1
  rw [foldl_append] at h2
  exact ob_val h2
theorem paired_eq {xs ys : List Int} (hl : xs.length = ys.length) (hx : xs.length ≤ 1000) : ∃ t, pairedI (xs, ys) = some t ∧ t.map (·.1) = xs ∧ t.map (·.2) = ys := by
  obtain ⟨s', h1, t, i, rfl, h2, h3⟩ := iterP_end (step := pairedL_step) (fun s => ∃ (t : List (Int × Int)) (i : Nat), s = (xs, ys, t, (xs.length : Int), (i : Int)) ∧ t.map (·.1) = xs.take i ∧ t.map (·.2) = ys.take i ∧ i ≤ xs.length) (fun s => ∃ (t : List (Int × Int)) (i : Int), s = (xs, ys, t, (xs.length : Int), i) ∧ t.map (·.1) = xs ∧ t.map (·.2) = ys) (fun s => (s.2.2.2.1 - s.2.2.2.2).toNat) (by
    rintro s ⟨t, i, rfl, g1, g2, hi⟩
    by_cases h : i < xs.length
    · have hlen : t.length = i := by
        have := congrArg List.length g1
        simp at this; omega
      obtain ⟨a1, _⟩ := get_i (l := xs) h
      obtain ⟨b1, _⟩ := get_i (l := ys) (i := i) (by omega)
      refine ⟨.next, (xs, ys, t ++ [(xs[i], ys[i]'(by omega))], (xs.length : Int), ((i + 1 : Nat) : Int)), ?_, fun _ => ⟨⟨_, i + 1, rfl, ?_, ?_, by omega⟩, ?_⟩, (fun e => by cases e), (fun e => by cases e)⟩
      · unfold pairedL_step
        dsimp only
        rw [br_t (by simp; omega), ob_val a1, ob_val b1, br_t (by simp; omega), w64 (x := (i : Int) + 1) (by omega) (by omega)]
        rfl
      · rw [List.map_append, g1, List.take_add_one, List.getElem?_eq_getElem h]; rfl
      · rw [List.map_append, g2, List.take_add_one, List.getElem?_eq_getElem (by omega)]; rfl
      · show ((xs.length : Int) - ((i + 1 : Nat) : Int)).toNat < ((xs.length : Int) - (i : Int)).toNat
        omega
    · have hi : i = xs.length := by omega
      refine ⟨.out, (xs, ys, t, (xs.length : Int), (i : Int)), ?_, (fun e => by cases e), (fun _ => ⟨t, _, rfl, ?_, ?_⟩), (fun e => by cases e)⟩
      · unfold pairedL_step
        dsimp only
        rw [br_f (by simp; omega)]
      · rw [g1, hi, List.take_length]
      · rw [g2, hi, hl, List.take_length]) (pairedL_fuel (xs, ys, [], (xs.length : Int), 0)) (xs, ys, [], (xs.length : Int), ((0 : Nat) : Int)) ⟨[], 0, rfl, by simp, by simp, by omega⟩ (Nat.lt_succ_self _)
  have h1 : pairedL (xs, ys, [], (xs.length : Int), 0) = some (xs, ys, t, (xs.length : Int), i) := h1
  exact ⟨t, ob_val h1, h2, h3⟩
theorem foldl_sum : ∀ (t : List (Int × Int)) (a : Int), t.foldl (fun a y => a + (y.1 + y.2)) a = a + sz (t.map (·.1)) + sz (t.map (·.2))
  | [], a => by simp [sz]
  | y :: t, a => by
    rw [List.foldl_cons, foldl_sum t]
    simp only [List.map_cons, sz]
    omega
theorem teeth_val {t : List (Int × Int)} (hl : t.length ≤ 1000) (h : ∀ y ∈ t, okP y = true) : teethTI t = some (sz (t.map (·.1)) + sz (t.map (·.2))) := by
  have hf := fold_loop (step := teethTL_step) (l := t) (fun i (a : Int) => (0, a, t, (t.length : Int), i)) (fun a y => a + (y.1 + y.2)) (fun i a => 0 ≤ a ∧ a ≤ 480 * i) (fun a => (0, a, t, (t.length : Int), (t.length : Int)))
    (fun i a y h0 h1 hy hJ => by
      have hm : y ∈ t := by
        unfold idx at hy
        rw [if_pos h0] at hy
        exact List.mem_of_getElem? hy
      have hb := okP_bd (h y hm)
      refine ⟨?_, by omega⟩
      unfold teethTL_step
      dsimp only
      rw [br_t (by simpa using h1), ob_val hy, w64 (x := y.1 + y.2) (by omega) (by omega), w64 (x := a + (y.1 + y.2)) (by omega) (by omega), w64 (x := i + 1) (by omega) (by omega)])
    (fun a _ => by
      show br (decide ((t.length : Int) < (t.length : Int))) _ _ = _
      rw [br_f (by simp)]) (n := ((t.length : Int) - 0).toNat + 1) (by omega) (a0 := 0) (by omega)
  have h2 := hf.1
  rw [foldl_sum, Int.zero_add] at h2
  exact ob_val h2

/-! ### The ratio of a train -/
theorem train_val {t : List (Int × Int)} (hl : t.length ≤ 1000) (h : ∀ y ∈ t, okP y = true) : ∃ r c, trainRatI t = some (r, c) ∧ (c = 0 ∨ c = 2) ∧ (c = 0 → vR r = true ∧ val r = pq t) := by
  obtain ⟨b, s', h1, h2, h3⟩ := iter_end (step := trainRatIL_step)
    (fun s => ∃ (r : Int × Int) (i : Nat), s = ((0, 0), 0, r, t, (t.length : Int), (i : Int)) ∧ vR r = true ∧ i ≤ t.length ∧ val r * pq (t.drop i) = pq t)
    (fun s => vR s.2.2.1 = true ∧ val s.2.2.1 = pq t) (fun s => s.1 = (0, 0) ∧ s.2.1 = 2) (fun s => ((t.length : Int) - s.2.2.2.2.2).toNat) (by
    rintro s ⟨r, i, rfl, hr, hi, hq⟩
    by_cases hlt : i < t.length
    · have hy := List.getElem?_eq_getElem hlt
      have hm : t[i] ∈ t := List.getElem_mem hlt
      have hd := List.drop_eq_getElem_cons hlt
      generalize t[i] = y at hy hm hd
      have hok := h y hm
      obtain ⟨b1, b2⟩ := okP_bd hok
      have hidx : idx t (i : Int) = some y := by
        unfold idx
        rw [if_pos (by omega), show ((i : Int)).toNat = i by omega]; exact hy
      have hw : IntKind.i64.wrap (0 - y.1) = -y.1 := by rw [w64 (by omega) (by omega), Int.zero_sub]
      obtain ⟨q, hk⟩ := mkR_some (n := -y.1) (d := y.2) (by omega) (by omega)
      obtain ⟨vq, eq⟩ := val_mk (by omega) hk
      have e1 : makeRatI (-y.1, y.2) = some (q, 0) := by
        rw [makeRatI_eq ⟨by omega, by omega⟩ ⟨by omega, by omega⟩ (by omega)]
        unfold ratF; rw [hk]
      have e3 : mulRatI ((r.1, r.2), q.1, q.2) = some (ratF (r.1 * q.1) (r.2 * q.2)) := by
        have := mulRatI_eq r q
        rw [if_pos ⟨hr, vq⟩] at this; exact this
      by_cases hm0 : (ratF (r.1 * q.1) (r.2 * q.2)).2 = 0
      · obtain ⟨vm, em⟩ := val_mul hr vq hm0
        refine ⟨.next, ((0, 0), 0, (ratF (r.1 * q.1) (r.2 * q.2)).1, t, (t.length : Int), ((i + 1 : Nat) : Int)), ?_, fun _ => ⟨⟨_, i + 1, rfl, vm, by omega, ?_⟩, ?_⟩, (fun e => by cases e), (fun e => by cases e)⟩
        · unfold trainRatIL_step
          dsimp only
          rw [br_t (by simp; omega), ob_val hidx, hw, ob_val e1, ob_val e3, br_f (by rw [hm0]; rfl), w64 (x := (i : Int) + 1) (by omega) (by omega)]
          rfl
        · rw [em, eq, Rat.intCast_neg, Rat.mul_assoc]
          rw [hd] at hq
          exact hq
        · show ((t.length : Int) - ((i + 1 : Nat) : Int)).toNat < ((t.length : Int) - (i : Int)).toNat
          omega
      · refine ⟨.ret, ((0, 0), (ratF (r.1 * q.1) (r.2 * q.2)).2, r, t, (t.length : Int), (i : Int)), ?_, (fun e => by cases e), (fun e => by cases e), fun _ => ?_⟩
        · unfold trainRatIL_step
          dsimp only
          rw [br_t (by simp; omega), ob_val hidx, hw, ob_val e1, ob_val e3, br_t (by rw [bne_iff_ne]; exact hm0)]
        · exact ⟨rfl, (ratF_code _ _).resolve_left hm0⟩
    · have hi : i = t.length := by omega
      refine ⟨.out, ((0, 0), 0, r, t, (t.length : Int), (i : Int)), ?_, (fun e => by cases e), (fun _ => ⟨hr, ?_⟩), (fun e => by cases e)⟩
      · unfold trainRatIL_step
        dsimp only
        rw [br_f (by simp; omega)]
      · rw [hi, List.drop_length] at hq
        show val r = pq t
        rw [← hq]
        simp [pq]) (((t.length : Int) - 0).toNat + 1) ((0, 0), 0, (1, 1), t, (t.length : Int), ((0 : Nat) : Int)) ⟨(1, 1), 0, rfl, v11, by omega, by rw [val11, List.drop_zero, Rat.one_mul]⟩ (Nat.lt_succ_self _)
  have h1 : trainRatIL ((0, 0), 0, (1, 1), t, (t.length : Int), 0) = some (b, s') := h1
  unfold trainRatI
  rw [ob_val h1]
  cases b with
  | true =>
    obtain ⟨g1, g2⟩ := h2 rfl
    exact ⟨_, _, rfl, .inl rfl, fun _ => ⟨g1, g2⟩⟩
  | false =>
    obtain ⟨g1, g2⟩ := h3 rfl
    exact ⟨_, _, rfl, .inr g2, fun e => by have e : s'.2.1 = 0 := e; rw [g2] at e; cases e⟩

/-! ### Valid trains -/
def bd (x : Int) : Prop := 6 ≤ x ∧ x ≤ 240
theorem okP_mk {y : Int × Int} (h1 : bd y.1) (h2 : bd y.2) : okP y = true := by
  unfold okP
  simp only [Bool.and_eq_true, decide_eq_true_eq]
  exact ⟨h1, h2⟩
def good (t : List (Int × Int)) : Prop := t.length ≤ 5 ∧ ∀ y ∈ t, okP y = true
theorem good_of {t : List (Int × Int)} (hl : t.length ≤ 5) (h1 : ∀ x ∈ t.map (·.1), bd x) (h2 : ∀ x ∈ t.map (·.2), bd x) : good t :=
  ⟨hl, fun y hy => okP_mk (h1 _ (List.mem_map_of_mem hy)) (h2 _ (List.mem_map_of_mem hy))⟩
theorem good_fst {t : List (Int × Int)} (g : good t) : ∀ x ∈ t.map (·.1), bd x := by
  intro x hx
  obtain ⟨y, hy, rfl⟩ := List.mem_map.1 hx
  exact (okP_bd (g.2 y hy)).1
theorem good_snd {t : List (Int × Int)} (g : good t) : ∀ x ∈ t.map (·.2), bd x := by
  intro x hx
  obtain ⟨y, hy, rfl⟩ := List.mem_map.1 hx
  exact (okP_bd (g.2 y hy)).2
theorem good_valid {t : List (Int × Int)} (g : good t) : validTrainI t = some true := by
  have := g.1
  rw [validTrainI_eq (by omega), List.all_eq_true.2 g.2]
  simp; omega
theorem good_ok {t : List (Int × Int)} (g : good t) : okTrainS t = some true := by
  have := g.1
  rw [okTrainS_eq (by omega), List.all_eq_true.2 g.2]
  simp; omega
theorem pos_of {l : List Int} (h : ∀ x ∈ l, bd x) : ∀ x ∈ l, 0 < x := fun x hx => by have := h x hx; unfold bd at this; omega
/-- A train of the other's wheels. -/
theorem good_like {t t' : List (Int × Int)} {xs ys : List Int} (g : good t) (hx : (t'.map (·.1)).Perm xs) (hy : (t'.map (·.2)).Perm ys) (bx : ∀ x ∈ xs, bd x) (by_ : ∀ x ∈ ys, bd x) (hl : xs.length = t.length) : good t' := by
  refine good_of ?_ (fun x h => bx x (hx.mem_iff.1 h)) (fun x h => by_ x (hy.mem_iff.1 h))
  have := hx.length_eq
  simp at this
  have := g.1
  omega
theorem rev_out {t : List (Int × Int)} (g : good t) : ∃ t', revTrI t = some (t', 0) ∧ (t'.map (·.1)).Perm (t.map (·.2)) ∧ (t'.map (·.2)).Perm (t.map (·.1)) := by
  have hl := g.1
  obtain ⟨a, ha, pa⟩ := rev_keeps (l := t.map (·.1)) (by simp; omega)
  obtain ⟨b, hb, pb⟩ := rev_keeps (l := t.map (·.2)) (by simp; omega)
  have la := pa.length_eq
  have lb := pb.length_eq
  simp at la lb
  obtain ⟨t', h1, h2, h3⟩ := paired_eq (xs := b) (ys := a) (by omega) (by omega)
  refine ⟨t', ?_, by rw [h2]; exact pb, by rw [h3]; exact pa⟩
  unfold revTrI
  rw [ob_val (good_valid g), br_f (c := !true) rfl, ob_val (drv_eq (by omega)), ob_val (dvn_eq (by omega)), ob_val ha, ob_val hb, ob_val h1]
theorem canon_out {t : List (Int × Int)} (g : good t) : ∃ t', canonI t = some (t', 0) ∧ (t'.map (·.1)).Perm (t.map (·.1)) ∧ (t'.map (·.2)).Perm (t.map (·.2)) := by
  have hl := g.1
  obtain ⟨a, ha, pa⟩ := sort_keeps (l := t.map (·.1)) (by simp; omega)
  have la := pa.length_eq
  simp at la
  obtain ⟨a', ha', pa'⟩ := rev_keeps (l := a) (by omega)
  obtain ⟨b, hb, pb⟩ := sort_keeps (l := t.map (·.2)) (by simp; omega)
  have la' := pa'.length_eq
  have lb := pb.length_eq
  simp at lb
  obtain ⟨t', h1, h2, h3⟩ := paired_eq (xs := a') (ys := b) (by omega) (by omega)
  refine ⟨t', ?_, by rw [h2]; exact pa'.trans pa, by rw [h3]; exact pb⟩
  unfold canonI
  rw [ob_val (good_valid g), br_f (c := !true) rfl, ob_val (drv_eq (by omega)), ob_val (dvn_eq (by omega)), ob_val ha, ob_val ha', ob_val hb, ob_val h1]
theorem teeth_out {t : List (Int × Int)} (g : good t) : teethOfT t = some (sz (t.map (·.1)) + sz (t.map (·.2)), 0) := by
  unfold teethOfT
  rw [ob_val (good_valid g), br_f (c := !true) rfl, ob_val (teeth_val (by have := g.1; omega) g.2)]
theorem ratio_out {t : List (Int × Int)} (g : good t) : ∃ r c, trainRatioI t = some (r, c) ∧ (c = 0 ∨ c = 2) ∧ (c = 0 → vR r = true ∧ val r = pq t) := by
  obtain ⟨r, c, h1, h2, h3⟩ := train_val (by have := g.1; omega) g.2
  refine ⟨r, c, ?_, h2, h3⟩
  unfold trainRatioI
  rw [ob_val (good_valid g), br_f (c := !true) rfl, ob_val h1]

/-! ### Products of like trains -/
theorem pq_same {q q' z s f : Rat} (hz : z ≠ 0) (h1 : q * z = s * f) (h2 : q' * z = s * f) : q' = q := by grind
theorem pq_back {q q' z s f : Rat} (hz : z ≠ 0) (hf : f ≠ 0) (hs : s * s = 1) (h1 : q * z = s * f) (h2 : q' * f = s * z) : q * q' = 1 := by
  have h3 : (q * q') * (z * f) = (s * s) * (z * f) := by grind
  have h4 : z * f ≠ 0 := by grind
  rw [hs] at h3
  grind
theorem like_same {t t' : List (Int × Int)} (g : good t) (g' : good t') (hx : (t'.map (·.1)).Perm (t.map (·.1))) (hy : (t'.map (·.2)).Perm (t.map (·.2))) : pq t' = pq t := by
  have e1 := pq_eq t (fun y hy => by have := okP_bd (g.2 y hy); omega)
  have e2 := pq_eq t' (fun y hy => by have := okP_bd (g'.2 y hy); omega)
  have hl : t'.length = t.length := by have := hx.length_eq; simpa using this
  rw [pz_perm hx, pz_perm hy, hl] at e2
  exact pq_same (pz_ne _ (pos_of (good_snd g))) e1 e2
theorem like_back {t t' : List (Int × Int)} (g : good t) (g' : good t') (hx : (t'.map (·.1)).Perm (t.map (·.2))) (hy : (t'.map (·.2)).Perm (t.map (·.1))) : pq t * pq t' = 1 := by
  have e1 := pq_eq t (fun y hy => by have := okP_bd (g.2 y hy); omega)
  have e2 := pq_eq t' (fun y hy => by have := okP_bd (g'.2 y hy); omega)
  have hl : t'.length = t.length := by have := hx.length_eq; simpa using this
  rw [pz_perm hx, pz_perm hy, hl] at e2
  exact pq_back (pz_ne _ (pos_of (good_snd g))) (pz_ne _ (pos_of (good_fst g))) (sg_sq _) e1 e2

/-! ### Read back -/
theorem pair_back {y : Int × Int} (h : okP y = true) : two (pairB y) ∧ pI (pairB y) = y := by
  have hb := okP_bd h
  have n1 := numF_dec (n := y.1) (by omega)
  have n2 := numF_dec (n := y.2) (by omega)
  have hn : ∀ n, (58 : UInt8) ∉ Lib.itoa n := fun n => itoa_no (by decide) (by decide)
  have hp : cutL 58 (pairB y).data.toList = [Lib.itoa y.1, Lib.itoa y.2] := by
    rw [pairB_list, cutL_hit _ (hn _), cutL_no (hn _)]
  have n1 : numF (ba (Lib.itoa y.1)) = (y.1, true) := n1
  have n2 : numF (ba (Lib.itoa y.2)) = (y.2, true) := n2
  refine ⟨⟨_, _, hp, by rw [n1], by rw [n2]⟩, ?_⟩
  rw [pI_two hp, n1, n2]
theorem train_back {t : List (Int × Int)} (g : good t) : trainTextI t = some (trainB t) ∧ readTrainI (trainB t) = some (t, true) := by
  have ht := trainTextI_eq (good_valid g) (fun _ => g)
  rw [if_pos rfl] at ht
  refine ⟨ht, ?_⟩
  by_cases h0 : t = []
  · subst h0
    have hv : validTrainI [] = some true := good_valid g
    unfold readTrainI
    rw [br_f (by rw [show trainB [] = (⟨⟨[(45 : UInt8)]⟩⟩ : ByteArray) from rfl, beq_list.2 rfl]; rfl), ob_some' hv, br_f (c := !true) rfl, ob_some' ht, br_f (by
      rw [beq_list.2 rfl]; rfl)]
  · have hsz := trainB_size g.2
    have hl := g.1
    have hcut := trainB_cut h0
    have hW : (cutL 32 (trainB t).data.toList).map ba = t.map pairB := by
      rw [hcut, List.map_map]
      exact List.map_congr_left fun y _ => ba_of _
    have hne : trainB t ≠ minusB := by
      intro e
      rw [e] at hcut
      obtain ⟨y, r, rfl⟩ := List.exists_cons_of_ne_nil h0
      have hc : cutL 32 minusB.data.toList = [[45]] := by kernel_rfl
      rw [hc, List.map_cons] at hcut
      have hy := pairB_size (g.2 y (by simp))
      have e1 := (List.cons.inj hcut).1
      rw [ba_size, ← e1] at hy
      simp at hy
    rw [readTrainI_eq (by omega) hne]
    unfold trainF
    rw [hW]
    have hm : (t.map pairB).map pI = t := by
      rw [List.map_map]
      exact (List.map_congr_left fun y hy => (pair_back (g.2 y hy)).2).trans (List.map_id _)
    rw [hm, if_pos ⟨⟨List.all_eq_true.2 g.2, by simpa using hl⟩, fun x hx => by
      obtain ⟨y, hy, rfl⟩ := List.mem_map.1 hx
      exact (pair_back (g.2 y hy)).1⟩]
theorem same_self {l : List (Int × Int)} (hl : l.length ≤ 4294967296) : sameTrainS (l, l) = some true := by
  obtain ⟨i', h⟩ := eq_loop (step := sameTrL_step) hl (fun i b y h0 h1 hy => by
    unfold sameTrL_step
    dsimp only
    rw [br_t (by simpa using h1), ob_val hy, ob_val hy, br_f (by simp), w64 (by omega) (by omega)]) (fun i b h => by
    unfold sameTrL_step
    dsimp only
    rw [br_f (by simpa using h)]) false
  have h' : sameTrL (l, l, false, 0) = some (true, (l, l, false, i')) := h
  have hs : sameTrS (l, l) = some true := by
    unfold sameTrS
    rw [br_f (by simp), ob_val h']
    rfl
  unfold sameTrainS
  rw [ob_val hs]

/-! ### Drawn trains -/
theorem drawTr_tot {c : List Int} (hc : bytesOk c) : ∃ t, a2TrainS c = some t ∧ good t := by
  obtain ⟨k, a1, g1, e1, b1, c1⟩ := pick_tot hc (a := 0) (g := 0) (K := 0) 5 (by omega) (by omega)
  obtain ⟨s', h1, t, a2, g2, hs', h2⟩ := iterP_end (step := drawTrL_step) (fun s => ∃ (t : List (Int × Int)) (a g k : Int), s = ((c, a, g), t, k) ∧ (0 ≤ a ∧ a + 4 * k ≤ 100) ∧ (0 ≤ k ∧ (t.length : Int) + k ≤ 4) ∧ ∀ y ∈ t, okP y = true) (fun s => ∃ (t : List (Int × Int)) (a g : Int), s = ((c, a, g), t, s.2.2) ∧ good t) (fun s => s.2.2.toNat) (by
    rintro s ⟨t, a, g, k, rfl, ha, hk, hok⟩
    by_cases h : 0 < k
    · obtain ⟨x, a', g', q1, m1, d1⟩ := among_tot hc (a := a) (g := g) (K := a) [64, 60, 96, 75, 80, 54, 7, 239] (by simp) (by simp) (by omega) (by omega)
      obtain ⟨y, a'', g'', q2, m2, d2⟩ := among_tot hc (a := a') (g := g') (K := a + 2) [8, 10, 12, 7, 6, 40, 96, 240] (by simp) (by simp) (by omega) (by omega)
      have hx : bd x := by unfold bd; simp at m1; omega
      have hy : bd y := by unfold bd; simp at m2; omega
      refine ⟨.next, ((c, a'', g''), t ++ [(x, y)], k - 1), ?_, fun _ => ⟨⟨_, _, _, _, rfl, ⟨by omega, by omega⟩, ⟨by omega, by simp; omega⟩, ?_⟩, by show (k - 1).toNat < k.toNat; omega⟩, (fun e => by cases e), (fun e => by cases e)⟩
      · unfold drawTrL_step
        dsimp only
        rw [br_t (by simpa using h), ob_val q1, ob_val q2, br_t (by simp; omega), w64 (by omega) (by omega)]
      · intro z hz
        rcases List.mem_append.1 hz with hz | hz
        · exact hok z hz
        · rw [List.mem_singleton.1 hz]; exact okP_mk hx hy
    · refine ⟨.out, ((c, a, g), t, k), ?_, (fun e => by cases e), (fun _ => ⟨t, a, g, rfl, by omega, hok⟩), (fun e => by cases e)⟩
      unfold drawTrL_step
      dsimp only
      rw [br_f (by simpa using h)]) (drawTrL_fuel ((c, a1, g1), [], k)) ((c, a1, g1), [], k) ⟨[], a1, g1, k, rfl, ⟨by omega, by omega⟩, ⟨by omega, by simp; omega⟩, fun _ h => by cases h⟩ (Nat.lt_succ_self _)
  have h1 : drawTrL ((c, a1, g1), [], k) = some s' := h1
  have e5 : IntKind.i64.wrap ((4 : Int) + 1) = 5 := rfl
  have hd : drawTrS ((c, 0, 0), 4) = some (s'.2.1, (s'.1.1, s'.1.2.1, s'.1.2.2), 4) := by
    unfold drawTrS
    dsimp only
    rw [e5, ob_val e1, ob_val h1]
  refine ⟨t, ?_, h2⟩
  unfold a2TrainS fromS
  rw [ob_s, ob_val hd]
  exact congrArg some (congrArg (fun z => z.2.1) hs')
theorem fnTr_holds (c : List Int) (hw : WfAll [.slice (.int .u8)] c) : fnTr c = some true := by
  have hc := bytes_wf hw
  obtain ⟨t, ht, g⟩ := drawTr_tot hc
  obtain ⟨r, co, h1, hco, hr⟩ := ratio_out g
  obtain ⟨t1, h2, p1, p2⟩ := rev_out g
  obtain ⟨t2, h3, p3, p4⟩ := canon_out g
  have g1 : good t1 := good_like g p1 p2 (good_snd g) (good_fst g) (by simp)
  have g2 : good t2 := good_like g p3 p4 (good_fst g) (good_snd g) (by simp)
  have h4 := teeth_out g
  have h5 := teeth_out g2
  rw [sz_perm p3, sz_perm p4] at h5
  obtain ⟨h6, h7⟩ := train_back g
  have h8 := same_self (l := t) (by have := g.1; omega)
  have h9 : validTrainS t2 = some true := by unfold validTrainS; rw [ob_val (good_ok g2)]
  have h10 : t2.length = t.length := by have := p3.length_eq; simpa using this
  obtain ⟨r1, c1, k1, hc1, hr1⟩ := ratio_out g1
  obtain ⟨r2, c2, k2, hc2, hr2⟩ := ratio_out g2
  unfold fnTr a2LongT
  dsimp only
  cases decide ((3000 : Int) < (c.length : Int)) with
  | true => rfl
  | false =>
    have z : decide ((3000 : Int) < (([] : List Int).length : Int)) = false := by decide
    rw [br_f (c := false) rfl, z, ob_s, br_f (c := false) rfl, ob_val ht, ob_val h1, ob_val h2, ob_val h3, ob_val h4, ob_val h5, ob_val h6, ob_val h7]
    dsimp only
    rw [br_f (c := (0 : Int) != 0) rfl, br_f (c := (0 : Int) != 0) rfl, br_f (c := (0 : Int) != 0) rfl, br_f (c := (0 : Int) != 0) rfl, br_f (by simp), br_f (c := !true) rfl, ob_val h8, br_f (c := !true) rfl, ob_val h9, br_f (c := !true) rfl, br_f (by rw [h10]; simp)]
    rcases hco with rfl | rfl
    · obtain ⟨vr, er⟩ := hr rfl
      rw [br_f (c := (0 : Int) != 0) rfl, ob_val k1, ob_val k2]
      dsimp only
      have hsame : c2 = 0 → r2 = r := fun e => by
        obtain ⟨v2, e2⟩ := hr2 e
        exact val_inj v2 vr (by rw [e2, er]; exact like_same g g2 p3 p4)
      rcases hc1 with rfl | rfl
      · obtain ⟨v1, e1⟩ := hr1 rfl
        have hm := mul_back vr v1 (by rw [er, e1]; exact like_back g g1 p1 p2)
        rw [br_t (c := (0 : Int) == 0) rfl, ob_val hm]
        rcases hc2 with rfl | rfl
        · rw [hsame rfl]; simp [br_if]
        · simp [br_if]
      · rcases hc2 with rfl | rfl
        · rw [hsame rfl]; simp [br_if]
        · simp [br_if]
    · rw [br_t (c := (2 : Int) != 0) rfl]; rfl
end Rx
end Go.Proofs.YtfapjkcmoefilaaGreatDoor
