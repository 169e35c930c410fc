/- Ratios in lowest terms, as rational numbers. No program in sight. No conditions. -/
import Derived.Test.YthfgpnpoocepeaaGreatRxRatAddLaw
import Derived.Test.YthfgpnpoocepeaaGreatRxBestEnd
namespace Go.Proofs.YthfgpnpoocepeaaGreat
namespace Rx
open Go

/-! ### Ratios in lowest terms -/
theorem mkR_parts {n d : Int} {p : Int × Int} (hd : 0 < d) (h : mkR n d = some p) : ∃ g : Int, 1 ≤ g ∧ n = g * p.1 ∧ d = g * p.2 := by
  have g1 := gcd_pos (n := n) (show d ≠ 0 by omega)
  refine ⟨Int.gcd n d, g1, ?_⟩
  have d1 : (Int.gcd n d : Int) ∣ n := Int.gcd_dvd_left ..
  have d2 : (Int.gcd n d : Int) ∣ d := Int.gcd_dvd_right ..
  unfold mkR at h
  dsimp only at h
  generalize (Int.gcd n d : Int) = g at *
  split at h
  · cases h
  · cases h
    obtain ⟨n', rfl⟩ := d1
    obtain ⟨d', rfl⟩ := d2
    dsimp only
    have e1 : decide (g * d' < 0) = false := decide_eq_false (by omega)
    have e2 : mag (g * d') = g * d' := mag_of_nn (by omega)
    rw [e1, e2, Int.mul_ediv_cancel_left _ (show g ≠ 0 by omega)]
    by_cases hn : g * n' < 0
    · have e3 : mag (g * n') = g * (-n') := by rw [mag_of_neg hn, Int.mul_neg]
      rw [decide_eq_true hn]
      show g * n' = g * (-(mag (g * n') / g)) ∧ _
      rw [e3, Int.mul_ediv_cancel_left _ (show g ≠ 0 by omega), Int.neg_neg]
      exact ⟨rfl, rfl⟩
    · have e3 : mag (g * n') = g * n' := mag_of_nn (by omega)
      rw [decide_eq_false hn]
      show g * n' = g * (mag (g * n') / g) ∧ _
      rw [e3, Int.mul_ediv_cancel_left _ (show g ≠ 0 by omega)]
      exact ⟨rfl, rfl⟩
theorem mkR_cross {n d : Int} {p : Int × Int} (hd : 0 < d) (h : mkR n d = some p) : n * p.2 = p.1 * d := by
  obtain ⟨g, _, h1, h2⟩ := mkR_parts hd h
  generalize p.1 = x at *
  generalize p.2 = y at *
  subst h1; subst h2
  rw [Int.mul_comm g x, Int.mul_assoc]
theorem cop_dvd {p : Int × Int} {x y : Int} (hp : vR p = true) (h : p.1 * x = y * p.2) : p.2.natAbs ∣ x.natAbs := by
  have hg : Nat.gcd p.1.natAbs p.2.natAbs = 1 := vRat_gcd hp
  have h1 : p.2.natAbs ∣ p.1.natAbs * x.natAbs := by
    rw [← Int.natAbs_mul, h, Int.natAbs_mul]
    exact Nat.dvd_mul_left ..
  exact Nat.Coprime.dvd_of_dvd_mul_left (show Nat.Coprime p.2.natAbs p.1.natAbs by rw [Nat.Coprime, Nat.gcd_comm]; exact hg) h1
theorem rat_unique {p q : Int × Int} (hp : vR p = true) (hq : vR q = true) (h : p.1 * q.2 = q.1 * p.2) : p = q := by
  have b1 := vR_bd hp
  have b2 := vR_bd hq
  have e := Nat.dvd_antisymm (cop_dvd hp h) (cop_dvd hq h.symm)
  have e2 : p.2 = q.2 := by omega
  have e1 : p.1 = q.1 := by
    rw [e2] at h
    exact Int.eq_of_mul_eq_mul_right (by omega) h
  exact Prod.ext e1 e2
theorem mkR_some {n d : Int} (hn : -1000000000 ≤ n ∧ n ≤ 1000000000) (hd : 1 ≤ d ∧ d ≤ 1000000000) : ∃ p, mkR n d = some p := by
  have hg := gcd_pos (n := n) (d := d) (by omega)
  have qn := div_bd (x := mag n) (B := 1000000000) hg (mag_nn n) (by unfold mag; omega)
  have qd := div_bd (x := mag d) (B := 1000000000) hg (mag_nn d) (by unfold mag; omega)
  unfold mkR
  dsimp only
  rw [if_neg (by omega)]
  exact ⟨_, rfl⟩
theorem mkR_self {p : Int × Int} (hp : vR p = true) : mkR p.1 p.2 = some p := by
  obtain ⟨b1, b2, b3, b4⟩ := vR_bd hp
  obtain ⟨q, hq⟩ := mkR_some (n := p.1) (d := p.2) ⟨b3, b4⟩ ⟨b1, b2⟩
  have vq : vR q = true := mkR_valid (by omega) hq
  rw [hq, rat_unique vq hp (mkR_cross (by omega) hq).symm]
theorem ratF_self {p : Int × Int} (hp : vR p = true) : ratF p.1 p.2 = (p, 0) := by
  unfold ratF
  rw [mkR_self hp]
theorem ratF_zero {d : Int} (hd : 1 ≤ d ∧ d ≤ 1000000000) : ratF 0 d = ((0, 1), 0) := by
  obtain ⟨q, hq⟩ := mkR_some (n := 0) (d := d) (by omega) hd
  have vq : vR q = true := mkR_valid (by omega) hq
  have h := mkR_cross (by omega) hq
  have v0 : vR (0, 1) = true := by decide
  unfold ratF
  have h0 : q.1 = 0 := by
    rw [Int.zero_mul] at h
    rcases Int.mul_eq_zero.1 h.symm with h | h
    · exact h
    · omega
  rw [hq, rat_unique vq v0 (by show q.1 * 1 = 0 * q.2; rw [h0, Int.zero_mul, Int.zero_mul])]
theorem ratF_code (n d : Int) : (ratF n d).2 = 0 ∨ (ratF n d).2 = 2 := by
  unfold ratF
  cases mkR n d with
  | none => exact .inr rfl
  | some p => exact .inl rfl

/-! ### Ratios as numbers -/
noncomputable def val (p : Int × Int) : Rat := (p.1 : Rat) / (p.2 : Rat)
theorem frac_eq {a b c d : Rat} (hb : b ≠ 0) (hd : d ≠ 0) (h : a * d = c * b) : a / b = c / d := by grind
theorem frac_cross {a b c d : Rat} (hb : b ≠ 0) (hd : d ≠ 0) (h : a / b = c / d) : a * d = c * b := by grind
theorem frac_sub {a b c d : Rat} (hb : b ≠ 0) (hd : d ≠ 0) : (a * d - c * b) / (b * d) = a / b - c / d := by grind
theorem frac_mul {a b c d : Rat} (hb : b ≠ 0) (hd : d ≠ 0) : (a * c) / (b * d) = (a / b) * (c / d) := by grind
theorem frac_add {a b c d : Rat} (hb : b ≠ 0) (hd : d ≠ 0) : (a * d + c * b) / (b * d) = a / b + c / d := by grind
theorem cast_ne {a : Int} (h : 0 < a) : (a : Rat) ≠ 0 := by
  intro e
  have : a = 0 := Rat.intCast_inj.1 e
  omega
theorem val_ratF {n d : Int} (hd : 0 < d) (h : (ratF n d).2 = 0) : vR (ratF n d).1 = true ∧ val (ratF n d).1 = (n : Rat) / (d : Rat) := by
  obtain ⟨v, hm⟩ := ratF_valid (by omega) h
  have hc := mkR_cross hd hm
  have hp := vR_bd v
  refine ⟨v, ?_⟩
  generalize (ratF n d).1 = p at hc hp
  have hc : (n : Rat) * (p.2 : Rat) = (p.1 : Rat) * (d : Rat) := by
    rw [← Rat.intCast_mul, ← Rat.intCast_mul, hc]
  exact frac_eq (cast_ne (by omega)) (cast_ne hd) hc.symm
theorem val_inj {p q : Int × Int} (hp : vR p = true) (hq : vR q = true) (h : val p = val q) : p = q := by
  have bp := vR_bd hp
  have bq := vR_bd hq
  have hc := frac_cross (cast_ne (by omega)) (cast_ne (by omega)) h
  rw [← Rat.intCast_mul, ← Rat.intCast_mul] at hc
  exact rat_unique hp hq (Rat.intCast_inj.1 hc)
theorem den_ne {p : Int × Int} (hp : vR p = true) : ((p.2 : Int) : Rat) ≠ 0 := cast_ne (by have := vR_bd hp; omega)
theorem den_pos {p q : Int × Int} (hp : vR p = true) (hq : vR q = true) : 0 < p.2 * q.2 := by
  have := pp1 (vR_bd hp).1 (vR_bd hq).1
  omega
theorem val_sub {a b : Int × Int} (ha : vR a = true) (hb : vR b = true) (h : (ratF (a.1 * b.2 - b.1 * a.2) (a.2 * b.2)).2 = 0) : vR (ratF (a.1 * b.2 - b.1 * a.2) (a.2 * b.2)).1 = true ∧ val (ratF (a.1 * b.2 - b.1 * a.2) (a.2 * b.2)).1 = val a - val b := by
  obtain ⟨v, e⟩ := val_ratF (den_pos ha hb) h
  refine ⟨v, e.trans ?_⟩
  rw [Rat.intCast_sub, Rat.intCast_mul, Rat.intCast_mul, Rat.intCast_mul]
  exact frac_sub (den_ne ha) (den_ne hb)
theorem val_mul {a b : Int × Int} (ha : vR a = true) (hb : vR b = true) (h : (ratF (a.1 * b.1) (a.2 * b.2)).2 = 0) : vR (ratF (a.1 * b.1) (a.2 * b.2)).1 = true ∧ val (ratF (a.1 * b.1) (a.2 * b.2)).1 = val a * val b := by
  obtain ⟨v, e⟩ := val_ratF (den_pos ha hb) h
  refine ⟨v, e.trans ?_⟩
  rw [Rat.intCast_mul, Rat.intCast_mul]
  exact frac_mul (den_ne ha) (den_ne hb)
theorem val_add {a b : Int × Int} (ha : vR a = true) (hb : vR b = true) (h : (ratF (a.1 * b.2 + b.1 * a.2) (a.2 * b.2)).2 = 0) : vR (ratF (a.1 * b.2 + b.1 * a.2) (a.2 * b.2)).1 = true ∧ val (ratF (a.1 * b.2 + b.1 * a.2) (a.2 * b.2)).1 = val a + val b := by
  obtain ⟨v, e⟩ := val_ratF (den_pos ha hb) h
  refine ⟨v, e.trans ?_⟩
  rw [Rat.intCast_add, Rat.intCast_mul, Rat.intCast_mul, Rat.intCast_mul]
  exact frac_add (den_ne ha) (den_ne hb)
theorem val_mk {n d : Int} {k : Int × Int} (hd : 0 < d) (h : mkR n d = some k) : vR k = true ∧ val k = (n : Rat) / (d : Rat) := by
  have e : ratF n d = (k, 0) := by unfold ratF; rw [h]
  have := val_ratF (n := n) (d := d) hd (by rw [e])
  rw [e] at this
  exact this

theorem v11 : vR (1, 1) = true := by decide
theorem v01 : vR (0, 1) = true := by decide
theorem val11 : val (1, 1) = 1 := by unfold val; simp; grind
theorem val01 : val (0, 1) = 0 := by unfold val; simp; grind
theorem neg_val (k : Int × Int) : val (-k.1, k.2) = -val k := by
  unfold val
  rw [Rat.intCast_neg]
  grind
theorem ratF_same {n : Int} (hn : 0 < n) : ratF n n = ((1, 1), 0) := by
  have hg : (Int.gcd n n : Int) = n := by rw [Int.gcd_self]; omega
  have hm : mag n = n := by unfold mag; omega
  have : mkR n n = some (1, 1) := by
    unfold mkR
    dsimp only
    rw [hg, hm, Int.ediv_self (by omega)]
    simp
  unfold ratF
  rw [this]

end Rx
end Go.Proofs.YthfgpnpoocepeaaGreat

namespace Go.Proofs.YthfgpnpoocepeaaGreat
namespace Rx
open Go

noncomputable section
theorem ob_v {α β : Type} {x : Option α} {a : α} {f : α → Option β} (h : x = some a) : ob x f = f a := by rw [h]; rfl
/-! ### Products -/
def pz : List Int → Rat
  | [] => 1
  | x :: l => (x : Rat) * pz l
theorem pz_perm {a b : List Int} (h : a.Perm b) : pz a = pz b := by
  induction h with
  | nil => rfl
  | cons x _ ih => simp only [pz, ih]
  | swap x y l => simp only [pz]; grind
  | trans _ _ h1 h2 => exact h1.trans h2
def sg : Nat → Rat
  | 0 => 1
  | n + 1 => -sg n
theorem sg_sq : ∀ n, sg n * sg n = 1
  | 0 => by simp [sg]
  | n + 1 => by
    have := sg_sq n
    simp only [sg]; grind
def pq : List (Int × Int) → Rat
  | [] => 1
  | y :: l => (-(y.1 : Rat) / (y.2 : Rat)) * pq l
theorem pq_step {a b q z s f : Rat} (hb : b ≠ 0) (h : q * z = s * f) : (-a / b) * q * (b * z) = -s * (a * f) := by grind
theorem pq_eq : ∀ (t : List (Int × Int)), (∀ y ∈ t, 0 < y.2) → pq t * pz (t.map (·.2)) = sg t.length * pz (t.map (·.1))
  | [], _ => by simp [pq, pz, sg]
  | y :: t, h => by
    have ih := pq_eq t (fun z hz => h z (List.mem_cons_of_mem _ hz))
    exact pq_step (cast_ne (h y (by simp))) ih
theorem pz_ne : ∀ (l : List Int), (∀ x ∈ l, 0 < x) → pz l ≠ 0
  | [], _ => by simp [pz]
  | x :: l, h => by
    have h1 := pz_ne l (fun z hz => h z (List.mem_cons_of_mem _ hz))
    have h2 : (x : Rat) ≠ 0 := cast_ne (h x (by simp))
    simp only [pz]
    grind

/-! ### The ratio of a train -/
theorem train_val {t : List (Int × Int)} (hl : t.length ≤ 1000) (h : ∀ y ∈ t, okP y = true) : ∃ r c, trainRatI t = some (r, c) ∧ (c = 0 ∨ c = 2) ∧ (c = 0 → vR r = true ∧ val r = pq t) := by
  obtain ⟨b, s', h1, h2, h3⟩ := iter_end (step := trainRatIL_step)
    (fun s => ∃ (r : Int × Int) (i : Nat), s = ((0, 0), 0, r, t, (t.length : Int), (i : Int)) ∧ vR r = true ∧ i ≤ t.length ∧ val r * pq (t.drop i) = pq t)
    (fun s => vR s.2.2.1 = true ∧ val s.2.2.1 = pq t) (fun s => s.1 = (0, 0) ∧ s.2.1 = 2) (fun s => ((t.length : Int) - s.2.2.2.2.2).toNat) (by
    rintro s ⟨r, i, rfl, hr, hi, hq⟩
    by_cases hlt : i < t.length
    · have hy := List.getElem?_eq_getElem hlt
      have hm : t[i] ∈ t := List.getElem_mem hlt
      have hd := List.drop_eq_getElem_cons hlt
      generalize t[i] = y at hy hm hd
      have hok := h y hm
      obtain ⟨b1, b2⟩ := okP_bd hok
      have hidx : idx t (i : Int) = some y := by
        unfold idx
        rw [if_pos (by omega), show ((i : Int)).toNat = i by omega]; exact hy
      have hw : IntKind.i64.wrap (0 - y.1) = -y.1 := by rw [w64 (by omega) (by omega), Int.zero_sub]
      obtain ⟨q, hk⟩ := mkR_some (n := -y.1) (d := y.2) (by omega) (by omega)
      obtain ⟨vq, eq⟩ := val_mk (by omega) hk
      have e1 : makeRatI (-y.1, y.2) = some (q, 0) := by
        rw [makeRatI_eq ⟨by omega, by omega⟩ ⟨by omega, by omega⟩ (by omega)]
        unfold ratF; rw [hk]
      have e3 : mulRatI ((r.1, r.2), q.1, q.2) = some (ratF (r.1 * q.1) (r.2 * q.2)) := by
        have := mulRatI_eq r q
        rw [if_pos ⟨hr, vq⟩] at this; exact this
      by_cases hm0 : (ratF (r.1 * q.1) (r.2 * q.2)).2 = 0
      · obtain ⟨vm, em⟩ := val_mul hr vq hm0
        refine ⟨.next, ((0, 0), 0, (ratF (r.1 * q.1) (r.2 * q.2)).1, t, (t.length : Int), ((i + 1 : Nat) : Int)), ?_, fun _ => ⟨⟨_, i + 1, rfl, vm, by omega, ?_⟩, ?_⟩, (fun e => by cases e), (fun e => by cases e)⟩
        · unfold trainRatIL_step
          dsimp only
          rw [br_t (by simp; omega), ob_v hidx, hw, ob_v e1, ob_v e3, br_f (by rw [hm0]; rfl), w64 (x := (i : Int) + 1) (by omega) (by omega)]
          rfl
        · rw [em, eq, Rat.intCast_neg, Rat.mul_assoc]
          rw [hd] at hq
          exact hq
        · show ((t.length : Int) - ((i + 1 : Nat) : Int)).toNat < ((t.length : Int) - (i : Int)).toNat
          omega
      · refine ⟨.ret, ((0, 0), (ratF (r.1 * q.1) (r.2 * q.2)).2, r, t, (t.length : Int), (i : Int)), ?_, (fun e => by cases e), (fun e => by cases e), fun _ => ?_⟩
        · unfold trainRatIL_step
          dsimp only
          rw [br_t (by simp; omega), ob_v hidx, hw, ob_v e1, ob_v e3, br_t (by rw [bne_iff_ne]; exact hm0)]
        · exact ⟨rfl, (ratF_code _ _).resolve_left hm0⟩
    · have hi : i = t.length := by omega
      refine ⟨.out, ((0, 0), 0, r, t, (t.length : Int), (i : Int)), ?_, (fun e => by cases e), (fun _ => ⟨hr, ?_⟩), (fun e => by cases e)⟩
      · unfold trainRatIL_step
        dsimp only
        rw [br_f (by simp; omega)]
      · rw [hi, List.drop_length] at hq
        show val r = pq t
        rw [← hq]
        simp [pq]) (((t.length : Int) - 0).toNat + 1) ((0, 0), 0, (1, 1), t, (t.length : Int), ((0 : Nat) : Int)) ⟨(1, 1), 0, rfl, v11, by omega, by rw [val11, List.drop_zero, Rat.one_mul]⟩ (Nat.lt_succ_self _)
  have h1 : trainRatIL ((0, 0), 0, (1, 1), t, (t.length : Int), 0) = some (b, s') := h1
  unfold trainRatI
  rw [ob_v h1]
  cases b with
  | true =>
    obtain ⟨g1, g2⟩ := h2 rfl
    exact ⟨_, _, rfl, .inl rfl, fun _ => ⟨g1, g2⟩⟩
  | false =>
    obtain ⟨g1, g2⟩ := h3 rfl
    exact ⟨_, _, rfl, .inr g2, fun e => by have e : s'.2.1 = 0 := e; rw [g2] at e; cases e⟩


/-! ### Products as whole numbers -/
theorem foldl_mul : ∀ (l : List Int) (c : Int), l.foldl (fun a t => a * t) c = c * prodW l
  | [], c => by simp [prodW]
  | x :: l, c => by
    have h1 := foldl_mul l (c * x)
    have h2 := foldl_mul l (1 * x)
    unfold prodW
    rw [List.foldl_cons, List.foldl_cons, h1, h2, Int.one_mul, Int.mul_assoc]
theorem prodW_cons (x : Int) (l : List Int) : prodW (x :: l) = x * prodW l := by
  have := foldl_mul l (1 * x)
  rw [Int.one_mul] at this
  unfold prodW at this ⊢
  rw [List.foldl_cons, Int.one_mul]
  exact this
theorem prodW_perm {a b : List Int} (h : a.Perm b) : prodW a = prodW b := by
  induction h with
  | nil => rfl
  | cons x _ ih => rw [prodW_cons, prodW_cons, ih]
  | swap x y l => rw [prodW_cons, prodW_cons, prodW_cons, prodW_cons, Int.mul_left_comm]
  | trans _ _ h1 h2 => exact h1.trans h2
theorem pz_int : ∀ l : List Int, pz l = (prodW l : Rat)
  | [] => by simp [pz, prodW]
  | x :: l => by rw [prodW_cons, Rat.intCast_mul, ← pz_int l]; rfl
theorem prodW_pos : ∀ {l : List Int}, (∀ x ∈ l, 0 < x) → 0 < prodW l
  | [], _ => by simp [prodW]
  | x :: l, h => by
    rw [prodW_cons]
    exact Int.mul_pos (h x (by simp)) (prodW_pos fun z hz => h z (by simp [hz]))
theorem absN_mul {a b : Int} (h : 0 < b) : absN (a * b) = absN a * b := by
  unfold absN
  by_cases h1 : a < 0
  · rw [if_pos h1, if_pos (Int.mul_neg_of_neg_of_pos h1 h), Int.neg_mul]
  · rw [if_neg h1, if_neg (by have := Int.mul_nonneg (show 0 ≤ a by omega) (Int.le_of_lt h); omega)]
theorem sg_cases : ∀ n, sg n = 1 ∨ sg n = -1
  | 0 => .inl rfl
  | n + 1 => by
    rcases sg_cases n with h | h
    · exact .inr (by simp [sg, h])
    · exact .inl (by simp [sg, h])
theorem cast_inj {a b : Int} (h : (a : Rat) = (b : Rat)) : a = b := Rat.intCast_inj.1 h
/-- The ratio of a train, without its sign. -/
theorem own_val {l : List (Int × Int)} (h : ∀ y ∈ l, okP y = true) {own : Int × Int} (hv : vR own = true) (he : val own = pq l) : absN own.1 * prodW (l.map (·.2)) = prodW (l.map (·.1)) * own.2 := by
  have hd := (vR_bd hv)
  have h1 := pq_eq l fun y hy => by have := (okP_bd (h y hy)).2; omega
  rw [← he, pz_int, pz_int] at h1
  have hne := den_ne hv
  have hp1 : 0 < prodW (l.map (·.1)) := prodW_pos fun x hx => by
    obtain ⟨y, hy, rfl⟩ := List.mem_map.1 hx
    have := (okP_bd (h y hy)).1; omega
  have hp2 : 0 < prodW (l.map (·.2)) := prodW_pos fun x hx => by
    obtain ⟨y, hy, rfl⟩ := List.mem_map.1 hx
    have := (okP_bd (h y hy)).2; omega
  have hd0 : 0 < own.2 := by omega
  have key : ∀ {n d q s p : Rat}, d ≠ 0 → n / d * q = s * p → n * q = s * (p * d) := fun hd h => by grind
  have h2 := key hne h1
  have hpos := Int.mul_pos hp1 hd0
  rcases sg_cases l.length with hs | hs
  · rw [hs, Rat.one_mul, ← Rat.intCast_mul, ← Rat.intCast_mul] at h2
    have h3 := cast_inj h2
    rw [← absN_mul hp2, h3]
    unfold absN
    rw [if_neg (by omega)]
  · rw [hs, Rat.neg_mul, Rat.one_mul, ← Rat.intCast_mul, ← Rat.intCast_mul, ← Rat.intCast_neg] at h2
    have h3 := cast_inj h2
    rw [← absN_mul hp2, h3]
    unfold absN
    rw [if_pos (by omega), Int.neg_neg]
theorem error_val {l : List (Int × Int)} {r : Int × Int} (hl : l.length ≤ 5) (h : ∀ y ∈ l, okP y = true) (hr : vR r = true) :
    ∃ (e : Int × Int) (c : Int), errorI (l, r) = some (e, c) ∧ (c = 0 ∨ c = 2) ∧ (c = 0 → vR e = true ∧ 0 ≤ e.1 ∧ e.1 * (prodW (l.map (·.2)) * r.2) = farQ r.1 r.2 (prodW (l.map (·.1))) (prodW (l.map (·.2))) * e.2) := by
  obtain ⟨own, c, e1, hc, hv⟩ := train_val (t := l) (by omega) h
  have hrb := vR_bd hr
  have hall : (l.all okP && decide ((l.length : Int) ≤ 5)) = true := by
    rw [Bool.and_eq_true]
    exact ⟨List.all_eq_true.2 h, by simp; omega⟩
  have hE : ∀ d, diffI (l, r) = some d → errorI (l, r) = ob (absI d.1.1) fun y => some ((y, d.1.2), d.2) := fun d hd => by
    unfold errorI
    dsimp only
    rw [validTrainI_eq (by omega), ob_s, hall, Bool.not_true, br_f rfl, show validRatI (r.1, r.2) = some (vR r) from validRatI_eq r, ob_s, hr, Bool.not_true, br_f rfl, show diffI (l, r.1, r.2) = _ from hd, ob_s]
  rcases hc with rfl | rfl
  · obtain ⟨hv1, hv2⟩ := hv rfl
    have hob := vR_bd hv1
    have hab := vR_abs hv1
    have hA : absI own.1 = some (absN own.1) := absI_w (by omega) (by omega)
    have hD : diffI (l, r) = some (ratF (absN own.1 * r.2 - r.1 * own.2) (own.2 * r.2)) := by
      unfold diffI
      dsimp only
      rw [e1, ob_s, br_f (by simp), hA, ob_s]
      have := subRatI_eq (absN own.1, own.2) r
      rw [if_pos ⟨hab, hr⟩] at this
      rw [show subRatI ((absN own.1, own.2), r.1, r.2) = _ from this, ob_s]
    have hdp : 0 < own.2 * r.2 := Int.mul_pos (by omega) (by omega)
    have hov := own_val h hv1 hv2
    rcases ratF_code (absN own.1 * r.2 - r.1 * own.2) (own.2 * r.2) with hc0 | hc2
    · obtain ⟨v1, v2⟩ := val_ratF hdp hc0
      generalize ratF (absN own.1 * r.2 - r.1 * own.2) (own.2 * r.2) = d at hD hc0 v1 v2
      have hdb := vR_bd v1
      refine ⟨(absN d.1.1, d.1.2), 0, ?_, .inl rfl, fun _ => ⟨vR_abs v1, absN_nn _, ?_⟩⟩
      · rw [hE d hD, absI_w (by omega) (by omega), ob_s, hc0]
      · have hcross := frac_cross (den_ne v1) (cast_ne hdp) v2
        rw [← Rat.intCast_mul, ← Rat.intCast_mul] at hcross
        have hcross := cast_inj hcross
        have hQ : 0 < prodW (l.map (·.2)) := prodW_pos fun x hx => by
          obtain ⟨y, hy, rfl⟩ := List.mem_map.1 hx
          have := (okP_bd (h y hy)).2; omega
        generalize prodW (l.map (·.2)) = Q at hov hQ ⊢
        generalize prodW (l.map (·.1)) = P at hov ⊢
        have hQr : 0 < Q * r.2 := Int.mul_pos hQ (by omega)
        have hde : 0 < d.1.2 := by omega
        have hown : own.2 ≠ 0 := by omega
        have key : d.1.1 * (Q * r.2) = (P * r.2 - Q * r.1) * d.1.2 := by
          refine Int.eq_of_mul_eq_mul_left hown ?_
          have := congrArg (fun z => Q * z) hcross
          generalize absN own.1 = A at hov this
          have e : own.2 * (d.1.1 * (Q * r.2)) = Q * (d.1.1 * (own.2 * r.2)) := by grind
          rw [e, this]
          have e2 : Q * ((A * r.2 - r.1 * own.2) * d.1.2) = ((A * Q) * r.2 - r.1 * own.2 * Q) * d.1.2 := by grind
          rw [e2, hov]
          grind
        show absN d.1.1 * (Q * r.2) = absN (P * r.2 - Q * r.1) * d.1.2
        rw [← absN_mul hQr, ← absN_mul hde, key]
    · refine ⟨(0, 0), 2, ?_, .inr rfl, fun h => (by cases h)⟩
      have : ratF (absN own.1 * r.2 - r.1 * own.2) (own.2 * r.2) = ((0, 0), 2) := by
        unfold ratF at hc2 ⊢
        cases hm : mkR (absN own.1 * r.2 - r.1 * own.2) (own.2 * r.2) with
        | none => rfl
        | some p => rw [hm] at hc2; cases hc2
      rw [this] at hD
      rw [hE _ hD]
      rfl
  · refine ⟨(0, 0), 2, ?_, .inr rfl, fun h => (by cases h)⟩
    have hD : diffI (l, r) = some ((0, 0), 2) := by
      unfold diffI
      dsimp only
      rw [e1, ob_s, br_t (by simp)]
    rw [hE _ hD]
    rfl
end
end Rx
end Go.Proofs.YthfgpnpoocepeaaGreat
