/- The speeds of planetary gears fit each other: in plain terms. No program in sight. No conditions. -/
import Derived.Test.YtfapjkcmoefilaaDoorRxEpiDrawLaw
import Derived.Test.YtfapjkcmoefilaaDoorRxEpiRatLaw
import Derived.Test.YtfapjkcmoefilaaDoorRxReadLaw
import Derived.Test.YtfapjkcmoefilaaDoorRxFnEpic
namespace Go.Proofs.YtfapjkcmoefilaaDoor
namespace Rx
open Go

/-! ### Ratios as numbers -/
noncomputable def val (p : Int × Int) : Rat := (p.1 : Rat) / (p.2 : Rat)
theorem frac_eq {a b c d : Rat} (hb : b ≠ 0) (hd : d ≠ 0) (h : a * d = c * b) : a / b = c / d := by grind
theorem frac_cross {a b c d : Rat} (hb : b ≠ 0) (hd : d ≠ 0) (h : a / b = c / d) : a * d = c * b := by grind
theorem frac_sub {a b c d : Rat} (hb : b ≠ 0) (hd : d ≠ 0) : (a * d - c * b) / (b * d) = a / b - c / d := by grind
theorem frac_mul {a b c d : Rat} (hb : b ≠ 0) (hd : d ≠ 0) : (a * c) / (b * d) = (a / b) * (c / d) := by grind
theorem frac_add {a b c d : Rat} (hb : b ≠ 0) (hd : d ≠ 0) : (a * d + c * b) / (b * d) = a / b + c / d := by grind
theorem cast_ne {a : Int} (h : 0 < a) : (a : Rat) ≠ 0 := by
  intro e
  have : a = 0 := Rat.intCast_inj.1 e
  omega
theorem val_ratF {n d : Int} (hd : 0 < d) (h : (ratF n d).2 = 0) : vR (ratF n d).1 = true ∧ val (ratF n d).1 = (n : Rat) / (d : Rat) := by
  obtain ⟨v, hm⟩ := ratF_valid (by omega) h
  have hc := mkR_cross hd hm
  have hp := vR_bd v
  refine ⟨v, ?_⟩
  generalize (ratF n d).1 = p at hc hp
  have hc : (n : Rat) * (p.2 : Rat) = (p.1 : Rat) * (d : Rat) := by
    rw [← Rat.intCast_mul, ← Rat.intCast_mul, hc]
  exact frac_eq (cast_ne (by omega)) (cast_ne hd) hc.symm
theorem val_inj {p q : Int × Int} (hp : vR p = true) (hq : vR q = true) (h : val p = val q) : p = q := by
  have bp := vR_bd hp
  have bq := vR_bd hq
  have hc := frac_cross (cast_ne (by omega)) (cast_ne (by omega)) h
  rw [← Rat.intCast_mul, ← Rat.intCast_mul] at hc
  exact rat_unique hp hq (Rat.intCast_inj.1 hc)
theorem den_ne {p : Int × Int} (hp : vR p = true) : ((p.2 : Int) : Rat) ≠ 0 := cast_ne (by have := vR_bd hp; omega)
theorem den_pos {p q : Int × Int} (hp : vR p = true) (hq : vR q = true) : 0 < p.2 * q.2 := by
  have := pp1 (vR_bd hp).1 (vR_bd hq).1
  omega
theorem val_sub {a b : Int × Int} (ha : vR a = true) (hb : vR b = true) (h : (ratF (a.1 * b.2 - b.1 * a.2) (a.2 * b.2)).2 = 0) : vR (ratF (a.1 * b.2 - b.1 * a.2) (a.2 * b.2)).1 = true ∧ val (ratF (a.1 * b.2 - b.1 * a.2) (a.2 * b.2)).1 = val a - val b := by
  obtain ⟨v, e⟩ := val_ratF (den_pos ha hb) h
  refine ⟨v, e.trans ?_⟩
  rw [Rat.intCast_sub, Rat.intCast_mul, Rat.intCast_mul, Rat.intCast_mul]
  exact frac_sub (den_ne ha) (den_ne hb)
theorem val_mul {a b : Int × Int} (ha : vR a = true) (hb : vR b = true) (h : (ratF (a.1 * b.1) (a.2 * b.2)).2 = 0) : vR (ratF (a.1 * b.1) (a.2 * b.2)).1 = true ∧ val (ratF (a.1 * b.1) (a.2 * b.2)).1 = val a * val b := by
  obtain ⟨v, e⟩ := val_ratF (den_pos ha hb) h
  refine ⟨v, e.trans ?_⟩
  rw [Rat.intCast_mul, Rat.intCast_mul]
  exact frac_mul (den_ne ha) (den_ne hb)
theorem val_add {a b : Int × Int} (ha : vR a = true) (hb : vR b = true) (h : (ratF (a.1 * b.2 + b.1 * a.2) (a.2 * b.2)).2 = 0) : vR (ratF (a.1 * b.2 + b.1 * a.2) (a.2 * b.2)).1 = true ∧ val (ratF (a.1 * b.2 + b.1 * a.2) (a.2 * b.2)).1 = val a + val b := by
  obtain ⟨v, e⟩ := val_ratF (den_pos ha hb) h
  refine ⟨v, e.trans ?_⟩
  rw [Rat.intCast_add, Rat.intCast_mul, Rat.intCast_mul, Rat.intCast_mul]
  exact frac_add (den_ne ha) (den_ne hb)
theorem val_mk {n d : Int} {k : Int × Int} (hd : 0 < d) (h : mkR n d = some k) : vR k = true ∧ val k = (n : Rat) / (d : Rat) := by
  have e : ratF n d = (k, 0) := by unfold ratF; rw [h]
  have := val_ratF (n := n) (d := d) hd (by rw [e])
  rw [e] at this
  exact this

/-! ### Sun and ring, seen from the carrier -/
theorem turn_val {a b k : Int × Int} (ha : vR a = true) (hb : vR b = true) (hk : vR k = true) : ((turnF a b k).2 = 0 ∨ (turnF a b k).2 = 2) ∧ ((turnF a b k).2 = 0 → vR (turnF a b k).1 = true ∧ val (turnF a b k).1 = val b - (val a - val b) * val k) := by
  unfold turnF
  dsimp only
  by_cases hs : (ratF (a.1 * b.2 - b.1 * a.2) (a.2 * b.2)).2 = 0
  · rw [if_pos hs]
    obtain ⟨v1, e1⟩ := val_sub ha hb hs
    generalize (ratF (a.1 * b.2 - b.1 * a.2) (a.2 * b.2)).1 = s at v1 e1
    by_cases hm : (ratF (s.1 * k.1) (s.2 * k.2)).2 = 0
    · rw [if_pos hm]
      obtain ⟨v2, e2⟩ := val_mul v1 hk hm
      generalize (ratF (s.1 * k.1) (s.2 * k.2)).1 = m at v2 e2
      refine ⟨ratF_code _ _, fun h => ?_⟩
      obtain ⟨v3, e3⟩ := val_sub hb v2 h
      exact ⟨v3, by rw [e3, e2, e1]⟩
    · rw [if_neg hm]
      exact ⟨ratF_code _ _, fun h => (hm h).elim⟩
  · rw [if_neg hs]
    exact ⟨ratF_code _ _, fun h => (hs h).elim⟩
def carG (s r k l : Int × Int) : (Int × Int) × Int :=
  let m := ratF (s.1 * k.1) (s.2 * k.2)
  if m.2 = 0 then
    let n := ratF (r.1 * l.1) (r.2 * l.2)
    if n.2 = 0 then ratF (m.1.1 * n.1.2 + n.1.1 * m.1.2) (m.1.2 * n.1.2) else ((0, 0), n.2)
  else ((0, 0), m.2)
theorem car_val {s r k l : Int × Int} (hs : vR s = true) (hr : vR r = true) (hk : vR k = true) (hl : vR l = true) : ((carG s r k l).2 = 0 ∨ (carG s r k l).2 = 2) ∧ ((carG s r k l).2 = 0 → vR (carG s r k l).1 = true ∧ val (carG s r k l).1 = val s * val k + val r * val l) := by
  unfold carG
  dsimp only
  by_cases h1 : (ratF (s.1 * k.1) (s.2 * k.2)).2 = 0
  · rw [if_pos h1]
    obtain ⟨v1, e1⟩ := val_mul hs hk h1
    generalize (ratF (s.1 * k.1) (s.2 * k.2)).1 = m at v1 e1
    by_cases h2 : (ratF (r.1 * l.1) (r.2 * l.2)).2 = 0
    · rw [if_pos h2]
      obtain ⟨v2, e2⟩ := val_mul hr hl h2
      generalize (ratF (r.1 * l.1) (r.2 * l.2)).1 = n at v2 e2
      refine ⟨ratF_code _ _, fun h => ?_⟩
      obtain ⟨v3, e3⟩ := val_add v1 v2 h
      exact ⟨v3, by rw [e3, e2, e1]⟩
    · rw [if_neg h2]
      exact ⟨ratF_code _ _, fun h => (h2 h).elim⟩
  · rw [if_neg h1]
    exact ⟨ratF_code _ _, fun h => (h1 h).elim⟩
structure Gears (e : EpiD) (k k' c1 c2 : Int × Int) : Prop where
  ok : validEpiI e = some true
  hS : 6 ≤ e.1 ∧ e.1 ≤ 240
  hR : 6 ≤ e.2.1 ∧ e.2.1 ≤ 240
  hk : mkR e.1 e.2.1 = some k
  hk' : mkR e.2.1 e.1 = some k'
  h1 : mkR e.1 (e.1 + e.2.1) = some c1
  h2 : mkR e.2.1 (e.1 + e.2.1) = some c2
theorem gears {e : EpiD} (he : validEpiI e = some true) : ∃ k k' c1 c2, Gears e k k' c1 c2 := by
  obtain ⟨v, hv, hb⟩ := validEpiI_out e
  rw [he] at hv; cases hv
  obtain ⟨b1, b2, b3, b4⟩ := hb rfl
  obtain ⟨k, hk⟩ := mkR_small (n := e.1) (d := e.2.1) (by omega) (by omega)
  obtain ⟨k', hk'⟩ := mkR_small (n := e.2.1) (d := e.1) (by omega) (by omega)
  obtain ⟨c1, h1⟩ := mkR_small (n := e.1) (d := e.1 + e.2.1) (by omega) (by omega)
  obtain ⟨c2, h2⟩ := mkR_small (n := e.2.1) (d := e.1 + e.2.1) (by omega) (by omega)
  exact ⟨k, k', c1, c2, he, b1, b2, hk, hk', h1, h2⟩
section
variable {e : EpiD} {k k' c1 c2 : Int × Int} {a b : Int × Int}
theorem ring_turn (G : Gears e k k' c1 c2) (ha : vR a = true) (hb : vR b = true) : ringI (e, a, b) = some (turnF a b k) := by
  have h := relI_eq (e := e) (a := a) (b := b) G.ok ha hb (p := e.1) (q := e.2.1) (by have := G.hS; omega) (by have := G.hR; omega) G.hk
  unfold ringI
  exact (ob_some' h)
theorem sun_turn (G : Gears e k k' c1 c2) (ha : vR a = true) (hb : vR b = true) : sunI (e, a, b) = some (turnF a b k') := by
  have h := relI_eq (e := e) (a := a) (b := b) G.ok ha hb (p := e.2.1) (q := e.1) (by have := G.hR; omega) (by have := G.hS; omega) G.hk'
  unfold sunI
  exact (ob_some' h)
theorem car_car (G : Gears e k k' c1 c2) (ha : vR a = true) (hb : vR b = true) : carrierI (e, a, b) = some (carG a b c1 c2) := by
  obtain ⟨ok, ⟨s1, s2⟩, ⟨r1, r2⟩, _, _, h1, h2⟩ := G
  have v1 : vR c1 = true := mkR_valid (by omega) h1
  have v2 : vR c2 = true := mkR_valid (by omega) h2
  have e1 : makeRatI (e.1, e.1 + e.2.1) = some (c1, 0) := by rw [makeRatI_eq ⟨by omega, by omega⟩ ⟨by omega, by omega⟩ (by omega)]; unfold ratF; rw [h1]
  have e2 : makeRatI (e.2.1, e.1 + e.2.1) = some (c2, 0) := by rw [makeRatI_eq ⟨by omega, by omega⟩ ⟨by omega, by omega⟩ (by omega)]; unfold ratF; rw [h2]
  have m1 : mulRatI ((a.1, a.2), c1.1, c1.2) = some (ratF (a.1 * c1.1) (a.2 * c1.2)) := by
    have := mulRatI_eq a c1
    rw [if_pos ⟨ha, v1⟩] at this
    exact this
  have m2 : mulRatI ((b.1, b.2), c2.1, c2.2) = some (ratF (b.1 * c2.1) (b.2 * c2.2)) := by
    have := mulRatI_eq b c2
    rw [if_pos ⟨hb, v2⟩] at this
    exact this
  unfold carrierI carG
  dsimp only
  rw [ob_some' (show validEpiI (e.1, e.2.1, e.2.2.1, e.2.2.2) = some true from ok), br_f (c := !true) rfl, ob_some' ((validRatI_eq (a.1, a.2)).trans (congrArg some ha)), br_f (c := !true) rfl, ob_some' ((validRatI_eq (b.1, b.2)).trans (congrArg some hb)), br_f (c := !true) rfl, w64 (by omega) (by omega), ob_some' e1, ob_some' e2, ob_some' m1]
  by_cases g1 : (ratF (a.1 * c1.1) (a.2 * c1.2)).2 = 0
  · rw [if_pos g1, br_f (by rw [g1]; rfl), ob_some' m2]
    obtain ⟨w1, _⟩ := val_mul ha v1 g1
    by_cases g2 : (ratF (b.1 * c2.1) (b.2 * c2.2)).2 = 0
    · rw [if_pos g2, br_f (by rw [g2]; rfl)]
      obtain ⟨w2, _⟩ := val_mul hb v2 g2
      have m3 := addRatI_eq (ratF (a.1 * c1.1) (a.2 * c1.2)).1 (ratF (b.1 * c2.1) (b.2 * c2.2)).1
      rw [if_pos ⟨w1, w2⟩] at m3
      exact ob_some' m3
    · rw [if_neg g2, br_t (by rw [bne_iff_ne]; exact g2)]
  · rw [if_neg g1, br_t (by rw [bne_iff_ne]; exact g1)]
end

/-- What is found back. -/
theorem back_sun {a b S R r s : Rat} (hS : S ≠ 0) (hR : R ≠ 0) (h : r = b - (a - b) * (S / R)) (h2 : s = b - (r - b) * (R / S)) : s = a := by grind
theorem back_car {a b S R r c : Rat} (hR : R ≠ 0) (hSR : S + R ≠ 0) (h : r = b - (a - b) * (S / R)) (hc : c = a * (S / (S + R)) + r * (R / (S + R))) : c = b := by grind
theorem speeds {e : EpiD} (he : validEpiI e = some true) {a b : Int × Int} (ha : vR a = true) (hb : vR b = true) : ∃ y, ringI (e, a, b) = some y ∧ (y.2 = 0 → ∃ p q, sunI (e, y.1, b) = some p ∧ carrierI (e, a, y.1) = some q ∧ (p.2 = 0 ∨ p.2 = 2) ∧ (q.2 = 0 ∨ q.2 = 2) ∧ (p.2 = 0 → p.1 = a) ∧ (q.2 = 0 → q.1 = b)) := by
  obtain ⟨k, k', c1, c2, G⟩ := gears he
  have hS := G.hS
  have hR := G.hR
  obtain ⟨vk, ek⟩ := val_mk (by omega) G.hk
  obtain ⟨vk', ek'⟩ := val_mk (by omega) G.hk'
  obtain ⟨v1, e1⟩ := val_mk (by omega) G.h1
  obtain ⟨v2, e2⟩ := val_mk (by omega) G.h2
  have nS : (e.1 : Rat) ≠ 0 := cast_ne (by omega)
  have nR : (e.2.1 : Rat) ≠ 0 := cast_ne (by omega)
  have nT : (e.1 : Rat) + (e.2.1 : Rat) ≠ 0 := by rw [← Rat.intCast_add]; exact cast_ne (by omega)
  rw [Rat.intCast_add] at e1 e2
  refine ⟨_, ring_turn G ha hb, fun h0 => ?_⟩
  obtain ⟨vr, er⟩ := (turn_val ha hb vk).2 h0
  rw [ek] at er
  refine ⟨_, _, sun_turn G vr hb, car_car G ha vr, (turn_val vr hb vk').1, (car_val ha vr v1 v2).1, fun hp => ?_, fun hq => ?_⟩
  · obtain ⟨vp, ep⟩ := (turn_val vr hb vk').2 hp
    rw [ek'] at ep
    exact val_inj vp ha (back_sun nS nR er ep)
  · obtain ⟨vq, eq⟩ := (car_val ha vr v1 v2).2 hq
    rw [e1, e2] at eq
    exact val_inj vq hb (back_car nR nT er eq)

/-! ### The ratio of one to another, both ways -/
theorem ratF_small {n d : Int} (hn : -1000000000 ≤ n ∧ n ≤ 1000000000) (hd : 1 ≤ d ∧ d ≤ 1000000000) : (ratF n d).2 = 0 := by
  obtain ⟨p, hp⟩ := mkR_some hn hd
  unfold ratF
  rw [hp]
theorem mkR_le {n d : Int} {k : Int × Int} (hn : 6 ≤ n ∧ n ≤ 480) (hd : 6 ≤ d ∧ d ≤ 480) (h : mkR n d = some k) : (1 ≤ k.1 ∧ k.1 ≤ 480) ∧ 1 ≤ k.2 ∧ k.2 ≤ 480 := by
  obtain ⟨g, hg, e1, e2⟩ := mkR_parts (by omega) h
  have hv := vR_bd (mkR_valid (by omega) h : vR k = true)
  have p1 : 0 < k.1 := by
    rcases Int.lt_or_le 0 k.1 with h | h
    · exact h
    · exfalso
      have := Int.mul_nonpos_of_nonneg_of_nonpos (show (0 : Int) ≤ g by omega) h
      omega
  have q1 := Int.mul_le_mul_of_nonneg_right hg (show (0 : Int) ≤ k.1 by omega)
  have q2 := Int.mul_le_mul_of_nonneg_right hg (show (0 : Int) ≤ k.2 by omega)
  omega
theorem v11 : vR (1, 1) = true := by decide
theorem v01 : vR (0, 1) = true := by decide
theorem val11 : val (1, 1) = 1 := by unfold val; simp; grind
theorem val01 : val (0, 1) = 0 := by unfold val; simp; grind
theorem neg_valid {k : Int × Int} (hk : vR k = true) : vR (-k.1, k.2) = true := by
  have h := hk
  unfold vR vRat at h ⊢
  simp only [Bool.and_eq_true, decide_eq_true_eq, Int.neg_gcd] at h ⊢
  omega
theorem turn_10 {k : Int × Int} (hk : vR k = true) : turnF (1, 1) (0, 1) k = ((-k.1, k.2), 0) := by
  unfold turnF
  dsimp only
  have e1 : ratF (1 * 1 - 0 * 1) (1 * 1) = ((1, 1), 0) := ratF_self v11
  rw [e1, if_pos rfl]
  dsimp only
  rw [Int.one_mul, Int.one_mul, ratF_self hk, if_pos rfl]
  dsimp only
  rw [show 0 * k.2 - k.1 * 1 = -k.1 by omega, Int.one_mul]
  exact ratF_self (neg_valid hk)
theorem turn_01 {k : Int × Int} (hk : vR k = true) (hb : (1 ≤ k.1 ∧ k.1 ≤ 480) ∧ 1 ≤ k.2 ∧ k.2 ≤ 480) : (turnF (0, 1) (1, 1) k).2 = 0 := by
  have vm : vR (-1, 1) = true := by decide
  unfold turnF
  dsimp only
  have e1 : ratF (0 * 1 - 1 * 1) (1 * 1) = ((-1, 1), 0) := ratF_self vm
  rw [e1, if_pos rfl]
  dsimp only
  rw [show -1 * k.1 = -k.1 by omega, Int.one_mul, ratF_self (neg_valid hk), if_pos rfl]
  dsimp only
  exact ratF_small (by omega) (by omega)
theorem car_10 {k l : Int × Int} (hk : vR k = true) (hl : vR l = true) : carG (1, 1) (0, 1) k l = (k, 0) := by
  have bl := vR_bd hl
  unfold carG
  dsimp only
  rw [Int.one_mul, Int.one_mul, ratF_self hk, if_pos rfl, Int.zero_mul, Int.one_mul, ratF_zero ⟨bl.1, bl.2.1⟩, if_pos rfl]
  dsimp only
  rw [show k.1 * 1 + 0 * k.2 = k.1 by omega, Int.mul_one]
  exact ratF_self hk
theorem car_01 {k l : Int × Int} (hk : vR k = true) (hl : vR l = true) : carG (0, 1) (1, 1) k l = (l, 0) := by
  have bk := vR_bd hk
  unfold carG
  dsimp only
  rw [Int.zero_mul, Int.one_mul, ratF_zero ⟨bk.1, bk.2.1⟩, if_pos rfl, Int.one_mul, Int.one_mul, ratF_self hl, if_pos rfl]
  dsimp only
  rw [show 0 * l.2 + l.1 * 1 = l.1 by omega, Int.one_mul]
  exact ratF_self hl
theorem ratF_same {n : Int} (hn : 0 < n) : ratF n n = ((1, 1), 0) := by
  have hg : (Int.gcd n n : Int) = n := by rw [Int.gcd_self]; omega
  have hm : mag n = n := by unfold mag; omega
  have : mkR n n = some (1, 1) := by
    unfold mkR
    dsimp only
    rw [hg, hm, Int.ediv_self (by omega)]
    simp
  unfold ratF
  rw [this]
theorem mul_back {x y : Int × Int} (hx : vR x = true) (hy : vR y = true) (h : val x * val y = 1) : mulRatS ((x.1, x.2), y.1, y.2) = some ((1, 1), 0) := by
  rw [mulRatS_same]
  have e := mulRatI_eq x y
  rw [if_pos ⟨hx, hy⟩] at e
  refine e.trans ?_
  have hp := den_pos hx hy
  have hq : x.1 * y.1 = x.2 * y.2 := by
    have h1 : ((x.1 : Int) : Rat) * y.1 / (x.2 * y.2) = 1 := (frac_mul (den_ne hx) (den_ne hy)).trans h
    have h2 : ((x.2 : Int) : Rat) * y.2 ≠ 0 := by rw [← Rat.intCast_mul]; exact cast_ne hp
    have h3 : ((x.1 : Int) : Rat) * y.1 = x.2 * y.2 := by grind
    rw [← Rat.intCast_mul, ← Rat.intCast_mul] at h3
    exact Rat.intCast_inj.1 h3
  rw [hq, ratF_same hp]
/-- What each comes to. -/
def ratIs (e : EpiD) (f t : Int) (q : Rat) : Prop := ∃ x, epiRatI (e, f, t) = some (x, 0) ∧ vR x = true ∧ val x = q
section
variable {e : EpiD} (he : validEpiI e = some true)
theorem neg_val (k : Int × Int) : val (-k.1, k.2) = -val k := by
  unfold val
  rw [Rat.intCast_neg]
  grind
include he
theorem r01 : ratIs e 0 1 (-((e.1 : Rat) / e.2.1)) := by
  obtain ⟨k, k', c1, c2, G⟩ := gears he
  obtain ⟨vk, ek⟩ := val_mk (by have := G.hR; omega) G.hk
  exact ⟨_, (i01 e he).trans (epiTail_s ((ring_turn G v11 v01).trans (congrArg some (turn_10 vk)))), neg_valid vk, by rw [neg_val, ek]⟩
theorem r10 : ratIs e 1 0 (-((e.2.1 : Rat) / e.1)) := by
  obtain ⟨k, k', c1, c2, G⟩ := gears he
  obtain ⟨vk, ek⟩ := val_mk (by have := G.hS; omega) G.hk'
  exact ⟨_, (i10 e he).trans (epiTail_s ((sun_turn G v11 v01).trans (congrArg some (turn_10 vk)))), neg_valid vk, by rw [neg_val, ek]⟩
theorem r02 : ratIs e 0 2 ((e.1 : Rat) / (e.1 + e.2.1)) := by
  obtain ⟨k, k', c1, c2, G⟩ := gears he
  have hS := G.hS
  have hR := G.hR
  obtain ⟨v1, e1⟩ := val_mk (by omega) G.h1
  obtain ⟨v2, e2⟩ := val_mk (by omega) G.h2
  exact ⟨_, (i02 e he).trans (epiTail_s ((car_car G v11 v01).trans (congrArg some (car_10 v1 v2)))), v1, by rw [e1, Rat.intCast_add]⟩
theorem r12 : ratIs e 1 2 ((e.2.1 : Rat) / (e.1 + e.2.1)) := by
  obtain ⟨k, k', c1, c2, G⟩ := gears he
  have hS := G.hS
  have hR := G.hR
  obtain ⟨v1, e1⟩ := val_mk (by omega) G.h1
  obtain ⟨v2, e2⟩ := val_mk (by omega) G.h2
  exact ⟨_, (i12 e he).trans (epiTail_s ((car_car G v01 v11).trans (congrArg some (car_01 v1 v2)))), v2, by rw [e2, Rat.intCast_add]⟩
theorem r20 : ratIs e 2 0 (1 + (e.2.1 : Rat) / e.1) := by
  obtain ⟨k, k', c1, c2, G⟩ := gears he
  have hS := G.hS
  have hR := G.hR
  obtain ⟨vk, ek⟩ := val_mk (by omega) G.hk'
  have h0 := turn_01 vk (mkR_le (by omega) (by omega) G.hk')
  obtain ⟨vt, et⟩ := (turn_val v01 v11 vk).2 h0
  refine ⟨(turnF (0, 1) (1, 1) k').1, (i20 e he).trans (epiTail_s ((sun_turn G v01 v11).trans (congrArg some (Prod.ext rfl h0)))), vt, ?_⟩
  rw [et, val11, val01, ek]
  grind
theorem r21 : ratIs e 2 1 (1 + (e.1 : Rat) / e.2.1) := by
  obtain ⟨k, k', c1, c2, G⟩ := gears he
  have hS := G.hS
  have hR := G.hR
  obtain ⟨vk, ek⟩ := val_mk (by omega) G.hk
  have h0 := turn_01 vk (mkR_le (by omega) (by omega) G.hk)
  obtain ⟨vt, et⟩ := (turn_val v01 v11 vk).2 h0
  refine ⟨(turnF (0, 1) (1, 1) k).1, (i21 e he).trans (epiTail_s ((ring_turn G v01 v11).trans (congrArg some (Prod.ext rfl h0)))), vt, ?_⟩
  rw [et, val11, val01, ek]
  grind
end
theorem rat_same {e : EpiD} (he : validEpiI e = some true) : (∃ z, epiRatI (e, 0, 0) = some (z, 2)) ∧ (∃ z, epiRatI (e, 1, 1) = some (z, 2)) ∧ ∃ z, epiRatI (e, 2, 2) = some (z, 2) := by
  refine ⟨⟨(0, 0), ?_⟩, ⟨(0, 0), ?_⟩, ⟨(0, 0), ?_⟩⟩
  all_goals
    show ob (validEpiI e) _ = _
    rw [he]; kernel_rfl

theorem prod_a {S R : Rat} (hS : S ≠ 0) (hR : R ≠ 0) : -(S / R) * -(R / S) = 1 := by grind
theorem prod_b {S R : Rat} (hS : S ≠ 0) (_ : R ≠ 0) (hT : S + R ≠ 0) : S / (S + R) * (1 + R / S) = 1 := by grind
theorem prod_c {S R : Rat} (_ : S ≠ 0) (hR : R ≠ 0) (hT : S + R ≠ 0) : R / (S + R) * (1 + S / R) = 1 := by grind
/-! ### The rounds -/
theorem wrap_small {i : Int} (h : 0 ≤ i ∧ i ≤ 3) : IntKind.i64.wrap (i + 1) = i + 1 := w64 (by omega) (by omega)
theorem st_ne {e : EpiD} {b : Bool} {f t : Int} {q q' : Rat} (hft : f ≠ t) (ht : 0 ≤ t ∧ t < 3) (h1 : ratIs e f t q) (h2 : ratIs e t f q') (h : q * q' = 1) : fnEpicP_step (b, e, f, t) = some (.next, b, e, f, t + 1) := by
  obtain ⟨x, e1, v1, w1⟩ := h1
  obtain ⟨y, e2, v2, w2⟩ := h2
  unfold fnEpicP_step
  dsimp only
  rw [br_t (by simpa using ht.2), ob_some' e1, ob_some' e2, br_f (by rw [beq_eq_false_iff_ne]; exact hft), ob_some' (mul_back v1 v2 (by rw [w1, w2, h])), br_f (c := (0 : Int) != 0) rfl, br_f (c := (0 : Int) != 0) rfl, br_f (c := (0 : Int) != 0) rfl]
  dsimp only
  rw [br_f (c := !((1 : Int) == 1 && (1 : Int) == 1)) rfl, wrap_small (by omega)]
theorem st_eq {e : EpiD} {b : Bool} {f : Int} (ht : 0 ≤ f ∧ f < 3) (h : ∃ z, epiRatI (e, f, f) = some (z, 2)) : fnEpicP_step (b, e, f, f) = some (.next, b, e, f, f + 1) := by
  obtain ⟨z, e1⟩ := h
  unfold fnEpicP_step
  dsimp only
  rw [br_t (by simpa using ht.2), ob_some' e1, ob_some' e1, br_t (by simp), br_f (c := (2 : Int) != 2) rfl, wrap_small (by omega)]
theorem st_out (e : EpiD) (b : Bool) (f : Int) : fnEpicP_step (b, e, f, 3) = some (.out, b, e, f, 3) := by
  unfold fnEpicP_step
  dsimp only
  rw [br_f (c := decide ((3 : Int) < 3)) rfl]
theorem inner {e : EpiD} (he : validEpiI e = some true) (b : Bool) : fnEpicP (b, e, 0, 0) = some (true, b, e, 0, 3) ∧ fnEpicP (b, e, 1, 0) = some (true, b, e, 1, 3) ∧ fnEpicP (b, e, 2, 0) = some (true, b, e, 2, 3) := by
  obtain ⟨k, k', c1, c2, G⟩ := gears he
  have nS : (e.1 : Rat) ≠ 0 := cast_ne (by have := G.hS; omega)
  have nR : (e.2.1 : Rat) ≠ 0 := cast_ne (by have := G.hR; omega)
  have nT : (e.1 : Rat) + (e.2.1 : Rat) ≠ 0 := by rw [← Rat.intCast_add]; exact cast_ne (by have := G.hS; have := G.hR; omega)
  obtain ⟨z0, z1, z2⟩ := rat_same he
  have p01 := prod_a nS nR
  have p02 := prod_b nS nR nT
  have p12 := prod_c nS nR nT
  have s00 := st_eq (e := e) (b := b) (f := 0) ⟨by omega, by omega⟩ z0
  have s11 := st_eq (e := e) (b := b) (f := 1) ⟨by omega, by omega⟩ z1
  have s22 := st_eq (e := e) (b := b) (f := 2) ⟨by omega, by omega⟩ z2
  have s01 := st_ne (b := b) (f := 0) (t := 1) (by omega) ⟨by omega, by omega⟩ (r01 he) (r10 he) p01
  have s10 := st_ne (b := b) (f := 1) (t := 0) (by omega) ⟨by omega, by omega⟩ (r10 he) (r01 he) (by rw [Rat.mul_comm]; exact p01)
  have s02 := st_ne (b := b) (f := 0) (t := 2) (by omega) ⟨by omega, by omega⟩ (r02 he) (r20 he) p02
  have s20 := st_ne (b := b) (f := 2) (t := 0) (by omega) ⟨by omega, by omega⟩ (r20 he) (r02 he) (by rw [Rat.mul_comm]; exact p02)
  have s12 := st_ne (b := b) (f := 1) (t := 2) (by omega) ⟨by omega, by omega⟩ (r12 he) (r21 he) p12
  have s21 := st_ne (b := b) (f := 2) (t := 1) (by omega) ⟨by omega, by omega⟩ (r21 he) (r12 he) (by rw [Rat.mul_comm]; exact p12)
  have o := st_out e b
  refine ⟨?_, ?_, ?_⟩
  · show iter fnEpicP_step 4 (b, e, 0, 0) = _
    have s00 : fnEpicP_step (b, e, 0, 0) = some (.next, b, e, 0, 1) := s00
    have s01 : fnEpicP_step (b, e, 0, 1) = some (.next, b, e, 0, 2) := s01
    have s02 : fnEpicP_step (b, e, 0, 2) = some (.next, b, e, 0, 3) := s02
    simp only [iter, s00, s01, s02, o, ob]
  · show iter fnEpicP_step 4 (b, e, 1, 0) = _
    have s10 : fnEpicP_step (b, e, 1, 0) = some (.next, b, e, 1, 1) := s10
    have s11 : fnEpicP_step (b, e, 1, 1) = some (.next, b, e, 1, 2) := s11
    have s12 : fnEpicP_step (b, e, 1, 2) = some (.next, b, e, 1, 3) := s12
    simp only [iter, s10, s11, s12, o, ob]
  · show iter fnEpicP_step 4 (b, e, 2, 0) = _
    have s20 : fnEpicP_step (b, e, 2, 0) = some (.next, b, e, 2, 1) := s20
    have s21 : fnEpicP_step (b, e, 2, 1) = some (.next, b, e, 2, 2) := s21
    have s22 : fnEpicP_step (b, e, 2, 2) = some (.next, b, e, 2, 3) := s22
    simp only [iter, s20, s21, s22, o, ob]
theorem outer {e : EpiD} (he : validEpiI e = some true) (b : Bool) : fnEpicL (b, e, 0) = some (true, b, e, 3) := by
  obtain ⟨i0, i1, i2⟩ := inner he b
  have s0 : fnEpicL_step (b, e, 0) = some (.next, b, e, 1) := by
    unfold fnEpicL_step
    dsimp only
    rw [br_t (c := decide ((0 : Int) < 3)) rfl, ob_some' i0]; rfl
  have s1 : fnEpicL_step (b, e, 1) = some (.next, b, e, 2) := by
    unfold fnEpicL_step
    dsimp only
    rw [br_t (c := decide ((1 : Int) < 3)) rfl, ob_some' i1]; rfl
  have s2 : fnEpicL_step (b, e, 2) = some (.next, b, e, 3) := by
    unfold fnEpicL_step
    dsimp only
    rw [br_t (c := decide ((2 : Int) < 3)) rfl, ob_some' i2]; rfl
  have s3 : fnEpicL_step (b, e, 3) = some (.out, b, e, 3) := by
    unfold fnEpicL_step
    dsimp only
    rw [br_f (c := decide ((3 : Int) < 3)) rfl]
  show iter fnEpicL_step 4 (b, e, 0) = _
  simp only [iter, s0, s1, s2, s3, ob]

/-! ### Written and read back -/
theorem dval_app : ∀ (l : List UInt8) (a : Nat) (b : UInt8), dval a (l ++ [b]) = nxt (dval a l) b
  | [], _, _ => rfl
  | c :: l, a, b => by
    rw [List.cons_append, dval_cons, dval_cons]
    exact dval_app l _ b
theorem dig_nat {m : Nat} (h : m < 10) : (UInt8.ofNat (48 + m)).toNat = 48 + m := by
  have := dig_byte h
  omega
theorem dval_dec : ∀ (u : Nat), dval 0 (Lib.decDigits u) = u := by
  intro u
  induction u using Nat.strongRecOn with
  | ind u ih =>
    by_cases h : u < 10
    · rw [dec_small h, dval_cons, nxt_eq, dig_nat h]
      show 10 * 0 + (48 + u - 48) = u
      omega
    · rw [dec_big h, dval_app, ih (u / 10) (by omega), nxt_eq, dig_nat (by omega)]
      omega
theorem numF_dec {n : Int} (h : 0 ≤ n ∧ n ≤ 1000000) : numF (decB n) = (n, true) := by
  have hl : (decB n).data.toList = Lib.decDigits n.toNat := by
    show Lib.itoa n = _
    unfold Lib.itoa
    rw [if_neg (by omega)]
  have hlen := dec_len 6 n.toNat (by omega)
  have hall : (Lib.decDigits n.toNat).all isD = true := List.all_eq_true.2 fun b hb => dig_is _ b hb
  have hneg : negL (Lib.decDigits n.toNat) = false := by
    unfold negL
    cases hd : Lib.decDigits n.toNat with
    | nil => rfl
    | cons c r =>
      have hc := dig_is n.toNat c (by rw [hd]; simp)
      have : c ≠ 45 := fun e => by rw [e] at hc; exact absurd hc (by decide)
      simp [this]
  have ht : tailL (Lib.decDigits n.toNat) = Lib.decDigits n.toNat := by unfold tailL; rw [hneg]; rfl
  have hv : numV (Lib.decDigits n.toNat) = n := by
    unfold numV
    rw [hneg, ht, dval_dec]
    show ((n.toNat : Nat) : Int) = n
    omega
  unfold numF
  rw [hl, ht, hv, if_pos ⟨⟨by omega, by omega⟩, hall, rfl⟩]
theorem itoa_no32 {n : Int} (h : 0 ≤ n) : (32 : UInt8) ∉ Lib.itoa n := by
  unfold Lib.itoa
  rw [if_neg (by omega)]
  intro hb
  exact absurd (dig_is _ _ hb) (by decide)
theorem epi_words {x y z : Int} (hx : 0 ≤ x) (hy : 0 ≤ y) (hz : 0 ≤ z) (w : Int) : (cutL 32 (epiB (x, w, y, z)).data.toList).map ba = [decB x, decB y, decB z] := by
  have e : (epiB (x, w, y, z)).data.toList = Lib.itoa x ++ 32 :: (Lib.itoa y ++ 32 :: Lib.itoa z) := by
    unfold epiB
    rw [ba_app, ba_app, ba_app, ba_app]
    show (((Lib.itoa x ++ [32]) ++ Lib.itoa y) ++ [32]) ++ Lib.itoa z = _
    simp
  rw [e, cutL_hit _ (itoa_no32 hx), cutL_hit _ (itoa_no32 hy), cutL_no (itoa_no32 hz)]
  rfl
theorem read_back {e : EpiD} (he : validEpiI e = some true) (hr : e.2.1 = e.1 + 2 * e.2.2.1) : epiTextI e = some (epiB e) ∧ readEpiI (epiB e) = some (e, true) := by
  obtain ⟨v, hv, hb⟩ := validEpiI_out e
  have hv' : v = true := Option.some.inj (hv.symm.trans he)
  obtain ⟨b1, b2, b3, b4⟩ := hb hv'
  have I1 : I64 e.1 := ⟨by omega, by omega⟩
  have I2 : I64 e.2.2.1 := ⟨by omega, by omega⟩
  have I3 : I64 e.2.2.2 := ⟨by omega, by omega⟩
  obtain ⟨_, q⟩ := textEpi_both (e := e) I1 I2 I3
  have ht := q true he
  rw [if_pos rfl] at ht
  refine ⟨ht, ?_⟩
  obtain ⟨x, w, y, z⟩ := e
  dsimp only at *
  have hw := epi_words (x := x) (y := y) (z := z) (by omega) (by omega) (by omega) w
  have n1 := numF_dec (n := x) (by omega)
  have n2 := numF_dec (n := y) (by omega)
  have n3 := numF_dec (n := z) (by omega)
  have hm : mkE (numF (decB x)).1 (numF (decB y)).1 (numF (decB z)).1 = (x, w, y, z) := by
    rw [n1, n2, n3, hr]; rfl
  have s1 := decB_size I1.1 I1.2
  have s2 := decB_size I2.1 I2.2
  have s3 := decB_size I3.1 I3.2
  have hsz : (epiB (x, w, y, z)).size ≤ 1048576 := by
    unfold epiB
    rw [app_size, app_size, app_size, app_size]
    have : (ba [32]).size = 1 := rfl
    show (decB x).size + _ + (decB y).size + _ + (decB z).size ≤ _
    omega
  have h := readEpiI_eq hsz hw (v := true) (by rw [hm]; exact he) (fun _ => by rw [hm]; exact ⟨b1, b2, b3, b4⟩)
  rw [hm, n1, n2, n3, if_pos ⟨⟨rfl, rfl, rfl⟩, by simp [tooth]; omega, by simp [tooth]; omega, rfl⟩] at h
  exact h
theorem no_faults {e : EpiD} (he : validEpiI e = some true) : faultsI e = some [] := by
  obtain ⟨l, hl, _⟩ := faults_out e
  have h := he
  unfold validEpiI at h
  rw [ob_some' (show faultsI (e.1, e.2.1, e.2.2.1, e.2.2.2) = some l from hl)] at h
  have h := Option.some.inj h
  have : l = [] := by
    have := beq_iff_eq.1 h
    exact List.eq_nil_of_length_eq_zero (by omega)
  rw [hl, this]

/-! ### The law -/
theorem fnEpic_holds (c : List Int) (hw : WfAll [.slice (.int .u8)] c) : fnEpic c = some true := by
  have hc := bytes_wf hw
  obtain ⟨e, a, b, e0, he, her, ha, hb⟩ := a2Epi_tot hc
  obtain ⟨y, hy, hsp⟩ := speeds he ha hb
  have hL := outer he false
  obtain ⟨ht, hrd⟩ := read_back he her
  have hf := no_faults he
  obtain ⟨x, w, p, n⟩ := e
  obtain ⟨a1, a2⟩ := a
  obtain ⟨b1, b2⟩ := b
  obtain ⟨⟨y1, y2⟩, yc⟩ := y
  unfold fnEpic a2Long
  dsimp only
  cases decide ((3000 : Int) < (c.length : Int)) with
  | true => rfl
  | false =>
    have z : decide ((3000 : Int) < (([] : List Int).length : Int)) = false := by decide
    rw [br_f (c := false) rfl, z, ob_s, br_f (c := false) rfl, e0]
    simp only [ob_s, hy]
    by_cases h0 : yc = 0
    · subst h0
      obtain ⟨⟨⟨p1, p2⟩, pc⟩, ⟨⟨q1, q2⟩, qc⟩, h1, h2, hp, hq, hpa, hqb⟩ := hsp rfl
      simp only at h1 h2 hp hq hpa hqb
      rcases hp with hp | hp
      · subst hp
        obtain ⟨rfl, rfl⟩ := Prod.mk.inj (hpa rfl)
        rcases hq with hq | hq
        · subst hq
          obtain ⟨rfl, rfl⟩ := Prod.mk.inj (hqb rfl)
          simp [ob_s, h1, h2, hL, ht, hrd, hf, br_if]
        · subst hq
          simp [ob_s, h1, h2, hL, ht, hrd, hf, br_if]
      · subst hp
        rcases hq with hq | hq
        · subst hq
          obtain ⟨rfl, rfl⟩ := Prod.mk.inj (hqb rfl)
          simp [ob_s, h1, h2, hL, ht, hrd, hf, br_if]
        · subst hq
          simp [ob_s, h1, h2, hL, ht, hrd, hf, br_if]
    · rw [br_f (by rw [beq_eq_false_iff_ne]; exact h0)]
      simp [ob_s, hL, ht, hrd, hf, br_if]
end Rx
end Go.Proofs.YtfapjkcmoefilaaDoor
