/- Hulls of plates: what both programs come to, in plain terms. No program in sight. -/
import Derived.Test.YtckbhfbcblehmaaRxHullMath
import Derived.Test.YtckbhfbcblehmaaRxTurnLaw
import Derived.Test.YtckbhfbcblehmaaRxClearLaw
import Derived.Test.YtckbhfbcblehmaaRxHull
namespace Go.Proofs.Ytckbhfbcblehmaa
namespace Rx
open Go Hull

/-! ### Points of a list -/
def pt (q : List (Int × Int)) (i : Nat) : Int × Int := (q[i]?).getD (0, 0)
theorem pt_get {q : List (Int × Int)} {i : Nat} {y : Int × Int} (h : q[i]? = some y) : pt q i = y := by unfold pt; rw [h]; rfl
theorem pt_idx {q : List (Int × Int)} {i : Nat} (h : i < q.length) : idx q (i : Int) = some (pt q i) := by
  obtain ⟨y, h1, h2⟩ := idx_get (l := q) (i := (i : Int)) (by omega) (by omega)
  rw [h1, pt_get (by simpa using h2)]
def Bd (q : List (Int × Int)) : Prop := ∀ i, i < q.length → (0 ≤ (pt q i).1 ∧ (pt q i).1 ≤ 10000) ∧ (0 ≤ (pt q i).2 ∧ (pt q i).2 ≤ 10000)
def In4 (a : Int × Int) : Prop := (0 ≤ a.1 ∧ a.1 ≤ 10000) ∧ (0 ≤ a.2 ∧ a.2 ≤ 10000)
theorem eqP (y a : Int × Int) : (y.1 == a.1 && y.2 == a.2) = decide (y = a) := by
  by_cases h : y = a
  · subst h; simp
  · rw [decide_eq_false h]
    cases h1 : y.1 == a.1
    · rfl
    · cases h2 : y.2 == a.2
      · rfl
      · exact absurd (Prod.ext (by simpa using h1) (by simpa using h2)) h
theorem mul_bd {a b : Int} (a1 : -10000 ≤ a) (a2 : a ≤ 10000) (b1 : -10000 ≤ b) (b2 : b ≤ 10000) : -100000000 ≤ a * b ∧ a * b ≤ 100000000 := by
  have h1 : (a * b).natAbs = a.natAbs * b.natAbs := Int.natAbs_mul a b
  have h2 : a.natAbs * b.natAbs ≤ 10000 * 10000 := Nat.mul_le_mul (by omega) (by omega)
  omega
theorem xx_bd {a b : Int × Int} (ha : In4 a) (hb : In4 b) : -100000000 ≤ xx a b ∧ xx a b ≤ 100000000 ∧ (0 ≤ a.1 * b.2 ∧ a.1 * b.2 ≤ 100000000) ∧ (0 ≤ a.2 * b.1 ∧ a.2 * b.1 ≤ 100000000) := by
  obtain ⟨⟨a1, a2⟩, a3, a4⟩ := ha
  obtain ⟨⟨b1, b2⟩, b3, b4⟩ := hb
  have h1 := mul_bd (a := a.1) (b := b.2) (by omega) a2 (by omega) b4
  have h2 := mul_bd (a := a.2) (b := b.1) (by omega) a4 (by omega) b2
  have h3 := Int.mul_nonneg a1 b3
  have h4 := Int.mul_nonneg a3 b1
  unfold xx
  omega
theorem crs_bd {a b c : Int × Int} (ha : In4 a) (hb : In4 b) (hc : In4 c) : (-200000000 ≤ crs a b c ∧ crs a b c ≤ 200000000) ∧ (-100000000 ≤ (b.1 - a.1) * (c.2 - a.2) ∧ (b.1 - a.1) * (c.2 - a.2) ≤ 100000000) ∧ (-100000000 ≤ (b.2 - a.2) * (c.1 - a.1) ∧ (b.2 - a.2) * (c.1 - a.1) ≤ 100000000) := by
  obtain ⟨⟨a1, a2⟩, a3, a4⟩ := ha
  obtain ⟨⟨b1, b2⟩, b3, b4⟩ := hb
  obtain ⟨⟨c1, c2⟩, c3, c4⟩ := hc
  have h1 := mul_bd (a := b.1 - a.1) (b := c.2 - a.2) (by omega) (by omega) (by omega) (by omega)
  have h2 := mul_bd (a := b.2 - a.2) (b := c.1 - a.1) (by omega) (by omega) (by omega) (by omega)
  unfold crs
  omega
theorem crossS_eq {a b c : Int × Int} (ha : In4 a) (hb : In4 b) (hc : In4 c) : crossS (a, b, c) = some (crs a b c) := by
  obtain ⟨h0, h1, h2⟩ := crs_bd ha hb hc
  obtain ⟨⟨a1, a2⟩, a3, a4⟩ := ha
  obtain ⟨⟨b1, b2⟩, b3, b4⟩ := hb
  obtain ⟨⟨c1, c2⟩, c3, c4⟩ := hc
  unfold crossS
  dsimp only
  rw [w64 (x := b.1 - a.1) (by omega) (by omega), w64 (x := c.2 - a.2) (by omega) (by omega), w64 (x := b.2 - a.2) (by omega) (by omega), w64 (x := c.1 - a.1) (by omega) (by omega),
    w64 (x := (b.1 - a.1) * (c.2 - a.2)) (by omega) (by omega), w64 (x := (b.2 - a.2) * (c.1 - a.1)) (by omega) (by omega)]
  unfold crs at *
  rw [w64 (by omega) (by omega)]
theorem turnOf_eq : turnOfI = crossS := rfl
theorem crossL_eq : crossL = crossS := rfl
theorem crs_cr' (a b c : Int × Int) : crs a b c = cr (mi b a) (mi c a) := by unfold crs cr mi; grind
theorem sqF_dt (a b : Int × Int) : sqF a b = dt (mi b a) (mi b a) := by unfold sqF dt mi; grind
theorem sqS_val {a b : Int × Int} (ha : In4 a) (hb : In4 b) : sqI (a, b) = some (sqF a b) := sqI_eq ha.1 ha.2 hb.1 hb.2
/-- What both look at, in one word. -/
theorem bet_br {α : Type} (a b x : Int × Int) (u v : Option α) : (br (decide (crs a b x < 0)) u (br (crs a b x == 0) (br (decide (sqF a b < sqF a x)) u v) v)) = if bet (mi b a) (mi x a) = true then u else v := by
  unfold bet
  rw [crs_cr', sqF_dt, sqF_dt]
  cases decide (cr (mi b a) (mi x a) < 0) <;> cases cr (mi b a) (mi x a) == 0 <;> cases decide (dt (mi b a) (mi b a) < dt (mi x a) (mi x a)) <;> rfl

/-! ### Where it begins -/
def lexle (a b : Int × Int) : Prop := a.2 < b.2 ∨ (a.2 = b.2 ∧ a.1 ≤ b.1)
/-- The first of the lowest points, among some. -/
def Low (q : List (Int × Int)) (k s : Nat) : Prop := ∀ i, i < k → lexle (pt q s) (pt q i) ∧ (pt q i = pt q s → s ≤ i)
theorem low_begin {q : List (Int × Int)} {s : Nat} (hs : s < q.length) (h : Low q q.length s) : Begin (pt q) q.length s :=
  ⟨hs, fun i hi e => (h i hi).2 e, cone_start fun i hi => (h i hi).1⟩
theorem low_uniq {q : List (Int × Int)} {s t : Nat} (hs : s < q.length) (ht : t < q.length) (h1 : Low q q.length s) (h2 : Low q q.length t) : s = t := by
  have a := h1 t ht
  have b := h2 s hs
  have e : pt q s = pt q t := by
    unfold lexle at a b
    exact Prod.ext (by omega) (by omega)
  have := a.2 e.symm
  have := b.2 e
  omega
theorem low_step {q : List (Int × Int)} {k s : Nat} (h : Low q k s) (hs : s ≤ k) : if ((pt q k).2 < (pt q s).2 ∨ (pt q k).2 = (pt q s).2 ∧ (pt q k).1 < (pt q s).1) then Low q (k + 1) k else Low q (k + 1) s := by
  by_cases c : (pt q k).2 < (pt q s).2 ∨ (pt q k).2 = (pt q s).2 ∧ (pt q k).1 < (pt q s).1
  · rw [if_pos c]
    intro i hi
    rcases Nat.lt_or_eq_of_le (Nat.le_of_lt_succ hi) with l | l
    · have := (h i l).1
      unfold lexle at this ⊢
      refine ⟨by omega, fun e => ?_⟩
      rw [e] at this
      omega
    · subst l
      exact ⟨.inr ⟨rfl, Int.le_refl _⟩, fun _ => Nat.le_refl _⟩
  · rw [if_neg c]
    intro i hi
    rcases Nat.lt_or_eq_of_le (Nat.le_of_lt_succ hi) with l | l
    · exact h i l
    · subst l
      refine ⟨?_, fun _ => hs⟩
      unfold lexle
      omega

/-- The way round, as numbers. -/
def wayL (q : List (Int × Int)) (s m : Nat) : List Int := (List.range m).map fun k => ((way (pt q) q.length s k : Nat) : Int)
theorem wayL_succ (q : List (Int × Int)) (s m : Nat) : wayL q s (m + 1) = wayL q s m ++ [((way (pt q) q.length s m : Nat) : Int)] := by
  unfold wayL; rw [List.range_succ, List.map_append]; rfl
theorem wayL_len (q : List (Int × Int)) (s m : Nat) : (wayL q s m).length = m := by unfold wayL; simp
theorem wayL_get (q : List (Int × Int)) (s m : Nat) {k : Nat} (h : k < m) : idx (wayL q s m) (k : Int) = some ((way (pt q) q.length s k : Nat) : Int) := by
  refine idx_nat (by omega) ?_
  unfold wayL
  simp [h]
theorem way_lt {q : List (Int × Int)} {s : Nat} (hb : Begin (pt q) q.length s) (k : Nat) : way (pt q) q.length s k < q.length := by
  by_cases hx : ∃ i, i < q.length ∧ pt q i ≠ pt q s
  · exact (way_inv hb hx k).1
  · rw [way_all (fun i hi => Classical.byContradiction fun e => hx ⟨i, hi, e⟩)]
    exact hb.lt
/-- The hull of some points: where it begins, how many corners. -/
structure HullOf (q : List (Int × Int)) (s m : Nat) : Prop where
  b : Begin (pt q) q.length s
  low : Low q q.length s
  r : Round (pt q) q.length s m

/-! ### The program's -/
abbrev ptsOf (l : List SiteD) : List (Int × Int) := l.map (·.2.1)
theorem pts_get {l : List SiteD} {i : Nat} {y : SiteD} (h : l[i]? = some y) : pt (ptsOf l) i = y.2.1 := pt_get (by rw [List.getElem?_map, h]; rfl)
theorem site_idx {l : List SiteD} {i : Nat} (h : i < l.length) : ∃ y, idx l (i : Int) = some y ∧ y.2.1 = pt (ptsOf l) i := by
  obtain ⟨y, h1, h2⟩ := idx_get (l := l) (i := (i : Int)) (by omega) (by omega)
  exact ⟨y, h1, (pts_get (by simpa using h2)).symm⟩
theorem startIL_eq {l : List SiteD} (hl : l.length ≤ 1048576) (h0 : l ≠ []) : ∃ s : Nat, startIL (l, 0, l, (l.length : Int), 0) = some (l, (s : Int), l, (l.length : Int), (l.length : Int)) ∧ s < l.length ∧ Low (ptsOf l) l.length s := by
  have hpos : 0 < l.length := List.length_pos_iff.2 h0
  obtain ⟨s', e, s, k1, k2, k3⟩ := iterP_end (step := startIL_step) (fun x => ∃ s k : Nat, x = (l, (s : Int), l, (l.length : Int), (k : Int)) ∧ k ≤ l.length ∧ s < l.length ∧ s ≤ k ∧ Low (ptsOf l) k s) (fun x => ∃ s : Nat, x = (l, (s : Int), l, (l.length : Int), (l.length : Int)) ∧ s < l.length ∧ Low (ptsOf l) l.length s)
    (fun x => (l.length - x.2.2.2.2.toNat)) (by
      rintro x ⟨s, k, rfl, hk, hs, hsk, hlow⟩
      by_cases hkl : k < l.length
      · obtain ⟨y, y1, y2⟩ := site_idx hkl
        obtain ⟨z, z1, z2⟩ := site_idx hs
        have e5 : IntKind.i64.wrap ((k : Int) + 1) = ((k + 1 : Nat) : Int) := by rw [w64 (by omega) (by omega)]; omega
        have hstep : startIL_step (l, (s : Int), l, (l.length : Int), (k : Int)) = some (.next, l, ((if ((pt (ptsOf l) k).2 < (pt (ptsOf l) s).2 ∨ (pt (ptsOf l) k).2 = (pt (ptsOf l) s).2 ∧ (pt (ptsOf l) k).1 < (pt (ptsOf l) s).1) then k else s : Nat) : Int), l, (l.length : Int), ((k + 1 : Nat) : Int)) := by
          unfold startIL_step
          dsimp only
          rw [br_t (by simp; omega), y1]
          simp only [ob_s, z1, e5, y2, z2]
          by_cases c1 : (pt (ptsOf l) k).2 < (pt (ptsOf l) s).2
          · rw [br_t (by simpa using c1), if_pos (.inl c1)]
          · rw [br_f (by simpa using c1)]
            by_cases c2 : (pt (ptsOf l) k).2 = (pt (ptsOf l) s).2
            · rw [br_t (by simpa using c2)]
              by_cases c3 : (pt (ptsOf l) k).1 < (pt (ptsOf l) s).1
              · rw [br_t (by simpa using c3), if_pos (.inr ⟨c2, c3⟩)]
              · rw [br_f (by simpa using c3), if_neg (by omega)]
            · rw [br_f (by simpa using c2), if_neg (by omega)]
        have hlow' := low_step hlow hsk
        refine ⟨.next, _, hstep, fun _ => ⟨?_, ?_⟩, fun h => (by cases h), fun h => (by cases h)⟩
        · split at hlow'
          · rename_i c; rw [if_pos c]; exact ⟨k, k + 1, rfl, by omega, hkl, by omega, hlow'⟩
          · rename_i c; rw [if_neg c]; exact ⟨s, k + 1, rfl, by omega, hs, by omega, hlow'⟩
        · simp only [Int.toNat_natCast]; omega
      · have : k = l.length := by omega
        subst this
        refine ⟨.out, (l, (s : Int), l, (l.length : Int), (l.length : Int)), ?_, fun h => (by cases h), fun _ => ⟨s, rfl, hs, hlow⟩, fun h => (by cases h)⟩
        show br (decide ((l.length : Int) < (l.length : Int))) _ _ = _
        rw [br_f (by simp)])
    ((startIL_fuel (l, 0, l, (l.length : Int), 0))) (l, 0, l, (l.length : Int), 0) ⟨0, 0, rfl, by omega, hpos, by omega, fun i hi => by omega⟩ (by simp [startIL_fuel])
  subst k1
  exact ⟨s, e, k2, k3⟩
theorem nextIL_eq {l : List SiteD} (hl : l.length ≤ 1048576) (hbd : Bd (ptsOf l)) {s : Nat} (hs : s < l.length) {hull : List Int} {t : Int} {a : Int × Int} (ha : In4 a) :
    nextIL (l, (s : Int), hull, t, a, (s : Int), l, (l.length : Int), 0) = some (l, (s : Int), hull, t, a, ((scan (pt (ptsOf l)) a s l.length : Nat) : Int), l, (l.length : Int), (l.length : Int)) := by
  have hbd' : ∀ i, i < l.length → In4 (pt (ptsOf l) i) := fun i hi => hbd i (by simpa using hi)
  have hlt : ∀ k, k ≤ l.length → scan (pt (ptsOf l)) a s k < l.length := by
    intro k
    induction k with
    | zero => intro _; exact hs
    | succ k ih =>
      intro hk
      show scanStep _ _ (scan (pt (ptsOf l)) a s k) k < _
      unfold scanStep
      split
      · omega
      · exact ih (by omega)
  obtain ⟨s', e, k1⟩ := iterP_end (step := nextIL_step) (fun x => ∃ k : Nat, x = (l, (s : Int), hull, t, a, ((scan (pt (ptsOf l)) a s k : Nat) : Int), l, (l.length : Int), (k : Int)) ∧ k ≤ l.length) (fun x => x = (l, (s : Int), hull, t, a, ((scan (pt (ptsOf l)) a s l.length : Nat) : Int), l, (l.length : Int), (l.length : Int)))
    (fun x => (l.length - x.2.2.2.2.2.2.2.2.toNat)) (by
      rintro x ⟨k, rfl, hk⟩
      by_cases hkl : k < l.length
      · obtain ⟨y, y1, y2⟩ := site_idx hkl
        obtain ⟨z, z1, z2⟩ := site_idx (hlt k hk)
        have e5 : IntKind.i64.wrap ((k : Int) + 1) = ((k + 1 : Nat) : Int) := by rw [w64 (by omega) (by omega)]; omega
        have iy := hbd' _ hkl
        have iz := hbd' _ (hlt k hk)
        generalize hY : pt (ptsOf l) k = Y at *
        generalize hZ : pt (ptsOf l) (scan (pt (ptsOf l)) a s k) = Z at *
        have t1 : turnOfI ((a.1, a.2), (Z.1, Z.2), Y.1, Y.2) = some (crs a Z Y) := by
          rw [turnOf_eq]; exact crossS_eq ha iz iy
        have t2 : sqI ((a.1, a.2), Y.1, Y.2) = some (sqF a Y) := sqS_val ha iy
        have t3 : sqI ((a.1, a.2), Z.1, Z.2) = some (sqF a Z) := sqS_val ha iz
        have hstep : nextIL_step (l, (s : Int), hull, t, a, ((scan (pt (ptsOf l)) a s k : Nat) : Int), l, (l.length : Int), (k : Int)) = some (.next, l, (s : Int), hull, t, a, ((scan (pt (ptsOf l)) a s (k + 1) : Nat) : Int), l, (l.length : Int), ((k + 1 : Nat) : Int)) := by
          unfold nextIL_step
          dsimp only
          rw [br_t (by simp; omega), y1]
          simp only [ob_s, z1, e5, y2, z2, t1, t2, t3, bet_br, eqP]
          show _ = some (LRes.next, l, (s : Int), hull, t, a, ((scanStep (pt (ptsOf l)) a (scan (pt (ptsOf l)) a s k) k : Nat) : Int), l, (l.length : Int), ((k + 1 : Nat) : Int))
          unfold scanStep
          rw [hY, hZ]
          by_cases c1 : Y = a
          · rw [br_f (by simp [c1]), if_neg (fun h => h.1 c1)]
          · rw [br_t (by simp [c1])]
            by_cases c2 : Z = a
            · rw [br_t (by simp [c2]), if_pos ⟨c1, .inl c2⟩]
            · rw [br_f (by simp [c2])]
              by_cases c3 : bet (mi Z a) (mi Y a) = true
              · rw [if_pos c3, if_pos ⟨c1, .inr c3⟩]
              · rw [if_neg c3, if_neg (fun h => h.2.elim c2 c3)]
        exact ⟨.next, _, hstep, fun _ => ⟨⟨k + 1, rfl, by omega⟩, by simp only [Int.toNat_natCast]; omega⟩, fun h => (by cases h), fun h => (by cases h)⟩
      · have : k = l.length := by omega
        subst this
        refine ⟨.out, _, ?_, fun h => (by cases h), fun _ => rfl, fun h => (by cases h)⟩
        show br (decide ((l.length : Int) < (l.length : Int))) _ _ = _
        rw [br_f (by simp)])
    (nextIL_fuel (l, (s : Int), hull, t, a, (s : Int), l, (l.length : Int), 0)) (l, (s : Int), hull, t, a, (s : Int), l, (l.length : Int), 0) ⟨0, rfl, by omega⟩ (by simp [nextIL_fuel])
  subst k1
  exact e
theorem hullI_eq {l : List SiteD} (hl : l.length ≤ 1048576) (hbd : Bd (ptsOf l)) : (l = [] ∧ hullI l = some []) ∨ ∃ s m, HullOf (ptsOf l) s m ∧ hullI l = some (wayL (ptsOf l) s m) := by
  by_cases h0 : l = []
  · subst h0; exact .inl ⟨rfl, rfl⟩
  refine .inr ?_
  obtain ⟨s, e1, hs, hlow⟩ := startIL_eq hl h0
  have hlen : (ptsOf l).length = l.length := by simp
  have hB : Begin (pt (ptsOf l)) (ptsOf l).length s := low_begin (by rw [hlen]; exact hs) (by rw [hlen]; exact hlow)
  obtain ⟨m, hR⟩ := round hB
  refine ⟨s, m, ⟨hB, by rw [hlen]; exact hlow, hR⟩, ?_⟩
  have hml : m ≤ l.length := by have := hR.le; omega
  have key : ∀ (d k fuel : Nat), k + d + 1 = m → d < fuel → iterA hullIL_step fuel (l, (s : Int), wayL (ptsOf l) s k, ((way (pt (ptsOf l)) (ptsOf l).length s k : Nat) : Int)) = some (.inr (wayL (ptsOf l) s m)) := by
    intro d
    induction d with
    | zero =>
      intro k fuel hk hf
      obtain ⟨fuel, rfl⟩ : ∃ f, fuel = f + 1 := ⟨fuel - 1, by omega⟩
      have hw : way (pt (ptsOf l)) (ptsOf l).length s k < l.length := by have := way_lt hB k; omega
      have hw' : way (pt (ptsOf l)) (ptsOf l).length s (k + 1) < l.length := by have := way_lt hB (k + 1); omega
      obtain ⟨y, y1, y2⟩ := site_idx hw
      obtain ⟨z, z1, z2⟩ := site_idx hs
      have n1 : nextIL (l, (s : Int), wayL (ptsOf l) s k ++ [((way (pt (ptsOf l)) (ptsOf l).length s k : Nat) : Int)], ((way (pt (ptsOf l)) (ptsOf l).length s k : Nat) : Int), (y.2.1.1, y.2.1.2), (s : Int), l, (l.length : Int), 0) = _ := nextIL_eq hl hbd hs (a := y.2.1) (by rw [y2]; exact hbd _ (by omega))
      have hm : (scan (pt (ptsOf l)) y.2.1 s l.length) = s := by
        have := hR.back
        rw [show m = k + 1 by omega] at this
        rw [← hlen, y2]
        exact this
      have hst : hullIL_step (l, (s : Int), wayL (ptsOf l) s k, ((way (pt (ptsOf l)) (ptsOf l).length s k : Nat) : Int)) = some (.ret (wayL (ptsOf l) s m)) := by
        unfold hullIL_step
        dsimp only
        rw [br_t (by rw [wayL_len]; simp; omega), y1]
        simp only [ob_s, n1, hm, z1]
        rw [br_t (by simp)]
        rw [← wayL_succ, show k + 1 = m by omega]
      simp only [iterA, hst, ob_s]
    | succ d ih =>
      intro k fuel hk hf
      obtain ⟨fuel, rfl⟩ : ∃ f, fuel = f + 1 := ⟨fuel - 1, by omega⟩
      have hw : way (pt (ptsOf l)) (ptsOf l).length s k < l.length := by have := way_lt hB k; omega
      have hw' : way (pt (ptsOf l)) (ptsOf l).length s (k + 1) < l.length := by have := way_lt hB (k + 1); omega
      obtain ⟨y, y1, y2⟩ := site_idx hw
      obtain ⟨z, z1, z2⟩ := site_idx hs
      have n1 : nextIL (l, (s : Int), wayL (ptsOf l) s k ++ [((way (pt (ptsOf l)) (ptsOf l).length s k : Nat) : Int)], ((way (pt (ptsOf l)) (ptsOf l).length s k : Nat) : Int), (y.2.1.1, y.2.1.2), (s : Int), l, (l.length : Int), 0) = _ := nextIL_eq hl hbd hs (a := y.2.1) (by rw [y2]; exact hbd _ (by omega))
      have hm : scan (pt (ptsOf l)) y.2.1 s l.length = way (pt (ptsOf l)) (ptsOf l).length s (k + 1) := by
        rw [y2]
        show scan (pt (ptsOf l)) (pt (ptsOf l) (way (pt (ptsOf l)) (ptsOf l).length s k)) s l.length = scan (pt (ptsOf l)) (pt (ptsOf l) (way (pt (ptsOf l)) (ptsOf l).length s k)) s (ptsOf l).length
        rw [hlen]
      obtain ⟨x, x1, x2⟩ := site_idx hw'
      have hne := hR.not (k + 1) (by omega) (by omega)
      have hst : hullIL_step (l, (s : Int), wayL (ptsOf l) s k, ((way (pt (ptsOf l)) (ptsOf l).length s k : Nat) : Int)) = some (.next (l, (s : Int), wayL (ptsOf l) s (k + 1), ((way (pt (ptsOf l)) (ptsOf l).length s (k + 1) : Nat) : Int))) := by
        unfold hullIL_step
        dsimp only
        rw [br_t (by rw [wayL_len]; simp; omega), y1]
        simp only [ob_s, n1, hm, z1, x1, eqP, x2, z2]
        rw [br_f (by simpa using hne)]
        rw [← wayL_succ]
      simp only [iterA, hst, ob_s]
      exact ih (k + 1) fuel (by omega) (by omega)
  have e2 : hullIL (l, (s : Int), [], (s : Int)) = some (.inr (wayL (ptsOf l) s m)) := by
    have := key (m - 1) 0 (hullIL_fuel (l, (s : Int), [], (s : Int))) (by have := hR.pos; omega) (by simp only [hullIL_fuel]; omega)
    exact this
  unfold hullI
  rw [br_f (by simpa using h0), e1]
  simp only [ob_s, e2, el]

/-! ### The reference's -/
def ownL (q : List (Int × Int)) (k : Nat) : List Int := ((List.range k).filter (fresh (pt q))).map fun (i : Nat) => (i : Int)
theorem ownL_succ (q : List (Int × Int)) (k : Nat) : ownL q (k + 1) = if fresh (pt q) k = true then ownL q k ++ [(k : Int)] else ownL q k := by
  unfold ownL
  rw [List.range_succ, List.filter_append, List.map_append]
  by_cases h : fresh (pt q) k = true
  · rw [if_pos h, List.filter_cons_of_pos h]; rfl
  · rw [if_neg h, List.filter_cons_of_neg h]; simp
theorem ownL_len (q : List (Int × Int)) (k : Nat) : (ownL q k).length ≤ k := by
  unfold ownL
  rw [List.length_map]
  have := List.length_filter_le (fresh (pt q)) (List.range k)
  simpa using this
theorem freshSL_eq {q : List (Int × Int)} (hq : q.length ≤ 1048576) {own : List Int} {st : Int} {i : Nat} (hi : i < q.length) : freshSL (q, own, st, (i : Int), true, 0) = some (q, own, st, (i : Int), fresh (pt q) i, (i : Int)) := by
  obtain ⟨s', e, k1⟩ := iterP_end (step := freshSL_step) (fun x => ∃ k : Nat, x = (q, own, st, (i : Int), ((List.range k).all fun j => pt q j != pt q i), (k : Int)) ∧ k ≤ i) (fun x => x = (q, own, st, (i : Int), fresh (pt q) i, (i : Int)))
    (fun x => (i - x.2.2.2.2.2.toNat)) (by
      rintro x ⟨k, rfl, hk⟩
      by_cases hkl : k < i
      · have y1 := pt_idx (q := q) (i := k) (by omega)
        have z1 := pt_idx (q := q) hi
        have e5 : IntKind.i64.wrap ((k : Int) + 1) = ((k + 1 : Nat) : Int) := by rw [w64 (by omega) (by omega)]; omega
        refine ⟨.next, (q, own, st, (i : Int), ((List.range (k + 1)).all fun j => pt q j != pt q i), ((k + 1 : Nat) : Int)), ?_, fun _ => ⟨⟨k + 1, rfl, by omega⟩, by simp only [Int.toNat_natCast]; omega⟩, fun h => (by cases h), fun h => (by cases h)⟩
        rw [List.range_succ, List.all_append]
        unfold freshSL_step
        dsimp only
        rw [br_t (by simp; omega), y1, z1]
        simp only [ob_s, e5]
        have e6 : (([k].all fun j => pt q j != pt q i) : Bool) = !((pt q k).1 == (pt q i).1 && (pt q k).2 == (pt q i).2) := by
          rw [eqP]
          simp only [List.all_cons, List.all_nil, Bool.and_true]
          by_cases h : pt q k = pt q i
          · rw [h]; simp
          · simp [h]
        rw [e6]
        cases ((List.range k).all fun j => pt q j != pt q i) <;> rfl
      · have : k = i := by omega
        subst this
        refine ⟨.out, _, ?_, fun h => (by cases h), fun _ => rfl, fun h => (by cases h)⟩
        show br (decide ((k : Int) < (k : Int))) _ _ = _
        rw [br_f (by simp)]
        rfl)
    (freshSL_fuel (q, own, st, (i : Int), true, 0)) (q, own, st, (i : Int), true, 0) ⟨0, rfl, by omega⟩ (by simp [freshSL_fuel])
  subst k1
  exact e
theorem ownSL_eq {q : List (Int × Int)} (hq : q.length ≤ 1048576) : (q = [] ∧ ownSL (q, [], -1, 0) = some (q, [], -1, 0)) ∨ ∃ s : Nat, ownSL (q, [], -1, 0) = some (q, ownL q q.length, (s : Int), (q.length : Int)) ∧ s < q.length ∧ Low q q.length s := by
  by_cases h0 : q = []
  · subst h0; exact .inl ⟨rfl, rfl⟩
  refine .inr ?_
  have hpos : 0 < q.length := List.length_pos_iff.2 h0
  obtain ⟨s', e, s, k1, k2, k3⟩ := iterP_end (step := ownSL_step) (fun x => ∃ k : Nat, k ≤ q.length ∧ ((k = 0 ∧ x = (q, [], -1, 0)) ∨ ∃ s : Nat, x = (q, ownL q k, (s : Int), (k : Int)) ∧ s < k ∧ Low q k s)) (fun x => ∃ s : Nat, x = (q, ownL q q.length, (s : Int), (q.length : Int)) ∧ s < q.length ∧ Low q q.length s)
    (fun x => (q.length - x.2.2.2.toNat)) (by
      rintro x ⟨k, hk, hx⟩
      by_cases hkl : k < q.length
      · have e5 : IntKind.i64.wrap ((k : Int) + 1) = ((k + 1 : Nat) : Int) := by rw [w64 (by omega) (by omega)]; omega
        have y1 := pt_idx hkl
        rcases hx with ⟨rfl, rfl⟩ | ⟨s, rfl, hs, hlow⟩
        · have f1 := freshSL_eq hq (own := []) (st := -1) hkl
          have hf : fresh (pt q) 0 = true := rfl
          refine ⟨.next, (q, ownL q 1, ((0 : Nat) : Int), ((0 + 1 : Nat) : Int)), ?_, fun _ => ⟨⟨1, by omega, .inr ⟨0, rfl, by omega, fun i hi => ?_⟩⟩, by simp; omega⟩, fun h => (by cases h), fun h => (by cases h)⟩
          · unfold ownSL_step
            dsimp only
            rw [br_t (by simp; omega), show freshSL (q, ([] : List Int), (-1 : Int), (0 : Int), true, (0 : Int)) = _ from f1]
            simp only [ob_s, hf]
            rw [br_f (c := !true) rfl, br_t (by simp), br_t (c := decide ((-1 : Int) < 0)) rfl]
            rw [e5, ownL_succ, if_pos hf]
            rfl
          · have : i = 0 := by omega
            subst this
            exact ⟨.inr ⟨rfl, Int.le_refl _⟩, fun _ => Nat.le_refl _⟩
        · have f1 := freshSL_eq hq (own := ownL q k) (st := (s : Int)) hkl
          have z1 := pt_idx (q := q) (i := s) (by omega)
          have hlow' := low_step hlow (by omega)
          have ol := ownL_len q k
          cases hf : fresh (pt q) k with
          | true =>
            have hstep : ownSL_step (q, ownL q k, (s : Int), (k : Int)) = some (.next, q, ownL q (k + 1), ((if ((pt q k).2 < (pt q s).2 ∨ (pt q k).2 = (pt q s).2 ∧ (pt q k).1 < (pt q s).1) then k else s : Nat) : Int), ((k + 1 : Nat) : Int)) := by
              unfold ownSL_step
              dsimp only
              rw [br_t (by simp; omega), f1]
              simp only [ob_s, hf]
              rw [br_f (c := !true) rfl, br_t (by simp; omega), br_f (c := decide ((s : Int) < 0)) (by simp)]
              rw [y1, z1]
              simp only [ob_s, e5]
              rw [ownL_succ, if_pos hf]
              by_cases c1 : (pt q k).2 < (pt q s).2
              · rw [br_t (by simpa using c1), if_pos (.inl c1)]
              · rw [br_f (by simpa using c1)]
                by_cases c2 : (pt q k).2 = (pt q s).2
                · rw [br_t (by simpa using c2)]
                  by_cases c3 : (pt q k).1 < (pt q s).1
                  · rw [br_t (by simpa using c3), if_pos (.inr ⟨c2, c3⟩)]
                  · rw [br_f (by simpa using c3), if_neg (by omega)]
                · rw [br_f (by simpa using c2), if_neg (by omega)]
            refine ⟨.next, _, hstep, fun _ => ⟨⟨k + 1, by omega, .inr ?_⟩, by simp only [Int.toNat_natCast]; omega⟩, fun h => (by cases h), fun h => (by cases h)⟩
            split at hlow'
            · rename_i c; rw [if_pos c]; exact ⟨k, rfl, by omega, hlow'⟩
            · rename_i c; rw [if_neg c]; exact ⟨s, rfl, by omega, hlow'⟩
          | false =>
            have hstep : ownSL_step (q, ownL q k, (s : Int), (k : Int)) = some (.next, q, ownL q (k + 1), (s : Int), ((k + 1 : Nat) : Int)) := by
              unfold ownSL_step
              dsimp only
              rw [br_t (by simp; omega), f1]
              simp only [ob_s, hf]
              rw [br_t (c := !false) rfl, e5, ownL_succ, if_neg (by rw [hf]; simp)]
            refine ⟨.next, _, hstep, fun _ => ⟨⟨k + 1, by omega, .inr ⟨s, rfl, by omega, fun i hi => ?_⟩⟩, by simp only [Int.toNat_natCast]; omega⟩, fun h => (by cases h), fun h => (by cases h)⟩
            rcases Nat.lt_or_eq_of_le (Nat.le_of_lt_succ hi) with lt | lt
            · exact hlow i lt
            · subst lt
              refine ⟨?_, fun _ => by omega⟩
              have : ¬ ∀ j, j < i → pt q j ≠ pt q i := fun h => by
                rw [fresh_iff.2 h] at hf; cases hf
              simp only [Classical.not_forall] at this
              obtain ⟨j, hj, ej⟩ := this
              rw [← Classical.byContradiction ej]
              exact (hlow j hj).1
      · have : k = q.length := by omega
        subst this
        rcases hx with ⟨h, _⟩ | ⟨s, rfl, hs, hlow⟩
        · omega
        · refine ⟨.out, (q, ownL q q.length, (s : Int), (q.length : Int)), ?_, fun h => (by cases h), fun _ => ⟨s, rfl, hs, hlow⟩, fun h => (by cases h)⟩
          show br (decide ((q.length : Int) < (q.length : Int))) _ _ = _
          rw [br_f (by simp)])
    (ownSL_fuel (q, [], -1, 0)) (q, [], -1, 0) ⟨0, by omega, .inl ⟨rfl, rfl⟩⟩ (by simp [ownSL_fuel])
  subst k1
  exact ⟨s, e, k2, k3⟩
def encB : Option Nat → Int
  | none => -1
  | some r => (r : Int)
open Classical in
/-- One candidate, as the reference has it. -/
noncomputable def nextF (q : List (Int × Int)) (a : Int × Int) (t : Int) (b x : Int) : Int := if x = t then b else if b < 0 then x else if bet (mi (pt q b.toNat) a) (mi (pt q x.toNat) a) = true then x else b
theorem nextF_enc (q : List (Int × Int)) (a : Int × Int) (t : Nat) (b : Option Nat) (k : Nat) : nextF q a (t : Int) (encB b) (k : Int) = encB (scanSStep (pt q) a t b k) := by
  unfold nextF scanSStep
  by_cases h : k = t
  · rw [if_pos (by omega), if_pos h]
  · rw [if_neg (by omega), if_neg h]
    cases b with
    | none => rw [if_pos (by decide)]; rfl
    | some r =>
      rw [if_neg (by show ¬ ((r : Int) < 0); omega)]
      have e1 : (encB (some r)).toNat = r := Int.toNat_natCast r
      have e2 : ((k : Nat) : Int).toNat = k := Int.toNat_natCast k
      rw [e1, e2]
      by_cases c : bet (mi (pt q r) a) (mi (pt q k) a) = true
      · rw [if_pos c]
        show (k : Int) = encB (if bet (mi (pt q r) a) (mi (pt q k) a) = true then some k else some r)
        rw [if_pos c]; rfl
      · rw [if_neg c]
        show (r : Int) = encB (if bet (mi (pt q r) a) (mi (pt q k) a) = true then some k else some r)
        rw [if_neg c]; rfl
theorem foldl_own (q : List (Int × Int)) (a : Int × Int) (t : Nat) : ∀ k, (ownL q k).foldl (nextF q a (t : Int)) (-1) = encB (scanS (pt q) a t k)
  | 0 => rfl
  | k + 1 => by
    rw [ownL_succ]
    show _ = encB (if fresh (pt q) k = true then scanSStep (pt q) a t (scanS (pt q) a t k) k else scanS (pt q) a t k)
    by_cases h : fresh (pt q) k = true
    · rw [if_pos h, if_pos h, List.foldl_append, foldl_own q a t k]
      exact nextF_enc q a t _ k
    · rw [if_neg h, if_neg h]; exact foldl_own q a t k
theorem ownL_mem {q : List (Int × Int)} {k : Nat} {x : Int} (h : x ∈ ownL q k) : 0 ≤ x ∧ x < k := by
  unfold ownL at h
  obtain ⟨i, hi, rfl⟩ := List.mem_map.1 h
  rw [List.mem_filter, List.mem_range] at hi
  omega
theorem nextSL_eq {q : List (Int × Int)} (hq : q.length ≤ 1048576) (hbd : Bd q) {st : Int} {out : List Int} {t : Nat} (ht : t < q.length) :
    nextSL (q, ownL q q.length, st, out, (t : Int), -1, 0) = some (q, ownL q q.length, st, out, (t : Int), encB (scanS (pt q) (pt q t) t q.length), ((ownL q q.length).length : Int)) := by
  have ol := ownL_len q q.length
  have h := fold_loop (step := nextSL_step) (l := ownL q q.length) (fun i (b : Int) => (q, ownL q q.length, st, out, (t : Int), b, i)) (nextF q (pt q t) (t : Int)) (fun _ b => b = -1 ∨ (0 ≤ b ∧ b < q.length)) (fun b => (q, ownL q q.length, st, out, (t : Int), b, ((ownL q q.length).length : Int)))
    (fun i b y h0 h1 hy hJ => by
      have e5 : IntKind.i64.wrap (i + 1) = i + 1 := w64 (by omega) (by omega)
      have hmem : y ∈ ownL q q.length := by
        unfold idx at hy
        rw [if_pos h0] at hy
        exact List.mem_of_getElem? hy
      obtain ⟨m1, m2⟩ := ownL_mem hmem
      have hg : List.get?Internal (ownL q q.length) i.toNat = some y := by
        unfold idx at hy
        rw [if_pos h0] at hy
        rw [gi]; exact hy
      have ey : ((y.toNat : Nat) : Int) = y := by omega
      have y1 : idx q y = some (pt q y.toNat) := by rw [← ey]; exact pt_idx (by omega)
      have t1 : idx q (t : Int) = some (pt q t) := pt_idx ht
      refine ⟨?_, ?_⟩
      · unfold nextSL_step
        dsimp only
        rw [br_t (by simpa using h1), hy, hg]
        simp only [ob_s, e5]
        unfold nextF
        by_cases c1 : y = (t : Int)
        · rw [br_t (by simpa using c1), if_pos c1]
        · rw [br_f (by simpa using c1), if_neg c1]
          by_cases c2 : b < 0
          · rw [br_t (by simpa using c2), if_pos c2]
          · rw [br_f (by simpa using c2), if_neg c2]
            have eb : ((b.toNat : Nat) : Int) = b := by omega
            have b1 : idx q b = some (pt q b.toNat) := by rw [← eb]; exact pt_idx (by omega)
            have it := hbd t ht
            have iy := hbd y.toNat (by omega)
            have ib := hbd b.toNat (by omega)
            have k1 : crossS (((pt q t).1, (pt q t).2), ((pt q b.toNat).1, (pt q b.toNat).2), (pt q y.toNat).1, (pt q y.toNat).2) = some (crs (pt q t) (pt q b.toNat) (pt q y.toNat)) := crossS_eq it ib iy
            have k2 : sqS (((pt q t).1, (pt q t).2), (pt q y.toNat).1, (pt q y.toNat).2) = some (sqF (pt q t) (pt q y.toNat)) := by rw [sqS_eq]; exact sqS_val it iy
            have k3 : sqS (((pt q t).1, (pt q t).2), (pt q b.toNat).1, (pt q b.toNat).2) = some (sqF (pt q t) (pt q b.toNat)) := by rw [sqS_eq]; exact sqS_val it ib
            simp only [y1, b1, t1, ob_s, k1, k2, k3, bet_br]
            by_cases c3 : bet (mi (pt q b.toNat) (pt q t)) (mi (pt q y.toNat) (pt q t)) = true
            · rw [if_pos c3, if_pos c3]
            · rw [if_neg c3, if_neg c3]
      · unfold nextF
        split
        · exact hJ
        · split
          · exact .inr ⟨m1, m2⟩
          · split
            · exact .inr ⟨m1, m2⟩
            · exact hJ)
    (fun b _ => by
      show br (decide (((ownL q q.length).length : Int) < ((ownL q q.length).length : Int))) _ _ = _
      rw [br_f (by simp)]) (n := (ownL q q.length).length - (0 : Int).toNat + 1) (by omega) (a0 := -1) (.inl rfl)
  have h2 := h.1
  rw [foldl_own] at h2
  exact h2
theorem nextS_way {q : List (Int × Int)} {s : Nat} (hB : Begin (pt q) q.length s) (k : Nat) : (scanS (pt q) (pt q (way (pt q) q.length s k)) (way (pt q) q.length s k) q.length = some (way (pt q) q.length s (k + 1)) ∧ ∃ i, i < q.length ∧ pt q i ≠ pt q s) ∨
    (scanS (pt q) (pt q (way (pt q) q.length s k)) (way (pt q) q.length s k) q.length = none ∧ ∀ i, i < q.length → pt q i = pt q s) := by
  by_cases hx : ∃ i, i < q.length ∧ pt q i ≠ pt q s
  · obtain ⟨h1, h2, h3, h4, h5⟩ := way_inv hB hx k
    obtain ⟨r, e, hr⟩ := scanS_next h3 (t := way (pt q) q.length s k) rfl h2 h4
    rw [e, hr.uniq h3 h5]
    exact .inl ⟨rfl, hx⟩
  · have h : ∀ i, i < q.length → pt q i = pt q s := fun i hi => Classical.byContradiction fun e => hx ⟨i, hi, e⟩
    refine .inr ⟨?_, h⟩
    rw [way_all h k]
    exact scanS_all hB.cone rfl hB.first h
theorem hullS_eq {q : List (Int × Int)} (hq : q.length ≤ 1048576) (hbd : Bd q) {s m : Nat} (hH : HullOf q s m) : hullS q = some (wayL q s m) := by
  rcases ownSL_eq hq with ⟨e, _⟩ | ⟨s', e1, hs', hlow'⟩
  · have := hH.b.lt
    rw [e] at this; simp at this
  have hss := low_uniq hs' hH.b.lt hlow' hH.low
  subst hss
  obtain ⟨hB, _, hR⟩ := hH
  have ol := ownL_len q q.length
  have hml := hR.le
  -- the last round
  have last : ∀ (fuel : Nat), 0 < fuel → iterP hullSL_step fuel (q, ownL q q.length, (s' : Int), wayL q s' m, -1) = some (q, ownL q q.length, (s' : Int), wayL q s' m, -1) := by
    intro fuel hf
    obtain ⟨fuel, rfl⟩ : ∃ f, fuel = f + 1 := ⟨fuel - 1, by omega⟩
    rfl
  have key : ∀ (d k fuel : Nat), k + d + 1 = m → d + 1 < fuel → iterP hullSL_step fuel (q, ownL q q.length, (s' : Int), wayL q s' k, ((way (pt q) q.length s' k : Nat) : Int)) = some (q, ownL q q.length, (s' : Int), wayL q s' m, -1) := by
    intro d
    induction d with
    | zero =>
      intro k fuel hk hf
      obtain ⟨fuel, rfl⟩ : ∃ f, fuel = f + 1 := ⟨fuel - 1, by omega⟩
      have hw := way_lt hB k
      have n1 := nextSL_eq hq hbd (st := (s' : Int)) (out := wayL q s' k ++ [((way (pt q) q.length s' k : Nat) : Int)]) hw
      have hb := hR.back
      rw [show m = k + 1 by omega] at hb
      have hst : hullSL_step (q, ownL q q.length, (s' : Int), wayL q s' k, ((way (pt q) q.length s' k : Nat) : Int)) = some (.next, q, ownL q q.length, (s' : Int), wayL q s' m, -1) := by
        unfold hullSL_step
        dsimp only
        rw [br_t (by simp), br_t (by rw [wayL_len]; simp; omega), n1]
        simp only [ob_s]
        rw [← wayL_succ, show k + 1 = m by omega]
        rcases nextS_way hB k with ⟨e, _⟩ | ⟨e, _⟩
        · rw [e, hb, br_t (by simp [encB])]
        · rw [e, br_f (by simp only [encB, beq_eq_false_iff_ne, ne_eq]; omega)]
          rfl
      simp only [iterP, hst, ob_s]
      exact last fuel (by omega)
    | succ d ih =>
      intro k fuel hk hf
      obtain ⟨fuel, rfl⟩ : ∃ f, fuel = f + 1 := ⟨fuel - 1, by omega⟩
      have hw := way_lt hB k
      have n1 := nextSL_eq hq hbd (st := (s' : Int)) (out := wayL q s' k ++ [((way (pt q) q.length s' k : Nat) : Int)]) hw
      have hne := hR.not (k + 1) (by omega) (by omega)
      rcases nextS_way hB k with ⟨e, _⟩ | ⟨_, e⟩
      · have hst : hullSL_step (q, ownL q q.length, (s' : Int), wayL q s' k, ((way (pt q) q.length s' k : Nat) : Int)) = some (.next, q, ownL q q.length, (s' : Int), wayL q s' (k + 1), ((way (pt q) q.length s' (k + 1) : Nat) : Int)) := by
          unfold hullSL_step
          dsimp only
          rw [br_t (by simp), br_t (by rw [wayL_len]; simp; omega), n1]
          simp only [ob_s]
          rw [← wayL_succ, e, br_f (by
            simp only [encB, beq_eq_false_iff_ne, ne_eq]
            intro h
            exact hne (by rw [show way (pt q) q.length s' (k + 1) = s' by omega]))]
          rfl
        simp only [iterP, hst, ob_s]
        exact ih (k + 1) fuel (by omega) (by omega)
      · exact absurd (e _ (way_lt hB (k + 1))) hne
  have e2 : hullSL (q, ownL q q.length, (s' : Int), [], (s' : Int)) = some (q, ownL q q.length, (s' : Int), wayL q s' m, -1) := by
    exact key (m - 1) 0 _ (by have := hR.pos; omega) (by simp only [hullSL_fuel]; omega)
  unfold hullS
  simp only [e1, ob_s, e2]
end Rx
end Go.Proofs.Ytckbhfbcblehmaa
