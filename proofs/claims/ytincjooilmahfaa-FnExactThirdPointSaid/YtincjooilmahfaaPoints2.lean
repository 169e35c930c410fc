/- The contracts of the functions on pairs and centre distances. No conditions. -/
import Derived.Test.YtincjooilmahfaaPoints
namespace Go.Proofs.Ytincjooilmahfaa
open Go.RowKit BigFrame

def vPair (a b : Int) : Bool := inB a 6 240 && inB b 6 240
theorem vPair_bd {x y : Int} (h : vPair x y = true) : 6 ≤ x ∧ x ≤ 240 ∧ 6 ≤ y ∧ y ≤ 240 := by
  simp [vPair, inB] at h; omega

theorem l05Teeth_any (n : Int) (w : World) :
    Calls Try.prog 118 #[.int .i64 n] w fun e w' => e = .returned (.bool (inB n 6 240)) ∧ w = w' := by
  go_enter Try.func118, Try.ntmps118
  go_wp2_with (go_at_call 69; refine (l00In_any _ _ _ _).mono ?_; rintro e w' ⟨rfl, rfl⟩)
  go_ret
  exact ⟨rfl, rfl⟩
theorem toothed_any (n : Int) (w : World) :
    Calls Try.prog 102 #[.int .i64 n] w fun e w' => e = .returned (.bool (inB n 6 240)) ∧ w = w' := by
  go_enter Try.func102, Try.ntmps102
  go_wp2_with (go_at_call 65; refine (within_any _ _ _ _).mono ?_; rintro e w' ⟨rfl, rfl⟩)
  go_ret
  exact ⟨rfl, rfl⟩
theorem l05Pair_any (x y : Int) (w : World) :
    Calls Try.prog 101 #[.agg #[.int .i64 x, .int .i64 y]] w fun e w' => e = .returned (.bool (vPair x y)) ∧ Ext w w' := by
  go_enter Try.func101, Try.ntmps101
  go_wp2_with (go_at_call 118; refine (l05Teeth_any _ _).mono ?_; rintro e w' ⟨rfl, rfl⟩)
  all_goals
    go_returns
    exact ⟨ret_bool (by simp_all [vPair]), by (repeat' (first | exact Ext.refl _ | assumption | refine Ext.val _ ?_ | refine Ext.alloc ?_ _ | refine Ext.drew ?_ | refine Ext.drewN ?_ _ | refine Ext.setCell ?_ (by first | exact Nat.le_refl _ | omega | (simp; done) | (simp; omega)) _ | refine Ext.trans ?_ (by assumption)))⟩
theorem ValidPairS_any (x y : Int) (w : World) :
    Calls Try.prog 68 #[.agg #[.int .i64 x, .int .i64 y]] w fun e w' => e = .returned (.bool (vPair x y)) ∧ Ext w w' := by
  go_enter Try.func68, Try.ntmps68
  go_wp2_with (go_at_call 101; refine (l05Pair_any _ _ _).mono ?_; rintro e w' ⟨rfl, hE⟩; (first | (obtain ⟨xw, rfl⟩ := ExtOf.mk' hE) | (obtain ⟨xw, rfl⟩ := ExtOf.mk hE)); clear hE; have hz := ExtOf.size_le xw; (try simp only [World.size_alloc, World.size_setCell] at hz); (try have hz0 : w.heap.size < xw.w.heap.size := by omega); (try have hz1 : w.heap.size + 1 < xw.w.heap.size := by omega); (try have hz2 : w.heap.size + 2 < xw.w.heap.size := by omega); (try have hz3 : w.heap.size + 3 < xw.w.heap.size := by omega); (try have hz4 : w.heap.size + 4 < xw.w.heap.size := by omega); (try have hz5 : w.heap.size + 5 < xw.w.heap.size := by omega))
  go_returns
  exact ⟨rfl, by (repeat' (first | exact Ext.refl _ | assumption | refine Ext.val _ ?_ | refine Ext.alloc ?_ _ | refine Ext.drew ?_ | refine Ext.drewN ?_ _ | refine Ext.setCell ?_ (by first | exact Nat.le_refl _ | omega | (simp; done) | (simp; omega)) _ | refine Ext.trans ?_ (by assumption)))⟩
theorem ValidPairI_any (x y : Int) (w : World) :
    Calls Try.prog 70 #[.agg #[.int .i64 x, .int .i64 y]] w fun e w' => e = .returned (.bool (vPair x y)) ∧ Ext w w' := by
  go_enter Try.func70, Try.ntmps70
  go_wp2_with (go_at_call 102; refine (toothed_any _ _).mono ?_; rintro e w' ⟨rfl, rfl⟩)
  all_goals
    go_returns
    exact ⟨ret_bool (by simp_all [vPair]), by (repeat' (first | exact Ext.refl _ | assumption | refine Ext.val _ ?_ | refine Ext.alloc ?_ _ | refine Ext.drew ?_ | refine Ext.drewN ?_ _ | refine Ext.setCell ?_ (by first | exact Nat.le_refl _ | omega | (simp; done) | (simp; omega)) _ | refine Ext.trans ?_ (by assumption)))⟩
theorem toPair_any (x y : Int) (w : World) :
    Calls Try.prog 24 #[.agg #[.int .i64 x, .int .i64 y]] w fun e w' => e = .returned (.agg #[.int .i64 x, .int .i64 y]) ∧ Ext w w' := by
  go_enter Try.func24, Try.ntmps24
  go_wp2
  go_returns
  exact ⟨rfl, by (repeat' (first | exact Ext.refl _ | assumption | refine Ext.val _ ?_ | refine Ext.alloc ?_ _ | refine Ext.drew ?_ | refine Ext.drewN ?_ _ | refine Ext.setCell ?_ (by first | exact Nat.le_refl _ | omega | (simp; done) | (simp; omega)) _ | refine Ext.trans ?_ (by assumption)))⟩

def centre (x y m : Int) : Value :=
  if vPair x y then (if inB m 2 200 && decide (m % 2 = 0) then .tuple #[.int .i64 (m / 2 * (x + y)), .int .i64 0] else .tuple #[.int .i64 0, .int .i64 2]) else .tuple #[.int .i64 0, .int .i64 1]
theorem centre_form (x y m : Int) : ∃ a b : Int, centre x y m = .tuple #[.int .i64 a, .int .i64 b] := by
  unfold centre; split
  · split <;> exact ⟨_, _, rfl⟩
  · exact ⟨_, _, rfl⟩
theorem half_mul (q s : Int) : 2 * q * s / 2 = q * s := by
  rw [Int.mul_assoc]; exact Int.mul_ediv_cancel_left _ (by decide)

theorem mul_bd {a b A B : Int} (h0 : 0 ≤ a) (h1 : a ≤ A) (k0 : 0 ≤ b) (k1 : b ≤ B) : 0 ≤ a * b ∧ a * b ≤ A * B :=
  ⟨Int.mul_nonneg h0 k0, Int.le_trans (Int.mul_le_mul_of_nonneg_right h1 k0) (Int.mul_le_mul_of_nonneg_left k1 (by omega))⟩

theorem CentreDistanceS_any (x y m : Int) (w : World) :
    Calls Try.prog 23 #[.agg #[.int .i64 x, .int .i64 y], .int .i64 m] w fun e w' => e = .returned (centre x y m) ∧ Ext w w' := by
  cases hv : vPair x y
  · go_enter Try.func23, Try.ntmps23
    go_wp2_with (first | (go_at_call 68; refine (ValidPairS_any _ _ _).mono ?_; rintro e w' ⟨rfl, hE⟩; (first | (obtain ⟨xw, rfl⟩ := ExtOf.mk' hE) | (obtain ⟨xw, rfl⟩ := ExtOf.mk hE)); clear hE; have hz := ExtOf.size_le xw; (try simp only [World.size_alloc, World.size_setCell] at hz); (try have hz0 : w.heap.size < xw.w.heap.size := by omega); (try have hz1 : w.heap.size + 1 < xw.w.heap.size := by omega); (try have hz2 : w.heap.size + 2 < xw.w.heap.size := by omega); (try have hz3 : w.heap.size + 3 < xw.w.heap.size := by omega); (try have hz4 : w.heap.size + 4 < xw.w.heap.size := by omega); (try have hz5 : w.heap.size + 5 < xw.w.heap.size := by omega)))
    go_returns
    exact ⟨by simp [centre, hv], by (repeat' (first | exact Ext.refl _ | assumption | refine Ext.val _ ?_ | refine Ext.alloc ?_ _ | refine Ext.drew ?_ | refine Ext.drewN ?_ _ | refine Ext.setCell ?_ (by first | exact Nat.le_refl _ | omega | (simp; done) | (simp; omega)) _ | refine Ext.trans ?_ (by assumption)))⟩
  cases hm : inB m 2 200
  · go_enter Try.func23, Try.ntmps23
    go_wp2_with (first | (go_at_call 68; refine (ValidPairS_any _ _ _).mono ?_; rintro e w' ⟨rfl, hE⟩; (first | (obtain ⟨xw, rfl⟩ := ExtOf.mk' hE) | (obtain ⟨xw, rfl⟩ := ExtOf.mk hE)); clear hE; have hz := ExtOf.size_le xw; (try simp only [World.size_alloc, World.size_setCell] at hz); (try have hz0 : w.heap.size < xw.w.heap.size := by omega); (try have hz1 : w.heap.size + 1 < xw.w.heap.size := by omega); (try have hz2 : w.heap.size + 2 < xw.w.heap.size := by omega); (try have hz3 : w.heap.size + 3 < xw.w.heap.size := by omega); (try have hz4 : w.heap.size + 4 < xw.w.heap.size := by omega); (try have hz5 : w.heap.size + 5 < xw.w.heap.size := by omega)) | (go_at_call 69; refine (l00In_any _ _ _ _).mono ?_; rintro e w' ⟨rfl, rfl⟩))
    go_returns
    exact ⟨by simp [centre, hv, hm], by (repeat' (first | exact Ext.refl _ | assumption | refine Ext.val _ ?_ | refine Ext.alloc ?_ _ | refine Ext.drew ?_ | refine Ext.drewN ?_ _ | refine Ext.setCell ?_ (by first | exact Nat.le_refl _ | omega | (simp; done) | (simp; omega)) _ | refine Ext.trans ?_ (by assumption)))⟩
  obtain ⟨m1, m2⟩ := inB_iff.1 hm
  obtain ⟨x1, x2, y1, y2⟩ := vPair_bd hv
  by_cases h2 : m % 2 = 0
  · have hd : (m % 2 != 0) = false := by simp [h2]
    have hb := mul_bd (a := m / 2) (b := x + y) (A := 100) (B := 480) (by omega) (by omega) (by omega) (by omega)
    clear h2
    go_enter Try.func23, Try.ntmps23
    go_wp2_with (first | (go_at_call 68; refine (ValidPairS_any _ _ _).mono ?_; rintro e w' ⟨rfl, hE⟩; (first | (obtain ⟨xw, rfl⟩ := ExtOf.mk' hE) | (obtain ⟨xw, rfl⟩ := ExtOf.mk hE)); clear hE; have hz := ExtOf.size_le xw; (try simp only [World.size_alloc, World.size_setCell] at hz); (try have hz0 : w.heap.size < xw.w.heap.size := by omega); (try have hz1 : w.heap.size + 1 < xw.w.heap.size := by omega); (try have hz2 : w.heap.size + 2 < xw.w.heap.size := by omega); (try have hz3 : w.heap.size + 3 < xw.w.heap.size := by omega); (try have hz4 : w.heap.size + 4 < xw.w.heap.size := by omega); (try have hz5 : w.heap.size + 5 < xw.w.heap.size := by omega)) | (go_at_call 69; refine (l00In_any _ _ _ _).mono ?_; rintro e w' ⟨rfl, rfl⟩))
    go_returns
    exact ⟨by simp at hd; simp [centre, hv, hm, hd], by (repeat' (first | exact Ext.refl _ | assumption | refine Ext.val _ ?_ | refine Ext.alloc ?_ _ | refine Ext.drew ?_ | refine Ext.drewN ?_ _ | refine Ext.setCell ?_ (by first | exact Nat.le_refl _ | omega | (simp; done) | (simp; omega)) _ | refine Ext.trans ?_ (by assumption)))⟩
  · have hd : (m % 2 != 0) = true := by simp; omega
    clear h2
    go_enter Try.func23, Try.ntmps23
    go_wp2_with (first | (go_at_call 68; refine (ValidPairS_any _ _ _).mono ?_; rintro e w' ⟨rfl, hE⟩; (first | (obtain ⟨xw, rfl⟩ := ExtOf.mk' hE) | (obtain ⟨xw, rfl⟩ := ExtOf.mk hE)); clear hE; have hz := ExtOf.size_le xw; (try simp only [World.size_alloc, World.size_setCell] at hz); (try have hz0 : w.heap.size < xw.w.heap.size := by omega); (try have hz1 : w.heap.size + 1 < xw.w.heap.size := by omega); (try have hz2 : w.heap.size + 2 < xw.w.heap.size := by omega); (try have hz3 : w.heap.size + 3 < xw.w.heap.size := by omega); (try have hz4 : w.heap.size + 4 < xw.w.heap.size := by omega); (try have hz5 : w.heap.size + 5 < xw.w.heap.size := by omega)) | (go_at_call 69; refine (l00In_any _ _ _ _).mono ?_; rintro e w' ⟨rfl, rfl⟩))
    go_returns
    exact ⟨by simp at hd; simp [centre, hv, hm, hd], by (repeat' (first | exact Ext.refl _ | assumption | refine Ext.val _ ?_ | refine Ext.alloc ?_ _ | refine Ext.drew ?_ | refine Ext.drewN ?_ _ | refine Ext.setCell ?_ (by first | exact Nat.le_refl _ | omega | (simp; done) | (simp; omega)) _ | refine Ext.trans ?_ (by assumption)))⟩

theorem CentreDistanceI_any (x y m : Int) (w : World) :
    Calls Try.prog 25 #[.agg #[.int .i64 x, .int .i64 y], .int .i64 m] w fun e w' => e = .returned (centre x y m) ∧ Ext w w' := by
  cases hv : vPair x y
  · go_enter Try.func25, Try.ntmps25
    go_wp2_with (first | (go_at_call 70; refine (ValidPairI_any _ _ _).mono ?_; rintro e w' ⟨rfl, hE⟩; (first | (obtain ⟨xw, rfl⟩ := ExtOf.mk' hE) | (obtain ⟨xw, rfl⟩ := ExtOf.mk hE)); clear hE; have hz := ExtOf.size_le xw; (try simp only [World.size_alloc, World.size_setCell] at hz); (try have hz0 : w.heap.size < xw.w.heap.size := by omega); (try have hz1 : w.heap.size + 1 < xw.w.heap.size := by omega); (try have hz2 : w.heap.size + 2 < xw.w.heap.size := by omega); (try have hz3 : w.heap.size + 3 < xw.w.heap.size := by omega); (try have hz4 : w.heap.size + 4 < xw.w.heap.size := by omega); (try have hz5 : w.heap.size + 5 < xw.w.heap.size := by omega)))
    go_returns
    exact ⟨by simp [centre, hv], by (repeat' (first | exact Ext.refl _ | assumption | refine Ext.val _ ?_ | refine Ext.alloc ?_ _ | refine Ext.drew ?_ | refine Ext.drewN ?_ _ | refine Ext.setCell ?_ (by first | exact Nat.le_refl _ | omega | (simp; done) | (simp; omega)) _ | refine Ext.trans ?_ (by assumption)))⟩
  cases hm : inB m 2 200
  · go_enter Try.func25, Try.ntmps25
    go_wp2_with (first | (go_at_call 70; refine (ValidPairI_any _ _ _).mono ?_; rintro e w' ⟨rfl, hE⟩; (first | (obtain ⟨xw, rfl⟩ := ExtOf.mk' hE) | (obtain ⟨xw, rfl⟩ := ExtOf.mk hE)); clear hE; have hz := ExtOf.size_le xw; (try simp only [World.size_alloc, World.size_setCell] at hz); (try have hz0 : w.heap.size < xw.w.heap.size := by omega); (try have hz1 : w.heap.size + 1 < xw.w.heap.size := by omega); (try have hz2 : w.heap.size + 2 < xw.w.heap.size := by omega); (try have hz3 : w.heap.size + 3 < xw.w.heap.size := by omega); (try have hz4 : w.heap.size + 4 < xw.w.heap.size := by omega); (try have hz5 : w.heap.size + 5 < xw.w.heap.size := by omega)) | (go_at_call 65; refine (within_any _ _ _ _).mono ?_; rintro e w' ⟨rfl, rfl⟩))
    go_returns
    exact ⟨by simp [centre, hv, hm], by (repeat' (first | exact Ext.refl _ | assumption | refine Ext.val _ ?_ | refine Ext.alloc ?_ _ | refine Ext.drew ?_ | refine Ext.drewN ?_ _ | refine Ext.setCell ?_ (by first | exact Nat.le_refl _ | omega | (simp; done) | (simp; omega)) _ | refine Ext.trans ?_ (by assumption)))⟩
  obtain ⟨m1, m2⟩ := inB_iff.1 hm
  obtain ⟨x1, x2, y1, y2⟩ := vPair_bd hv
  by_cases h2 : m % 2 = 0
  · have hd : (m % 2 != 0) = false := by simp [h2]
    have hb := mul_bd (a := m) (b := x + y) (A := 200) (B := 480) (by omega) (by omega) (by omega) (by omega)
    clear h2
    go_enter Try.func25, Try.ntmps25
    go_wp2_with (first | (go_at_call 70; refine (ValidPairI_any _ _ _).mono ?_; rintro e w' ⟨rfl, hE⟩; (first | (obtain ⟨xw, rfl⟩ := ExtOf.mk' hE) | (obtain ⟨xw, rfl⟩ := ExtOf.mk hE)); clear hE; have hz := ExtOf.size_le xw; (try simp only [World.size_alloc, World.size_setCell] at hz); (try have hz0 : w.heap.size < xw.w.heap.size := by omega); (try have hz1 : w.heap.size + 1 < xw.w.heap.size := by omega); (try have hz2 : w.heap.size + 2 < xw.w.heap.size := by omega); (try have hz3 : w.heap.size + 3 < xw.w.heap.size := by omega); (try have hz4 : w.heap.size + 4 < xw.w.heap.size := by omega); (try have hz5 : w.heap.size + 5 < xw.w.heap.size := by omega)) | (go_at_call 65; refine (within_any _ _ _ _).mono ?_; rintro e w' ⟨rfl, rfl⟩))
    go_returns
    refine ⟨?_, by (repeat' (first | exact Ext.refl _ | assumption | refine Ext.val _ ?_ | refine Ext.alloc ?_ _ | refine Ext.drew ?_ | refine Ext.drewN ?_ _ | refine Ext.setCell ?_ (by first | exact Nat.le_refl _ | omega | (simp; done) | (simp; omega)) _ | refine Ext.trans ?_ (by assumption)))⟩
    simp at hd
    have e : m = 2 * (m / 2) := by omega
    have e2 : m * (x + y) / 2 = m / 2 * (x + y) := by
      conv => lhs; rw [e]
      exact half_mul _ _
    simp [centre, hv, hm, hd, e2]
  · have hd : (m % 2 != 0) = true := by simp; omega
    clear h2
    go_enter Try.func25, Try.ntmps25
    go_wp2_with (first | (go_at_call 70; refine (ValidPairI_any _ _ _).mono ?_; rintro e w' ⟨rfl, hE⟩; (first | (obtain ⟨xw, rfl⟩ := ExtOf.mk' hE) | (obtain ⟨xw, rfl⟩ := ExtOf.mk hE)); clear hE; have hz := ExtOf.size_le xw; (try simp only [World.size_alloc, World.size_setCell] at hz); (try have hz0 : w.heap.size < xw.w.heap.size := by omega); (try have hz1 : w.heap.size + 1 < xw.w.heap.size := by omega); (try have hz2 : w.heap.size + 2 < xw.w.heap.size := by omega); (try have hz3 : w.heap.size + 3 < xw.w.heap.size := by omega); (try have hz4 : w.heap.size + 4 < xw.w.heap.size := by omega); (try have hz5 : w.heap.size + 5 < xw.w.heap.size := by omega)) | (go_at_call 65; refine (within_any _ _ _ _).mono ?_; rintro e w' ⟨rfl, rfl⟩))
    go_returns
    exact ⟨by simp at hd; simp [centre, hv, hm, hd], by (repeat' (first | exact Ext.refl _ | assumption | refine Ext.val _ ?_ | refine Ext.alloc ?_ _ | refine Ext.drew ?_ | refine Ext.drewN ?_ _ | refine Ext.setCell ?_ (by first | exact Nat.le_refl _ | omega | (simp; done) | (simp; omega)) _ | refine Ext.trans ?_ (by assumption)))⟩

theorem FnExactCentreDistance_any (x y m : Int) (w : World) :
    Calls Try.prog 5 #[.agg #[.int .i64 x, .int .i64 y], .int .i64 m] w fun e w' => e = .returned (.bool true) ∧ Ext w w' := by
  obtain ⟨s, t, hs⟩ := centre_form x y m
  have c1 := fun W => CentreDistanceS_any x y m W
  have c2 := fun W => CentreDistanceI_any x y m W
  rw [hs] at c1 c2
  have C1 := Lib.hid c1
  have C2 := Lib.hid c2
  clear c1 c2 hs
  go_enter Try.func5, Try.ntmps5
  go_wp2_with (first | ((first | with_reducible refine wp_region_ext' (by kernel_rfl) (by kernel_rfl) ?_ | with_reducible refine wp_region_ext (by kernel_rfl) (by kernel_rfl) ?_); (repeat (go_big_quiet_step ((first | (go_at_call 24; exact Calls.ext_of (toPair_any _ _ _)) | (go_at_call 23; exact Calls.ext_of (C1.out _)) | (go_at_call 25; exact Calls.ext_of (C2.out _)))))); refine wpQuiet_nil ?_; intro _ hw'; obtain ⟨xw, hw''⟩ := hw'; subst hw''; have hz := ExtOf.size_le xw; (try simp only [World.size_alloc, World.size_setCell] at hz); (try have hz0 : w.heap.size < xw.w.heap.size := by omega); (try have hz1 : w.heap.size + 1 < xw.w.heap.size := by omega); (try have hz2 : w.heap.size + 2 < xw.w.heap.size := by omega); (try have hz3 : w.heap.size + 3 < xw.w.heap.size := by omega); (try have hz4 : w.heap.size + 4 < xw.w.heap.size := by omega); (try have hz5 : w.heap.size + 5 < xw.w.heap.size := by omega)) | (go_at_call 24; refine (toPair_any _ _ _).mono ?_; rintro e w' ⟨rfl, hE⟩; (first | (obtain ⟨xw, rfl⟩ := ExtOf.mk' hE) | (obtain ⟨xw, rfl⟩ := ExtOf.mk hE)); clear hE; have hz := ExtOf.size_le xw; (try simp only [World.size_alloc, World.size_setCell] at hz); (try have hz0 : w.heap.size < xw.w.heap.size := by omega); (try have hz1 : w.heap.size + 1 < xw.w.heap.size := by omega); (try have hz2 : w.heap.size + 2 < xw.w.heap.size := by omega); (try have hz3 : w.heap.size + 3 < xw.w.heap.size := by omega); (try have hz4 : w.heap.size + 4 < xw.w.heap.size := by omega); (try have hz5 : w.heap.size + 5 < xw.w.heap.size := by omega)) | (go_at_call 23; refine (C1.out _).mono ?_; rintro e w' ⟨rfl, hE⟩; (first | (obtain ⟨xw, rfl⟩ := ExtOf.mk' hE) | (obtain ⟨xw, rfl⟩ := ExtOf.mk hE)); clear hE; have hz := ExtOf.size_le xw; (try simp only [World.size_alloc, World.size_setCell] at hz); (try have hz0 : w.heap.size < xw.w.heap.size := by omega); (try have hz1 : w.heap.size + 1 < xw.w.heap.size := by omega); (try have hz2 : w.heap.size + 2 < xw.w.heap.size := by omega); (try have hz3 : w.heap.size + 3 < xw.w.heap.size := by omega); (try have hz4 : w.heap.size + 4 < xw.w.heap.size := by omega); (try have hz5 : w.heap.size + 5 < xw.w.heap.size := by omega)) | (go_at_call 25; refine (C2.out _).mono ?_; rintro e w' ⟨rfl, hE⟩; (first | (obtain ⟨xw, rfl⟩ := ExtOf.mk' hE) | (obtain ⟨xw, rfl⟩ := ExtOf.mk hE)); clear hE; have hz := ExtOf.size_le xw; (try simp only [World.size_alloc, World.size_setCell] at hz); (try have hz0 : w.heap.size < xw.w.heap.size := by omega); (try have hz1 : w.heap.size + 1 < xw.w.heap.size := by omega); (try have hz2 : w.heap.size + 2 < xw.w.heap.size := by omega); (try have hz3 : w.heap.size + 3 < xw.w.heap.size := by omega); (try have hz4 : w.heap.size + 4 < xw.w.heap.size := by omega); (try have hz5 : w.heap.size + 5 < xw.w.heap.size := by omega)))
  go_returns
  exact ⟨rfl, by (repeat' (first | exact Ext.refl _ | assumption | refine Ext.val _ ?_ | refine Ext.alloc ?_ _ | refine Ext.drew ?_ | refine Ext.drewN ?_ _ | refine Ext.setCell ?_ (by first | exact Nat.le_refl _ | omega | (simp; done) | (simp; omega)) _ | refine Ext.trans ?_ (by assumption)))⟩
end Go.Proofs.Ytincjooilmahfaa
