/- The contracts of the functions on points. No conditions. -/
import Derived.Test.YtincjooilmahfaaBase
import Derived.WalkKit
import Derived.WalkSpells
import Derived.WalkLawsBesides
import Derived.Handy
namespace Go.Proofs.Ytincjooilmahfaa
open Go.RowKit BigFrame

def inB (n lo hi : Int) : Bool := decide (lo ≤ n ∧ n ≤ hi)
theorem inB_yes {n lo hi : Int} (h1 : lo ≤ n) : inB n lo hi = decide (n ≤ hi) := by simp [inB, h1]
theorem inB_no {n lo hi : Int} (h1 : n < lo) : inB n lo hi = false := by simp [inB]; omega
theorem inB_iff {n lo hi : Int} : inB n lo hi = true ↔ lo ≤ n ∧ n ≤ hi := by simp [inB]

theorem l00In_any (n lo hi : Int) (w : World) :
    Calls Try.prog 69 #[.int .i64 n, .int .i64 lo, .int .i64 hi] w fun e w' => e = .returned (.bool (inB n lo hi)) ∧ w = w' := by
  go_enter Try.func69, Try.ntmps69
  go_wp2
  · go_ret
    exact ⟨ret_bool (inB_yes ‹_›).symm, rfl⟩
  · go_ret
    exact ⟨ret_bool (inB_no ‹_›).symm, rfl⟩

theorem within_any (n lo hi : Int) (w : World) :
    Calls Try.prog 65 #[.int .i64 n, .int .i64 lo, .int .i64 hi] w fun e w' => e = .returned (.bool (inB n lo hi)) ∧ w = w' := by
  go_enter Try.func65, Try.ntmps65
  go_wp2
  · go_ret
    exact ⟨ret_bool (inB_yes ‹_›).symm, rfl⟩
  · go_ret
    exact ⟨ret_bool (inB_no ‹_›).symm, rfl⟩

def vPt (x y : Int) : Bool := inB x 0 10000 && inB y 0 10000

theorem l09Point_any (x y : Int) (w : World) :
    Calls Try.prog 64 #[.agg #[.int .i64 x, .int .i64 y]] w fun e w' => e = .returned (.bool (vPt x y)) ∧ Ext w w' := by
  go_enter Try.func64, Try.ntmps64
  go_wp2_with (go_at_call 69; refine (l00In_any _ _ _ _).mono ?_; rintro e w' ⟨rfl, rfl⟩)
  all_goals
    go_returns
    exact ⟨ret_bool (by simp_all [vPt]), by (repeat' (first | exact Ext.refl _ | assumption | refine Ext.val _ ?_ | refine Ext.alloc ?_ _ | refine Ext.drew ?_ | refine Ext.drewN ?_ _ | refine Ext.setCell ?_ (by first | exact Nat.le_refl _ | omega | (simp; done) | (simp; omega)) _ | refine Ext.trans ?_ (by assumption)))⟩

theorem ValidPointS_any (x y : Int) (w : World) :
    Calls Try.prog 18 #[.agg #[.int .i64 x, .int .i64 y]] w fun e w' => e = .returned (.bool (vPt x y)) ∧ Ext w w' := by
  go_enter Try.func18, Try.ntmps18
  go_wp2_with (go_at_call 64; refine (l09Point_any _ _ _).mono ?_; rintro e w' ⟨rfl, hE⟩; (first | (obtain ⟨xw, rfl⟩ := ExtOf.mk' hE) | (obtain ⟨xw, rfl⟩ := ExtOf.mk hE)); clear hE; have hz := ExtOf.size_le xw; (try simp only [World.size_alloc, World.size_setCell] at hz); (try have hz0 : w.heap.size < xw.w.heap.size := by omega); (try have hz1 : w.heap.size + 1 < xw.w.heap.size := by omega); (try have hz2 : w.heap.size + 2 < xw.w.heap.size := by omega); (try have hz3 : w.heap.size + 3 < xw.w.heap.size := by omega); (try have hz4 : w.heap.size + 4 < xw.w.heap.size := by omega); (try have hz5 : w.heap.size + 5 < xw.w.heap.size := by omega))
  go_returns
  exact ⟨rfl, by (repeat' (first | exact Ext.refl _ | assumption | refine Ext.val _ ?_ | refine Ext.alloc ?_ _ | refine Ext.drew ?_ | refine Ext.drewN ?_ _ | refine Ext.setCell ?_ (by first | exact Nat.le_refl _ | omega | (simp; done) | (simp; omega)) _ | refine Ext.trans ?_ (by assumption)))⟩

theorem ValidPointI_any (x y : Int) (w : World) :
    Calls Try.prog 20 #[.agg #[.int .i64 x, .int .i64 y]] w fun e w' => e = .returned (.bool (vPt x y)) ∧ Ext w w' := by
  go_enter Try.func20, Try.ntmps20
  go_wp2_with (go_at_call 65; refine (within_any _ _ _ _).mono ?_; rintro e w' ⟨rfl, rfl⟩)
  all_goals
    go_returns
    exact ⟨ret_bool (by simp_all [vPt]), by (repeat' (first | exact Ext.refl _ | assumption | refine Ext.val _ ?_ | refine Ext.alloc ?_ _ | refine Ext.drew ?_ | refine Ext.drewN ?_ _ | refine Ext.setCell ?_ (by first | exact Nat.le_refl _ | omega | (simp; done) | (simp; omega)) _ | refine Ext.trans ?_ (by assumption)))⟩

theorem toPoint_any (x y : Int) (w : World) :
    Calls Try.prog 19 #[.agg #[.int .i64 x, .int .i64 y]] w fun e w' => e = .returned (.agg #[.int .i64 x, .int .i64 y]) ∧ Ext w w' := by
  go_enter Try.func19, Try.ntmps19
  go_wp2
  go_returns
  exact ⟨rfl, by (repeat' (first | exact Ext.refl _ | assumption | refine Ext.val _ ?_ | refine Ext.alloc ?_ _ | refine Ext.drew ?_ | refine Ext.drewN ?_ _ | refine Ext.setCell ?_ (by first | exact Nat.le_refl _ | omega | (simp; done) | (simp; omega)) _ | refine Ext.trans ?_ (by assumption)))⟩

theorem FnExactValidPoint_any (x y : Int) (w : World) :
    Calls Try.prog 3 #[.agg #[.int .i64 x, .int .i64 y]] w fun e w' => e = .returned (.bool true) ∧ Ext w w' := by
  go_enter Try.func3, Try.ntmps3
  go_wp2_with (first | (go_at_call 19; refine (toPoint_any _ _ _).mono ?_; rintro e w' ⟨rfl, hE⟩; (first | (obtain ⟨xw, rfl⟩ := ExtOf.mk' hE) | (obtain ⟨xw, rfl⟩ := ExtOf.mk hE)); clear hE; have hz := ExtOf.size_le xw; (try simp only [World.size_alloc, World.size_setCell] at hz); (try have hz0 : w.heap.size < xw.w.heap.size := by omega); (try have hz1 : w.heap.size + 1 < xw.w.heap.size := by omega); (try have hz2 : w.heap.size + 2 < xw.w.heap.size := by omega); (try have hz3 : w.heap.size + 3 < xw.w.heap.size := by omega); (try have hz4 : w.heap.size + 4 < xw.w.heap.size := by omega); (try have hz5 : w.heap.size + 5 < xw.w.heap.size := by omega)) | (go_at_call 18; refine (ValidPointS_any _ _ _).mono ?_; rintro e w' ⟨rfl, hE⟩; (first | (obtain ⟨xw, rfl⟩ := ExtOf.mk' hE) | (obtain ⟨xw, rfl⟩ := ExtOf.mk hE)); clear hE; have hz := ExtOf.size_le xw; (try simp only [World.size_alloc, World.size_setCell] at hz); (try have hz0 : w.heap.size < xw.w.heap.size := by omega); (try have hz1 : w.heap.size + 1 < xw.w.heap.size := by omega); (try have hz2 : w.heap.size + 2 < xw.w.heap.size := by omega); (try have hz3 : w.heap.size + 3 < xw.w.heap.size := by omega); (try have hz4 : w.heap.size + 4 < xw.w.heap.size := by omega); (try have hz5 : w.heap.size + 5 < xw.w.heap.size := by omega)) | (go_at_call 20; refine (ValidPointI_any _ _ _).mono ?_; rintro e w' ⟨rfl, hE⟩; (first | (obtain ⟨xw, rfl⟩ := ExtOf.mk' hE) | (obtain ⟨xw, rfl⟩ := ExtOf.mk hE)); clear hE; have hz := ExtOf.size_le xw; (try simp only [World.size_alloc, World.size_setCell] at hz); (try have hz0 : w.heap.size < xw.w.heap.size := by omega); (try have hz1 : w.heap.size + 1 < xw.w.heap.size := by omega); (try have hz2 : w.heap.size + 2 < xw.w.heap.size := by omega); (try have hz3 : w.heap.size + 3 < xw.w.heap.size := by omega); (try have hz4 : w.heap.size + 4 < xw.w.heap.size := by omega); (try have hz5 : w.heap.size + 5 < xw.w.heap.size := by omega)))
  go_returns
  exact ⟨rfl, by (repeat' (first | exact Ext.refl _ | assumption | refine Ext.val _ ?_ | refine Ext.alloc ?_ _ | refine Ext.drew ?_ | refine Ext.drewN ?_ _ | refine Ext.setCell ?_ (by first | exact Nat.le_refl _ | omega | (simp; done) | (simp; omega)) _ | refine Ext.trans ?_ (by assumption)))⟩

def sq (ax ay bx by_ : Int) : Int := (ax - bx) * (ax - bx) + (ay - by_) * (ay - by_)

theorem vPt_bd {x y : Int} (h : vPt x y = true) : 0 ≤ x ∧ x ≤ 10000 ∧ 0 ≤ y ∧ y ≤ 10000 := by
  simp [vPt, inB] at h; omega
theorem sq_part {a b : Int} (h1 : 0 ≤ a) (h2 : a ≤ 10000) (h3 : 0 ≤ b) (h4 : b ≤ 10000) : 0 ≤ (a - b) * (a - b) ∧ (a - b) * (a - b) ≤ 100000000 := by
  have h5 : -10000 ≤ a - b := by omega
  have h6 : a - b ≤ 10000 := by omega
  generalize a - b = d at *
  have k1 : 0 ≤ (10000 - d) * (10000 + d) := Int.mul_nonneg (by omega) (by omega)
  have k2 : 0 ≤ d * d := by
    rcases Int.le_total 0 d with h | h
    · exact Int.mul_nonneg h h
    · exact Int.mul_nonneg_of_nonpos_of_nonpos h h
  have k3 : (10000 - d) * (10000 + d) = 100000000 - d * d := by
    simp only [Int.sub_mul, Int.mul_add]
    omega
  omega

theorem l09Square_any (ax ay bx by_ : Int) (w : World) (ha : vPt ax ay = true) (hb : vPt bx by_ = true) :
    Calls Try.prog 66 #[.agg #[.int .i64 ax, .int .i64 ay], .agg #[.int .i64 bx, .int .i64 by_]] w fun e w' => e = .returned (.int .i64 (sq ax ay bx by_)) ∧ Ext w w' := by
  obtain ⟨a1, a2, a3, a4⟩ := vPt_bd ha
  obtain ⟨b1, b2, b3, b4⟩ := vPt_bd hb
  have p1 := sq_part a1 a2 b1 b2
  have p2 := sq_part a3 a4 b3 b4
  clear ha hb
  go_enter Try.func66, Try.ntmps66
  go_wp2
  go_returns
  exact ⟨rfl, by (repeat' (first | exact Ext.refl _ | assumption | refine Ext.val _ ?_ | refine Ext.alloc ?_ _ | refine Ext.drew ?_ | refine Ext.drewN ?_ _ | refine Ext.setCell ?_ (by first | exact Nat.le_refl _ | omega | (simp; done) | (simp; omega)) _ | refine Ext.trans ?_ (by assumption)))⟩

theorem squared_any (ax ay bx by_ : Int) (w : World) (ha : vPt ax ay = true) (hb : vPt bx by_ = true) :
    Calls Try.prog 67 #[.agg #[.int .i64 ax, .int .i64 ay], .agg #[.int .i64 bx, .int .i64 by_]] w fun e w' => e = .returned (.int .i64 (sq ax ay bx by_)) ∧ Ext w w' := by
  obtain ⟨a1, a2, a3, a4⟩ := vPt_bd ha
  obtain ⟨b1, b2, b3, b4⟩ := vPt_bd hb
  have p1 := sq_part a1 a2 b1 b2
  have p2 := sq_part a3 a4 b3 b4
  clear ha hb
  go_enter Try.func67, Try.ntmps67
  go_wp2
  go_returns
  exact ⟨rfl, by (repeat' (first | exact Ext.refl _ | assumption | refine Ext.val _ ?_ | refine Ext.alloc ?_ _ | refine Ext.drew ?_ | refine Ext.drewN ?_ _ | refine Ext.setCell ?_ (by first | exact Nat.le_refl _ | omega | (simp; done) | (simp; omega)) _ | refine Ext.trans ?_ (by assumption)))⟩

def sqDist (ax ay bx by_ : Int) : Value := if vPt ax ay && vPt bx by_ then .tuple #[.int .i64 (sq ax ay bx by_), .int .i64 0] else .tuple #[.int .i64 0, .int .i64 1]

theorem SquaredDistanceS_any (ax ay bx by_ : Int) (w : World) :
    Calls Try.prog 21 #[.agg #[.int .i64 ax, .int .i64 ay], .agg #[.int .i64 bx, .int .i64 by_]] w fun e w' => e = .returned (sqDist ax ay bx by_) ∧ Ext w w' := by
  cases ha : vPt ax ay <;> cases hb : vPt bx by_
  all_goals
    go_enter Try.func21, Try.ntmps21
    go_wp2_with (first | (go_at_call 64; refine (l09Point_any _ _ _).mono ?_; rintro e w' ⟨rfl, hE⟩; (first | (obtain ⟨xw, rfl⟩ := ExtOf.mk' hE) | (obtain ⟨xw, rfl⟩ := ExtOf.mk hE)); clear hE; have hz := ExtOf.size_le xw; (try simp only [World.size_alloc, World.size_setCell] at hz); (try have hz0 : w.heap.size < xw.w.heap.size := by omega); (try have hz1 : w.heap.size + 1 < xw.w.heap.size := by omega); (try have hz2 : w.heap.size + 2 < xw.w.heap.size := by omega); (try have hz3 : w.heap.size + 3 < xw.w.heap.size := by omega); (try have hz4 : w.heap.size + 4 < xw.w.heap.size := by omega); (try have hz5 : w.heap.size + 5 < xw.w.heap.size := by omega)) | (go_at_call 66; refine (l09Square_any _ _ _ _ _ ha hb).mono ?_; rintro e w' ⟨rfl, hE⟩; (first | (obtain ⟨xw, rfl⟩ := ExtOf.mk' hE) | (obtain ⟨xw, rfl⟩ := ExtOf.mk hE)); clear hE; have hz := ExtOf.size_le xw; (try simp only [World.size_alloc, World.size_setCell] at hz); (try have hz0 : w.heap.size < xw.w.heap.size := by omega); (try have hz1 : w.heap.size + 1 < xw.w.heap.size := by omega); (try have hz2 : w.heap.size + 2 < xw.w.heap.size := by omega); (try have hz3 : w.heap.size + 3 < xw.w.heap.size := by omega); (try have hz4 : w.heap.size + 4 < xw.w.heap.size := by omega); (try have hz5 : w.heap.size + 5 < xw.w.heap.size := by omega)))
    go_returns
    exact ⟨by simp [sqDist, ha, hb], by (repeat' (first | exact Ext.refl _ | assumption | refine Ext.val _ ?_ | refine Ext.alloc ?_ _ | refine Ext.drew ?_ | refine Ext.drewN ?_ _ | refine Ext.setCell ?_ (by first | exact Nat.le_refl _ | omega | (simp; done) | (simp; omega)) _ | refine Ext.trans ?_ (by assumption)))⟩

theorem SquaredDistanceI_any (ax ay bx by_ : Int) (w : World) :
    Calls Try.prog 22 #[.agg #[.int .i64 ax, .int .i64 ay], .agg #[.int .i64 bx, .int .i64 by_]] w fun e w' => e = .returned (sqDist ax ay bx by_) ∧ Ext w w' := by
  cases ha : vPt ax ay <;> cases hb : vPt bx by_
  all_goals
    go_enter Try.func22, Try.ntmps22
    go_wp2_with (first | (go_at_call 20; refine (ValidPointI_any _ _ _).mono ?_; rintro e w' ⟨rfl, hE⟩; (first | (obtain ⟨xw, rfl⟩ := ExtOf.mk' hE) | (obtain ⟨xw, rfl⟩ := ExtOf.mk hE)); clear hE; have hz := ExtOf.size_le xw; (try simp only [World.size_alloc, World.size_setCell] at hz); (try have hz0 : w.heap.size < xw.w.heap.size := by omega); (try have hz1 : w.heap.size + 1 < xw.w.heap.size := by omega); (try have hz2 : w.heap.size + 2 < xw.w.heap.size := by omega); (try have hz3 : w.heap.size + 3 < xw.w.heap.size := by omega); (try have hz4 : w.heap.size + 4 < xw.w.heap.size := by omega); (try have hz5 : w.heap.size + 5 < xw.w.heap.size := by omega)) | (go_at_call 67; refine (squared_any _ _ _ _ _ ha hb).mono ?_; rintro e w' ⟨rfl, hE⟩; (first | (obtain ⟨xw, rfl⟩ := ExtOf.mk' hE) | (obtain ⟨xw, rfl⟩ := ExtOf.mk hE)); clear hE; have hz := ExtOf.size_le xw; (try simp only [World.size_alloc, World.size_setCell] at hz); (try have hz0 : w.heap.size < xw.w.heap.size := by omega); (try have hz1 : w.heap.size + 1 < xw.w.heap.size := by omega); (try have hz2 : w.heap.size + 2 < xw.w.heap.size := by omega); (try have hz3 : w.heap.size + 3 < xw.w.heap.size := by omega); (try have hz4 : w.heap.size + 4 < xw.w.heap.size := by omega); (try have hz5 : w.heap.size + 5 < xw.w.heap.size := by omega)))
    go_returns
    exact ⟨by simp [sqDist, ha, hb], by (repeat' (first | exact Ext.refl _ | assumption | refine Ext.val _ ?_ | refine Ext.alloc ?_ _ | refine Ext.drew ?_ | refine Ext.drewN ?_ _ | refine Ext.setCell ?_ (by first | exact Nat.le_refl _ | omega | (simp; done) | (simp; omega)) _ | refine Ext.trans ?_ (by assumption)))⟩

theorem sqDist_form (ax ay bx by_ : Int) : ∃ a b : Int, sqDist ax ay bx by_ = .tuple #[.int .i64 a, .int .i64 b] := by
  unfold sqDist; split <;> exact ⟨_, _, rfl⟩

theorem FnExactSquaredDistance_any (ax ay bx by_ : Int) (w : World) :
    Calls Try.prog 4 #[.agg #[.int .i64 ax, .int .i64 ay], .agg #[.int .i64 bx, .int .i64 by_]] w fun e w' => e = .returned (.bool true) ∧ Ext w w' := by
  obtain ⟨s, t, hs⟩ := sqDist_form ax ay bx by_
  have c1 := fun W => SquaredDistanceS_any ax ay bx by_ W
  have c2 := fun W => SquaredDistanceI_any ax ay bx by_ W
  rw [hs] at c1 c2
  have C1 := Lib.hid c1
  have C2 := Lib.hid c2
  clear c1 c2 hs
  go_enter Try.func4, Try.ntmps4
  go_wp2_with (first | ((first | with_reducible refine wp_region_ext' (by kernel_rfl) (by kernel_rfl) ?_ | with_reducible refine wp_region_ext (by kernel_rfl) (by kernel_rfl) ?_); (repeat (go_big_quiet_step ((first | (go_at_call 19; exact Calls.ext_of (toPoint_any _ _ _)) | (go_at_call 21; exact Calls.ext_of (C1.out _)) | (go_at_call 22; exact Calls.ext_of (C2.out _)))))); refine wpQuiet_nil ?_; intro _ hw'; obtain ⟨xw, hw''⟩ := hw'; subst hw''; have hz := ExtOf.size_le xw; (try simp only [World.size_alloc, World.size_setCell] at hz); (try have hz0 : w.heap.size < xw.w.heap.size := by omega); (try have hz1 : w.heap.size + 1 < xw.w.heap.size := by omega); (try have hz2 : w.heap.size + 2 < xw.w.heap.size := by omega); (try have hz3 : w.heap.size + 3 < xw.w.heap.size := by omega); (try have hz4 : w.heap.size + 4 < xw.w.heap.size := by omega); (try have hz5 : w.heap.size + 5 < xw.w.heap.size := by omega)) | (go_at_call 19; refine (toPoint_any _ _ _).mono ?_; rintro e w' ⟨rfl, hE⟩; (first | (obtain ⟨xw, rfl⟩ := ExtOf.mk' hE) | (obtain ⟨xw, rfl⟩ := ExtOf.mk hE)); clear hE; have hz := ExtOf.size_le xw; (try simp only [World.size_alloc, World.size_setCell] at hz); (try have hz0 : w.heap.size < xw.w.heap.size := by omega); (try have hz1 : w.heap.size + 1 < xw.w.heap.size := by omega); (try have hz2 : w.heap.size + 2 < xw.w.heap.size := by omega); (try have hz3 : w.heap.size + 3 < xw.w.heap.size := by omega); (try have hz4 : w.heap.size + 4 < xw.w.heap.size := by omega); (try have hz5 : w.heap.size + 5 < xw.w.heap.size := by omega)) | (go_at_call 21; refine (C1.out _).mono ?_; rintro e w' ⟨rfl, hE⟩; (first | (obtain ⟨xw, rfl⟩ := ExtOf.mk' hE) | (obtain ⟨xw, rfl⟩ := ExtOf.mk hE)); clear hE; have hz := ExtOf.size_le xw; (try simp only [World.size_alloc, World.size_setCell] at hz); (try have hz0 : w.heap.size < xw.w.heap.size := by omega); (try have hz1 : w.heap.size + 1 < xw.w.heap.size := by omega); (try have hz2 : w.heap.size + 2 < xw.w.heap.size := by omega); (try have hz3 : w.heap.size + 3 < xw.w.heap.size := by omega); (try have hz4 : w.heap.size + 4 < xw.w.heap.size := by omega); (try have hz5 : w.heap.size + 5 < xw.w.heap.size := by omega)) | (go_at_call 22; refine (C2.out _).mono ?_; rintro e w' ⟨rfl, hE⟩; (first | (obtain ⟨xw, rfl⟩ := ExtOf.mk' hE) | (obtain ⟨xw, rfl⟩ := ExtOf.mk hE)); clear hE; have hz := ExtOf.size_le xw; (try simp only [World.size_alloc, World.size_setCell] at hz); (try have hz0 : w.heap.size < xw.w.heap.size := by omega); (try have hz1 : w.heap.size + 1 < xw.w.heap.size := by omega); (try have hz2 : w.heap.size + 2 < xw.w.heap.size := by omega); (try have hz3 : w.heap.size + 3 < xw.w.heap.size := by omega); (try have hz4 : w.heap.size + 4 < xw.w.heap.size := by omega); (try have hz5 : w.heap.size + 5 < xw.w.heap.size := by omega)))
  go_returns
  exact ⟨rfl, by (repeat' (first | exact Ext.refl _ | assumption | refine Ext.val _ ?_ | refine Ext.alloc ?_ _ | refine Ext.drew ?_ | refine Ext.drewN ?_ _ | refine Ext.setCell ?_ (by first | exact Nat.le_refl _ | omega | (simp; done) | (simp; omega)) _ | refine Ext.trans ?_ (by assumption)))⟩
end Go.Proofs.Ytincjooilmahfaa
