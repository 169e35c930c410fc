/- The contracts of the functions on points. No conditions. -/
import Derived.Test.YtincjooilmahfaaBase
import Derived.WalkKit
import Derived.WalkSpells
import Derived.WalkLawsBesides
import Derived.Handy
namespace Go.Proofs.Ytincjooilmahfaa
open Go.RowKit

def inB (n lo hi : Int) : Bool := decide (lo ≤ n ∧ n ≤ hi)
theorem inB_yes {n lo hi : Int} (h1 : lo ≤ n) : inB n lo hi = decide (n ≤ hi) := by simp [inB, h1]
theorem inB_no {n lo hi : Int} (h1 : n < lo) : inB n lo hi = false := by simp [inB]; omega
theorem inB_iff {n lo hi : Int} : inB n lo hi = true ↔ lo ≤ n ∧ n ≤ hi := by simp [inB]

theorem l00In_any (n lo hi : Int) (w : World) :
    Calls Try.prog 69 #[.int .i64 n, .int .i64 lo, .int .i64 hi] w fun e w' => e = .returned (.bool (inB n lo hi)) ∧ w = w' := by
  go_enter Try.func69, Try.ntmps69
  go_wp2
  · go_ret
    exact ⟨ret_bool (inB_yes ‹_›).symm, rfl⟩
  · go_ret
    exact ⟨ret_bool (inB_no ‹_›).symm, rfl⟩

theorem within_any (n lo hi : Int) (w : World) :
    Calls Try.prog 65 #[.int .i64 n, .int .i64 lo, .int .i64 hi] w fun e w' => e = .returned (.bool (inB n lo hi)) ∧ w = w' := by
  go_enter Try.func65, Try.ntmps65
  go_wp2
  · go_ret
    exact ⟨ret_bool (inB_yes ‹_›).symm, rfl⟩
  · go_ret
    exact ⟨ret_bool (inB_no ‹_›).symm, rfl⟩

def vPt (x y : Int) : Bool := inB x 0 10000 && inB y 0 10000

theorem l09Point_any (x y : Int) (w : World) :
    Calls Try.prog 64 #[.agg #[.int .i64 x, .int .i64 y]] w fun e w' => e = .returned (.bool (vPt x y)) ∧ Ext w w' := by
  go_enter Try.func64, Try.ntmps64
  go_wp2_with (go_at_call 69; refine (l00In_any _ _ _ _).mono ?_; rintro e w' ⟨rfl, rfl⟩)
  all_goals
    go_returns
    exact ⟨ret_bool (by simp_all [vPt]), by (repeat' (first | exact Ext.refl _ | assumption | refine Ext.alloc ?_ _ | refine Ext.drew ?_ | refine Ext.drewN ?_ _ | refine Ext.setCell ?_ (by simp; try omega) _ | refine Ext.trans ?_ (by assumption)))⟩

theorem ValidPointS_any (x y : Int) (w : World) :
    Calls Try.prog 18 #[.agg #[.int .i64 x, .int .i64 y]] w fun e w' => e = .returned (.bool (vPt x y)) ∧ Ext w w' := by
  go_enter Try.func18, Try.ntmps18
  go_wp2_with (go_at_call 64; refine (l09Point_any _ _ _).mono ?_; rintro e w' ⟨rfl, hE⟩; obtain ⟨hc, hf⟩ := Ext.cells hE; have hz := Ext.size hE; try simp only [World.size_alloc, World.size_setCell] at hz; have hz0 : w.heap.size < w'.heap.size := by omega)
  go_returns
  exact ⟨rfl, by (repeat' (first | exact Ext.refl _ | assumption | refine Ext.alloc ?_ _ | refine Ext.drew ?_ | refine Ext.drewN ?_ _ | refine Ext.setCell ?_ (by simp; try omega) _ | refine Ext.trans ?_ (by assumption)))⟩

theorem ValidPointI_any (x y : Int) (w : World) :
    Calls Try.prog 20 #[.agg #[.int .i64 x, .int .i64 y]] w fun e w' => e = .returned (.bool (vPt x y)) ∧ Ext w w' := by
  go_enter Try.func20, Try.ntmps20
  go_wp2_with (go_at_call 65; refine (within_any _ _ _ _).mono ?_; rintro e w' ⟨rfl, rfl⟩)
  all_goals
    go_returns
    exact ⟨ret_bool (by simp_all [vPt]), by (repeat' (first | exact Ext.refl _ | assumption | refine Ext.alloc ?_ _ | refine Ext.drew ?_ | refine Ext.drewN ?_ _ | refine Ext.setCell ?_ (by simp; try omega) _ | refine Ext.trans ?_ (by assumption)))⟩

theorem toPoint_any (x y : Int) (w : World) :
    Calls Try.prog 19 #[.agg #[.int .i64 x, .int .i64 y]] w fun e w' => e = .returned (.agg #[.int .i64 x, .int .i64 y]) ∧ Ext w w' := by
  go_enter Try.func19, Try.ntmps19
  go_wp2
  go_returns
  exact ⟨rfl, by (repeat' (first | exact Ext.refl _ | assumption | refine Ext.alloc ?_ _ | refine Ext.drew ?_ | refine Ext.drewN ?_ _ | refine Ext.setCell ?_ (by simp; try omega) _ | refine Ext.trans ?_ (by assumption)))⟩

theorem FnExactValidPoint_any (x y : Int) (w : World) :
    Calls Try.prog 3 #[.agg #[.int .i64 x, .int .i64 y]] w fun e w' => e = .returned (.bool true) ∧ Ext w w' := by
  go_enter Try.func3, Try.ntmps3
  go_wp2_with (first | (go_at_call 19; refine (toPoint_any _ _ _).mono ?_; rintro e w' ⟨rfl, hE⟩; obtain ⟨hc, hf⟩ := Ext.cells hE; have hz := Ext.size hE; try simp only [World.size_alloc, World.size_setCell] at hz; have hz0 : w.heap.size < w'.heap.size := by omega) | (go_at_call 18; refine (ValidPointS_any _ _ _).mono ?_; rintro e w' ⟨rfl, hE⟩; obtain ⟨hc, hf⟩ := Ext.cells hE; have hz := Ext.size hE; try simp only [World.size_alloc, World.size_setCell] at hz; have hz0 : w.heap.size < w'.heap.size := by omega) | (go_at_call 20; refine (ValidPointI_any _ _ _).mono ?_; rintro e w' ⟨rfl, hE⟩; obtain ⟨hc, hf⟩ := Ext.cells hE; have hz := Ext.size hE; try simp only [World.size_alloc, World.size_setCell] at hz; have hz0 : w.heap.size < w'.heap.size := by omega))
  go_returns
  exact ⟨rfl, by (repeat' (first | exact Ext.refl _ | assumption | refine Ext.alloc ?_ _ | refine Ext.drew ?_ | refine Ext.drewN ?_ _ | refine Ext.setCell ?_ (by simp; try omega) _ | refine Ext.trans ?_ (by assumption)))⟩
end Go.Proofs.Ytincjooilmahfaa
