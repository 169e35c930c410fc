/- Numbers within bounds. No conditions. -/
import Derived.Test.YtaaieejhbpdmoaaLate
import Derived.WalkKit
import Derived.WalkSpells
import Derived.WalkLawsBesides
import Derived.Handy
namespace Go.Proofs.Ytaaieejhbpdmoaa
open Go.RowKit BigFrame

def inB (n lo hi : Int) : Bool := decide (lo ≤ n ∧ n ≤ hi)
theorem inB_yes {n lo hi : Int} (h1 : lo ≤ n) : inB n lo hi = decide (n ≤ hi) := by simp [inB, h1]
theorem inB_no {n lo hi : Int} (h1 : n < lo) : inB n lo hi = false := by simp [inB]; omega
theorem inB_iff {n lo hi : Int} : inB n lo hi = true ↔ lo ≤ n ∧ n ≤ hi := by simp [inB]

theorem l00In_any (n lo hi : Int) (w : World) :
    Calls Try.prog 47 #[.int .i64 n, .int .i64 lo, .int .i64 hi] w fun e w' => e = .returned (.bool (inB n lo hi)) ∧ w = w' := by
  go_enter Try.func47, Try.ntmps47
  go_wp2
  · go_ret
    exact ⟨ret_bool (inB_yes ‹_›).symm, rfl⟩
  · go_ret
    exact ⟨ret_bool (inB_no ‹_›).symm, rfl⟩

theorem within_any (n lo hi : Int) (w : World) :
    Calls Try.prog 50 #[.int .i64 n, .int .i64 lo, .int .i64 hi] w fun e w' => e = .returned (.bool (inB n lo hi)) ∧ w = w' := by
  go_enter Try.func50, Try.ntmps50
  go_wp2
  · go_ret
    exact ⟨ret_bool (inB_yes ‹_›).symm, rfl⟩
  · go_ret
    exact ⟨ret_bool (inB_no ‹_›).symm, rfl⟩
end Go.Proofs.Ytaaieejhbpdmoaa
