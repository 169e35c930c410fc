/- Texts of planetary gears, of trains, of what is found: both programs, in plain terms. No program in sight. -/
import Derived.Test.YtonbgpliomhboaaGreatDoorRxByte
import Derived.Test.YtonbgpliomhboaaGreatDoorRxOld
import Derived.Test.YtonbgpliomhboaaGreatDoorRxText
namespace Go.Proofs.YtonbgpliomhboaaGreatDoor
namespace Rx
open Go

theorem ob_some' {α β : Type} {a : α} {x : Option α} {f : α → Option β} (h : x = some a) : ob x f = f a := by rw [h]; rfl
theorem decI_eq {n : Int} (h : I64 n) : decI n = some (decB n) := by
  unfold decI
  rw [fmtX_eq h.1 h.2]; rfl
/-! ### Planetary gears -/
theorem app_size (a b : BA) : (a ++ b).size = a.size + b.size := by rw [ba_size, ba_app, List.length_append, ← ba_size, ← ba_size]
/-! ### Trains -/
end Rx
end Go.Proofs.YtonbgpliomhboaaGreatDoor
