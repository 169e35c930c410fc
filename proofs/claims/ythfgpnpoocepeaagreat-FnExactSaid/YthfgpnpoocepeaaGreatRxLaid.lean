/- What lies in the world ahead of every call of this seat: tables of the library. No conditions. -/
import Derived.Test.YthfgpnpoocepeaaGreatBase
namespace Go.Proofs.YthfgpnpoocepeaaGreat
open Go.RowKit
namespace Rx
open Go

/-- How many of the first blocks are package-level variables that are looked at. -/
def globs : Nat := 0
def LaidQ (_ : World) : Prop := True
theorem LaidQ.keep {w w' : World} (_ : LaidQ w) (_ : ∀ g, g < globs → w'.heap[g]? = w.heap[g]?) : LaidQ w' := trivial
def Laid (w : World) : Prop := globs ≤ w.heap.size ∧ LaidQ w
theorem Laid.keep {w w' : World} (h : Laid w) (hs : w.heap.size ≤ w'.heap.size) (hb : ∀ g, g < globs → w'.heap[g]? = w.heap[g]?) : Laid w' := ⟨Nat.le_trans h.1 hs, h.2.keep hb⟩
theorem Laid.ext {w w' : World} (h : Laid w) (hE : Ext w w') : Laid w' := h.keep hE.size fun g hg => hE.block g (Nat.lt_of_lt_of_le hg h.1)
theorem laid_any (w : World) : Laid w := ⟨Nat.zero_le _, trivial⟩
end Rx
end Go.Proofs.YthfgpnpoocepeaaGreat
