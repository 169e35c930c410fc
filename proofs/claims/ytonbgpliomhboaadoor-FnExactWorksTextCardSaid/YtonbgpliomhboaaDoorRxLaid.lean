/- What lies in the world ahead of every call of this seat: tables of the library. No conditions. -/
import Derived.Test.YtonbgpliomhboaaDoorBase
import Derived.Lib.LaidTab
import Derived.Lib.ItoaNum
namespace Go.Proofs.YtonbgpliomhboaaDoor
open Go.RowKit
namespace Rx
open Go

/-- How many of the first blocks are package-level variables that are looked at. -/
noncomputable def glob (n : String) : Nat := (Tryd.prog.globalNamed n).getD 0
noncomputable def globs : Nat := glob "internal/strconv.uint64pow10" + 1
theorem var_keep {w w' : World} {n : String} {g : Nat} (hg : Tryd.prog.globalNamed n = some g) (hlt : Nat.ble (g + 1) globs = true) (h : ∀ g, g < globs → w'.heap[g]? = w.heap[g]?) : w'.var? Tryd.prog n = w.var? Tryd.prog n := by
  unfold World.var?
  rw [hg]
  simp only [Option.bind_some]
  rw [h g (Nat.le_of_ble_eq_true hlt)]
theorem named_get {n : String} (h : (Tryd.prog.globalNamed n).isSome = true) : Tryd.prog.globalNamed n = some ((Tryd.prog.globalNamed n).getD 0) := by
  cases e : Tryd.prog.globalNamed n with
  | none => rw [e] at h; cases h
  | some g => rfl
def LaidQ (w : World) : Prop := Lib.TabIs Tryd.prog w "internal/strconv.uint64pow10" .u64 Lib.pow10Tab
theorem LaidQ.keep {w w' : World} (h : LaidQ w) (hs : ∀ g, g < globs → w'.heap[g]? = w.heap[g]?) : LaidQ w' :=
  (var_keep (named_get (by kernel_rfl)) (by kernel_rfl) hs).trans h
def Laid (w : World) : Prop := globs ≤ w.heap.size ∧ LaidQ w
theorem Laid.keep {w w' : World} (h : Laid w) (hs : w.heap.size ≤ w'.heap.size) (hb : ∀ g, g < globs → w'.heap[g]? = w.heap[g]?) : Laid w' := ⟨Nat.le_trans h.1 hs, h.2.keep hb⟩
theorem Laid.ext {w w' : World} (h : Laid w) (hE : Ext w w') : Laid w' := h.keep hE.size fun g hg => Below.block hE g (Nat.lt_of_lt_of_le hg h.1)
theorem var_lt {w : World} {n : String} {cs : Array Value} (h : w.var? Tryd.prog n = some cs) (hn : (Tryd.prog.globalNamed n).isSome = true) : glob n < w.heap.size := by
  unfold World.var? at h
  rw [named_get hn] at h
  simp only [Option.bind_some] at h
  rcases Nat.lt_or_ge (glob n) w.heap.size with h' | h'
  · exact h'
  · rw [show w.heap[(Tryd.prog.globalNamed n).getD 0]? = none from Array.getElem?_eq_none h'] at h; cases h
theorem laid_of {w : World} (h : LaidQ w) : Laid w := ⟨var_lt h (by kernel_rfl), h⟩
end Rx
end Go.Proofs.YtonbgpliomhboaaDoor
