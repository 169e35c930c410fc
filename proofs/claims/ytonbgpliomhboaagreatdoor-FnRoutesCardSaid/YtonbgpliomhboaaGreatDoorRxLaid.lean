/- What lies in the world ahead of every call of this seat: tables of the library. No conditions. -/
import Derived.Test.YtonbgpliomhboaaGreatDoorBase
import Derived.Lib.LaidTab
import Derived.Lib.ItoaNum
namespace Go.Proofs.YtonbgpliomhboaaGreatDoor
open Go.RowKit
namespace Rx
open Go

/-- How many of the first blocks are package-level variables that are looked at. -/
noncomputable def glob (n : String) : Nat := (Tryz.prog.globalNamed n).getD 0
noncomputable def globs : Nat := max (glob "internal/bytealg.MaxLen") (max (glob "internal/strconv.uint64pow10") (max (glob "strconv.ErrSyntax") (glob "strconv.ErrRange"))) + 1
theorem var_keep {w w' : World} {n : String} {g : Nat} (hg : Tryz.prog.globalNamed n = some g) (hlt : Nat.ble (g + 1) globs = true) (h : ∀ g, g < globs → w'.heap[g]? = w.heap[g]?) : w'.var? Tryz.prog n = w.var? Tryz.prog n := by
  unfold World.var?
  rw [hg]
  simp only [Option.bind_some]
  rw [h g (Nat.le_of_ble_eq_true hlt)]
theorem named_get {n : String} (h : (Tryz.prog.globalNamed n).isSome = true) : Tryz.prog.globalNamed n = some ((Tryz.prog.globalNamed n).getD 0) := by
  cases e : Tryz.prog.globalNamed n with
  | none => rw [e] at h; cases h
  | some g => rfl
theorem cell_keep {w w' : World} {g : Nat} (hlt : Nat.ble (g + 1) globs = true) (h : ∀ g, g < globs → w'.heap[g]? = w.heap[g]?) : w'.cell? ⟨g, 0, none⟩ = w.cell? ⟨g, 0, none⟩ := by
  unfold World.cell?
  rw [h g (Nat.le_of_ble_eq_true hlt)]
structure LaidQ (w : World) : Prop where
  pow : Lib.TabIs Tryz.prog w "internal/strconv.uint64pow10" .u64 Lib.pow10Tab
  errS : ∃ tp p, w.var? Tryz.prog "strconv.ErrSyntax" = some #[.iface tp p]
  errR : ∃ tp p, w.var? Tryz.prog "strconv.ErrRange" = some #[.iface tp p]
  maxL : ∃ m, w.cell? ⟨glob "internal/bytealg.MaxLen", 0, none⟩ = some (.int .i64 m)
theorem LaidQ.keep {w w' : World} (h : LaidQ w) (hs : ∀ g, g < globs → w'.heap[g]? = w.heap[g]?) : LaidQ w' := by
  obtain ⟨h1, ⟨t1, p1, h2⟩, ⟨t2, p2, h3⟩, m, h4⟩ := h
  exact ⟨(var_keep (named_get (by kernel_rfl)) (by kernel_rfl) hs).trans h1, ⟨t1, p1, (var_keep (named_get (by kernel_rfl)) (by kernel_rfl) hs).trans h2⟩, ⟨t2, p2, (var_keep (named_get (by kernel_rfl)) (by kernel_rfl) hs).trans h3⟩, m, (cell_keep (by kernel_rfl) hs).trans h4⟩
def Laid (w : World) : Prop := globs ≤ w.heap.size ∧ LaidQ w
theorem Laid.keep {w w' : World} (h : Laid w) (hs : w.heap.size ≤ w'.heap.size) (hb : ∀ g, g < globs → w'.heap[g]? = w.heap[g]?) : Laid w' := ⟨Nat.le_trans h.1 hs, h.2.keep hb⟩
theorem Laid.ext {w w' : World} (h : Laid w) (hE : Ext w w') : Laid w' := h.keep hE.size fun g hg => Below.block hE g (Nat.lt_of_lt_of_le hg h.1)
theorem var_lt {w : World} {n : String} {cs : Array Value} (h : w.var? Tryz.prog n = some cs) (hn : (Tryz.prog.globalNamed n).isSome = true) : glob n < w.heap.size := by
  unfold World.var? at h
  rw [named_get hn] at h
  simp only [Option.bind_some] at h
  rcases Nat.lt_or_ge (glob n) w.heap.size with h' | h'
  · exact h'
  · rw [show w.heap[(Tryz.prog.globalNamed n).getD 0]? = none from Array.getElem?_eq_none h'] at h; cases h
theorem cell_lt {w : World} {g : Nat} {v : Value} (h : w.cell? ⟨g, 0, none⟩ = some v) : g < w.heap.size := by
  rcases Nat.lt_or_ge g w.heap.size with h' | h'
  · exact h'
  · unfold World.cell? at h
    rw [show w.heap[g]? = none from Array.getElem?_eq_none h'] at h; cases h
theorem laid_of {w : World} (h : LaidQ w) : Laid w := by
  obtain ⟨h1, ⟨t1, p1, h2⟩, ⟨t2, p2, h3⟩, m, h4⟩ := id h
  have k1 := var_lt h1 (by kernel_rfl)
  have k2 := var_lt h2 (by kernel_rfl)
  have k3 := var_lt h3 (by kernel_rfl)
  have k4 := cell_lt h4
  exact ⟨by unfold globs; omega, h⟩
end Rx
end Go.Proofs.YtonbgpliomhboaaGreatDoor
