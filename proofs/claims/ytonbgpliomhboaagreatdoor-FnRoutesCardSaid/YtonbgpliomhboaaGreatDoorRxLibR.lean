/- The library's functions for reading texts, and ReadDecimal, as contracts of the evaluator. No conditions. -/
import Derived.Test.YtonbgpliomhboaaGreatDoorRxLib
import Derived.Test.YtonbgpliomhboaaGreatDoorRxText
import Derived.Test.YtonbgpliomhboaaGreatDoorRxByte
import Derived.WalkKit
import Derived.WalkSpells
import Derived.WalkLawsBesides
import Derived.Handy
import Derived.Lib.AtoiErrMem
import Derived.Lib.SplitLaws
import Derived.Lib.Slices
namespace Go.Proofs.YtonbgpliomhboaaGreatDoor
open Go.RowKit BigFrame
namespace Rx
open Go Go.Sort

/-! ### strings.Split -/
open Classical in
noncomputable def splitX : ByteArray × ByteArray → Option (List ByteArray) := fun x =>
  if x.1.size < 4294967281 ∧ 1 ≤ x.2.size then some (Lib.splitB x.2 0 (Lib.countB x.1 x.2) x.1) else none
noncomputable def splitX_con : Con := ⟨[.str, .str], [.row 9 .str], splitX⟩
theorem strs_repL (w : World) (M : Mem) : ∀ l : List ByteArray, RepL (RepD w M .str) l (l.map Value.string)
  | [] => rfl
  | x :: l => ⟨[.string x], l.map Value.string, rfl, rfl, strs_repL w M l⟩
theorem splitX_ok : splitX_con.ok Tryz.prog 48 := by
  refine ⟨⟨_, _, Tryz.func48, by kernel_rfl, rfl⟩, fun w M vs x y hld hM hr hF => ?_⟩
  obtain ⟨s, sep⟩ := x
  obtain ⟨v, r, rfl, hv, u, rfl, hu⟩ := hr
  have hv : v = .string s := hv
  have hu : u = .string sep := hu
  subst hv hu
  change splitX (s, sep) = some y at hF
  unfold splitX at hF
  split at hF
  · rename_i hn
    obtain ⟨h0, h1⟩ := hn
    have h0 : s.size < 4294967281 := h0
    have h1 : 1 ≤ sep.size := h1
    cases hF
    obtain ⟨m, hm⟩ := hld.2.maxL
    have hlen := Lib.splitB_all sep h1 0 (Lib.countB s sep) s rfl
    have hcnt := Lib.countB_le sep h1 s.size s (Nat.le_refl _)
    generalize hL : Lib.splitB sep 0 (Lib.countB s sep) s = L at hlen
    refine (Tryz.strings_Split s sep m w (by omega) (by exact hm) h1).mono ?_
    rintro e w' ⟨rfl, rfl⟩
    rw [hL]
    have hg : (w.alloc (.cells (L.map Value.string).toArray 9)).heap[w.heap.size]? = some (.cells (L.map Value.string).toArray 9 (0, 0)) := by
      show (w.heap.push _)[w.heap.size]? = _
      simp
    have hle : L.length ≤ Lib.countB s sep + 1 := by omega
    refine ⟨[.slice (some ⟨w.heap.size, 0, none⟩) L.length (Lib.countB s sep + 1)], [(.slice (some ⟨w.heap.size, 0, none⟩) L.length (Lib.countB s sep + 1), [w.heap.size])], M, ?_, ?_, ⟨_, rfl, rfl, _, _, rfl, rfl, .inr ⟨w.heap.size, _, _, rfl, rfl, Nat.le_refl _, hg, ?_, ?_, ?_, ?_, fun p hp e => ?_⟩⟩, ?_, fun p hp => ?_⟩
    · rw [hlen]; rfl
    · exact Ext.alloc (Ext.refl w) _
    · exact hle
    · show Lib.countB s sep + 1 ≤ maxLen
      unfold maxLen; omega
    · show (L.map Value.string).toArray.size = (Lib.countB s sep + 1) * 1
      simp [hlen]
    · have e1 : ((L.map Value.string).toArray.toList).take (L.length * Ty.str.size) = L.map Value.string := by
        show (L.map Value.string).take (L.length * 1) = _
        rw [Nat.mul_one]
        exact List.take_of_length_le (by simp)
      exact (congrArg (RepL (RepD (w.alloc (.cells (L.map Value.string).toArray 9)) M .str) L) e1).mpr (strs_repL _ _ L)
    · have := hM p hp; omega
    · simp [gsOf]
    · have := hM p hp
      refine ⟨.inl hp, Nat.lt_of_lt_of_le this (Ext.alloc (Ext.refl w) _).size, ?_⟩
      simp [gsOf]
      omega
  · cases hF

end Rx
end Go.Proofs.YtonbgpliomhboaaGreatDoor
