/- strings.Cut as a contract of the evaluator. No conditions. -/
import Derived.Test.YtfapjkcmoefilaaDoorRxLibR
namespace Go.Proofs.YtfapjkcmoefilaaDoor
open Go.RowKit BigFrame
namespace Rx
open Go Go.Sort

open Classical in
noncomputable def cutX : ByteArray × ByteArray → Option (ByteArray × ByteArray × Bool) := fun x =>
  if x.1.size < 4294967281 then some (ba (Lib.cut x.1.data.toList x.2.data.toList).1, ba (Lib.cut x.1.data.toList x.2.data.toList).2.1, (Lib.cut x.1.data.toList x.2.data.toList).2.2) else none
noncomputable def cutX_con : Con := ⟨[.str, .str], [.d .str, .d .str, .d .bool], cutX⟩
theorem ext_drewN (w : World) : ∀ n, Ext w (w.drewN n) := fun n => Ext.drewN (Ext.refl w) n
theorem cutX_ok : cutX_con.ok Tryd.prog 73 := by
  refine ⟨⟨_, _, Tryd.func73, by kernel_rfl, rfl⟩, fun w M vs x y hld hM hr hF => ?_⟩
  obtain ⟨s, sep⟩ := x
  obtain ⟨v, r, rfl, hv, u, rfl, hu⟩ := hr
  have hv : v = .string s := hv
  have hu : u = .string sep := hu
  subst hv hu
  change cutX (s, sep) = some y at hF
  unfold cutX at hF
  split at hF
  · rename_i h0
    have h0 : s.size < 4294967281 := h0
    cases hF
    obtain ⟨m, hm⟩ := hld.2.maxL
    refine (Tryd.strings_Cut s sep m w (by omega) (by exact hm)).mono ?_
    rintro e w' ⟨rfl, n, rfl⟩
    exact ⟨[.string (ba (Lib.cut s.data.toList sep.data.toList).1), .string (ba (Lib.cut s.data.toList sep.data.toList).2.1), .bool (Lib.cut s.data.toList sep.data.toList).2.2], [], M, rfl, ext_drewN w n,
      ⟨_, _, [], [], rfl, rfl, rfl, ⟨rfl, rfl⟩, _, _, [], [], rfl, rfl, rfl, ⟨rfl, rfl⟩, _, rfl, rfl, rfl, rfl⟩, by simp, fun p hp => ⟨.inl hp, Nat.lt_of_lt_of_le (hM p hp) (ext_drewN w n).size, by simp⟩⟩
  · cases hF
end Rx
end Go.Proofs.YtfapjkcmoefilaaDoor
