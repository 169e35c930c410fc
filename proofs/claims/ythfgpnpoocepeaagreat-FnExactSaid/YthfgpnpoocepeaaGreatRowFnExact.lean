/- FnExact returns true for every input, and leaves memory as it was. No conditions. -/
import Derived.Test.YthfgpnpoocepeaaGreatRxFnExHold
namespace Go.Proofs.YthfgpnpoocepeaaGreat
open Go.ChangeShapes Go.WideShapes Go.ChangeAt Go.RowKit

set_option maxRecDepth 100000 in
theorem FnExact_lifted (os : Os) (started : os.Started) (H : Type) (enc : TypeId × Value → H) :
    ReturnsInHanded {} Tryz.checked os 3 .any (Rows.fnExactSpec.pre6 enc Tryz.prog Tryz.f3 Rows.fnExactRow.domain false) (Rows.fnExactSpec.post enc Tryz.prog Tryz.f3 false true false false) := by
  refine law_handed (C := Tryz.checked) Rx.ownK started (by kernel_rfl) Tryz.func3 Rx.laidK (of_decide_eq_true (by kernel_rfl)) rfl ?_ rfl Tryz.underlying4
    (ChangeSpec.witness6 (enc := enc) (C := Tryz.checked) false ⟨#[], #[.slice none 0 0], []⟩ 8 (by kernel_rfl) (by kernel_rfl) (by kernel_rfl) (by kernel_rfl)) ?_
  · intro ds hds
    match ds, hds with
    | [_], _ => rfl
  · intro W args hsz hargs
    refine Rx.law_core Rx.fnExact_ok ?_ ?_ W args hsz hargs
    · exact ⟨⟨by kernel_rfl, by kernel_rfl⟩, trivial⟩
    · intro x h; exact Rx.fnExact_holds x h

theorem FnExact_holds : Rows.FnExactSaid :=
  OpenClaim.holds_of_wide 3 Tryz.f3 rfl rfl rfl rfl rfl rfl rfl ⟨rfl, rfl, rfl, rfl, rfl⟩ rfl rfl rfl rfl rfl (by kernel_rfl) Tryz.func3 (by kernel_rfl)
    (of_decide_eq_true (by kernel_rfl)) (by unfold Func.isWrapper; first | (rw [if_pos (by decide +kernel)]; kernel_rfl) | (rw [if_neg (by decide +kernel)]; exact ⟨rfl, rfl⟩))
    (fun os started H enc _ => FnExact_lifted os started H enc)

end Go.Proofs.YthfgpnpoocepeaaGreat
