/- FnExactBestTrain returns true for every input, and leaves memory as it was. No conditions. -/
import Derived.Test.YthfgpnpoocepeaaRxBeTrHold
namespace Go.Proofs.Ythfgpnpoocepeaa
open Go.ChangeShapes Go.WideShapes Go.ChangeAt Go.RowKit

set_option maxRecDepth 100000 in
theorem FnExactBestTrain_lifted (os : Os) (started : os.Started) (H : Type) (enc : TypeId × Value → H) :
    ReturnsInHanded {} Try.checked os 4 .any (Rows.fnExactBestTrainSpec.pre6 enc Try.prog Try.f4 Rows.fnExactBestTrainRow.domain false) (Rows.fnExactBestTrainSpec.post enc Try.prog Try.f4 false true false false) := by
  refine law_handed (C := Try.checked) Rx.ownK started (by kernel_rfl) Try.func4 Rx.laidK (of_decide_eq_true (by kernel_rfl)) rfl ?_ rfl Try.underlying4
    (ChangeSpec.witness6 (enc := enc) (C := Try.checked) false ⟨#[], #[.agg #[.int .i64 0, .int .i64 0], .agg #[.int .i64 0, .int .i64 0, .int .i64 0, .int .i64 0, .int .i64 0]], []⟩ 8 (by kernel_rfl) (by kernel_rfl) (by kernel_rfl) (by kernel_rfl)) ?_
  · intro ds hds
    match ds, hds with
    | [_, _], _ => rfl
  · intro W args hsz hargs
    refine Rx.law_core Rx.lawBeTr_ok ?_ ?_ W args hsz hargs
    · exact ⟨⟨by kernel_rfl, by kernel_rfl⟩, ⟨by kernel_rfl, by kernel_rfl⟩, trivial⟩
    · intro x _; exact Rx.lawBeTr_holds x

theorem FnExactBestTrain_holds : Rows.FnExactBestTrainSaid :=
  OpenClaim.holds_of_wide 4 Try.f4 rfl rfl rfl rfl rfl rfl rfl ⟨rfl, rfl, rfl, rfl, rfl⟩ rfl rfl rfl rfl rfl (by kernel_rfl) Try.func4 (by kernel_rfl)
    (of_decide_eq_true (by kernel_rfl)) (by unfold Func.isWrapper; first | (rw [if_pos (by decide +kernel)]; kernel_rfl) | (rw [if_neg (by decide +kernel)]; exact ⟨rfl, rfl⟩))
    (fun os started H enc _ => FnExactBestTrain_lifted os started H enc)

end Go.Proofs.Ythfgpnpoocepeaa
