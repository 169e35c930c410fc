/- FnExactBestTrains returns true for every input, and leaves memory as it was. No conditions. -/
import Derived.Test.YthfgpnpoocepeaaGreatRxBestsLaw
namespace Go.Proofs.YthfgpnpoocepeaaGreat
open Go.ChangeShapes Go.WideShapes Go.ChangeAt Go.RowKit

set_option maxRecDepth 100000 in
theorem FnExactBestTrains_lifted (os : Os) (started : os.Started) (H : Type) (enc : TypeId × Value → H) :
    ReturnsInHanded {} Tryz.checked os 4 .any (Rows.fnExactBestTrainsSpec.pre6 enc Tryz.prog Tryz.f4 Rows.fnExactBestTrainsRow.domain false) (Rows.fnExactBestTrainsSpec.post enc Tryz.prog Tryz.f4 false true false false) := by
  refine law_handed (C := Tryz.checked) Rx.ownK started (by kernel_rfl) Tryz.func4 Rx.laidK (of_decide_eq_true (by kernel_rfl)) rfl ?_ rfl Tryz.underlying4
    (ChangeSpec.witness6 (enc := enc) (C := Tryz.checked) false ⟨#[], #[.agg #[.int .i64 0, .int .i64 0], .agg #[.int .i64 0, .int .i64 0, .int .i64 0, .int .i64 0, .int .i64 0]], []⟩ 8 (by kernel_rfl) (by kernel_rfl) (by kernel_rfl) (by kernel_rfl)) ?_
  · intro ds hds
    match ds, hds with
    | [_, _], _ => rfl
  · intro W args hsz hargs
    refine Rx.law_core Rx.lawBeTrs_ok ?_ ?_ W args hsz hargs
    · exact ⟨⟨by kernel_rfl, by kernel_rfl⟩, ⟨by kernel_rfl, by kernel_rfl⟩, trivial⟩
    · intro x _; exact Rx.lawBeTrs_holds x

theorem FnExactBestTrains_holds : Rows.FnExactBestTrainsSaid :=
  OpenClaim.holds_of_wide 4 Tryz.f4 rfl rfl rfl rfl rfl rfl rfl ⟨rfl, rfl, rfl, rfl, rfl⟩ rfl rfl rfl rfl rfl (by kernel_rfl) Tryz.func4 (by kernel_rfl)
    (of_decide_eq_true (by kernel_rfl)) (by unfold Func.isWrapper; first | (rw [if_pos (by decide +kernel)]; kernel_rfl) | (rw [if_neg (by decide +kernel)]; exact ⟨rfl, rfl⟩))
    (fun os started H enc _ => FnExactBestTrains_lifted os started H enc)

end Go.Proofs.YthfgpnpoocepeaaGreat
