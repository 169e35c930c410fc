/- FnExactTrainBetween returns true for every input, and leaves memory as it was. No conditions. -/
import Derived.Test.YthehdbedojcpdaaRxRouteLaw
namespace Go.Proofs.Ythehdbedojcpdaa
open Go.ChangeShapes Go.WideShapes Go.ChangeAt Go.RowKit

set_option maxRecDepth 100000 in
theorem FnExactTrainBetween_lifted (os : Os) (started : os.Started) (H : Type) (enc : TypeId × Value → H) :
    ReturnsInHanded {} Try.checked os 6 .any (Rows.fnExactTrainBetweenSpec.pre6 enc Try.prog Try.f6 Rows.fnExactTrainBetweenRow.domain false) (Rows.fnExactTrainBetweenSpec.post enc Try.prog Try.f6 false true false false) := by
  refine law_handed (C := Try.checked) Rx.ownK started (by kernel_rfl) Try.func6 Rx.laidK (of_decide_eq_true (by kernel_rfl)) rfl ?_ rfl Try.underlying4
    (ChangeSpec.witness6 (enc := enc) (C := Try.checked) false ⟨#[], #[.agg #[.slice none 0 0, .slice none 0 0], .int .i64 0, .int .i64 0], []⟩ 8 (by kernel_rfl) (by kernel_rfl) (by kernel_rfl) (by kernel_rfl)) ?_
  · intro ds hds
    match ds, hds with
    | [_, _, _], _ => rfl
  · intro W args hsz hargs
    refine Rx.law_core Rx.lawRoute_ok ?_ ?_ W args hsz hargs
    · exact ⟨⟨by kernel_rfl, by kernel_rfl⟩, ⟨by kernel_rfl, by kernel_rfl⟩, ⟨by kernel_rfl, by kernel_rfl⟩, trivial⟩
    · intro x h; exact Rx.lawRoute_holds x h

theorem FnExactTrainBetween_holds : Rows.FnExactTrainBetweenSaid :=
  OpenClaim.holds_of_wide 6 Try.f6 rfl rfl rfl rfl rfl rfl rfl ⟨rfl, rfl, rfl, rfl, rfl⟩ rfl rfl rfl rfl rfl (by kernel_rfl) Try.func6 (by kernel_rfl)
    (of_decide_eq_true (by kernel_rfl)) (by unfold Func.isWrapper; first | (rw [if_pos (by decide +kernel)]; kernel_rfl) | (rw [if_neg (by decide +kernel)]; exact ⟨rfl, rfl⟩))
    (fun os started H enc _ => FnExactTrainBetween_lifted os started H enc)

end Go.Proofs.Ythehdbedojcpdaa
