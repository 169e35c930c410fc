/- FnExactPathBetween returns true for every input, and leaves memory as it was. No conditions. -/
import Derived.Test.YthehdbedojcpdaaRxPathEnd
namespace Go.Proofs.Ythehdbedojcpdaa
open Go.ChangeShapes Go.WideShapes Go.ChangeAt Go.RowKit

set_option maxRecDepth 100000 in
theorem FnExactPathBetween_lifted (os : Os) (started : os.Started) (H : Type) (enc : TypeId × Value → H) :
    ReturnsInHanded {} Try.checked os 3 .any (Rows.fnExactPathBetweenSpec.pre6 enc Try.prog Try.f3 Rows.fnExactPathBetweenRow.domain false) (Rows.fnExactPathBetweenSpec.post enc Try.prog Try.f3 false true false false) := by
  refine law_handed (C := Try.checked) Rx.ownK started (by kernel_rfl) Try.func3 Rx.laidK (of_decide_eq_true (by kernel_rfl)) rfl ?_ rfl Try.underlying4
    (ChangeSpec.witness6 (enc := enc) (C := Try.checked) false ⟨#[], #[.agg #[.slice none 0 0, .slice none 0 0], .int .i64 0, .int .i64 0], []⟩ 8 (by kernel_rfl) (by kernel_rfl) (by kernel_rfl) (by kernel_rfl)) ?_
  · intro ds hds
    match ds, hds with
    | [_, _, _], _ => rfl
  · intro W args hsz hargs
    refine Rx.law_core Rx.lawPath_ok ?_ ?_ W args hsz hargs
    · exact ⟨⟨by kernel_rfl, by kernel_rfl⟩, ⟨by kernel_rfl, by kernel_rfl⟩, ⟨by kernel_rfl, by kernel_rfl⟩, trivial⟩
    · intro x h; exact Rx.lawPath_holds x h

theorem FnExactPathBetween_holds : Rows.FnExactPathBetweenSaid :=
  OpenClaim.holds_of_wide 3 Try.f3 rfl rfl rfl rfl rfl rfl rfl ⟨rfl, rfl, rfl, rfl, rfl⟩ rfl rfl rfl rfl rfl (by kernel_rfl) Try.func3 (by kernel_rfl)
    (of_decide_eq_true (by kernel_rfl)) (by unfold Func.isWrapper; first | (rw [if_pos (by decide +kernel)]; kernel_rfl) | (rw [if_neg (by decide +kernel)]; exact ⟨rfl, rfl⟩))
    (fun os started H enc _ => FnExactPathBetween_lifted os started H enc)

end Go.Proofs.Ythehdbedojcpdaa
