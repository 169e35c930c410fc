/- FnClashes returns true for every input, and leaves memory as it was. No conditions. -/
import Derived.Test.YtckbhfbcblehmaaRxFnClashLaw
namespace Go.Proofs.Ytckbhfbcblehmaa
open Go.ChangeShapes Go.WideShapes Go.ChangeAt Go.RowKit

set_option maxRecDepth 100000 in
theorem FnClashes_lifted (os : Os) (started : os.Started) (H : Type) (enc : TypeId × Value → H) :
    ReturnsInHanded {} Try.checked os 6 .any (Rows.fnClashesSpec.pre6 enc Try.prog Try.f6 Rows.fnClashesRow.domain false) (Rows.fnClashesSpec.post enc Try.prog Try.f6 false true false false) := by
  refine law_handed (C := Try.checked) Rx.ownK started (by kernel_rfl) Try.func6 Rx.laidK (of_decide_eq_true (by kernel_rfl)) rfl ?_ rfl Try.underlying4
    (ChangeSpec.witness6 (enc := enc) (C := Try.checked) false ⟨#[], #[.slice none 0 0], []⟩ 8 (by kernel_rfl) (by kernel_rfl) (by kernel_rfl) (by kernel_rfl)) ?_
  · intro ds hds
    match ds, hds with
    | [_], _ => rfl
  · intro W args hsz hargs
    refine Rx.law_core Rx.fnClashes_ok ?_ ?_ W args hsz hargs
    · exact ⟨⟨by kernel_rfl, by kernel_rfl⟩, trivial⟩
    · intro x h; exact Rx.fnClashes_holds x h

theorem FnClashes_holds : Rows.FnClashesSaid :=
  OpenClaim.holds_of_wide 6 Try.f6 rfl rfl rfl rfl rfl rfl rfl ⟨rfl, rfl, rfl, rfl, rfl⟩ rfl rfl rfl rfl rfl (by kernel_rfl) Try.func6 (by kernel_rfl)
    (of_decide_eq_true (by kernel_rfl)) (by unfold Func.isWrapper; first | (rw [if_pos (by decide +kernel)]; kernel_rfl) | (rw [if_neg (by decide +kernel)]; exact ⟨rfl, rfl⟩))
    (fun os started H enc _ => FnClashes_lifted os started H enc)

end Go.Proofs.Ytckbhfbcblehmaa
