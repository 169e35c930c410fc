/- FnExactExactTrains returns true for every input, and leaves memory as it was. No conditions. -/
import Derived.Test.YthfgpnpoocepeaaRxExTrHold
namespace Go.Proofs.Ythfgpnpoocepeaa
open Go.ChangeShapes Go.WideShapes Go.ChangeAt Go.RowKit

set_option maxRecDepth 100000 in
theorem FnExactExactTrains_lifted (os : Os) (started : os.Started) (H : Type) (enc : TypeId × Value → H) :
    ReturnsInHanded {} Try.checked os 5 .any (Rows.fnExactExactTrainsSpec.pre6 enc Try.prog Try.f5 Rows.fnExactExactTrainsRow.domain false) (Rows.fnExactExactTrainsSpec.post enc Try.prog Try.f5 false true false false) := by
  refine law_handed (C := Try.checked) Rx.ownK started (by kernel_rfl) Try.func5 Rx.laidK (of_decide_eq_true (by kernel_rfl)) rfl ?_ rfl Try.underlying4
    (ChangeSpec.witness6 (enc := enc) (C := Try.checked) false ⟨#[], #[.agg #[.int .i64 0, .int .i64 0], .agg #[.int .i64 0, .int .i64 0, .int .i64 0, .int .i64 0, .int .i64 0]], []⟩ 8 (by kernel_rfl) (by kernel_rfl) (by kernel_rfl) (by kernel_rfl)) ?_
  · intro ds hds
    match ds, hds with
    | [_, _], _ => rfl
  · intro W args hsz hargs
    refine Rx.law_core Rx.lawExTr_ok ?_ ?_ W args hsz hargs
    · exact ⟨⟨by kernel_rfl, by kernel_rfl⟩, ⟨by kernel_rfl, by kernel_rfl⟩, trivial⟩
    · intro x _; exact Rx.lawExTr_holds x

theorem FnExactExactTrains_holds : Rows.FnExactExactTrainsSaid :=
  OpenClaim.holds_of_wide 5 Try.f5 rfl rfl rfl rfl rfl rfl rfl ⟨rfl, rfl, rfl, rfl, rfl⟩ rfl rfl rfl rfl rfl (by kernel_rfl) Try.func5 (by kernel_rfl)
    (of_decide_eq_true (by kernel_rfl)) (by unfold Func.isWrapper; first | (rw [if_pos (by decide +kernel)]; kernel_rfl) | (rw [if_neg (by decide +kernel)]; exact ⟨rfl, rfl⟩))
    (fun os started H enc _ => FnExactExactTrains_lifted os started H enc)

end Go.Proofs.Ythfgpnpoocepeaa
