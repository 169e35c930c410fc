/- FnExactSideOf returns true for every input, and leaves memory as it was. No conditions. -/
import Derived.Test.YtaaieejhbpdmoaaSide
import Derived.Test.YtaaieejhbpdmoaaArgsE
namespace Go.Proofs.Ytaaieejhbpdmoaa
open Go.ChangeShapes Go.WideShapes Go.ChangeAt Go.RowKit

set_option maxRecDepth 100000 in
theorem FnExactSideOf_lifted (os : Os) (started : os.Started) (H : Type) (enc : TypeId × Value → H) :
    ReturnsInHanded {} Try.checked os 5 .any (Rows.fnExactSideOfSpec.pre6 enc Try.prog Try.f5 Rows.fnExactSideOfRow.domain false) (Rows.fnExactSideOfSpec.post enc Try.prog Try.f5 false true false false) := by
  refine law_handed (C := Try.checked) Try.own started (by kernel_rfl) Try.func5 Try.laidOut (of_decide_eq_true (by kernel_rfl)) rfl ?_ rfl Try.underlying4
    (ChangeSpec.witness6 (enc := enc) (C := Try.checked) false ⟨#[], #[.agg #[.int .i64 0, .int .i64 0], .agg #[.int .i64 0, .int .i64 0]], []⟩ 8 (by kernel_rfl) (by kernel_rfl) (by kernel_rfl) (by kernel_rfl)) ?_
  · intro ds hds
    match ds, hds with
    | [_, _], _ => rfl
  · intro W args hsz hargs
    obtain ⟨v0, v1, rfl⟩ := arr2 hsz
    obtain ⟨x0, y0, rfl, bx0, by0⟩ := arg_Ratio (hargs 0 _ _ rfl rfl)
    obtain ⟨x1, y1, rfl, bx1, by1⟩ := arg_Ratio (hargs 1 _ _ rfl rfl)
    exact FnExactSideOf_any x0 y0 x1 y1 W

theorem FnExactSideOf_holds : Rows.FnExactSideOfSaid :=
  OpenClaim.holds_of_wide 5 Try.f5 rfl rfl rfl rfl rfl rfl rfl ⟨rfl, rfl, rfl, rfl, rfl⟩ rfl rfl rfl rfl rfl (by kernel_rfl) Try.func5 (by kernel_rfl)
    (of_decide_eq_true (by kernel_rfl)) (by unfold Func.isWrapper; first | (rw [if_pos (by decide +kernel)]; kernel_rfl) | (rw [if_neg (by decide +kernel)]; exact ⟨rfl, rfl⟩))
    (fun os started H enc _ => FnExactSideOf_lifted os started H enc)

end Go.Proofs.Ytaaieejhbpdmoaa
