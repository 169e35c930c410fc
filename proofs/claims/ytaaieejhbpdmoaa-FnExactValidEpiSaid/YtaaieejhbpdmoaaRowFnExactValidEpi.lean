/- FnExactValidEpi returns true for every input, and leaves memory as it was. No conditions. -/
import Derived.Test.YtaaieejhbpdmoaaValidEpi
import Derived.Test.YtaaieejhbpdmoaaArgsE
namespace Go.Proofs.Ytaaieejhbpdmoaa
open Go.ChangeShapes Go.WideShapes Go.ChangeAt Go.RowKit

set_option maxRecDepth 100000 in
theorem FnExactValidEpi_lifted (os : Os) (started : os.Started) (H : Type) (enc : TypeId × Value → H) :
    ReturnsInHanded {} Try.checked os 3 .any (Rows.fnExactValidEpiSpec.pre6 enc Try.prog Try.f3 Rows.fnExactValidEpiRow.domain false) (Rows.fnExactValidEpiSpec.post enc Try.prog Try.f3 false true false false) := by
  refine law_handed (C := Try.checked) Try.own started (by kernel_rfl) Try.func3 Try.laidOut (of_decide_eq_true (by kernel_rfl)) rfl ?_ rfl Try.underlying4
    (ChangeSpec.witness6 (enc := enc) (C := Try.checked) false ⟨#[], #[.agg #[.int .i64 0, .int .i64 0, .int .i64 0, .int .i64 0]], []⟩ 8 (by kernel_rfl) (by kernel_rfl) (by kernel_rfl) (by kernel_rfl)) ?_
  · intro ds hds
    match ds, hds with
    | [_], _ => rfl
  · intro W args hsz hargs
    obtain ⟨v0, rfl⟩ := arr1 hsz
    obtain ⟨a0, b0, c0, d0, rfl, ba0, bb0, bc0, bd0⟩ := arg_Epi (hargs 0 _ _ rfl rfl)
    exact FnExactValidEpi_any a0 b0 c0 d0 W

theorem FnExactValidEpi_holds : Rows.FnExactValidEpiSaid :=
  OpenClaim.holds_of_wide 3 Try.f3 rfl rfl rfl rfl rfl rfl rfl ⟨rfl, rfl, rfl, rfl, rfl⟩ rfl rfl rfl rfl rfl (by kernel_rfl) Try.func3 (by kernel_rfl)
    (of_decide_eq_true (by kernel_rfl)) (by unfold Func.isWrapper; first | (rw [if_pos (by decide +kernel)]; kernel_rfl) | (rw [if_neg (by decide +kernel)]; exact ⟨rfl, rfl⟩))
    (fun os started H enc _ => FnExactValidEpi_lifted os started H enc)

end Go.Proofs.Ytaaieejhbpdmoaa
