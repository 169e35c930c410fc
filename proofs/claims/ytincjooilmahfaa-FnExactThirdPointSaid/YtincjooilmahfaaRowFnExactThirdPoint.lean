/- FnExactThirdPoint returns true for every input, and leaves memory as it was. No conditions. -/
import Derived.Test.YtincjooilmahfaaThirdLaw
import Derived.Test.YtincjooilmahfaaArgs
namespace Go.Proofs.Ytincjooilmahfaa
open Go.ChangeShapes Go.WideShapes Go.ChangeAt Go.RowKit

set_option maxRecDepth 100000 in
theorem FnExactThirdPoint_lifted (os : Os) (started : os.Started) (H : Type) (enc : TypeId × Value → H) :
    ReturnsInHanded {} Try.checked os 7 .any (Rows.fnExactThirdPointSpec.pre6 enc Try.prog Try.f7 Rows.fnExactThirdPointRow.domain false) (Rows.fnExactThirdPointSpec.post enc Try.prog Try.f7 false true false false) := by
  refine law_handed (C := Try.checked) Try.own started (by kernel_rfl) Try.func7 Try.laidOut (of_decide_eq_true (by kernel_rfl)) rfl ?_ rfl Try.underlying4
    (ChangeSpec.witness6 (enc := enc) (C := Try.checked) false ⟨#[], #[.agg #[.int .i64 0, .int .i64 0], .agg #[.int .i64 0, .int .i64 0], .int .i64 0, .int .i64 0, .bool false], []⟩ 8 (by kernel_rfl) (by kernel_rfl) (by kernel_rfl) (by kernel_rfl)) ?_
  · intro ds hds
    match ds, hds with
    | [_, _, _, _, _], _ => rfl
  · intro W args hsz hargs
    obtain ⟨v0, v1, v2, v3, v4, rfl⟩ := arr5 hsz
    obtain ⟨x0, y0, rfl, bx0, by0⟩ := arg_Point (hargs 0 _ _ rfl rfl)
    obtain ⟨x1, y1, rfl, bx1, by1⟩ := arg_Point (hargs 1 _ _ rfl rfl)
    obtain ⟨x2, rfl, bx2⟩ := arg_int64 (hargs 2 _ _ rfl rfl)
    obtain ⟨x3, rfl, bx3⟩ := arg_int64 (hargs 3 _ _ rfl rfl)
    obtain ⟨x4, rfl⟩ := arg_bool (hargs 4 _ _ rfl rfl)
    exact FnExactThirdPoint_any x0 y0 x1 y1 x2 x3 x4 W

theorem FnExactThirdPoint_holds : Rows.FnExactThirdPointSaid :=
  OpenClaim.holds_of_wide 7 Try.f7 rfl rfl rfl rfl rfl rfl rfl ⟨rfl, rfl, rfl, rfl, rfl⟩ rfl rfl rfl rfl rfl (by kernel_rfl) Try.func7 (by kernel_rfl)
    (of_decide_eq_true (by kernel_rfl)) (by unfold Func.isWrapper; first | (rw [if_pos (by decide +kernel)]; kernel_rfl) | (rw [if_neg (by decide +kernel)]; exact ⟨rfl, rfl⟩))
    (fun os started H enc _ => FnExactThirdPoint_lifted os started H enc)

end Go.Proofs.Ytincjooilmahfaa
