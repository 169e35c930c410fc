/- FnExactValidPoint returns true for every input, and leaves memory as it was. No conditions. -/
import Derived.Test.YtincjooilmahfaaPoints
namespace Go.Proofs.Ytincjooilmahfaa
open Go.ChangeShapes Go.WideShapes Go.ChangeAt Go.RowKit

theorem Try.own : ownKnob Try.prog.godebug = none := by kernel_rfl
theorem Try.laidOut : laidOutB Try.prog = true := by kernel_rfl

theorem arg_Point {w : World} {v : Value} (h : ArgIs Try.prog w 23 v) :
    ∃ x y : Int, v = .agg #[.int .i64 x, .int .i64 y] ∧ (-9223372036854775808 ≤ x ∧ x ≤ 9223372036854775807) ∧ (-9223372036854775808 ≤ y ∧ y ≤ 9223372036854775807) := by
  obtain ⟨cs, rfl, hh⟩ := h.agg (d := 3) (l := [.int .i64, .int .i64]) Try.underlying23 (by kernel_rfl)
  obtain ⟨_, _, rfl, h0, hh⟩ := hh.cons
  obtain ⟨_, _, rfl, h1, hh⟩ := hh.cons
  have := hh.nil
  subst this
  obtain ⟨x, rfl, wx⟩ := One_int.1 h0
  obtain ⟨y, rfl, wy⟩ := One_int.1 h1
  exact ⟨x, y, rfl, wf_bd wx, wf_bd wy⟩

set_option maxRecDepth 100000 in
theorem FnExactValidPoint_lifted (os : Os) (started : os.Started) (H : Type) (enc : TypeId × Value → H) :
    ReturnsInHanded {} Try.checked os 3 .any (Rows.fnExactValidPointSpec.pre6 enc Try.prog Try.f3 Rows.fnExactValidPointRow.domain false) (Rows.fnExactValidPointSpec.post enc Try.prog Try.f3 false true false false) := by
  refine law_handed (C := Try.checked) Try.own started (by kernel_rfl) Try.func3 Try.laidOut (of_decide_eq_true (by kernel_rfl)) rfl ?_ rfl Try.underlying4
    (ChangeSpec.witness6 (enc := enc) (C := Try.checked) false ⟨#[], #[.agg #[.int .i64 0, .int .i64 0]], []⟩ 8 (by kernel_rfl) (by kernel_rfl) (by kernel_rfl) (by kernel_rfl)) ?_
  · intro ds hds
    match ds, hds with
    | [_], _ => rfl
  · intro W args hsz hargs
    obtain ⟨v0, rfl⟩ := arr1 hsz
    obtain ⟨x, y, rfl, bx, by_⟩ := arg_Point (hargs 0 _ _ rfl rfl)
    exact FnExactValidPoint_any x y W

theorem FnExactValidPoint_holds : Rows.FnExactValidPointSaid :=
  OpenClaim.holds_of_wide 3 Try.f3 rfl rfl rfl rfl rfl rfl rfl ⟨rfl, rfl, rfl, rfl, rfl⟩ rfl rfl rfl rfl rfl (by kernel_rfl) Try.func3 (by kernel_rfl)
    (of_decide_eq_true (by kernel_rfl)) (by unfold Func.isWrapper; first | (rw [if_pos (by decide +kernel)]; kernel_rfl) | (rw [if_neg (by decide +kernel)]; exact ⟨rfl, rfl⟩))
    (fun os started H enc _ => FnExactValidPoint_lifted os started H enc)

end Go.Proofs.Ytincjooilmahfaa
