/- The arguments of the laws of this seat, taken apart. No conditions. -/
import Derived.Test.YtincjooilmahfaaBase
namespace Go.Proofs.Ytincjooilmahfaa
open Go.ChangeShapes Go.WideShapes Go.ChangeAt Go.RowKit

theorem Try.own : ownKnob Try.prog.godebug = none := by kernel_rfl
theorem Try.laidOut : laidOutB Try.prog = true := by kernel_rfl

theorem arg_Point {w : World} {v : Value} (h : ArgIs Try.prog w 23 v) :
    ∃ x y : Int, v = .agg #[.int .i64 x, .int .i64 y] ∧ (-9223372036854775808 ≤ x ∧ x ≤ 9223372036854775807) ∧ (-9223372036854775808 ≤ y ∧ y ≤ 9223372036854775807) := by
  obtain ⟨cs, rfl, hh⟩ := h.agg (d := 3) (l := [.int .i64, .int .i64]) Try.underlying23 (by kernel_rfl)
  obtain ⟨_, _, rfl, h0, hh⟩ := hh.cons
  obtain ⟨_, _, rfl, h1, hh⟩ := hh.cons
  have := hh.nil
  subst this
  obtain ⟨x, rfl, wx⟩ := One_int.1 h0
  obtain ⟨y, rfl, wy⟩ := One_int.1 h1
  exact ⟨x, y, rfl, wf_bd wx, wf_bd wy⟩

theorem arg_Pair {w : World} {v : Value} (h : ArgIs Try.prog w 32 v) :
    ∃ x y : Int, v = .agg #[.int .i64 x, .int .i64 y] ∧ (-9223372036854775808 ≤ x ∧ x ≤ 9223372036854775807) ∧ (-9223372036854775808 ≤ y ∧ y ≤ 9223372036854775807) := by
  obtain ⟨cs, rfl, hh⟩ := h.agg (d := 3) (l := [.int .i64, .int .i64]) Try.underlying32 (by kernel_rfl)
  obtain ⟨_, _, rfl, h0, hh⟩ := hh.cons
  obtain ⟨_, _, rfl, h1, hh⟩ := hh.cons
  have := hh.nil
  subst this
  obtain ⟨x, rfl, wx⟩ := One_int.1 h0
  obtain ⟨y, rfl, wy⟩ := One_int.1 h1
  exact ⟨x, y, rfl, wf_bd wx, wf_bd wy⟩
theorem arg_int64 {w : World} {v : Value} (h : ArgIs Try.prog w 2 v) : ∃ x : Int, v = .int .i64 x ∧ (-9223372036854775808 ≤ x ∧ x ≤ 9223372036854775807) := by
  obtain ⟨x, rfl, wx⟩ := h.int Try.underlying2
  exact ⟨x, rfl, wf_bd wx⟩
theorem arg_bool {w : World} {v : Value} (h : ArgIs Try.prog w 4 v) : ∃ b : Bool, v = .bool b := h.bool Try.underlying4
end Go.Proofs.Ytincjooilmahfaa
