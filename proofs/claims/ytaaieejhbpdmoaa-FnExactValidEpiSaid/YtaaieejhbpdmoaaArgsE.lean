/- The arguments of the laws on ratios and planetary gears, taken apart. No conditions. -/
import Derived.Test.YtaaieejhbpdmoaaBase
namespace Go.Proofs.Ytaaieejhbpdmoaa
open Go.ChangeShapes Go.WideShapes Go.ChangeAt Go.RowKit

theorem Try.own : ownKnob Try.prog.godebug = none := by kernel_rfl
theorem Try.laidOut : laidOutB Try.prog = true := by kernel_rfl

theorem arg_Ratio {w : World} {v : Value} (h : ArgIs Try.prog w 33 v) :
    ∃ x y : Int, v = .agg #[.int .i64 x, .int .i64 y] ∧ (-9223372036854775808 ≤ x ∧ x ≤ 9223372036854775807) ∧ (-9223372036854775808 ≤ y ∧ y ≤ 9223372036854775807) := by
  obtain ⟨cs, rfl, hh⟩ := h.agg (d := 3) (l := [.int .i64, .int .i64]) Try.underlying33 (by kernel_rfl)
  obtain ⟨_, _, rfl, h0, hh⟩ := hh.cons
  obtain ⟨_, _, rfl, h1, hh⟩ := hh.cons
  have := hh.nil
  subst this
  obtain ⟨x, rfl, wx⟩ := One_int.1 h0
  obtain ⟨y, rfl, wy⟩ := One_int.1 h1
  exact ⟨x, y, rfl, wf_bd wx, wf_bd wy⟩

theorem arg_Epi {w : World} {v : Value} (h : ArgIs Try.prog w 23 v) :
    ∃ x y z u : Int, v = .agg #[.int .i64 x, .int .i64 y, .int .i64 z, .int .i64 u] ∧ (-9223372036854775808 ≤ x ∧ x ≤ 9223372036854775807) ∧ (-9223372036854775808 ≤ y ∧ y ≤ 9223372036854775807) ∧ (-9223372036854775808 ≤ z ∧ z ≤ 9223372036854775807) ∧ (-9223372036854775808 ≤ u ∧ u ≤ 9223372036854775807) := by
  obtain ⟨cs, rfl, hh⟩ := h.agg (d := 3) (l := [.int .i64, .int .i64, .int .i64, .int .i64]) Try.underlying23 (by kernel_rfl)
  obtain ⟨_, _, rfl, h0, hh⟩ := hh.cons
  obtain ⟨_, _, rfl, h1, hh⟩ := hh.cons
  obtain ⟨_, _, rfl, h2, hh⟩ := hh.cons
  obtain ⟨_, _, rfl, h3, hh⟩ := hh.cons
  have := hh.nil
  subst this
  obtain ⟨x, rfl, wx⟩ := One_int.1 h0
  obtain ⟨y, rfl, wy⟩ := One_int.1 h1
  obtain ⟨z, rfl, wz⟩ := One_int.1 h2
  obtain ⟨u, rfl, wu⟩ := One_int.1 h3
  exact ⟨x, y, z, u, rfl, wf_bd wx, wf_bd wy, wf_bd wz, wf_bd wu⟩
theorem arg_int64 {w : World} {v : Value} (h : ArgIs Try.prog w 2 v) : ∃ x : Int, v = .int .i64 x ∧ (-9223372036854775808 ≤ x ∧ x ≤ 9223372036854775807) := by
  obtain ⟨x, rfl, wx⟩ := h.int Try.underlying2
  exact ⟨x, rfl, wf_bd wx⟩
end Go.Proofs.Ytaaieejhbpdmoaa
