/- The ratio of an epicyclic train between two of its parts. No program in sight. -/
import Derived.Test.YtfapjkcmoefilaaDoorRxEpiLaw
namespace Go.Proofs.YtfapjkcmoefilaaDoor
namespace Rx
open Go

def epiTail (f : (Int × Int × Int × Int) × (Int × Int) × (Int × Int) → Option ((Int × Int) × Int)) (e : Int × Int × Int × Int) (a b : Int × Int) : Option ((Int × Int) × Int) :=
  ob (f (e, a, b)) fun y => some ((y.1.1, y.1.2), y.2)
theorem epiTail_s {f : (Int × Int × Int × Int) × (Int × Int) × (Int × Int) → Option ((Int × Int) × Int)} {e : Int × Int × Int × Int} {a b : Int × Int} {r} (h : f (e, a, b) = some r) : epiTail f e a b = some r := by
  unfold epiTail; rw [h]; rfl
theorem i01 (e : Int × Int × Int × Int) (h : validEpiI e = some true) : epiRatI (e, 0, 1) = epiTail ringI e (1, 1) (0, 1) := by
  show ob (validEpiI e) _ = _
  rw [h]; kernel_rfl
theorem i02 (e : Int × Int × Int × Int) (h : validEpiI e = some true) : epiRatI (e, 0, 2) = epiTail carrierI e (1, 1) (0, 1) := by
  show ob (validEpiI e) _ = _
  rw [h]; kernel_rfl
theorem i10 (e : Int × Int × Int × Int) (h : validEpiI e = some true) : epiRatI (e, 1, 0) = epiTail sunI e (1, 1) (0, 1) := by
  show ob (validEpiI e) _ = _
  rw [h]; kernel_rfl
theorem i12 (e : Int × Int × Int × Int) (h : validEpiI e = some true) : epiRatI (e, 1, 2) = epiTail carrierI e (0, 1) (1, 1) := by
  show ob (validEpiI e) _ = _
  rw [h]; kernel_rfl
theorem i20 (e : Int × Int × Int × Int) (h : validEpiI e = some true) : epiRatI (e, 2, 0) = epiTail sunI e (0, 1) (1, 1) := by
  show ob (validEpiI e) _ = _
  rw [h]; kernel_rfl
theorem i21 (e : Int × Int × Int × Int) (h : validEpiI e = some true) : epiRatI (e, 2, 1) = epiTail ringI e (0, 1) (1, 1) := by
  show ob (validEpiI e) _ = _
  rw [h]; kernel_rfl
end Rx
end Go.Proofs.YtfapjkcmoefilaaDoor
