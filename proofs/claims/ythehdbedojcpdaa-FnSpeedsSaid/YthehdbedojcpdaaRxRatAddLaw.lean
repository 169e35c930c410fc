/- The sum of ratios, in plain arithmetic. No program in sight. -/
import Derived.Test.YthehdbedojcpdaaRxRatLaw
import Derived.Test.YthehdbedojcpdaaRxRatAdd
namespace Go.Proofs.Ythehdbedojcpdaa
namespace Rx
open Go

theorem codeS_eq (n d : Int) : codeS (redF n d) = some (ratF n d) := by
  unfold redF ratF
  cases mkR n d <;> rfl
theorem mulRatS_same : mulRatS = mulRatI := by
  funext ⟨a, b⟩
  rw [mulRatI_eq]
  show ob (okRatS a) _ = _
  rw [okRatS_eq]
  cases ha : vR a with
  | false => rfl
  | true =>
    show ob (okRatS b) _ = _
    rw [okRatS_eq]
    cases hb : vR b with
    | false => rfl
    | true =>
      show ob (mulS (a, b)) _ = _
      rw [mulS_eq ha hb]
      show ob (codeS (redF _ _)) _ = _
      rw [codeS_eq]; rfl
end Rx
end Go.Proofs.Ythehdbedojcpdaa
