/- The sum of ratios, in plain arithmetic. No program in sight. -/
import Derived.Test.YtfapjkcmoefilaaDoorRxRatLaw
import Derived.Test.YtfapjkcmoefilaaDoorRxRatAdd
namespace Go.Proofs.YtfapjkcmoefilaaDoor
namespace Rx
open Go

theorem codeS_eq (n d : Int) : codeS (redF n d) = some (ratF n d) := by
  unfold redF ratF
  cases mkR n d <;> rfl
theorem addRatI_eq (a b : Int × Int) : addRatI (a, b) = some (if vR a = true ∧ vR b = true then ratF (a.1 * b.2 + b.1 * a.2) (a.2 * b.2) else ((0, 0), 1)) := by
  show ob (validRatI a) _ = _
  rw [validRatI_eq]
  cases ha : vR a with
  | false => rfl
  | true =>
    show ob (validRatI b) _ = _
    rw [validRatI_eq]
    cases hb : vR b with
    | false => rfl
    | true =>
      obtain ⟨a1, a2, a3, a4⟩ := vR_bd ha
      obtain ⟨b1, b2, b3, b4⟩ := vR_bd hb
      show ob (makeRatI (IntKind.i64.wrap (IntKind.i64.wrap (a.1 * b.2) + IntKind.i64.wrap (b.1 * a.2)), IntKind.i64.wrap (a.2 * b.2))) _ = _
      have p1 := pb (x := a.1) (y := b.2) (A := 1000000000) (B := 1000000000) a3 a4 (by omega) (by omega)
      have p2 := pb (x := b.1) (y := a.2) (A := 1000000000) (B := 1000000000) b3 b4 (by omega) (by omega)
      have p3 := pb (x := a.2) (y := b.2) (A := 1000000000) (B := 1000000000) (by omega) a2 (by omega) b2
      have p4 := pp1 a1 b1
      rw [w64 (x := a.1 * b.2) (by omega) (by omega), w64 (x := b.1 * a.2) (by omega) (by omega), w64 (x := a.2 * b.2) (by omega) (by omega), w64 (by omega) (by omega)]
      rw [makeRatI_eq ⟨by omega, by omega⟩ ⟨by omega, by omega⟩ (by omega)]; rfl
theorem mulRatS_same : mulRatS = mulRatI := by
  funext ⟨a, b⟩
  rw [mulRatI_eq]
  show ob (okRatS a) _ = _
  rw [okRatS_eq]
  cases ha : vR a with
  | false => rfl
  | true =>
    show ob (okRatS b) _ = _
    rw [okRatS_eq]
    cases hb : vR b with
    | false => rfl
    | true =>
      show ob (mulS (a, b)) _ = _
      rw [mulS_eq ha hb]
      show ob (codeS (redF _ _)) _ = _
      rw [codeS_eq]; rfl
end Rx
end Go.Proofs.YtfapjkcmoefilaaDoor
