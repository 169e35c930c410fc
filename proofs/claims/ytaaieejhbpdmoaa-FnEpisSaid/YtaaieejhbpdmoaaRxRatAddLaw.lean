/- The sum of ratios, in plain arithmetic. No program in sight. -/
import Derived.Test.YtaaieejhbpdmoaaRxRatLaw
import Derived.Test.YtaaieejhbpdmoaaRxRatAdd
namespace Go.Proofs.Ytaaieejhbpdmoaa
namespace Rx
open Go

theorem codeS_eq (n d : Int) : codeS (redF n d) = some (ratF n d) := by
  unfold redF ratF
  cases mkR n d <;> rfl
theorem addRatI_eq (a b : Int × Int) : addRatI (a, b) = some (if vR a = true ∧ vR b = true then ratF (a.1 * b.2 + b.1 * a.2) (a.2 * b.2) else ((0, 0), 1)) := by
  show ob (validRatI a) _ = _
  rw [validRatI_eq]
  cases ha : vR a with
  | false => rfl
  | true =>
    show ob (validRatI b) _ = _
    rw [validRatI_eq]
    cases hb : vR b with
    | false => rfl
    | true =>
      obtain ⟨a1, a2, a3, a4⟩ := vR_bd ha
      obtain ⟨b1, b2, b3, b4⟩ := vR_bd hb
      show ob (makeRatI (IntKind.i64.wrap (IntKind.i64.wrap (a.1 * b.2) + IntKind.i64.wrap (b.1 * a.2)), IntKind.i64.wrap (a.2 * b.2))) _ = _
      have p1 := pb (x := a.1) (y := b.2) (A := 1000000000) (B := 1000000000) a3 a4 (by omega) (by omega)
      have p2 := pb (x := b.1) (y := a.2) (A := 1000000000) (B := 1000000000) b3 b4 (by omega) (by omega)
      have p3 := pb (x := a.2) (y := b.2) (A := 1000000000) (B := 1000000000) (by omega) a2 (by omega) b2
      have p4 := pp1 a1 b1
      rw [w64 (x := a.1 * b.2) (by omega) (by omega), w64 (x := b.1 * a.2) (by omega) (by omega), w64 (x := a.2 * b.2) (by omega) (by omega), w64 (by omega) (by omega)]
      rw [makeRatI_eq ⟨by omega, by omega⟩ ⟨by omega, by omega⟩ (by omega)]; rfl
theorem addRatS_same : addRatS = addRatI := by
  funext ⟨a, b⟩
  rw [addRatI_eq]
  show ob (okRatS a) _ = _
  rw [okRatS_eq]
  cases ha : vR a with
  | false => rfl
  | true =>
    show ob (okRatS b) _ = _
    rw [okRatS_eq]
    cases hb : vR b with
    | false => rfl
    | true =>
      show ob (addS (a, b)) _ = _
      rw [addS_eq ha hb]
      show ob (codeS (redF _ _)) _ = _
      rw [codeS_eq]; rfl
theorem mulRatS_same : mulRatS = mulRatI := by
  funext ⟨a, b⟩
  rw [mulRatI_eq]
  show ob (okRatS a) _ = _
  rw [okRatS_eq]
  cases ha : vR a with
  | false => rfl
  | true =>
    show ob (okRatS b) _ = _
    rw [okRatS_eq]
    cases hb : vR b with
    | false => rfl
    | true =>
      show ob (mulS (a, b)) _ = _
      rw [mulS_eq ha hb]
      show ob (codeS (redF _ _)) _ = _
      rw [codeS_eq]; rfl
theorem subRatS_same : subRatS = subRatI := by
  funext ⟨a, b⟩
  rw [subRatI_eq]
  show ob (okRatS a) _ = _
  rw [okRatS_eq]
  cases ha : vR a with
  | false => rfl
  | true =>
    show ob (okRatS b) _ = _
    rw [okRatS_eq]
    cases hb : vR b with
    | false => rfl
    | true =>
      obtain ⟨b1, b2, b3, b4⟩ := vR_bd hb
      show ob (negS (b.1, b.2)) (fun y => ob (addS ((a.1, a.2), y.1, y.2)) fun y => ob (codeS ((y.fst.1, y.fst.2), y.2)) fun y => some ((y.fst.1, y.fst.2), y.2)) = some (ratF (a.1 * b.2 - b.1 * a.2) (a.2 * b.2))
      have e : negS (b.1, b.2) = some (-b.1, b.2) := by
        show some (IntKind.i64.wrap (0 - b.1), b.2) = _
        rw [w64 (by omega) (by omega), Int.zero_sub]
      have hb' : vR (-b.1, b.2) = true := by
        have hg := vRat_gcd hb
        unfold vR vRat at hb ⊢
        simp only [Bool.and_eq_true, decide_eq_true_eq] at hb ⊢
        refine ⟨hb.1, ⟨by omega, by omega⟩, ?_⟩
        rw [gcd_neg]; exact hb.2.2
      rw [e]
      show ob (addS (a, (-b.1, b.2))) _ = _
      rw [addS_eq ha hb']
      show ob (codeS (redF _ _)) _ = _
      rw [codeS_eq, Int.neg_mul]
      rfl
end Rx
end Go.Proofs.Ytaaieejhbpdmoaa
