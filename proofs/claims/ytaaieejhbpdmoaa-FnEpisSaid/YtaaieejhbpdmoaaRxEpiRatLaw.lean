/- The ratio of an epicyclic train between two of its parts. No program in sight. -/
import Derived.Test.YtaaieejhbpdmoaaRxEpiLaw
namespace Go.Proofs.Ytaaieejhbpdmoaa
namespace Rx
open Go

def epiTail (f : (Int × Int × Int × Int) × (Int × Int) × (Int × Int) → Option ((Int × Int) × Int)) (e : Int × Int × Int × Int) (a b : Int × Int) : Option ((Int × Int) × Int) :=
  ob (f (e, a, b)) fun y => some ((y.1.1, y.1.2), y.2)
theorem epiTail_s {f : (Int × Int × Int × Int) × (Int × Int) × (Int × Int) → Option ((Int × Int) × Int)} {e : Int × Int × Int × Int} {a b : Int × Int} {r} (h : f (e, a, b) = some r) : epiTail f e a b = some r := by
  unfold epiTail; rw [h]; rfl
theorem i01 (e : Int × Int × Int × Int) (h : validEpiI e = some true) : epiRatI (e, 0, 1) = epiTail ringI e (1, 1) (0, 1) := by
  show ob (validEpiI e) _ = _
  rw [h]; kernel_rfl
theorem s01 (e : Int × Int × Int × Int) (h : okEpiS e = some true) : epiRatS (e, 0, 1) = ob (epiTail ringS e (1, 1) (0, 1)) fun y => some ((y.1.1, y.1.2), y.2) := by
  show ob (okEpiS e) _ = _
  rw [h]; kernel_rfl
theorem i02 (e : Int × Int × Int × Int) (h : validEpiI e = some true) : epiRatI (e, 0, 2) = epiTail carrierI e (1, 1) (0, 1) := by
  show ob (validEpiI e) _ = _
  rw [h]; kernel_rfl
theorem s02 (e : Int × Int × Int × Int) (h : okEpiS e = some true) : epiRatS (e, 0, 2) = ob (epiTail carrierS e (1, 1) (0, 1)) fun y => some ((y.1.1, y.1.2), y.2) := by
  show ob (okEpiS e) _ = _
  rw [h]; kernel_rfl
theorem i10 (e : Int × Int × Int × Int) (h : validEpiI e = some true) : epiRatI (e, 1, 0) = epiTail sunI e (1, 1) (0, 1) := by
  show ob (validEpiI e) _ = _
  rw [h]; kernel_rfl
theorem s10 (e : Int × Int × Int × Int) (h : okEpiS e = some true) : epiRatS (e, 1, 0) = ob (epiTail sunS e (1, 1) (0, 1)) fun y => some ((y.1.1, y.1.2), y.2) := by
  show ob (okEpiS e) _ = _
  rw [h]; kernel_rfl
theorem i12 (e : Int × Int × Int × Int) (h : validEpiI e = some true) : epiRatI (e, 1, 2) = epiTail carrierI e (0, 1) (1, 1) := by
  show ob (validEpiI e) _ = _
  rw [h]; kernel_rfl
theorem s12 (e : Int × Int × Int × Int) (h : okEpiS e = some true) : epiRatS (e, 1, 2) = ob (epiTail carrierS e (0, 1) (1, 1)) fun y => some ((y.1.1, y.1.2), y.2) := by
  show ob (okEpiS e) _ = _
  rw [h]; kernel_rfl
theorem i20 (e : Int × Int × Int × Int) (h : validEpiI e = some true) : epiRatI (e, 2, 0) = epiTail sunI e (0, 1) (1, 1) := by
  show ob (validEpiI e) _ = _
  rw [h]; kernel_rfl
theorem s20 (e : Int × Int × Int × Int) (h : okEpiS e = some true) : epiRatS (e, 2, 0) = ob (epiTail sunS e (0, 1) (1, 1)) fun y => some ((y.1.1, y.1.2), y.2) := by
  show ob (okEpiS e) _ = _
  rw [h]; kernel_rfl
theorem i21 (e : Int × Int × Int × Int) (h : validEpiI e = some true) : epiRatI (e, 2, 1) = epiTail ringI e (0, 1) (1, 1) := by
  show ob (validEpiI e) _ = _
  rw [h]; kernel_rfl
theorem s21 (e : Int × Int × Int × Int) (h : okEpiS e = some true) : epiRatS (e, 2, 1) = ob (epiTail ringS e (0, 1) (1, 1)) fun y => some ((y.1.1, y.1.2), y.2) := by
  show ob (okEpiS e) _ = _
  rw [h]; kernel_rfl
theorem epiRat_both (e : Int × Int × Int × Int) (f t : Int) : ∃ r, epiRatI (e, f, t) = some r ∧ epiRatS (e, f, t) = some r := by
  obtain ⟨v, hv, hb⟩ := validEpiI_out e
  have hs : okEpiS e = some v := by rw [okEpiS_same]; exact hv
  cases v with
  | false =>
    refine ⟨((0, 0), 1), ?_, ?_⟩
    · show ob (validEpiI e) _ = _
      rw [hv]; rfl
    · show ob (okEpiS e) _ = _
      rw [hs]; rfl
  | true =>
    by_cases hf : 0 ≤ f ∧ f ≤ 2
    · by_cases ht : 0 ≤ t ∧ t ≤ 2
      · by_cases e1 : f = t
        · subst e1
          refine ⟨((0, 0), 2), ?_, ?_⟩
          · show ob (validEpiI e) _ = _
            rw [hv]
            show ob (withinI (f, 0, 2)) _ = _
            rw [within_eq, ← Bool.decide_and, decide_eq_true hf]
            show br (f == f) _ _ = _
            rw [br_t (by simp)]
          · show ob (okEpiS e) _ = _
            rw [hs]
            show ob (withinI (f, 0, 2)) _ = _
            rw [within_eq, ← Bool.decide_and, decide_eq_true hf]
            show ob (withinI (f, 0, 2)) _ = _
            rw [within_eq, ← Bool.decide_and, decide_eq_true hf]
            show br (f == f) _ _ = _
            rw [br_t (by simp)]
        · have h6 : (f = 0 ∧ t = 1) ∨ (f = 0 ∧ t = 2) ∨ (f = 1 ∧ t = 0) ∨ (f = 1 ∧ t = 2) ∨ (f = 2 ∧ t = 0) ∨ (f = 2 ∧ t = 1) := by omega
          rcases h6 with ⟨rfl, rfl⟩ | ⟨rfl, rfl⟩ | ⟨rfl, rfl⟩ | ⟨rfl, rfl⟩ | ⟨rfl, rfl⟩ | ⟨rfl, rfl⟩
          · obtain ⟨r, k1, k2⟩ := ring_both e (1, 1) (0, 1)
            exact ⟨r, by rw [i01 e hv, epiTail_s k1], by rw [s01 e hs, epiTail_s k2]; rfl⟩
          · obtain ⟨r, k1, k2⟩ := carrier_both e (1, 1) (0, 1)
            exact ⟨r, by rw [i02 e hv, epiTail_s k1], by rw [s02 e hs, epiTail_s k2]; rfl⟩
          · obtain ⟨r, k1, k2⟩ := sun_both e (1, 1) (0, 1)
            exact ⟨r, by rw [i10 e hv, epiTail_s k1], by rw [s10 e hs, epiTail_s k2]; rfl⟩
          · obtain ⟨r, k1, k2⟩ := carrier_both e (0, 1) (1, 1)
            exact ⟨r, by rw [i12 e hv, epiTail_s k1], by rw [s12 e hs, epiTail_s k2]; rfl⟩
          · obtain ⟨r, k1, k2⟩ := sun_both e (0, 1) (1, 1)
            exact ⟨r, by rw [i20 e hv, epiTail_s k1], by rw [s20 e hs, epiTail_s k2]; rfl⟩
          · obtain ⟨r, k1, k2⟩ := ring_both e (0, 1) (1, 1)
            exact ⟨r, by rw [i21 e hv, epiTail_s k1], by rw [s21 e hs, epiTail_s k2]; rfl⟩
      · refine ⟨((0, 0), 2), ?_, ?_⟩
        · show ob (validEpiI e) _ = _
          rw [hv]
          show ob (withinI (f, 0, 2)) _ = _
          rw [within_eq, ← Bool.decide_and, decide_eq_true hf]
          show ob (withinI (t, 0, 2)) _ = _
          rw [within_eq, ← Bool.decide_and, decide_eq_false ht]; rfl
        · show ob (okEpiS e) _ = _
          rw [hs]
          show ob (withinI (f, 0, 2)) _ = _
          rw [within_eq, ← Bool.decide_and, decide_eq_true hf]
          show ob (withinI (t, 0, 2)) _ = _
          rw [within_eq, ← Bool.decide_and, decide_eq_false ht]; rfl
    · refine ⟨((0, 0), 2), ?_, ?_⟩
      · show ob (validEpiI e) _ = _
        rw [hv]
        show ob (withinI (f, 0, 2)) _ = _
        rw [within_eq, ← Bool.decide_and, decide_eq_false hf]; rfl
      · show ob (okEpiS e) _ = _
        rw [hs]
        show ob (withinI (f, 0, 2)) _ = _
        rw [within_eq, ← Bool.decide_and, decide_eq_false hf]; rfl
theorem lawEpiRat_holds (x : (Int × Int × Int × Int) × Int × Int) : lawEpiRat x = some true := by
  obtain ⟨e, f, t⟩ := x
  obtain ⟨r, h1, h2⟩ := epiRat_both e f t
  show ob (epiRatS (e, f, t)) _ = _
  rw [h2]
  show ob (epiRatI (e, f, t)) _ = _
  rw [h1]
  exact last_words
end Rx
end Go.Proofs.Ytaaieejhbpdmoaa
