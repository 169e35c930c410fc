/- Trains: the implementation's answers are the spec's. No program in sight. -/
import Derived.Test.YthfgpnpoocepeaaGreatRxRatLaw
import Derived.Test.YthfgpnpoocepeaaGreatRxPairsLaw
import Derived.Test.YthfgpnpoocepeaaGreatRxTrain
namespace Go.Proofs.YthfgpnpoocepeaaGreat
namespace Rx
open Go

/-! ### Limits -/
theorem range_eq : rangeS = spanI := by
  funext x
  unfold rangeS spanI
  rw [in_eq, within_eq]
  simp only [ob_s]
  cases decide (x.1 ≤ x.2) <;> rfl
theorem okLim_eq : okLimS = validLimI := by
  unfold okLimS validLimI
  rw [range_eq, in_eq]
theorem spanI_tot (x : Int × Int) : tot (spanI x) := by
  unfold spanI
  exact tot_br (tot_br (tot_br tot_s tot_s) tot_s) tot_s
theorem validLimI_tot (x : Int × Int × Int × Int × Int) : tot (validLimI x) := by
  unfold validLimI
  obtain ⟨a, ha⟩ := spanI_tot (x.1, x.2.1)
  obtain ⟨b, hb⟩ := spanI_tot (x.2.2.1, x.2.2.2.1)
  rw [ha, hb, within_eq]
  exact tot_ob (tot_br (tot_ob (tot_br (tot_ob tot_s) tot_s)) tot_s)
/-! ### Trains -/
def okP (y : Int × Int) : Bool := (decide (6 ≤ y.1) && decide (y.1 ≤ 240)) && (decide (6 ≤ y.2) && decide (y.2 ≤ 240))
theorem validPairI_eq (y : Int × Int) : validPairI y = some (okP y) := by
  unfold validPairI okP
  simp only [toothed_eq, ob_s]
  cases (decide (6 ≤ y.1) && decide (y.1 ≤ 240)) <;> rfl
theorem okPairS_eq (y : Int × Int) : okPairS y = some (okP y) := by
  unfold okPairS
  rw [teeth_eq]
  exact validPairI_eq y
theorem validTrainI_eq {l : List (Int × Int)} (hl : l.length ≤ 4294967296) : validTrainI l = some (l.all okP && decide ((l.length : Int) ≤ 5)) := by
  obtain ⟨s, h1, h2, h3⟩ := all_loop (step := validTrainIL_step) (l := l) (fun i => (l, false, l, (l.length : Int), i)) okP (fun s => s.1 = l) (fun s => s.2.1 = false)
    (fun i y h0 h1 hy hp => by
      unfold validTrainIL_step
      dsimp only
      rw [br_t (by simpa using h1), hy]
      show ob (validPairI y) _ = _
      rw [validPairI_eq, hp]
      show some (LRes.next, l, false, l, (l.length : Int), IntKind.i64.wrap (i + 1)) = _
      rw [w64 (by omega) (by omega)])
    (fun i y h0 h1 hy hp => by
      unfold validTrainIL_step
      dsimp only
      rw [br_t (by simpa using h1), hy]
      show ∃ s, ob (validPairI y) _ = _ ∧ _
      rw [validPairI_eq, hp]
      exact ⟨_, rfl, rfl⟩)
    ⟨_, by unfold validTrainIL_step; dsimp only; rw [br_f (by simp)], rfl⟩ (n := ((l.length : Int) - 0).toNat + 1) (by omega)
  have h1' : validTrainIL (l, false, l, (l.length : Int), 0) = some (l.all okP, s) := h1
  unfold validTrainI
  rw [h1']
  cases ha : l.all okP with
  | true =>
    show some (decide ((s.1.length : Int) ≤ 5)) = _
    rw [h2 ha, Bool.true_and]
  | false =>
    show some s.2.1 = _
    rw [h3 ha, Bool.false_and]
theorem okTrainS_eq {l : List (Int × Int)} (hl : l.length ≤ 4294967296) : okTrainS l = some (l.all okP && decide ((l.length : Int) ≤ 5)) := by
  obtain ⟨s, h1, h2, h3⟩ := all_loop (step := okTrainSL_step) (l := l) (fun i => (l, false, i)) okP (fun s => s.1 = l) (fun s => s.2.1 = false)
    (fun i y h0 h1 hy hp => by
      unfold okTrainSL_step
      dsimp only
      rw [br_t (by simpa using h1), hy]
      show ob (okPairS y) _ = _
      rw [okPairS_eq, hp]
      show some (LRes.next, l, false, IntKind.i64.wrap (i + 1)) = _
      rw [w64 (by omega) (by omega)])
    (fun i y h0 h1 hy hp => by
      unfold okTrainSL_step
      dsimp only
      rw [br_t (by simpa using h1), hy]
      show ∃ s, ob (okPairS y) _ = _ ∧ _
      rw [okPairS_eq, hp]
      exact ⟨_, rfl, rfl⟩)
    ⟨_, by unfold okTrainSL_step; dsimp only; rw [br_f (by simp)], rfl⟩ (n := l.length - (0 : Int).toNat + 1) (by simp)
  have h1' : okTrainSL (l, false, 0) = some (l.all okP, s) := h1
  unfold okTrainS
  rw [h1']
  cases ha : l.all okP with
  | true =>
    show some (decide ((s.1.length : Int) ≤ 5)) = _
    rw [h2 ha, Bool.true_and]
  | false =>
    show some s.2.1 = _
    rw [h3 ha, Bool.false_and]

def inLim (x : Int × Int × Int × Int × Int) (y : Int × Int) : Bool := (decide (x.1 ≤ y.1) && decide (y.1 ≤ x.2.1)) && (decide (x.2.2.1 ≤ y.2) && decide (y.2 ≤ x.2.2.2.1))
theorem withinLimSL_eq {l : List (Int × Int)} (hl : l.length ≤ 4294967296) (x : Int × Int × Int × Int × Int) : ∃ s, withinLimSL (l, x, false, 0) = some (l.all (inLim x), s) ∧ (l.all (inLim x) = false → s.2.2.1 = false) := by
  obtain ⟨s, h1, h2, h3⟩ := all_loop (step := withinLimSL_step) (l := l) (fun i => (l, x, false, i)) (inLim x) (fun s => True) (fun s => s.2.2.1 = false)
    (fun i y h0 h1 hy hp => by
      unfold inLim at hp
      rw [Bool.and_eq_true] at hp
      unfold withinLimSL_step
      dsimp only
      rw [br_t (by simpa using h1), hy, in_eq]
      simp only [ob_s, within_eq, hp.1, hp.2, Bool.not_true, br, w64 (x := i + 1) (by omega) (by omega)])
    (fun i y h0 h1 hy hp => by
      unfold inLim at hp
      unfold withinLimSL_step
      dsimp only
      rw [br_t (by simpa using h1), hy, in_eq]
      simp only [ob_s, within_eq]
      cases ha : (decide (x.1 ≤ y.1) && decide (y.1 ≤ x.2.1)) with
      | false => exact ⟨_, rfl, rfl⟩
      | true =>
        rw [ha, Bool.true_and] at hp
        rw [hp]
        exact ⟨_, rfl, rfl⟩)
    ⟨_, by unfold withinLimSL_step; dsimp only; rw [br_f (by simp)], trivial⟩ (n := l.length - (0 : Int).toNat + 1) (by simp)
  exact ⟨s, h1, h3⟩
end Rx
end Go.Proofs.YthfgpnpoocepeaaGreat
