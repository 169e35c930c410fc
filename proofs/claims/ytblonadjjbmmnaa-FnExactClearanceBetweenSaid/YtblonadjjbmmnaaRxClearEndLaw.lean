/- The law of ClearanceBetween. No program in sight. -/
import Derived.Test.YtblonadjjbmmnaaRxClearLaw
import Derived.Test.YtblonadjjbmmnaaRxClearEnd
namespace Go.Proofs.Ytblonadjjbmmnaa
namespace Rx
open Go

theorem between_both {p : PlateD} (hl : p.2.2.2.2.length ≤ 1048576) (i j : Int) : ∃ v, betweenI (p, i, j) = some v ∧ betweenS (p, i, j) = some v := by
  have e1 : validPlateI (p.1, p.2.1, p.2.2.1, p.2.2.2.1, p.2.2.2.2) = some (plateOk p) := validPlateI_eq p
  have e2 : okPlateS (p.1, p.2.1, p.2.2.1, p.2.2.2.1, p.2.2.2.2) = some (plateOk p) := okPlateS_eq p
  unfold betweenI betweenS
  simp only [e1, e2, ob_s, withinP_eq, inP_eq]
  rw [w64 (by omega) (by omega)]
  cases hk : plateOk p with
  | false => exact ⟨_, rfl, rfl⟩
  | true =>
    cases hi : inF i 0 ((p.2.2.2.2.length : Int) - 1) with
    | false => exact ⟨_, rfl, rfl⟩
    | true =>
      cases hj : inF j 0 ((p.2.2.2.2.length : Int) - 1) with
      | false => exact ⟨_, rfl, rfl⟩
      | true =>
        cases i == j with
        | true => exact ⟨_, rfl, rfl⟩
        | false =>
          unfold inF at hi hj
          rw [Bool.and_eq_true, decide_eq_true_eq, decide_eq_true_eq] at hi hj
          obtain ⟨y, hy, hy2⟩ := idx_get (l := p.2.2.2.2) hi.1 (by omega)
          obtain ⟨z, hz, hz2⟩ := idx_get (l := p.2.2.2.2) hj.1 (by omega)
          have e3 : clearI ((y.1, (y.2.1.1, y.2.1.2), y.2.2.1, y.2.2.2), z.1, (z.2.1.1, z.2.1.2), z.2.2.1, z.2.2.2) = some (clearF y z) := clearI_eq hk hy2 hz2
          have e4 : clearS ((p.1, p.2.1, p.2.2.1, p.2.2.2.1, p.2.2.2.2), i, j) = some (clearF y z) := clearS_eq hk hy hz hy2 hz2
          refine ⟨(clearF y z, 0), ?_, ?_⟩
          · simp only [Bool.not_true, br, hy, hz, ob_s, e3]
          · simp only [Bool.not_true, br, ob_s, e4]
theorem lawClear_holds (x : PlateD × Int × Int) (h : WfAll [PlateT, i64, i64] x) : lawClear x = some true := by
  obtain ⟨p, i, j⟩ := x
  have hp : Wf PlateT p := h.1
  unfold lawClear
  dsimp only
  rcases szPlateL_cases hp (k := 1048576) (by omega) (by omega) with e | ⟨k, e, l1, k0, k1⟩
  · have e' : szPlateL ((p.1, p.2.1, p.2.2.1, p.2.2.2.1, p.2.2.2.2), 1048576) = some (-1) := e
    rw [e']; rfl
  · have e' : szPlateL ((p.1, p.2.1, p.2.2.1, p.2.2.2.1, p.2.2.2.2), 1048576) = some k := e
    have ep : toPlateD (p.1, p.2.1, p.2.2.1, p.2.2.2.1, p.2.2.2.2) = some p := toPlateD_eq l1
    obtain ⟨v, e1, e2⟩ := between_both l1 i j
    have e1' : betweenI ((p.1, p.2.1, p.2.2.1, p.2.2.2.1, p.2.2.2.2), i, j) = some v := e1
    have e2' : betweenS ((p.1, p.2.1, p.2.2.1, p.2.2.2.1, p.2.2.2.2), i, j) = some v := e2
    have e3 : eqPlateL ((p.1, p.2.1, p.2.2.1, p.2.2.2.1, p.2.2.2.2), (p.1, p.2.1, p.2.2.1, p.2.2.2.1, p.2.2.2.2)) = some true := eqPlateL_self l1
    rw [e', ob_s, br_f (by simpa using k0)]
    simp only [ep, e1', e2', e3, ob_s, bne_self_eq_false, Bool.not_true, br]
end Rx
end Go.Proofs.Ytblonadjjbmmnaa
