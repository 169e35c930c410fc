/- Shortest paths between arbors: the law. In plain terms. No program in sight. -/
import Derived.Test.YthehdbedojcpdaaRxPathW
namespace Go.Proofs.Ythehdbedojcpdaa
namespace Rx
open Go

theorem paths_both {w : WorksD} (hw : smallW w) (a b : Int) : ∃ ks ms c, pathOI ((w.1, w.2), a, b) = some (ks, c) ∧ pathOS ((w.1, w.2), a, b) = some (ks, c) ∧ ks.length ≤ 16 ∧
    ((c = 1 ∧ ks = [] ∧ worksOk w = false) ∨ (worksOk w = true ∧ pathS ((w.1, w.2), a, b) = some (ms, ks, c) ∧ ((c ≠ 0 ∧ ks = []) ∨ (c = 0 ∧ ChainP w a ks ms b)))) := by
  have h1l := hw.1
  have e1 : validWI (w.1, w.2) = some (worksOk w) := validWI_eq hw
  have e2 : okWS (w.1, w.2) = some (worksOk w) := okWS_eq hw
  unfold pathOI pathOS
  dsimp only
  rw [e1, e2, ob_s, ob_s]
  cases hk : worksOk w with
  | false => exact ⟨[], [], 1, rfl, rfl, by simp, .inl ⟨rfl, rfl, rfl⟩⟩
  | true =>
    have hk' := hk
    unfold worksOk at hk'
    simp only [Bool.and_eq_true, decide_eq_true_eq] at hk'
    have hn : w.1.length ≤ 16 := by omega
    have hm : w.2.length ≤ 24 := by omega
    rw [br_f (c := !true) rfl, br_f (c := !true) rfl, withinP_eq, ob_s]
    have eS : pathS ((w.1, w.2), a, b) = pathS (w, a, b) := rfl
    rw [eS]
    have hS : ∀ v, pathS (w, a, b) = some v → (ob (pathS (w, a, b)) fun y => some (y.2.1, y.2.2)) = some (v.2.1, v.2.2) := fun v h => by rw [h]; rfl
    have key : ∃ ks ms c, (br (!inF a 0 (IntKind.i64.wrap ((w.1.length : Int) - 1))) (some ([], (2 : Int)))
          (ob (withinP (b, (0 : Int), IntKind.i64.wrap ((w.1.length : Int) - (1 : Int)))) fun y =>
            br (!y) (some ([], (2 : Int)))
              (ob (stepsI ((w.1, w.2), b)) fun y =>
                ob (idx y a) fun _ =>
                  ob (List.get?Internal y (Int.toNat a)) fun x_2 =>
                    br (decide (x_2 < (0 : Int))) (some ([], (3 : Int)))
                      (ob (pathIL (b, (w.1, w.2), y, [], a)) fun r =>
                        some (r.snd.snd.snd.1, (0 : Int)))))) = some (ks, c) ∧ pathS (w, a, b) = some (ms, ks, c) ∧ ks.length ≤ 16 ∧ ((c ≠ 0 ∧ ks = []) ∨ (c = 0 ∧ ChainP w a ks ms b)) := by
      unfold pathS rootW
      dsimp only
      rw [inP_eq, ob_s, ob_s, w64 (by omega) (by omega)]
      cases ha : inF a 0 ((w.1.length : Int) - 1) with
      | false => exact ⟨[], [], 2, rfl, rfl, by simp, .inl ⟨by decide, rfl⟩⟩
      | true =>
        rw [br_f (c := !true) rfl, br_f (c := !true) rfl, withinP_eq, inP_eq, ob_s, ob_s, ob_s]
        cases hb : inF b 0 ((w.1.length : Int) - 1) with
        | false => exact ⟨[], [], 2, rfl, rfl, by simp, .inl ⟨by decide, rfl⟩⟩
        | true =>
          unfold inF at ha hb
          rw [Bool.and_eq_true, decide_eq_true_eq, decide_eq_true_eq] at ha hb
          rw [br_f (c := !true) rfl, br_f (c := !true) rfl]
          obtain ⟨st, s1, s2, D⟩ := steps_both hk hw (goal := b) hb.1 (by omega)
          have hlen := D.base.len
          obtain ⟨x, hx, hx2⟩ := idx_get (l := st) ha.1 (by omega)
          rw [s1, s2, ob_s, ob_s, hx, ob_s, ob_s, gi, hx2, ob_s, ob_s]
          by_cases x0 : x < 0
          · rw [br_t (by simpa using x0), br_t (by simpa using x0)]
            exact ⟨[], [], 3, rfl, rfl, by simp, .inl ⟨by decide, rfl⟩⟩
          · rw [br_f (by simpa using x0), br_f (by simpa using x0)]
            have hd := D.base.hi _ _ hx2
            obtain ⟨ks, ms, g1, g2, g3, g4⟩ := walk_both hk hm D x.toNat a [] [] (w.1.length + 2) (w.1.length + 2) ha.1 (by rw [hx2]; congr 1; omega) (by omega) (by omega) (by omega) (by simp; omega) (by simp; omega)
            have g1' : pathIL (b, (w.1, w.2), st, [], a) = _ := g1
            have g2' : pathSL (w, b, st, [], [], a) = _ := g2
            rw [g1', g2', ob_s, ob_s]
            exact ⟨ks, ms, 0, rfl, rfl, by omega, .inr ⟨rfl, g3⟩⟩
    obtain ⟨ks, ms, c, h1, h2, h3, h4⟩ := key
    exact ⟨ks, ms, c, h1, hS _ h2, h3, .inr ⟨rfl, h2, h4⟩⟩
theorem lawPath_holds (x : WorksD × Int × Int) (h : WfAll [WorksT, i64, i64] x) : lawPath x = some true := by
  obtain ⟨w, a, b⟩ := x
  have hw : Wf WorksT w := h.1
  unfold lawPath
  dsimp only
  rcases szWorksL_cases hw (k := 1048576) (by omega) (by omega) with e | ⟨k, e, l1, k0, k1⟩
  · have e' : szWorksL ((w.1, w.2), 1048576) = some (-1) := e
    rw [e']; rfl
  · have e' : szWorksL ((w.1, w.2), 1048576) = some k := e
    have ew : toWorksD (w.1, w.2) = some w := toWorksD_eq l1
    obtain ⟨ks, ms, c, e1, e2, hl, _⟩ := paths_both l1 a b
    have e3 : eqWorksL ((w.1, w.2), (w.1, w.2)) = some true := eqWorksL_self l1
    have e4 : eqIntW (ks, ks) = some true := eqIntW_self (by omega)
    obtain ⟨k', w', e5, k2⟩ := markWorksD_tot l1
    have e5' : markWorksD ((w.1, w.2), 1) = some (k', w', 1) := e5
    rw [e', ob_s, br_f (by simpa using k0)]
    simp only [ew, e1, e2, e3, e4, e5', markIntD_eq (l := ks) (by omega) (k := 1) ⟨by omega, by omega⟩, heldIntD_eq (l := ks) (by omega) (k := 1) ⟨by omega, by omega⟩, ob_s]
    rw [br_f (c := !true) rfl, br_f (by simp), br_f (c := !true) rfl, br_f (by simp; omega), br_f (c := !true) rfl, br_f (by simp), br_f (by simp; omega), br_f (by simp), br_f (c := !true) rfl, br_f (by simp), br_f (by simp; omega), br_f (by simp)]
end Rx
end Go.Proofs.Ythehdbedojcpdaa
