/- Planetary gears for a ratio: the law, in plain terms. No program in sight. -/
import Derived.Test.YtaaieejhbpdmoaaRxEpiLaw
import Derived.Test.YtaaieejhbpdmoaaRxEpis
namespace Go.Proofs.Ytaaieejhbpdmoaa
namespace Rx
open Go

theorem eqEpi_self (e : Int × Int × Int × Int) : eqEpi (e, e) = some true := by
  unfold eqEpi
  simp only [bne_self_eq_false, br]
theorem eqEpiS_self {l : List (Int × Int × Int × Int)} (hl : l.length ≤ 4294967296) : eqEpiS (l, l) = some true := by
  obtain ⟨i', h⟩ := eq_loop (step := eqEpiSL_step) hl (fun i b y h0 h1 hy => by
    show br (decide (i < (l.length : Int))) (ob (idx l i) fun y => ob (idx l i) fun y_1 => ob (eqEpi (y, y_1)) fun y => br (!y) _ (some (LRes.next, l, l, b, IntKind.i64.wrap (i + 1)))) _ = _
    rw [br_t (by simpa using h1), hy]
    show ob (eqEpi (y, y)) _ = _
    rw [eqEpi_self]
    show some (LRes.next, l, l, b, IntKind.i64.wrap (i + 1)) = _
    rw [w64 (by omega) (by omega)]) (fun i b h => by
    show br (decide (i < (l.length : Int))) _ _ = _
    rw [br_f (by simpa using h)]) false
  have h' : eqEpiSL (l, l, false, 0) = some (true, (l, l, false, i')) := h
  show br ((l.length : Int) != (l.length : Int)) _ (ob (eqEpiSL (l, l, false, 0)) _) = _
  rw [br_f (by simp), h']
  rfl

def mkEpi (k : Int) : Int × Int × Int × Int := (k, k + 1, k + 1 + 1, k + 1 + 1 + 1)
theorem markEpiS_out {l : List (Int × Int × Int × Int)} (hl : l.length ≤ 1000000) : ∃ l', markEpiS (l, 1) = some (1 + 4 * (l.length : Int), (l', 1)) ∧ l'.length = l.length ∧ ∀ (j : Nat) y, l'[j]? = some y → y = mkEpi (1 + 4 * j) := by
  obtain ⟨l', h1, h2, h3⟩ := mark_loop (step := markEpiSL_step) (mk := mkEpi) (c := 4) ⟨by omega, by omega⟩ (l := l) (by omega) (k0 := 1) ⟨by omega, by omega⟩
    (fun l' k i y hl' h0 h1 k0 k1 hy hy2 => by
      have S1 : ∀ y, idx (l'.set i.toNat y) i = some y := fun y => idx_set h0 (by omega)
      have S2 : ∀ y, (l'.set i.toNat y)[i.toNat]? = some y := fun y => get_set (by omega)
      have e1 : IntKind.i64.wrap (k + 1) = k + 1 := w64 (by omega) (by omega)
      have e2 : IntKind.i64.wrap (k + 1 + 1) = k + 1 + 1 := w64 (by omega) (by omega)
      have e3 : IntKind.i64.wrap (k + 1 + 1 + 1) = k + 1 + 1 + 1 := w64 (by omega) (by omega)
      have e4 : IntKind.i64.wrap (k + 1 + 1 + 1 + 1) = k + 4 := by rw [w64 (by omega) (by omega)]; omega
      have e5 : IntKind.i64.wrap (i + 1) = i + 1 := w64 (by omega) (by omega)
      unfold markEpiSL_step
      simp only [gi]
      rw [br_t (by simp; omega)]
      simp only [hy, hy2, ob_s, e1, e2, e3, e4, e5, List.set_set, S1, S2]
      rfl)
    (fun l' k i hl' h => by
      show br (decide (i < (l'.length : Int))) _ _ = _
      rw [br_f (by simp; omega)])
  refine ⟨l', ?_, h2, h3⟩
  have h1' : markEpiSL (l, 1, 0) = some (l', 1 + 4 * (l.length : Int), (l.length : Int)) := h1
  show ob (markEpiSL (l, 1, 0)) _ = _
  rw [h1']
  rfl
theorem heldEpiS_out {l : List (Int × Int × Int × Int)} (hl : l.length ≤ 1000000) (hm : ∀ (j : Nat) y, l[j]? = some y → y = mkEpi (1 + 4 * j)) : heldEpiS (l, 1) = some (1 + 4 * (l.length : Int)) := by
  have h1 := held_loop (step := heldEpiSL_step) (mk := mkEpi) (c := 4) ⟨by omega, by omega⟩ (l := l) (by omega) (k0 := 1) ⟨by omega, by omega⟩ hm
    (fun k r i h0 h1 k0 k1 hy => by
      have e1 : IntKind.i64.wrap (k + 1) = k + 1 := w64 (by omega) (by omega)
      have e2 : IntKind.i64.wrap (k + 1 + 1) = k + 1 + 1 := w64 (by omega) (by omega)
      have e3 : IntKind.i64.wrap (k + 1 + 1 + 1) = k + 1 + 1 + 1 := w64 (by omega) (by omega)
      have e4 : IntKind.i64.wrap (k + 1 + 1 + 1 + 1) = k + 4 := by rw [w64 (by omega) (by omega)]; omega
      have e5 : IntKind.i64.wrap (i + 1) = i + 1 := w64 (by omega) (by omega)
      unfold heldEpiSL_step
      rw [br_t (by simp; omega)]
      simp only [hy, ob_s, e1, e2, e3, e4, e5, mkEpi, bne_self_eq_false, br])
    (fun k r i h => by
      show br (decide (i < (l.length : Int))) _ _ = _
      rw [br_f (by simp; omega)]) 0
  have h1' : heldEpiSL (l, 1, 0, 0) = some (true, (l, 1 + 4 * (l.length : Int), 0, (l.length : Int))) := h1
  show ob (heldEpiSL (l, 1, 0, 0)) _ = _
  rw [h1']
  rfl

/-! The search -/
abbrev InSt := Int × Int × Int × (Int × Int) × List (Int × Int × Int × Int) × Int × List (Int × Int × Int × Int) × Int × Int
abbrev OutSt := Int × Int × Int × (Int × Int) × List (Int × Int × Int × Int) × Int × List (Int × Int × Int × Int) × Int
def inInv (lo hi c sun : Int) (s : InSt) : Prop := s.1 = lo ∧ s.2.1 = hi ∧ s.2.2.1 = c ∧ s.2.2.2.2.2.2.2.1 = sun ∧ s.2.2.2.2.1.length ≤ 20 ∧ s.2.2.2.2.2.2.1.length ≤ 20 ∧ 0 ≤ s.2.2.2.2.2.2.2.2 ∧ s.2.2.2.2.2.2.2.2 ≤ 241
theorem episP_step {hi : Int} (hhi : hi ≤ 240) {lo c sun : Int} (s : InSt) (hs : inInv lo hi c sun s) : episIP_step s = episSP_step s ∧ ∃ r s', episIP_step s = some (r, s') ∧ inInv lo hi c sun s' ∧ (r = .next → (hi + 1 - s'.2.2.2.2.2.2.2.2).toNat < (hi + 1 - s.2.2.2.2.2.2.2.2).toNat) := by
  obtain ⟨lo', hi', c', r, l8, c9, l, sun', pl⟩ := s
  obtain ⟨rfl, rfl, rfl, rfl, h8, hl, hp0, hp1⟩ := hs
  dsimp only at hhi h8 hl hp0 hp1
  obtain ⟨v, hv, _⟩ := validEpiI_out (sun', IntKind.i64.wrap (sun' + IntKind.i64.wrap (2 * pl)), pl, c')
  have c2 : ((l.length : Int) == 20) = decide ((20 : Int) ≤ (l.length : Int)) := by
    by_cases h : l.length = 20
    · rw [h]; rfl
    · have h1 : ¬ (l.length : Int) = 20 := by omega
      have h2 : ¬ (20 : Int) ≤ (l.length : Int) := by omega
      simp [h1, h2]
  have c1 : (IntKind.i64.wrap (sun' * r.2) != IntKind.i64.wrap (r.1 * IntKind.i64.wrap (sun' + IntKind.i64.wrap (sun' + IntKind.i64.wrap (2 * pl))))) = (IntKind.i64.wrap (r.1 * IntKind.i64.wrap (sun' + IntKind.i64.wrap (sun' + IntKind.i64.wrap (2 * pl)))) != IntKind.i64.wrap (r.2 * sun')) := by
    rw [Int.mul_comm r.2 sun', bne_comm]
  unfold episIP_step episSP_step
  dsimp only
  rw [okEpiS_same, hv, c1, c2]
  generalize (IntKind.i64.wrap (r.1 * IntKind.i64.wrap (sun' + IntKind.i64.wrap (sun' + IntKind.i64.wrap (2 * pl)))) != IntKind.i64.wrap (r.2 * sun')) = ne
  by_cases hlt : pl ≤ hi'
  · have e5 : IntKind.i64.wrap (pl + 1) = pl + 1 := w64 (by omega) (by omega)
    simp only [br_t (c := decide (pl ≤ hi')) (by simpa using hlt), ob_s, e5]
    refine ⟨by cases v <;> cases ne <;> rfl, ?_⟩
    cases v with
    | false => exact ⟨_, _, rfl, ⟨rfl, rfl, rfl, rfl, h8, hl, by dsimp only; omega, by dsimp only; omega⟩, fun _ => by dsimp only; omega⟩
    | true =>
      cases ne with
      | true => exact ⟨_, _, rfl, ⟨rfl, rfl, rfl, rfl, h8, hl, by dsimp only; omega, by dsimp only; omega⟩, fun _ => by dsimp only; omega⟩
      | false =>
        by_cases hf : (20 : Int) ≤ (l.length : Int)
        · simp only [br_t (c := decide ((20 : Int) ≤ (l.length : Int))) (by simpa using hf)]
          exact ⟨_, _, rfl, ⟨rfl, rfl, rfl, rfl, by simp, hl, by dsimp only; omega, by dsimp only; omega⟩, fun h => by cases h⟩
        · simp only [br_f (c := decide ((20 : Int) ≤ (l.length : Int))) (by simpa using hf)]
          simp only [Bool.not_true, br]
          rw [show (decide (l.length + [(sun', IntKind.i64.wrap (sun' + IntKind.i64.wrap (2 * pl)), pl, c')].length ≤ (4294967296 : Nat))) = true by simp; omega]
          exact ⟨_, _, rfl, ⟨rfl, rfl, rfl, rfl, h8, by simp; omega, by dsimp only; omega, by dsimp only; omega⟩, fun _ => by dsimp only; omega⟩
  · simp only [br_f (c := decide (pl ≤ hi')) (by simpa using hlt)]
    exact ⟨by first | trivial | rfl, _, _, rfl, ⟨rfl, rfl, rfl, rfl, h8, hl, by dsimp only; omega, by dsimp only; omega⟩, fun h => by cases h⟩
theorem episP_both {hi : Int} (hhi : hi ≤ 240) {lo c sun : Int} (s : InSt) (hs : inInv lo hi c sun s) : episIP s = episSP s ∧ ∃ b s', episIP s = some (b, s') ∧ inInv lo hi c sun s' := by
  refine ⟨?_, ?_⟩
  · show iter episIP_step (episIP_fuel s) s = iter episSP_step (episIP_fuel s) s
    exact iter_same (inInv lo hi c sun) (fun s hs => (episP_step hhi s hs).1) (fun s s' hs h => by
      obtain ⟨_, r, s2, h1, h2, _⟩ := episP_step hhi s hs
      rw [h1] at h; cases h; exact h2) _ s hs
  · exact iter_tot (step := episIP_step) (inInv lo hi c sun) (fun s => (hi + 1 - s.2.2.2.2.2.2.2.2).toNat) (fun s hs => (episP_step hhi s hs).2) (episIP_fuel s) s hs (by
      obtain ⟨_, h2, _⟩ := hs
      show (hi + 1 - s.2.2.2.2.2.2.2.2).toNat < (s.2.1 - s.2.2.2.2.2.2.2.2).toNat + 2
      rw [h2]; omega)
def outInv (lo hi c : Int) (s : OutSt) : Prop := s.1 = lo ∧ s.2.1 = hi ∧ s.2.2.1 = c ∧ s.2.2.2.2.1.length ≤ 20 ∧ s.2.2.2.2.2.2.1.length ≤ 20 ∧ 0 ≤ s.2.2.2.2.2.2.2 ∧ s.2.2.2.2.2.2.2 ≤ 241
theorem episS_step {hi : Int} (hhi : hi ≤ 240) {lo c : Int} (hlo : 0 ≤ lo) (hlo2 : lo ≤ 241) (s : OutSt) (hs : outInv lo hi c s) : episIS_step s = episSS_step s ∧ ∃ r s', episIS_step s = some (r, s') ∧ outInv lo hi c s' ∧ (r = .next → (hi + 1 - s'.2.2.2.2.2.2.2).toNat < (hi + 1 - s.2.2.2.2.2.2.2).toNat) := by
  obtain ⟨lo', hi', c', r, l8, c9, l, sun⟩ := s
  obtain ⟨rfl, rfl, rfl, h8, hl, hp0, hp1⟩ := hs
  dsimp only at hhi h8 hl hp0 hp1
  obtain ⟨e1, b, s', e2, e3⟩ := episP_both hhi (lo', hi', c', r, l8, c9, l, sun, lo') ⟨rfl, rfl, rfl, rfl, h8, hl, hlo, hlo2⟩
  unfold episIS_step episSS_step
  dsimp only
  by_cases hlt : sun ≤ hi'
  · simp only [br_t (c := decide (sun ≤ hi')) (by simpa using hlt)]
    obtain ⟨a1, a2, a3, r', a5, a6, a7, a8, a9⟩ := s'
    obtain ⟨q1, q2, q3, q4, k8, kl, _, _⟩ := e3
    dsimp only at q1 q2 q3 q4 k8 kl
    subst q1 q2 q3 q4
    have e5 : IntKind.i64.wrap (a8 + 1) = a8 + 1 := w64 (by omega) (by omega)
    rw [← e1, e2]
    refine ⟨rfl, ?_⟩
    cases b with
    | true =>
      refine ⟨.next, _, rfl, ⟨rfl, rfl, rfl, k8, kl, ?_, ?_⟩, fun _ => ?_⟩
      all_goals (show _; dsimp only; rw [e5]; omega)
    | false => exact ⟨.ret, _, rfl, ⟨rfl, rfl, rfl, k8, kl, hp0, hp1⟩, fun h => by cases h⟩
  · simp only [br_f (c := decide (sun ≤ hi')) (by simpa using hlt)]
    exact ⟨by first | trivial | rfl, .out, _, rfl, ⟨rfl, rfl, rfl, h8, hl, hp0, hp1⟩, fun h => by cases h⟩
theorem episS_both {hi : Int} (hhi : hi ≤ 240) {lo c : Int} (hlo : 0 ≤ lo) (hlo2 : lo ≤ 241) (s : OutSt) (hs : outInv lo hi c s) : episIS s = episSS s ∧ ∃ b s', episIS s = some (b, s') ∧ outInv lo hi c s' := by
  refine ⟨?_, ?_⟩
  · show iter episIS_step (episIS_fuel s) s = iter episSS_step (episIS_fuel s) s
    exact iter_same (outInv lo hi c) (fun s hs => (episS_step hhi hlo hlo2 s hs).1) (fun s s' hs h => by
      obtain ⟨_, r, s2, h1, h2, _⟩ := episS_step hhi hlo hlo2 s hs
      rw [h1] at h; cases h; exact h2) _ s hs
  · exact iter_tot (step := episIS_step) (outInv lo hi c) (fun s => (hi + 1 - s.2.2.2.2.2.2.2).toNat) (fun s hs => (episS_step hhi hlo hlo2 s hs).2) (episIS_fuel s) s hs (by
      obtain ⟨_, h2, _⟩ := hs
      show (hi + 1 - s.2.2.2.2.2.2.2).toNat < (s.2.1 - s.2.2.2.2.2.2.2).toNat + 2
      rw [h2]; omega)
/-- Both searches. -/
theorem epis_both (r : Int × Int) (lo hi c : Int) : ∃ l k, episI (r, lo, hi, c) = some (l, k) ∧ episS (r, lo, hi, c) = some (l, k) ∧ l.length ≤ 20 := by
  unfold episI episS
  dsimp only
  rw [okRatS_same, in_eq, validRatI_eq, within_eq, within_eq]
  simp only [ob_s]
  cases vR (r.1, r.2) with
  | false => exact ⟨_, _, rfl, rfl, by simp⟩
  | true =>
    simp only [Bool.not_true, br]
    by_cases h1 : 6 ≤ lo ∧ lo ≤ hi
    · have e1 : (decide (6 ≤ lo) && decide (lo ≤ hi)) = true := by simp [h1]
      simp only [e1, Bool.not_true]
      by_cases h2 : 240 < hi
      · simp only [h2, decide_true]
        exact ⟨_, _, rfl, rfl, by simp⟩
      · simp only [h2, decide_false]
        cases decide (1 ≤ c) && decide (c ≤ 8) with
        | false => exact ⟨_, _, rfl, rfl, by simp⟩
        | true =>
          obtain ⟨s1, b, s', s2, s3⟩ := episS_both (hi := hi) (by omega) (lo := lo) (c := c) (by omega) (by omega) (lo, hi, c, (r.1, r.2), [], 0, [], lo) ⟨rfl, rfl, rfl, by simp, by simp, by show 0 ≤ lo; omega, by show lo ≤ 241; omega⟩
          simp only [Bool.not_true]
          rw [← s1, s2]
          obtain ⟨_, _, _, k8, kl, _⟩ := s3
          cases b with
          | true => exact ⟨_, _, rfl, rfl, kl⟩
          | false => exact ⟨_, _, rfl, rfl, k8⟩
    · have e1 : (decide (6 ≤ lo) && decide (lo ≤ hi)) = false := by
        rw [← Bool.decide_and]; simp only [h1, decide_false]
      simp only [e1, Bool.not_false]
      exact ⟨_, _, rfl, rfl, by simp⟩

theorem lawEpis_holds (x : (Int × Int) × Int × Int × Int) : lawEpis x = some true := by
  obtain ⟨r, lo, hi, c⟩ := x
  obtain ⟨l, k, h1, h2, h3⟩ := epis_both r lo hi c
  obtain ⟨l', m1, m2, m3⟩ := markEpiS_out (l := l) (by omega)
  have hh := heldEpiS_out (by omega) m3
  have he := eqEpiS_self (l := l) (by omega)
  have ht : ∀ r, toRatL r = some r := fun r => rfl
  have hneg : decide (1 + 4 * (l.length : Int) < 0) = false := by simp; omega
  unfold lawEpis
  simp only [ht, ob_s, h1, h2, he, m1, hh, m2, Bool.not_true, bne_self_eq_false, hneg, br]
end Rx
end Go.Proofs.Ytaaieejhbpdmoaa
