/- The error and the drift of a train: the implementation's answers are the spec's. No program in sight. -/
import Derived.Test.YthfgpnpoocepeaaGreatRxTrainLaw
namespace Go.Proofs.YthfgpnpoocepeaaGreat
namespace Rx
open Go

/-! ### Ratios -/
theorem mkR_small2 {n d : Int} (hn : -480 ≤ n ∧ n ≤ 480) (hd : 1 ≤ d ∧ d ≤ 480) : ∃ p, mkR n d = some p := by
  have hg := gcd_pos (n := n) (d := d) (by omega)
  have qn := div_bd (x := mag n) (B := 480) hg (mag_nn n) (by unfold mag; omega)
  have qd := div_bd (x := mag d) (B := 480) hg (mag_nn d) (by unfold mag; omega)
  unfold mkR
  dsimp only
  rw [if_neg (by omega)]
  exact ⟨_, rfl⟩
theorem vR_neg {b : Int × Int} (hb : vR b = true) : vR (-b.1, b.2) = true := by
  obtain ⟨b1, b2, b3, b4⟩ := vR_bd hb
  unfold vR vRat at hb ⊢
  simp only [Bool.and_eq_true, decide_eq_true_eq] at hb ⊢
  refine ⟨hb.1, ⟨by omega, by omega⟩, ?_⟩
  rw [gcd_neg]; exact hb.2.2
def absN (n : Int) : Int := if n < 0 then -n else n
theorem vR_abs {b : Int × Int} (hb : vR b = true) : vR (absN b.1, b.2) = true := by
  unfold absN
  split
  · exact vR_neg hb
  · exact hb
theorem absI_eq {n : Int} (h1 : -1000000000 ≤ n) (h2 : n ≤ 1000000000) : absI n = some (absN n) := by
  show br (decide (n < 0)) (some (IntKind.i64.wrap (0 - n))) (some n) = _
  unfold absN
  by_cases h : n < 0
  · rw [br_t (by simpa using h), if_pos h, w64 (by omega) (by omega), Int.zero_sub]
  · rw [br_f (by simpa using h), if_neg h]
theorem size_eq : sizeS = absI := rfl
theorem negS_eq {b : Int × Int} (hb : vR b = true) : negS b = some (-b.1, b.2) := by
  obtain ⟨b1, b2, b3, b4⟩ := vR_bd hb
  show some (IntKind.i64.wrap (0 - b.1), b.2) = _
  rw [w64 (by omega) (by omega), Int.zero_sub]
theorem whole_eq (n : Int) : wholeS n = some (n, 1) := rfl
theorem vR_whole {n : Int} (h1 : -1000000000 ≤ n) (h2 : n ≤ 1000000000) : vR (n, 1) = true := by
  unfold vR vRat
  simp only [Bool.and_eq_true, decide_eq_true_eq]
  exact ⟨by omega, ⟨by omega, by omega⟩, by rw [Int.gcd_one_right]; rfl⟩

/-! ### The ratio of a train -/
theorem okP_bd {y : Int × Int} (h : okP y = true) : (6 ≤ y.1 ∧ y.1 ≤ 240) ∧ (6 ≤ y.2 ∧ y.2 ≤ 240) := by
  unfold okP at h
  simp only [Bool.and_eq_true, decide_eq_true_eq] at h
  exact h
theorem trainRat_both {l : List (Int × Int)} (hl : l.length ≤ 4294967296) (ha : l.all okP = true) :
    (∃ r, vR r = true ∧ trainRatI l = some (r, 0) ∧ trainRatS l = some (r, true)) ∨ (trainRatI l = some ((0, 0), 2) ∧ trainRatS l = some ((0, 0), false)) := by
  have hsim := iter_sim (stepA := trainRatIL_step) (stepB := trainRatSL_step)
    (fun a b => ∃ r i, a = ((0, 0), 0, r, l, (l.length : Int), i) ∧ b = (l, (0, 0), false, r, i) ∧ vR r = true ∧ 0 ≤ i ∧ i ≤ l.length)
    (fun a b => ∃ r, vR r = true ∧ a.2.2.1 = r ∧ b.2.2.2.1 = r) (fun a b => a.1 = (0, 0) ∧ a.2.1 = 2 ∧ b.2.1 = (0, 0) ∧ b.2.2.1 = false) (fun a => ((l.length : Int) - a.2.2.2.2.2).toNat)
    (by
      rintro a b ⟨r, i, rfl, rfl, hr, h0, h1⟩
      unfold trainRatIL_step trainRatSL_step
      dsimp only
      by_cases hi : i < l.length
      · obtain ⟨y, hy, hy2⟩ := idx_get h0 hi
        have hok : okP y = true := List.all_eq_true.1 ha y (List.mem_of_getElem? hy2)
        obtain ⟨b1, b2⟩ := okP_bd hok
        have hw : IntKind.i64.wrap (0 - y.1) = -y.1 := by rw [w64 (by omega) (by omega), Int.zero_sub]
        obtain ⟨q, hq⟩ := mkR_small2 (n := -y.1) (d := y.2) (by omega) (by omega)
        have vq : vR q = true := mkR_valid (by omega) hq
        have e1 : makeRatI (-y.1, y.2) = some (q, 0) := by
          rw [makeRatI_eq ⟨by omega, by omega⟩ ⟨by omega, by omega⟩ (by omega)]
          unfold ratF; rw [hq]
        have e2 : mkS (-y.1, y.2) = some (q, true) := by
          rw [mkS_eq ⟨by omega, by omega⟩ ⟨by omega, by omega⟩ (by omega)]
          unfold redF; rw [hq]
        rw [br_t (by simpa using hi), br_t (by simpa using hi), hy]
        simp only [ob_s, hw, e1, e2]
        have e3 : mulRatI ((r.1, r.2), q.1, q.2) = some (ratF (r.1 * q.1) (r.2 * q.2)) := by
          have := mulRatI_eq r q
          rw [if_pos ⟨hr, vq⟩] at this; exact this
        have e4 : mulS ((r.1, r.2), q.1, q.2) = some (redF (r.1 * q.1) (r.2 * q.2)) := mulS_eq hr vq
        rw [e3, e4]
        have hd : r.2 * q.2 ≠ 0 := by
          have := pp1 (vR_bd hr).1 (vR_bd vq).1
          omega
        unfold ratF redF
        cases hm : mkR (r.1 * q.1) (r.2 * q.2) with
        | none => exact ⟨.ret, _, _, rfl, rfl, fun h => (by cases h), fun h => (by cases h), fun _ => ⟨rfl, rfl, rfl, rfl⟩⟩
        | some p =>
          refine ⟨.next, _, _, rfl, rfl, fun _ => ⟨⟨p, i + 1, ?_, ?_, mkR_valid hd hm, by omega, by omega⟩, ?_⟩, fun h => (by cases h), fun h => (by cases h)⟩
          · show (((0 : Int), (0 : Int)), (0 : Int), p, l, (l.length : Int), IntKind.i64.wrap (i + 1)) = _
            rw [w64 (by omega) (by omega)]
          · show (l, ((0 : Int), (0 : Int)), false, p, IntKind.i64.wrap (i + 1)) = _
            rw [w64 (by omega) (by omega)]
          · show ((l.length : Int) - IntKind.i64.wrap (i + 1)).toNat < ((l.length : Int) - i).toNat
            rw [w64 (by omega) (by omega)]; omega
      · rw [br_f (by simpa using hi), br_f (by simpa using hi)]
        exact ⟨.out, _, _, rfl, rfl, fun h => (by cases h), fun _ => ⟨r, hr, rfl, rfl⟩, fun h => (by cases h)⟩)
    (((l.length : Int) - 0).toNat + 1) (l.length - (0 : Int).toNat + 1) ((0, 0), 0, (1, 1), l, (l.length : Int), 0) (l, (0, 0), false, (1, 1), 0)
    ⟨(1, 1), 0, rfl, rfl, vR_whole (by omega) (by omega), by omega, by omega⟩ (by dsimp only; omega) (by dsimp only; omega)
  obtain ⟨k, a', b', h1, h2, h3, h4⟩ := hsim
  have h1' : trainRatIL ((0, 0), 0, (1, 1), l, (l.length : Int), 0) = some (k, a') := h1
  have h2' : trainRatSL (l, (0, 0), false, (1, 1), 0) = some (k, b') := h2
  unfold trainRatI trainRatS
  rw [h1', whole_eq]
  simp only [ob_s]
  rw [h2']
  cases k with
  | true =>
    obtain ⟨r, hr, e1, e2⟩ := h3 rfl
    refine .inl ⟨r, hr, ?_, ?_⟩
    · show some (a'.2.2.1, (0 : Int)) = _
      rw [e1]
    · show some (b'.2.2.2.1, true) = _
      rw [e2]
  | false =>
    obtain ⟨e1, e2, e3, e4⟩ := h4 rfl
    refine .inr ⟨?_, ?_⟩
    · show some (a'.1, a'.2.1) = _
      rw [e1, e2]
    · show some (b'.2.1, b'.2.2.1) = _
      rw [e3, e4]
/-- The difference, from both sides. -/
theorem diff_both {l : List (Int × Int)} (hl : l.length ≤ 4294967296) (ha : l.all okP = true) {r : Int × Int} (hr : vR r = true) :
    (∃ p, vR p = true ∧ diffI (l, r) = some (p, 0) ∧ diffS (l, r) = some (p, true)) ∨ (diffI (l, r) = some ((0, 0), 2) ∧ diffS (l, r) = some ((0, 0), false)) := by
  unfold diffI diffS
  dsimp only
  rcases trainRat_both hl ha with ⟨q, hq, e1, e2⟩ | ⟨e1, e2⟩
  · rw [e1, e2]
    obtain ⟨q1, q2, q3, q4⟩ := vR_bd hq
    have va := vR_abs hq
    have e3 : absI q.1 = some (absN q.1) := absI_eq q3 q4
    have e5 : subRatI ((absN q.1, q.2), r.1, r.2) = some (ratF (absN q.1 * r.2 - r.1 * q.2) (q.2 * r.2)) := by
      have := subRatI_eq (absN q.1, q.2) r
      rw [if_pos ⟨va, hr⟩] at this; exact this
    have e6 : addS ((absN q.1, q.2), -r.1, r.2) = some (redF (absN q.1 * r.2 + -r.1 * q.2) (q.2 * r.2)) := addS_eq va (vR_neg hr)
    have e7 : negS (r.1, r.2) = some (-r.1, r.2) := negS_eq hr
    have e8 : absN q.1 * r.2 + -r.1 * q.2 = absN q.1 * r.2 - r.1 * q.2 := by rw [Int.neg_mul]; rfl
    have hd : q.2 * r.2 ≠ 0 := by
      have := pp1 q1 (vR_bd hr).1
      omega
    simp only [ob_s, size_eq, e3, e5, e7, bne_self_eq_false, Bool.not_true, br, e6, e8]
    unfold ratF redF
    cases hm : mkR (absN q.1 * r.2 - r.1 * q.2) (q.2 * r.2) with
    | none => exact .inr ⟨rfl, rfl⟩
    | some p => exact .inl ⟨p, mkR_valid hd hm, rfl, rfl⟩
  · rw [e1, e2]
    exact .inr ⟨rfl, rfl⟩
theorem error_both {l : List (Int × Int)} (hl : l.length ≤ 4294967296) (r : Int × Int) : ∃ v, errorI (l, r) = some v ∧ errorS (l, r) = some v := by
  unfold errorI errorS
  dsimp only
  rw [validTrainI_eq hl, okTrainS_eq hl, validRatI_eq, okRatS_eq]
  simp only [ob_s]
  cases ha : (l.all okP && decide ((l.length : Int) ≤ 5)) with
  | false => exact ⟨_, rfl, rfl⟩
  | true =>
    cases hr : vR r with
    | false =>
      exact ⟨_, rfl, rfl⟩
    | true =>
      rw [Bool.and_eq_true] at ha
      simp only [Bool.not_true, br]
      rcases diff_both hl ha.1 hr with ⟨p, hp, e1, e2⟩ | ⟨e1, e2⟩
      · obtain ⟨p1, p2, p3, p4⟩ := vR_bd hp
        have e1' : diffI (l, r.1, r.2) = some (p, 0) := e1
        have e2' : diffS (l, r.1, r.2) = some (p, true) := e2
        rw [e1', e2']
        simp only [ob_s, size_eq, absI_eq p3 p4, Bool.not_true]
        exact ⟨_, rfl, rfl⟩
      · have e1' : diffI (l, r.1, r.2) = some ((0, 0), 2) := e1
        have e2' : diffS (l, r.1, r.2) = some ((0, 0), false) := e2
        rw [e1', e2']
        exact ⟨((0, 0), 2), rfl, rfl⟩
theorem eqRatLT_self (r : Int × Int) : eqRatLT (r, r) = some true := by
  unfold eqRatLT
  simp only [bne_self_eq_false, br]
/-! ### The drift -/
end Rx
end Go.Proofs.YthfgpnpoocepeaaGreat
