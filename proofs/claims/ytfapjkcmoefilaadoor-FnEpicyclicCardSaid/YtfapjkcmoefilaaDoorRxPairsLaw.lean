/- Lists of pairs of teeth: what the laws make of them. No program in sight. -/
import Derived.Test.YtfapjkcmoefilaaDoorRxPlain
import Derived.Test.YtfapjkcmoefilaaDoorRxPairs
namespace Go.Proofs.YtfapjkcmoefilaaDoor
namespace Rx
open Go

theorem toPairS_eq {l : List (Int × Int)} (h : l.length ≤ 1048576) : toPairS l = some l := by
  have hc := copy_loop (step := toPairSL_step) (f := fun y => y) (l := l) (by omega) (fun o i y z hol h0 h1 hy hz hz2 => by
    show br (decide (i < (l.length : Int))) (ob (idx l i) fun y => ob (idx o i) fun x_1 => ob (o[i.toNat]?) fun x_2 => some (LRes.next, l, o.set i.toNat y, IntKind.i64.wrap (i + 1))) _ = _
    rw [br_t (by simpa using h1), hy, hz, hz2]
    show some (LRes.next, l, o.set i.toNat y, IntKind.i64.wrap (i + 1)) = _
    rw [w64 (by omega) (by omega)]) (fun o i _ hi => by
    show br (decide (i < (l.length : Int))) _ _ = _
    rw [br_f (by simpa using hi)]) (o := List.replicate (l.length : Int).toNat ((0 : Int), (0 : Int))) (by simp)
  have hc' : toPairSL (l, List.replicate (l.length : Int).toNat ((0 : Int), (0 : Int)), 0) = some (l, l.map (fun y => y), (l.length : Int)) := hc
  unfold toPairS
  rw [br_t (by simp; omega), hc']
  show some (l.map fun y => y) = some l
  rw [List.map_id']
theorem szPairS_cases (l : List (Int × Int)) (h : l.length ≤ maxLen) : szPairS (l, 1048576) = some (-1) ∨ (l.length ≤ 1048576 ∧ ∃ k, szPairS (l, 1048576) = some k ∧ 0 ≤ k) := by
  have hm : l.length ≤ 9223372036854775807 := by simp only [maxLen] at h; omega
  show br (decide (IntKind.i64.wrap (1048576 - (l.length : Int)) < 0)) _ (some (IntKind.i64.wrap (1048576 - (l.length : Int)))) = _ ∨ (_ ∧ ∃ k, br (decide (IntKind.i64.wrap (1048576 - (l.length : Int)) < 0)) _ (some (IntKind.i64.wrap (1048576 - (l.length : Int)))) = _ ∧ _)
  rw [w64 (by omega) (by omega)]
  by_cases hl : l.length ≤ 1048576
  · right
    rw [br_f (by simp; omega)]
    exact ⟨hl, _, rfl, by omega⟩
  · left
    rw [br_t (by simp; omega)]
theorem szPairS_two {l : List (Int × Int)} (h : l.length ≤ maxLen) {k : Int} (h0 : 0 ≤ k) (h1 : k ≤ 1048576) : szPairS (l, k) = some (-1) ∨ (l.length ≤ 1048576 ∧ szPairS (l, k) = some (k - l.length) ∧ 0 ≤ k - l.length) := by
  have hm : l.length ≤ 9223372036854775807 := by simp only [maxLen] at h; omega
  show br (decide (IntKind.i64.wrap (k - (l.length : Int)) < 0)) _ (some (IntKind.i64.wrap (k - (l.length : Int)))) = _ ∨ (_ ∧ br (decide (IntKind.i64.wrap (k - (l.length : Int)) < 0)) _ (some (IntKind.i64.wrap (k - (l.length : Int)))) = _ ∧ _)
  rw [w64 (by omega) (by omega)]
  by_cases hl : (l.length : Int) ≤ k
  · right
    rw [br_f (by simp; omega)]
    exact ⟨by omega, rfl, by omega⟩
  · left
    rw [br_t (by simp; omega)]
theorem eqPairL_self (e : Int × Int) : eqPairL (e, e) = some true := by
  unfold eqPairL
  simp only [bne_self_eq_false, br]
theorem eqPairS_self {l : List (Int × Int)} (hl : l.length ≤ 4294967296) : eqPairS (l, l) = some true := by
  obtain ⟨i', h⟩ := eq_loop (step := eqPairSL_step) hl (fun i b y h0 h1 hy => by
    show br (decide (i < (l.length : Int))) (ob (idx l i) fun y => ob (idx l i) fun y_1 => ob (eqPairL (y, y_1)) fun y => br (!y) _ (some (LRes.next, l, l, b, IntKind.i64.wrap (i + 1)))) _ = _
    rw [br_t (by simpa using h1), hy]
    show ob (eqPairL (y, y)) _ = _
    rw [eqPairL_self]
    show some (LRes.next, l, l, b, IntKind.i64.wrap (i + 1)) = _
    rw [w64 (by omega) (by omega)]) (fun i b h => by
    show br (decide (i < (l.length : Int))) _ _ = _
    rw [br_f (by simpa using h)]) false
  have h' : eqPairSL (l, l, false, 0) = some (true, (l, l, false, i')) := h
  show br ((l.length : Int) != (l.length : Int)) _ (ob (eqPairSL (l, l, false, 0)) _) = _
  rw [br_f (by simp), h']
  rfl
end Rx
end Go.Proofs.YtfapjkcmoefilaaDoor
