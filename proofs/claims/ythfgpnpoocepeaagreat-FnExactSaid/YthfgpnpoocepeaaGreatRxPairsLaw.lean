/- Lists of pairs of teeth: what the laws make of them. No program in sight. -/
import Derived.Test.YthfgpnpoocepeaaGreatRxPlain
import Derived.Test.YthfgpnpoocepeaaGreatRxPairs
namespace Go.Proofs.YthfgpnpoocepeaaGreat
namespace Rx
open Go

theorem eqPairL_self (e : Int × Int) : eqPairL (e, e) = some true := by
  unfold eqPairL
  simp only [bne_self_eq_false, br]
theorem eqPairS_self {l : List (Int × Int)} (hl : l.length ≤ 4294967296) : eqPairS (l, l) = some true := by
  obtain ⟨i', h⟩ := eq_loop (step := eqPairSL_step) hl (fun i b y h0 h1 hy => by
    show br (decide (i < (l.length : Int))) (ob (idx l i) fun y => ob (idx l i) fun y_1 => ob (eqPairL (y, y_1)) fun y => br (!y) _ (some (LRes.next, l, l, b, IntKind.i64.wrap (i + 1)))) _ = _
    rw [br_t (by simpa using h1), hy]
    show ob (eqPairL (y, y)) _ = _
    rw [eqPairL_self]
    show some (LRes.next, l, l, b, IntKind.i64.wrap (i + 1)) = _
    rw [w64 (by omega) (by omega)]) (fun i b h => by
    show br (decide (i < (l.length : Int))) _ _ = _
    rw [br_f (by simpa using h)]) false
  have h' : eqPairSL (l, l, false, 0) = some (true, (l, l, false, i')) := h
  show br ((l.length : Int) != (l.length : Int)) _ (ob (eqPairSL (l, l, false, 0)) _) = _
  rw [br_f (by simp), h']
  rfl
end Rx
end Go.Proofs.YthfgpnpoocepeaaGreat
