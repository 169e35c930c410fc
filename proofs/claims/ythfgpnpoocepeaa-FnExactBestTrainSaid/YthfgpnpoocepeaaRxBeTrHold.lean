/- The law of the best train. No program in sight. -/
import Derived.Test.YthfgpnpoocepeaaRxBeTr
import Derived.Test.YthfgpnpoocepeaaRxBestBoth
import Derived.Test.YthfgpnpoocepeaaRxPMarkLaw
namespace Go.Proofs.Ythfgpnpoocepeaa
namespace Rx
open Go

noncomputable section
theorem eqFoundB_self (f : List (Int × Int) × Int × Int) (h : f.1.length ≤ 3) : eqFoundB (f, f) = some true := by
  unfold eqFoundB
  dsimp only
  rw [eqPairS_self (by omega), ob_s, br_f (c := !true) rfl, show eqRatLT ((f.2.1, f.2.2), f.2.1, f.2.2) = some true from eqRatLT_self f.2, ob_s, br_f (c := !true) rfl]
theorem markFoundB_eq (f : List (Int × Int) × Int × Int) (h : f.1.length ≤ 3) : markFoundB (f, 1) = some (scanK gPx f.1 1, (scanL fPx gPx f.1 1, f.2), 1) := by
  unfold markFoundB
  dsimp only
  rw [markPairX_eq (by omega) ⟨by omega, by omega⟩, ob_s]
theorem heldFoundB_eq (f : List (Int × Int) × Int × Int) (h : f.1.length ≤ 3) : heldFoundB ((scanL fPx gPx f.1 1, f.2), 1) = some (scanK gPx f.1 1) := by
  unfold heldFoundB
  dsimp only
  rw [heldPairX_eq (by omega) ⟨by omega, by omega⟩, ob_s, scanK_Px, br_f (by simp; omega)]
theorem lawBeTr_holds (x : (Int × Int) × Int × Int × Int × Int × Int) : lawBeTr x = some true := by
  obtain ⟨r, x⟩ := x
  obtain ⟨⟨f, c⟩, e1, e2, h3⟩ := bestT_both r x
  have ht : ∀ x, toRatLT x = some x := fun x => rfl
  have hm : ∀ x, toLimL x = some x := fun x => rfl
  have m1 := markFoundB_eq f h3
  have m2 := heldFoundB_eq f h3
  have m3 := eqFoundB_self f h3
  unfold lawBeTr
  dsimp only
  simp only [ht, hm, ob_s]
  rw [show bestTS ((r.1, r.2), x.1, x.2.1, x.2.2.1, x.2.2.2.1, x.2.2.2.2) = _ from e2, show bestTI ((r.1, r.2), x.1, x.2.1, x.2.2.1, x.2.2.2.1, x.2.2.2.2) = _ from e1]
  simp only [ob_s]
  rw [show eqFoundB ((f.1, f.2.1, f.2.2), f.1, f.2.1, f.2.2) = some true from m3, ob_s, br_f (c := !true) rfl, br_f (by simp), show markFoundB ((f.1, f.2.1, f.2.2), 1) = _ from m1, ob_s]
  dsimp only
  rw [show heldFoundB ((scanL fPx gPx f.1 1, f.2.1, f.2.2), 1) = _ from m2, ob_s, br_f (by rw [scanK_Px]; simp; omega), br_f (by simp), ob_s, br_f (c := !true) rfl, br_f (by simp), ob_s, br_f (by rw [scanK_Px]; simp; omega), br_f (by simp)]
end
end Rx
end Go.Proofs.Ythfgpnpoocepeaa
