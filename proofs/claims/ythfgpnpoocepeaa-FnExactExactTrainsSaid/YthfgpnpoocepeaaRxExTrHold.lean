/- The law of exact trains. No program in sight. -/
import Derived.Test.YthfgpnpoocepeaaRxExTr
import Derived.Test.YthfgpnpoocepeaaRxExTrEnd
import Derived.Test.YthfgpnpoocepeaaRxPMarkLaw
namespace Go.Proofs.Ythfgpnpoocepeaa
namespace Rx
open Go

noncomputable section
abbrev fPs : Int → List (Int × Int) → List (Int × Int) := fun k y => scanL fPx gPx y k
abbrev gPs : Int → List (Int × Int) → Int := fun k y => k + 2 * (y.length : Int)
theorem gPs_bd {l : List (List (Int × Int))} (hs : ∀ a ∈ l, a.length ≤ 3) (k : Int) (y : List (Int × Int)) (hy : y ∈ l) : k ≤ gPs k y ∧ gPs k y ≤ k + 6 := by
  have := hs y hy
  show k ≤ k + 2 * (y.length : Int) ∧ k + 2 * (y.length : Int) ≤ _
  omega
theorem eqPairSS_self {l : List (List (Int × Int))} (hl : l.length ≤ 40) (hs : ∀ a ∈ l, a.length ≤ 3) : eqPairSS (l, l) = some true := by
  obtain ⟨i', h⟩ := eq_loop (l := l) (step := eqPairSSL_step) (by omega) (fun i b y h0 h1 hy => by
    have := hs y (idx_mem hy)
    unfold eqPairSSL_step
    dsimp only
    rw [br_t (by simpa using h1), hy, ob_s, ob_s, eqPairS_self (by omega), ob_s, br_f (c := !true) rfl, w64 (by omega) (by omega)]) (fun i b h => by
    unfold eqPairSSL_step
    dsimp only
    rw [br_f (by simpa using h)]) false
  have h' : eqPairSSL (l, l, false, 0) = some (true, (l, l, false, i')) := h
  unfold eqPairSS
  dsimp only
  rw [br_f (by simp), h']
  rfl
theorem markPairSS_eq {l : List (List (Int × Int))} (hl : l.length ≤ 40) (hs : ∀ a ∈ l, a.length ≤ 3) : markPairSS (l, 1) = some (scanK gPs l 1, scanL fPs gPs l 1, 1) := by
  have h := scan_loop (step := markPairSSL_step) (f := fPs) (g := gPs) (c := 6) (by omega) (l := l) (by omega) (k0 := 1) (by omega) (gPs_bd hs)
    (fun l' k i y hl' h0 h1 k0 k1 hm hy hy2 => by
      have := hs y hm
      unfold markPairSSL_step
      dsimp only
      rw [br_t (by simp; omega), hy, ob_s, gi, hy2, ob_s, markPairX_eq (by omega) ⟨by omega, by omega⟩, ob_s, scanK_Px, w64 (by omega) (by omega)])
    (fun l' k i hl' hi => by
      unfold markPairSSL_step
      dsimp only
      rw [br_f (by simp; omega)]) (n := l.length - (0 : Int).toNat + 1) (by simp)
  have h' : markPairSSL (l, 1, 0) = some (scanL fPs gPs l 1, scanK gPs l 1, (l.length : Int)) := h
  unfold markPairSS
  rw [h']; rfl
theorem heldPairSS_eq {l : List (List (Int × Int))} (hl : l.length ≤ 40) (hs : ∀ a ∈ l, a.length ≤ 3) : heldPairSS (scanL fPs gPs l 1, 1) = some (scanK gPs l 1) := by
  have hlen := scanL_len fPs gPs l 1
  have h := scan_held (step := heldPairSSL_step) (f := fPs) (g := gPs) (c := 6) (by omega) (l := l) (by omega) (k0 := 1) (by omega) (gPs_bd hs)
    (fun k' r i y h0 h1 k0 k1 hm hy => by
      have := hs y hm
      unfold heldPairSSL_step
      dsimp only
      rw [br_t (by simp; omega), hy, ob_s, heldPairX_eq (by omega) ⟨by omega, by omega⟩, ob_s, scanK_Px, br_f (by simp; omega), w64 (by omega) (by omega)])
    (fun k' r i hi => by
      unfold heldPairSSL_step
      dsimp only
      rw [br_f (by simp; omega)]) 0 (n := (scanL fPs gPs l 1).length - (0 : Int).toNat + 1) (by rw [hlen]; simp)
  have h' : heldPairSSL (scanL fPs gPs l 1, 1, 0, 0) = some (true, (scanL fPs gPs l 1, scanK gPs l 1, 0, (l.length : Int))) := h
  unfold heldPairSS
  rw [h']; rfl
theorem lawExTr_holds (x : (Int × Int) × Int × Int × Int × Int × Int) : lawExTr x = some true := by
  obtain ⟨r, x⟩ := x
  obtain ⟨⟨l, c⟩, e1, e2, h40, h3⟩ := exact_both r x
  have b1 := scanK_bd (g := gPs) (c := 6) (by omega) l 1 (gPs_bd h3)
  have ht : ∀ x, toRatLT x = some x := fun x => rfl
  have hm : ∀ x, toLimL x = some x := fun x => rfl
  unfold lawExTr
  dsimp only
  simp only [ht, hm, ob_s]
  rw [show exactTS ((r.1, r.2), x.1, x.2.1, x.2.2.1, x.2.2.2.1, x.2.2.2.2) = _ from e2, show exactI ((r.1, r.2), x.1, x.2.1, x.2.2.1, x.2.2.2.1, x.2.2.2.2) = _ from e1]
  simp only [ob_s, eqPairSS_self h40 h3, markPairSS_eq h40 h3, heldPairSS_eq h40 h3]
  rw [br_f (c := !true) rfl, br_f (by simp), br_f (by simp; omega), br_f (by simp), br_f (c := !true) rfl, br_f (by simp), br_f (by simp; omega), br_f (by simp)]
end
end Rx
end Go.Proofs.Ythfgpnpoocepeaa
