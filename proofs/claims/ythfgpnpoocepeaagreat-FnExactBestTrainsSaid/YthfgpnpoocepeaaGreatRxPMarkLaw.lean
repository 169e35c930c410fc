/- Marks in trains. No program in sight. -/
import Derived.Test.YthfgpnpoocepeaaGreatRxPMark
import Derived.Test.YthfgpnpoocepeaaGreatRxScan
namespace Go.Proofs.YthfgpnpoocepeaaGreat
namespace Rx
open Go

noncomputable section
abbrev fPx : Int → Int × Int → Int × Int := fun k _ => (k, k + 1)
abbrev gPx : Int → Int × Int → Int := fun k _ => k + 2
theorem gPx_bd (k : Int) (y : Int × Int) : k ≤ gPx k y ∧ gPx k y ≤ k + 2 := ⟨by show k ≤ k + 2; omega, Int.le_refl _⟩
theorem scanK_Px : ∀ (l : List (Int × Int)) (k : Int), scanK gPx l k = k + 2 * l.length
  | [], k => by unfold scanK; simp
  | y :: l, k => by
    unfold scanK
    rw [scanK_Px l]
    show k + 2 + _ = _
    rw [List.length_cons]; omega
theorem markPairX_eq {l : List (Int × Int)} (hl : l.length ≤ 1048576) {k0 : Int} (hk : 0 ≤ k0 ∧ k0 ≤ 1000000000000000) : markPairX (l, k0) = some (scanK gPx l k0, scanL fPx gPx l k0, k0) := by
  have h := scan_loop (step := markPairXL_step) (f := fPx) (g := gPx) (c := 2) (by omega) hl (k0 := k0) (by omega) (fun k y _ => gPx_bd k y)
    (fun l' k i y hl' h0 h1 k0 k1 _ hy hy2 => by
      have e1 : idx (l'.set i.toNat (k, y.2)) i = some (k, y.2) := idx_set h0 (by omega)
      have e2 : (l'.set i.toNat (k, y.2))[i.toNat]? = some (k, y.2) := get_set (by omega)
      show br (decide (i < (l'.length : Int))) (ob (idx l' i) fun _ => ob (l'[i.toNat]?) fun x_2 => ob (idx (l'.set i.toNat (k, x_2.2)) i) fun _ => ob ((l'.set i.toNat (k, x_2.2))[i.toNat]?) fun x_4 => some (LRes.next, (l'.set i.toNat (k, x_2.2)).set i.toNat (x_4.1, IntKind.i64.wrap (k + 1)), IntKind.i64.wrap (IntKind.i64.wrap (k + 1) + 1), IntKind.i64.wrap (i + 1))) _ = _
      rw [br_t (by simp; omega), hy, hy2, ob_s, ob_s, e1, e2, ob_s, ob_s, w64 (x := k + 1) (by omega) (by omega), w64 (x := k + 1 + 1) (by omega) (by omega), w64 (x := i + 1) (by omega) (by omega), List.set_set, show k + 1 + 1 = k + 2 by omega])
    (fun l' k i hl' hi => by
      show br (decide (i < (l'.length : Int))) _ _ = _
      rw [br_f (by simp; omega)]) (n := l.length - (0 : Int).toNat + 1) (by simp)
  have h' : markPairXL (l, k0, 0) = some (scanL fPx gPx l k0, scanK gPx l k0, (l.length : Int)) := h
  unfold markPairX
  rw [h']; rfl
theorem heldPairX_eq {l : List (Int × Int)} (hl : l.length ≤ 1048576) {k0 : Int} (hk : 0 ≤ k0 ∧ k0 ≤ 1000000000000000) : heldPairX (scanL fPx gPx l k0, k0) = some (scanK gPx l k0) := by
  have hlen := scanL_len fPx gPx l k0
  have h := scan_held (step := heldPairXL_step) (f := fPx) (g := gPx) (c := 2) (by omega) hl (k0 := k0) (by omega) (fun k y _ => gPx_bd k y)
    (fun k' r i y h0 h1 k1 k2 _ hy => by
      show br (decide (i < ((scanL fPx gPx l k0).length : Int))) (ob (idx (scanL fPx gPx l k0) i) fun y => br (y.1 != k') _ (ob (idx (scanL fPx gPx l k0) i) fun y => br (y.2 != IntKind.i64.wrap (k' + 1)) _ (some (LRes.next, scanL fPx gPx l k0, IntKind.i64.wrap (IntKind.i64.wrap (k' + 1) + 1), r, IntKind.i64.wrap (i + 1))))) _ = _
      rw [br_t (by simp; omega), hy, ob_s, br_f (by simp), ob_s, w64 (x := k' + 1) (by omega) (by omega), br_f (by simp), w64 (x := k' + 1 + 1) (by omega) (by omega), w64 (x := i + 1) (by omega) (by omega), show k' + 1 + 1 = k' + 2 by omega])
    (fun k' r i hi => by
      show br (decide (i < ((scanL fPx gPx l k0).length : Int))) _ _ = _
      rw [br_f (by simp; omega)]) 0 (n := (scanL fPx gPx l k0).length - (0 : Int).toNat + 1) (by rw [hlen]; simp)
  have h' : heldPairXL (scanL fPx gPx l k0, k0, 0, 0) = some (true, (scanL fPx gPx l k0, scanK gPx l k0, 0, (l.length : Int))) := h
  unfold heldPairX
  rw [h']; rfl
end
end Rx
end Go.Proofs.YthfgpnpoocepeaaGreat
