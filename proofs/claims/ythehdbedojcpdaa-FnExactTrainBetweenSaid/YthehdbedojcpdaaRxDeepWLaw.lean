/- Works whose rows lie in memory of their own: what the laws make of them and mark in them, in plain terms. No program in sight. -/
import Derived.Test.YthehdbedojcpdaaRxWorksLaw
import Derived.Test.YthehdbedojcpdaaRxScan
import Derived.Test.YthehdbedojcpdaaRxDeepW
namespace Go.Proofs.Ythehdbedojcpdaa
namespace Rx
open Go

/-! Marks that are texts -/
theorem bytesOf_one' (n : Int) : (bytesOf [n]).size = 1 := rfl
theorem markTxtL_tot : ∀ (n : Nat) (k : Int) (s : ByteArray), k.toNat < n → 0 ≤ k → (s.size : Int) + k ≤ 400000000000000 → ∃ r : ByteArray, iterP markTextL_step n (k, s) = some (0, r) ∧ (r.size : Int) ≤ s.size + k
  | 0, _, _, h, _, _ => by omega
  | n + 1, k, s, h, h0, hb => by
    show ∃ r, ob (markTextL_step (k, s)) _ = _ ∧ _
    by_cases hk : 0 < k
    · have hd : k.tdiv 10 = k / 10 := Int.tdiv_eq_ediv_of_nonneg h0
      have e : markTextL_step (k, s) = some (LRes.next, k / 10, bytesOf [IntKind.u8.wrap (IntKind.i64.wrap (48 + k.tmod 10))] ++ s) := by
        show br (decide (0 < k)) (br (decide (_ + s.size ≤ 9223372036854775807)) _ none) _ = _
        rw [br_t (by simpa using hk), bytesOf_one', br_t (by simp; omega), hd, w64 (by omega) (by omega)]
      rw [e]
      have hsz : ((bytesOf [IntKind.u8.wrap (IntKind.i64.wrap (48 + k.tmod 10))] ++ s).size : Int) = 1 + s.size := by
        rw [ByteArray.size_append, bytesOf_one']; omega
      obtain ⟨r, h1, h2⟩ := markTxtL_tot n (k / 10) (bytesOf [IntKind.u8.wrap (IntKind.i64.wrap (48 + k.tmod 10))] ++ s) (by omega) (by omega) (by omega)
      exact ⟨r, h1, by omega⟩
    · have : k = 0 := by omega
      subst this
      exact ⟨s, rfl, by omega⟩
theorem markTxt_tot (k : Int) (h : k ≤ 200000000000000) : ∃ t, markText k = some t := by
  show ∃ t, br (decide (k ≤ 0)) _ (ob (markTextL (k, _)) _) = _
  by_cases hk : k ≤ 0
  · rw [br_t (by simpa using hk)]; exact ⟨_, rfl⟩
  · rw [br_f (by simpa using hk)]
    obtain ⟨r, h1, h2⟩ := markTxtL_tot (k.toNat + 1) k ⟨⟨[]⟩⟩ (by omega) (by omega) (by show ((0 : Nat) : Int) + k ≤ _; omega)
    have h1' : markTextL (k, ⟨⟨[]⟩⟩) = some (0, r) := h1
    rw [h1']
    have h2' : (r.size : Int) ≤ ((0 : Nat) : Int) + k := h2
    show ∃ t, br (decide (1 + r.size ≤ 9223372036854775807)) _ none = _
    rw [br_t (by simp; omega)]
    exact ⟨_, rfl⟩
noncomputable def txtOf (k : Int) : ByteArray := (markText k).getD ⟨⟨[]⟩⟩
theorem markTxt_eq {k : Int} (h : k ≤ 200000000000000) : markText k = some (txtOf k) := by
  obtain ⟨t, ht⟩ := markTxt_tot k h
  unfold txtOf
  rw [ht]; rfl

/-! Copies -/
theorem toArborDS_eq {l : List ArborD} (h : l.length ≤ 1048576) (hs : ∀ a ∈ l, a.2.length ≤ 1048576) : toArborDS l = some l := by
  have hc := copy_loop (step := toArborDL_step) (f := fun y => y) (l := l) (by omega) (fun o i y z hol h0 h1 hy hz hz2 => by
    have hm : y ∈ l := mem_idx hy
    have e : toArborD (y.1, y.2) = some y := by
      unfold toArborD
      rw [toIntS_eq (hs y hm)]; rfl
    show br (decide (i < (l.length : Int))) (ob (idx l i) fun y => ob (toArborD (y.1, y.2)) fun y => ob (idx o i) fun x_1 => ob (o[i.toNat]?) fun x_2 => some (LRes.next, l, o.set i.toNat y, IntKind.i64.wrap (i + 1))) _ = _
    rw [br_t (by simpa using h1), hy, ob_s, e, hz, hz2]
    show some (LRes.next, l, o.set i.toNat y, IntKind.i64.wrap (i + 1)) = _
    rw [w64 (by omega) (by omega)]) (fun o i _ hi => by
    show br (decide (i < (l.length : Int))) _ _ = _
    rw [br_f (by simpa using hi)]) (o := List.replicate (l.length : Int).toNat ((⟨⟨[]⟩⟩ : ByteArray), [])) (by simp)
  have hc' : toArborDL (l, List.replicate (l.length : Int).toNat ((⟨⟨[]⟩⟩ : ByteArray), []), 0) = some (l, l.map (fun y => y), (l.length : Int)) := hc
  unfold toArborDS
  rw [br_t (by simp; omega), hc']
  show some (l.map fun y => y) = some l
  rw [List.map_id']
theorem toWorksD_eq {w : WorksD} (h : smallW w) : toWorksD w = some w := by
  unfold toWorksD
  rw [toArborDS_eq h.1 h.2.1, ob_s, toMeshS_eq h.2.2]; rfl

/-! Marks of numbers -/
abbrev fI : Int → Int → Int := fun k _ => k
abbrev gI : Int → Int → Int := fun k _ => k + 1
theorem scanK_I : ∀ (l : List Int) (k : Int), scanK gI l k = k + l.length
  | [], k => by simp [scanK]
  | y :: l, k => by
    unfold scanK
    rw [scanK_I l, List.length_cons]
    show k + 1 + _ = _
    push_cast; omega
theorem markIntD_eq {l : List Int} (hl : l.length ≤ 1048576) {k : Int} (hk : 0 ≤ k ∧ k ≤ 10000000000000) : markIntD (l, k) = some (k + l.length, scanL fI gI l k, k) := by
  have h := scan_loop (step := markIntDL_step) (f := fI) (g := gI) (c := 1) (by omega) hl hk.1 (fun k y _ => ⟨by show k ≤ k + 1; omega, Int.le_refl _⟩)
    (fun l' k i y hl' h0 h1 k0 k1 _ hy hy2 => by
      show br (decide (i < (l'.length : Int))) (ob (idx l' i) fun _ => ob (l'[i.toNat]?) fun _ => some (LRes.next, l'.set i.toNat k, IntKind.i64.wrap (k + 1), IntKind.i64.wrap (i + 1))) _ = _
      rw [br_t (by simp; omega), hy, hy2, w64 (x := k + 1) (by omega) (by omega), w64 (x := i + 1) (by omega) (by omega)]; rfl)
    (fun l' k i hl' hi => by
      show br (decide (i < (l'.length : Int))) _ _ = _
      rw [br_f (by simp; omega)]) (n := l.length - (0 : Int).toNat + 1) (by simp)
  have h' : markIntDL (l, k, 0) = some (scanL fI gI l k, scanK gI l k, (l.length : Int)) := h
  unfold markIntD
  rw [h', scanK_I]; rfl
theorem heldIntD_eq {l : List Int} (hl : l.length ≤ 1048576) {k : Int} (hk : 0 ≤ k ∧ k ≤ 10000000000000) : heldIntD (scanL fI gI l k, k) = some (k + l.length) := by
  have hlen := scanL_len fI gI l k
  have h := scan_held (step := heldIntDL_step) (f := fI) (g := gI) (c := 1) (by omega) hl hk.1 (fun k y _ => ⟨by show k ≤ k + 1; omega, Int.le_refl _⟩)
    (fun k' r i y h0 h1 k0 k1 _ hy => by
      show br (decide (i < ((scanL fI gI l k).length : Int))) (ob (idx (scanL fI gI l k) i) fun y => br (y != k') _ (some (LRes.next, scanL fI gI l k, IntKind.i64.wrap (k' + 1), r, IntKind.i64.wrap (i + 1)))) _ = _
      rw [br_t (by simp; omega), hy, ob_s, br_f (by simp [fI]), w64 (x := k' + 1) (by omega) (by omega), w64 (x := i + 1) (by omega) (by omega)])
    (fun k' r i hi => by
      show br (decide (i < ((scanL fI gI l k).length : Int))) _ _ = _
      rw [br_f (by simp; omega)]) 0 (n := (scanL fI gI l k).length - (0 : Int).toNat + 1) (by rw [hlen]; simp)
  have h' : heldIntDL (scanL fI gI l k, k, 0, 0) = some (true, (scanL fI gI l k, scanK gI l k, 0, (l.length : Int))) := h
  unfold heldIntD
  rw [h', scanK_I]; rfl

/-! Marks of arbors -/
noncomputable abbrev fA : Int → ArborD → ArborD := fun k y => (txtOf k, scanL fI gI y.2 (k + 1))
abbrev gA : Int → ArborD → Int := fun k y => k + 1 + (y.2.length : Int)
theorem gA_bd {l : List ArborD} (hs : ∀ a ∈ l, a.2.length ≤ 1048576) (k : Int) (y : ArborD) (hy : y ∈ l) : k ≤ gA k y ∧ gA k y ≤ k + 1048577 := by
  have := hs y hy
  show k ≤ k + 1 + _ ∧ k + 1 + (y.2.length : Int) ≤ _
  omega
theorem scanA_bd {l : List ArborD} (hl : l.length ≤ 1048576) (hs : ∀ a ∈ l, a.2.length ≤ 1048576) (k : Int) : k ≤ scanK gA l k ∧ scanK gA l k ≤ k + 1100000000000 := by
  have h := scanK_bd (c := 1048577) (by omega) l k (gA_bd hs)
  omega
theorem markArborD_eq {l : List ArborD} (hl : l.length ≤ 1048576) (hs : ∀ a ∈ l, a.2.length ≤ 1048576) {k : Int} (hk : 0 ≤ k ∧ k ≤ 1000000000000) : markArborD (l, k) = some (scanK gA l k, scanL fA gA l k, k) := by
  have h := scan_loop (step := markArborL_step) (f := fA) (g := gA) (c := 1048577) (by omega) hl hk.1 (gA_bd hs)
    (fun l' k i y hl' h0 h1 k0 k1 hm hy hy2 => by
      have := hs y hm
      show br (decide (i < (l'.length : Int))) (ob (markText k) fun z => ob (idx l' i) fun _ => ob (l'[i.toNat]?) fun y => ob (idx l' i) fun _ => br (decide (i.toNat = i.toNat)) (ob (markIntD (y.2, IntKind.i64.wrap (k + 1))) fun u => some (LRes.next, l'.set i.toNat (z, u.snd.1), u.1, IntKind.i64.wrap (i + 1))) none) _ = _
      rw [br_t (by simp; omega), markTxt_eq (by omega), hy, hy2, ob_s, ob_s, ob_s, ob_s, br_t (by simp), w64 (x := k + 1) (by omega) (by omega), w64 (x := i + 1) (by omega) (by omega)]
      have e : markIntD (y.2, k + 1) = some (k + 1 + y.2.length, scanL fI gI y.2 (k + 1), k + 1) := markIntD_eq this ⟨by omega, by omega⟩
      rw [e]; rfl)
    (fun l' k i hl' hi => by
      show br (decide (i < (l'.length : Int))) _ _ = _
      rw [br_f (by simp; omega)]) (n := l.length - (0 : Int).toNat + 1) (by simp)
  have h' : markArborL (l, k, 0) = some (scanL fA gA l k, scanK gA l k, (l.length : Int)) := h
  unfold markArborD
  rw [h']; rfl
theorem heldArborD_eq {l : List ArborD} (hl : l.length ≤ 1048576) (hs : ∀ a ∈ l, a.2.length ≤ 1048576) {k : Int} (hk : 0 ≤ k ∧ k ≤ 1000000000000) : heldArborD (scanL fA gA l k, k) = some (scanK gA l k) := by
  have hlen := scanL_len fA gA l k
  have h := scan_held (step := heldArborL_step) (f := fA) (g := gA) (c := 1048577) (by omega) hl hk.1 (gA_bd hs)
    (fun k' r i y h0 h1 k0 k1 hm hy => by
      have := hs y hm
      have e : heldIntD (scanL fI gI y.2 (k' + 1), k' + 1) = some (k' + 1 + y.2.length) := heldIntD_eq this ⟨by omega, by omega⟩
      show br (decide (i < ((scanL fA gA l k).length : Int))) (ob (idx (scanL fA gA l k) i) fun y => ob (markText k') fun z => br (!(y.1.toList == z.toList)) _ (ob (idx (scanL fA gA l k) i) fun y => ob (heldIntD (y.2, IntKind.i64.wrap (k' + 1))) fun u => br (decide (u < 0)) _ (some (LRes.next, scanL fA gA l k, u, r, IntKind.i64.wrap (i + 1))))) _ = _
      rw [br_t (by simp; omega), hy, ob_s, markTxt_eq (by omega), ob_s, br_f (by simp), ob_s, w64 (x := k' + 1) (by omega) (by omega), w64 (x := i + 1) (by omega) (by omega)]
      show ob (heldIntD (scanL fI gI y.2 (k' + 1), k' + 1)) _ = _
      rw [e, ob_s, br_f (by simp; omega)])
    (fun k' r i hi => by
      show br (decide (i < ((scanL fA gA l k).length : Int))) _ _ = _
      rw [br_f (by simp; omega)]) 0 (n := (scanL fA gA l k).length - (0 : Int).toNat + 1) (by rw [hlen]; simp)
  have h' : heldArborL (scanL fA gA l k, k, 0, 0) = some (true, (scanL fA gA l k, scanK gA l k, 0, (l.length : Int))) := h
  unfold heldArborD
  rw [h']; rfl

/-! Marks of meshes -/
abbrev fM : Int → MeshD → MeshD := fun k _ => (k, k + 1, k + 2, k + 3)
abbrev gM : Int → MeshD → Int := fun k _ => k + 4
theorem gM_bd (k : Int) (y : MeshD) : k ≤ gM k y ∧ gM k y ≤ k + 4 := ⟨by show k ≤ k + 4; omega, Int.le_refl _⟩
theorem scanM_bd {l : List MeshD} (hl : l.length ≤ 1048576) (k : Int) : k ≤ scanK gM l k ∧ scanK gM l k ≤ k + 10000000 := by
  have h := scanK_bd (c := 4) (by omega) l k fun k y _ => gM_bd k y
  omega
theorem markMeshD_eq {l : List MeshD} (hl : l.length ≤ 1048576) {k : Int} (hk : 0 ≤ k ∧ k ≤ 10000000000000) : markMeshD (l, k) = some (scanK gM l k, scanL fM gM l k, k) := by
  have h := scan_loop (step := markMeshL_step) (f := fM) (g := gM) (c := 4) (by omega) hl hk.1 (fun k y _ => gM_bd k y)
    (fun l' k i y hl' h0 h1 k0 k1 _ hy hy2 => by
      unfold markMeshL_step
      dsimp only
      rw [br_t (by simp; omega), hy, gi, hy2, ob_s, ob_s, gi, idx_set h0 (by omega), get_set (by omega), ob_s, ob_s, gi, List.set_set, idx_set h0 (by omega), get_set (by omega), ob_s, ob_s, gi, List.set_set, idx_set h0 (by omega), get_set (by omega), ob_s, ob_s, List.set_set]
      rw [w64 (x := k + 1) (by omega) (by omega), w64 (x := k + 1 + 1) (by omega) (by omega), w64 (x := k + 1 + 1 + 1) (by omega) (by omega), w64 (x := k + 1 + 1 + 1 + 1) (by omega) (by omega), w64 (x := i + 1) (by omega) (by omega), show k + 1 + 1 = k + 2 by omega, show k + 2 + 1 = k + 3 by omega, show k + 3 + 1 = k + 4 by omega])
    (fun l' k i hl' hi => by
      show br (decide (i < (l'.length : Int))) _ _ = _
      rw [br_f (by simp; omega)]) (n := l.length - (0 : Int).toNat + 1) (by simp)
  have h' : markMeshL (l, k, 0) = some (scanL fM gM l k, scanK gM l k, (l.length : Int)) := h
  unfold markMeshD
  rw [h']; rfl
theorem heldMeshD_eq {l : List MeshD} (hl : l.length ≤ 1048576) {k : Int} (hk : 0 ≤ k ∧ k ≤ 10000000000000) : heldMeshD (scanL fM gM l k, k) = some (scanK gM l k) := by
  have hlen := scanL_len fM gM l k
  have h := scan_held (step := heldMeshL_step) (f := fM) (g := gM) (c := 4) (by omega) hl hk.1 (fun k y _ => gM_bd k y)
    (fun k' r i y h0 h1 k0 k1 _ hy => by
      unfold heldMeshL_step
      dsimp only
      rw [br_t (by simp; omega), hy, ob_s, br_f (by simp), ob_s, w64 (x := k' + 1) (by omega) (by omega), br_f (by simp), ob_s, w64 (x := k' + 1 + 1) (by omega) (by omega), br_f (by simp; omega), ob_s, w64 (x := k' + 1 + 1 + 1) (by omega) (by omega), br_f (by simp; omega), w64 (x := k' + 1 + 1 + 1 + 1) (by omega) (by omega), w64 (x := i + 1) (by omega) (by omega), show k' + 1 + 1 + 1 + 1 = k' + 4 by omega])
    (fun k' r i hi => by
      show br (decide (i < ((scanL fM gM l k).length : Int))) _ _ = _
      rw [br_f (by simp; omega)]) 0 (n := (scanL fM gM l k).length - (0 : Int).toNat + 1) (by rw [hlen]; simp)
  have h' : heldMeshL (scanL fM gM l k, k, 0, 0) = some (true, (scanL fM gM l k, scanK gM l k, 0, (l.length : Int))) := h
  unfold heldMeshD
  rw [h']; rfl
/-! Marks of works -/
noncomputable def markedW (w : WorksD) : WorksD := (scanL fA gA w.1 1, scanL fM gM w.2 (scanK gA w.1 1))
def marksW (w : WorksD) : Int := scanK gM w.2 (scanK gA w.1 1)
theorem marksW_pos {w : WorksD} (h : smallW w) : 0 ≤ marksW w := by
  have h1 := scanA_bd h.1 h.2.1 1
  have h2 := scanM_bd h.2.2 (scanK gA w.1 1)
  unfold marksW
  omega
theorem markWorksD_eq {w : WorksD} (h : smallW w) : markWorksD (w, 1) = some (marksW w, markedW w, 1) := by
  have h1 := scanA_bd h.1 h.2.1 1
  unfold markWorksD
  dsimp only
  rw [markArborD_eq h.1 h.2.1 ⟨by omega, by omega⟩, ob_s, markMeshD_eq h.2.2 ⟨by omega, by omega⟩]
  rfl
theorem markWorksD_tot {w : WorksD} (h : smallW w) : ∃ k w', markWorksD (w, 1) = some (k, w', 1) ∧ 0 ≤ k := ⟨_, _, markWorksD_eq h, marksW_pos h⟩
theorem heldWorksD_eq {w : WorksD} (h : smallW w) : heldWorksD (markedW w, 1) = some (marksW w) := by
  have h1 := scanA_bd h.1 h.2.1 1
  have h2 := scanM_bd h.2.2 (scanK gA w.1 1)
  unfold heldWorksD markedW
  dsimp only
  rw [heldArborD_eq h.1 h.2.1 ⟨by omega, by omega⟩, ob_s, br_f (by simp; omega), heldMeshD_eq h.2.2 ⟨by omega, by omega⟩, ob_s, br_f (by simp; omega)]
  rfl
end Rx
end Go.Proofs.Ythehdbedojcpdaa
