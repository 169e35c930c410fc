/- Works with one arbor or one mesh more: the implementation's answers are the spec's, in plain terms. No program in sight. -/
import Derived.Test.YthehdbedojcpdaaRxDeepWLaw
import Derived.Test.YthehdbedojcpdaaRxAddW
namespace Go.Proofs.Ythehdbedojcpdaa
namespace Rx
open Go

/-! ### Copies of their own -/
theorem cloneIntW_eq {l : List Int} (h : l.length ≤ 1048576) : cloneIntW l = some l := by
  show br false (some []) (br (decide (0 + l.length ≤ 4294967296)) (some ([] ++ l)) none) = _
  rw [br_f (c := false) rfl, br_t (by simp; omega)]; rfl
theorem cloneMeshW_eq {l : List MeshD} (h : l.length ≤ 1048576) : cloneMeshW l = some l := by
  show br false (some []) (br (decide (0 + l.length ≤ 4294967296)) (some ([] ++ l)) none) = _
  rw [br_f (c := false) rfl, br_t (by simp; omega)]; rfl
theorem ownIntW_eq {l : List Int} (h : l.length ≤ 1048576) : ownIntW l = some l := by
  show br (decide (0 + l.length ≤ 4294967296)) (some ([] ++ l)) none = _
  rw [br_t (by simp; omega)]; rfl
theorem copyWI_eq {w : WorksD} (hw : smallW w) : copyWI (w.1, w.2) = some w := by
  have hl := hw.1
  have h := (fold_loop (step := copyWL_step) (l := w.1) (fun i (a : List ArborD) => (w, ([], []), (a, []), w.1, (w.1.length : Int), i)) (fun a y => a ++ [y]) (fun i a => (a.length : Int) = i) (fun a => (w, ([], []), (a, []), w.1, (w.1.length : Int), (w.1.length : Int)))
    (fun i a y h0 h1 hy hJ => by
      have e : cloneIntW y.2 = some y.2 := cloneIntW_eq (hw.2.1 y (mem_idx hy))
      refine ⟨?_, by rw [List.length_append]; push_cast; rw [hJ]; rfl⟩
      show br (decide (i < (w.1.length : Int))) (ob (idx w.1 i) fun y => ob (cloneIntW y.2) fun z => br (decide (a.length + [(y.1, z)].length ≤ 4294967296)) (some (LRes.next, w, ([], []), (a ++ [(y.1, z)], []), w.1, (w.1.length : Int), IntKind.i64.wrap (i + 1))) none) _ = _
      rw [br_t (by simpa using h1), hy, ob_s, e, ob_s, br_t (by simp; omega), w64 (by omega) (by omega)])
    (fun a _ => by
      show br (decide ((w.1.length : Int) < (w.1.length : Int))) _ _ = _
      rw [br_f (by simp)]) (n := ((w.1.length : Int) - 0).toNat + 1) (by omega) (a0 := []) rfl).1
  have h' : copyWL (w, ([], []), ([], []), w.1, (w.1.length : Int), 0) = some (w, ([], []), (w.1.foldl (fun a y => a ++ [y]) [], []), w.1, (w.1.length : Int), (w.1.length : Int)) := h
  show ob (copyWL (w, ([], []), ([], []), w.1, (w.1.length : Int), 0)) _ = _
  rw [h', ob_s, cloneMeshW_eq hw.2.2, ob_s]
  have := foldl_append (fun y : ArborD => y) w.1 []
  rw [List.map_id'] at this
  rw [this]; rfl
theorem ownWS_eq {w : WorksD} (hw : smallW w) : ownWS (w.1, w.2) = some w := by
  have hl := hw.1
  have hl2 := hw.2.2
  have h := (fold_loop (step := ownWL_step) (l := w.1) (fun i (a : List ArborD) => (w, ([], []), (a, w.2), i)) (fun a y => a ++ [y]) (fun i a => (a.length : Int) = i) (fun a => (w, ([], []), (a, w.2), (w.1.length : Int)))
    (fun i a y h0 h1 hy hJ => by
      have e : ownIntW y.2 = some y.2 := ownIntW_eq (hw.2.1 y (mem_idx hy))
      refine ⟨?_, by rw [List.length_append]; push_cast; rw [hJ]; rfl⟩
      show br (decide (i < (w.1.length : Int))) (ob (idx w.1 i) fun y => ob (idx w.1 i) fun y_1 => ob (ownIntW y_1.2) fun z => br (decide (a.length + [(y.1, z)].length ≤ 4294967296)) (some (LRes.next, w, ([], []), (a ++ [(y.1, z)], w.2), IntKind.i64.wrap (i + 1))) none) _ = _
      rw [br_t (by simpa using h1), hy, ob_s, ob_s, e, ob_s, br_t (by simp; omega), w64 (by omega) (by omega)])
    (fun a _ => by
      show br (decide ((w.1.length : Int) < (w.1.length : Int))) _ _ = _
      rw [br_f (by simp)]) (n := (w.1.length - (0 : Int).toNat) + 1) (by simp) (a0 := []) rfl).1
  have h' : ownWL ((w.1, w.2), ([], []), ([], [] ++ w.2), 0) = some (w, ([], []), (w.1.foldl (fun a y => a ++ [y]) [], w.2), (w.1.length : Int)) := h
  show br (decide (0 + w.2.length ≤ 4294967296)) (ob (ownWL ((w.1, w.2), ([], []), ([], [] ++ w.2), 0)) _) _ = _
  rw [br_t (by simp; omega), h', ob_s]
  have := foldl_append (fun y : ArborD => y) w.1 []
  rw [List.map_id'] at this
  rw [this]; rfl

/-! ### One arbor more -/
theorem indexW_eq {w : WorksD} (hw : smallW w) (s : ByteArray) : indexArborI ((w.1, w.2), s) = some (placeOf (sameN s) w.1) := by
  unfold indexArborI
  dsimp only
  rw [findArborI_eq hw.1]; rfl
theorem addArbor_both {w : WorksD} {a : ArborD} (hw : smallW w) (ha : a.2.length ≤ 1048576) : ∃ v, addArborI ((w.1, w.2), a.1, a.2) = some v ∧ addArborS ((w.1, w.2), a.1, a.2) = some v ∧ smallW v.1 := by
  have hl := hw.1
  have e1 : validWI (w.1, w.2) = some (worksOk w) := validWI_eq hw
  have e2 : okWS (w.1, w.2) = some (worksOk w) := okWS_eq hw
  have e3 : validArborI (a.1, a.2) = some (arborOk a) := validArborI_eq ha
  have e4 : okArborS (a.1, a.2) = some (arborOk a) := okArborS_eq ha
  have e5 : findArborS ((w.1, w.2), a.1) = some (placeOf (sameN a.1) w.1) := findArborS_eq hw.1 a.1
  have none_small : smallW (([] : List ArborD), ([] : List MeshD)) := ⟨by show (0 : Nat) ≤ _; omega, (fun y hy => by cases hy), by show (0 : Nat) ≤ _; omega⟩
  unfold addArborI addArborS
  simp only [e1, e2, e3, e4, e5, indexW_eq hw, copyWI_eq hw, ownWS_eq hw, cloneIntW_eq ha, ownIntW_eq ha, ob_s]
  cases worksOk w with
  | false => exact ⟨_, rfl, rfl, none_small⟩
  | true =>
    cases arborOk a with
    | false => exact ⟨_, rfl, rfl, none_small⟩
    | true =>
      cases decide (0 ≤ placeOf (sameN a.1) w.1) with
      | true => exact ⟨_, rfl, rfl, none_small⟩
      | false =>
        cases h : decide ((16 : Int) ≤ (w.1.length : Int)) with
        | true => exact ⟨_, rfl, rfl, none_small⟩
        | false =>
          have h : ¬ (16 : Int) ≤ (w.1.length : Int) := by simpa using h
          have hc : decide (w.1.length + [((a.1, a.2) : ArborD)].length ≤ 4294967296) = true := by simp; omega
          refine ⟨((w.1 ++ [(a.1, a.2)], w.2), (w.1.length : Int), 0), ?_, ?_, ?_⟩
          · show br (decide (w.1.length + [((a.1, a.2) : ArborD)].length ≤ 4294967296)) _ _ = _
            rw [hc]; rfl
          · show br (decide (w.1.length + [((a.1, a.2) : ArborD)].length ≤ 4294967296)) _ _ = _
            rw [hc]; rfl
          · refine ⟨by dsimp only; rw [List.length_append]; simp; omega, fun y hy => ?_, hw.2.2⟩
            rcases List.mem_append.1 hy with h | h
            · exact hw.2.1 y h
            · rw [List.mem_singleton.1 h]; exact ha
theorem eqArborL_self {a : ArborD} (h : a.2.length ≤ 1048576) : eqArborL (a, a) = some true := by
  unfold eqArborL
  simp only [beq_self_eq_true, Bool.not_true, br, eqIntW_self (l := a.2) (by omega), ob_s]
theorem marksW_le {w : WorksD} (h : smallW w) : marksW w ≤ 10000000000000 := by
  have h1 := scanA_bd h.1 h.2.1 1
  have h2 := scanM_bd h.2.2 (scanK gA w.1 1)
  unfold marksW
  omega
theorem lawAddArbor_holds (x : WorksD × ArborD) (h : WfAll [WorksT, ArborT] x) : lawAddArbor x = some true := by
  obtain ⟨w, a⟩ := x
  have hw : Wf WorksT w := h.1
  have hwa : Wf ArborT a := h.2
  unfold lawAddArbor
  dsimp only
  rcases szWorksL_cases hw (k := 1048576) (by omega) (by omega) with e | ⟨k, e, l1, k0, k1⟩
  · have e' : szWorksL ((w.1, w.2), 1048576) = some (-1) := e
    rw [e']; rfl
  · have e' : szWorksL ((w.1, w.2), 1048576) = some k := e
    rw [e', ob_s, br_f (by simpa using k0)]
    rcases szArborL_cases hwa.1 hwa.2.1 (k := k) k0 k1 with f | ⟨r, f, l2, r0, r1⟩
    · have f' : szArborL ((a.1, a.2), k) = some (-1) := f
      rw [f']; rfl
    · have f' : szArborL ((a.1, a.2), k) = some r := f
      rw [f', ob_s, br_f (by simpa using r0)]
      have ew : toWorksD (w.1, w.2) = some w := toWorksD_eq l1
      have ea : toArborD (a.1, a.2) = some a := by
        unfold toArborD
        dsimp only
        rw [toIntS_eq l2]; rfl
      obtain ⟨v, e1, e2, hv⟩ := addArbor_both (a := a) l1 l2
      have e3 : eqWorksL ((w.1, w.2), (w.1, w.2)) = some true := eqWorksL_self l1
      have e4 : eqWorksL ((v.1.1, v.1.2), (v.1.1, v.1.2)) = some true := eqWorksL_self hv
      have e5 : eqArborL ((a.1, a.2), (a.1, a.2)) = some true := eqArborL_self l2
      have m1 : markWorksD ((w.1, w.2), 1) = some (marksW w, markedW w, 1) := markWorksD_eq l1
      have m2 : markWorksD ((v.1.1, v.1.2), 1) = some (marksW v.1, markedW v.1, 1) := markWorksD_eq hv
      have m3 : heldWorksD (((markedW v.1).1, (markedW v.1).2), 1) = some (marksW v.1) := heldWorksD_eq hv
      have p1 := marksW_pos l1
      have p2 := marksW_pos hv
      have p3 := marksW_le l1
      have m4 : markArborOne ((a.1, a.2), marksW w) = some (marksW w + a.2.length, (a.1, scanL fI gI a.2 (marksW w)), marksW w) := by
        unfold markArborOne
        dsimp only
        rw [markIntD_eq l2 ⟨p1, p3⟩]; rfl
      simp only [ew, ea, e1, e2, e3, e4, e5, m1, m2, m3, m4, ob_s]
      have q1 : decide (marksW w + (a.2.length : Int) < 0) = false := by simp; omega
      have q2 : decide (marksW v.1 < 0) = false := by simp; omega
      simp only [q1, q2, bne_self_eq_false, Bool.not_true, br]

/-! ### One mesh more -/
theorem addFn_eq (z m : MeshD) : addFnI (z, m) = some (knownF m z) := by
  have : addFnI (z, m) = meshFnI (z, m) := rfl
  rw [this, meshFnI_eq]
theorem hasMeshA_eq {l : List MeshD} (hl : l.length ≤ 1048576) (m : MeshD) : hasMeshA (l, m) = some (l.any (knownF m)) := by
  have e : findMeshAL_step = findMeshL_step := rfl
  have : hasMeshA (l, m) = hasMesh (l, m) := rfl
  rw [this, hasMesh_eq hl]
theorem addMesh_both {w : WorksD} {m : MeshD} (hw : smallW w) : ∃ v, addMeshI ((w.1, w.2), m.1, m.2.1, m.2.2.1, m.2.2.2) = some v ∧ addMeshS ((w.1, w.2), m.1, m.2.1, m.2.2.1, m.2.2.2) = some v ∧ smallW v.1 := by
  have hl := hw.2.2
  have e1 : validWI (w.1, w.2) = some (worksOk w) := validWI_eq hw
  have e2 : okWS (w.1, w.2) = some (worksOk w) := okWS_eq hw
  have e3 : joinsI ((w.1, w.2), m.1, m.2.1, m.2.2.1, m.2.2.2) = some (joinF w m) := joinsI_eq hw m
  have e4 : meshS ((w.1, w.2), m.1, m.2.1, m.2.2.1, m.2.2.2) = some (joinF w m) := meshS_eq hw m
  have e5 : hasMeshA (w.2, m.1, m.2.1, m.2.2.1, m.2.2.2) = some (w.2.any (knownF m)) := hasMeshA_eq hl m
  have e6 : knownS ((w.1, w.2), (m.1, m.2.1, m.2.2.1, m.2.2.2), (w.2.length : Int)) = some (w.2.any (knownF m)) := by
    have := knownS_eq hw (i := (w.2.length : Int)) m (by omega) (by omega)
    rw [show ((w.2.length : Int)).toNat = w.2.length by omega, List.take_length] at this
    exact this
  have none_small : smallW (([] : List ArborD), ([] : List MeshD)) := ⟨by show (0 : Nat) ≤ _; omega, (fun y hy => by cases hy), by show (0 : Nat) ≤ _; omega⟩
  unfold addMeshI addMeshS
  simp only [e1, e2, e3, e4, e5, e6, copyWI_eq hw, ownWS_eq hw, ob_s]
  cases worksOk w with
  | false => exact ⟨_, rfl, rfl, none_small⟩
  | true =>
    cases joinF w m with
    | false => exact ⟨_, rfl, rfl, none_small⟩
    | true =>
      cases w.2.any (knownF m) with
      | true => exact ⟨_, rfl, rfl, none_small⟩
      | false =>
        cases h : decide ((24 : Int) ≤ (w.2.length : Int)) with
        | true => exact ⟨_, rfl, rfl, none_small⟩
        | false =>
          have h : ¬ (24 : Int) ≤ (w.2.length : Int) := by simpa using h
          have hc : decide (w.2.length + [((m.1, m.2.1, m.2.2.1, m.2.2.2) : MeshD)].length ≤ 4294967296) = true := by simp; omega
          refine ⟨((w.1, w.2 ++ [(m.1, m.2.1, m.2.2.1, m.2.2.2)]), 0), ?_, ?_, ?_⟩
          · show br (decide (w.2.length + [((m.1, m.2.1, m.2.2.1, m.2.2.2) : MeshD)].length ≤ 4294967296)) _ _ = _
            rw [hc]; rfl
          · show br (decide (w.2.length + [((m.1, m.2.1, m.2.2.1, m.2.2.2) : MeshD)].length ≤ 4294967296)) _ _ = _
            rw [hc]; rfl
          · exact ⟨hw.1, hw.2.1, by dsimp only; rw [List.length_append]; simp; omega⟩
theorem lawAddMesh_holds (x : WorksD × MeshD) (h : WfAll [WorksT, MeshT] x) : lawAddMesh x = some true := by
  obtain ⟨w, m⟩ := x
  have hw : Wf WorksT w := h.1
  unfold lawAddMesh
  dsimp only
  rcases szWorksL_cases hw (k := 1048576) (by omega) (by omega) with e | ⟨k, e, l1, k0, k1⟩
  · have e' : szWorksL ((w.1, w.2), 1048576) = some (-1) := e
    rw [e']; rfl
  · have e' : szWorksL ((w.1, w.2), 1048576) = some k := e
    rw [e', ob_s, br_f (by simpa using k0)]
    have ew : toWorksD (w.1, w.2) = some w := toWorksD_eq l1
    have em : toMeshL (m.1, m.2.1, m.2.2.1, m.2.2.2) = some m := rfl
    obtain ⟨v, e1, e2, hv⟩ := addMesh_both (m := m) l1
    have e3 : eqWorksL ((w.1, w.2), (w.1, w.2)) = some true := eqWorksL_self l1
    have e4 : eqWorksL ((v.1.1, v.1.2), (v.1.1, v.1.2)) = some true := eqWorksL_self hv
    have m1 : markWorksD ((w.1, w.2), 1) = some (marksW w, markedW w, 1) := markWorksD_eq l1
    have m2 : markWorksD ((v.1.1, v.1.2), 1) = some (marksW v.1, markedW v.1, 1) := markWorksD_eq hv
    have m3 : heldWorksD (((markedW v.1).1, (markedW v.1).2), 1) = some (marksW v.1) := heldWorksD_eq hv
    have p1 := marksW_pos l1
    have p2 := marksW_pos hv
    simp only [ew, em, e1, e2, e3, e4, m1, m2, m3, ob_s]
    have q1 : decide (marksW w < 0) = false := by simp; omega
    have q2 : decide (marksW v.1 < 0) = false := by simp; omega
    simp only [q1, q2, bne_self_eq_false, Bool.not_true, br]
end Rx
end Go.Proofs.Ythehdbedojcpdaa
