/- Valid works: each mesh joins two arbors and has its wheels. In plain terms. No program in sight. -/
import Derived.Test.YtonbgpliomhboaaGreatDoorRxWorksLaw
namespace Go.Proofs.YtonbgpliomhboaaGreatDoor
namespace Rx
open Go

abbrev RatD := Int × Int
def teeth (t : Int) : Prop := 6 ≤ t ∧ t ≤ 240
/-! ### Valid works: each mesh has its wheels -/
def meshOk (w : WorksD) (m : MeshD) (p : RatD) : Prop := (0 ≤ m.1 ∧ m.1 < w.1.length) ∧ (0 ≤ m.2.2.1 ∧ m.2.2.1 < w.1.length) ∧ m.1 ≠ m.2.2.1 ∧ teeth p.1 ∧ teeth p.2 ∧ pairWI ((w.1, w.2), m.1, m.2.1, m.2.2.1, m.2.2.2) = some p
theorem wheel_teeth {w : WorksD} (hA : allI (arborPlace w) w.1 0 = true) {a k : Int} (h : wheelF w a k = true) : ∃ y z, idx w.1 a = some y ∧ idx y.2 k = some z ∧ (0 ≤ a ∧ a < w.1.length) ∧ teeth z := by
  obtain ⟨y, z, hy, hz⟩ := wheel_at h
  unfold wheelF inF at h
  simp only [Bool.and_eq_true, decide_eq_true_eq] at h
  have h0 : 0 ≤ a ∧ a < w.1.length := by omega
  refine ⟨y, z, hy, hz, h0, ?_⟩
  obtain ⟨y', e1, e2⟩ := idx_get (l := w.1) h0.1 h0.2
  rw [hy] at e1; cases e1
  have hp := allI_true hA a.toNat y e2
  unfold arborPlace arborOk at hp
  simp only [Bool.and_eq_true] at hp
  have ht := List.all_eq_true.1 hp.1.1 z (mem_idx hz)
  unfold teethF inF at ht
  simp only [Bool.and_eq_true, decide_eq_true_eq] at ht
  exact ht
theorem meshes_ok {w : WorksD} (hk : worksOk w = true) {m : MeshD} (hm : m ∈ w.2) : ∃ p, meshOk w m p := by
  unfold worksOk at hk
  simp only [Bool.and_eq_true] at hk
  obtain ⟨j, hj1, hj2⟩ := List.mem_iff_getElem.1 hm
  have hj : meshPlace w (0 + j) m = true := allI_true hk.2.2 j m (by rw [List.getElem?_eq_getElem hj1, hj2])
  unfold meshPlace joinF at hj
  simp only [Bool.and_eq_true] at hj
  obtain ⟨⟨hne, ha, hb⟩, _⟩ := hj
  obtain ⟨y1, z1, a1, b1, c1, d1⟩ := wheel_teeth hk.2.1 ha
  obtain ⟨y2, z2, a2, b2, c2, d2⟩ := wheel_teeth hk.2.1 hb
  refine ⟨(z1, z2), c1, c2, by simpa using hne, d1, d2, ?_⟩
  unfold pairWI
  simp only [a1, b1, a2, b2, ob_s]
end Rx
end Go.Proofs.YtonbgpliomhboaaGreatDoor
