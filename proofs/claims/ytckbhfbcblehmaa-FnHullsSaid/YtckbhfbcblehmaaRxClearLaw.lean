/- Clearances between wheels and staffs: the law, in plain terms. No program in sight. -/
import Derived.Test.YtckbhfbcblehmaaRxSitesLaw
import Derived.Test.YtckbhfbcblehmaaRxClear
namespace Go.Proofs.Ytckbhfbcblehmaa
namespace Rx
open Go

/-- What is known of a site of a valid plate. -/
theorem site_bd {p : PlateD} (hp : plateOk p = true) {i : Nat} {y : SiteD} (hy : p.2.2.2.2[i]? = some y) :
    (0 ≤ y.2.1.1 ∧ y.2.1.1 ≤ p.1) ∧ (0 ≤ y.2.1.2 ∧ y.2.1.2 ≤ p.2.1) ∧ (1 ≤ y.2.2.2 ∧ y.2.2.2 ≤ 1000) ∧ (y.2.2.2 ≤ y.2.2.1 ∧ y.2.2.1 ≤ 10000) := by
  unfold plateOk at hp
  simp only [Bool.and_eq_true] at hp
  have := allI_true hp.2.2.2.2.2 i y hy
  unfold placeOk siteOk inF at this
  simp only [Bool.and_eq_true, decide_eq_true_eq] at this
  exact ⟨this.1.2.1, this.1.2.2.1, this.1.2.2.2.1, this.1.2.2.2.2⟩
theorem plate_bd {p : PlateD} (hp : plateOk p = true) : (1 ≤ p.1 ∧ p.1 ≤ 10000) ∧ (1 ≤ p.2.1 ∧ p.2.1 ≤ 10000) ∧ (0 ≤ p.2.2.1 ∧ p.2.2.1 ≤ 1000) ∧ (0 ≤ p.2.2.2.1 ∧ p.2.2.2.1 ≤ 1000) ∧ p.2.2.2.2.length ≤ 20 := by
  unfold plateOk inF at hp
  simp only [Bool.and_eq_true, decide_eq_true_eq] at hp
  exact ⟨hp.1, hp.2.1, hp.2.2.1, hp.2.2.2.1, hp.2.2.2.2.1⟩
def sqF (a b : Int × Int) : Int := (a.1 - b.1) * (a.1 - b.1) + (a.2 - b.2) * (a.2 - b.2)
theorem sq_small {d : Int} (h1 : -10000 ≤ d) (h2 : d ≤ 10000) : 0 ≤ d * d ∧ d * d ≤ 100000000 := by
  have e : d * d = ((d.natAbs * d.natAbs : Nat) : Int) := by rw [Int.natCast_mul, Int.natAbs_mul_self']
  have h3 : d.natAbs ≤ 10000 := by omega
  have h4 := Nat.mul_le_mul h3 h3
  omega
theorem sqF_bd {a b : Int × Int} (a1 : 0 ≤ a.1 ∧ a.1 ≤ 10000) (a2 : 0 ≤ a.2 ∧ a.2 ≤ 10000) (b1 : 0 ≤ b.1 ∧ b.1 ≤ 10000) (b2 : 0 ≤ b.2 ∧ b.2 ≤ 10000) : 0 ≤ sqF a b ∧ sqF a b ≤ 200000000 := by
  have h1 := sq_small (d := a.1 - b.1) (by omega) (by omega)
  have h2 := sq_small (d := a.2 - b.2) (by omega) (by omega)
  unfold sqF
  omega
theorem sqI_eq {a b : Int × Int} (a1 : 0 ≤ a.1 ∧ a.1 ≤ 10000) (a2 : 0 ≤ a.2 ∧ a.2 ≤ 10000) (b1 : 0 ≤ b.1 ∧ b.1 ≤ 10000) (b2 : 0 ≤ b.2 ∧ b.2 ≤ 10000) : sqI (a, b) = some (sqF a b) := by
  have h1 := sq_small (d := a.1 - b.1) (by omega) (by omega)
  have h2 := sq_small (d := a.2 - b.2) (by omega) (by omega)
  show some (IntKind.i64.wrap (IntKind.i64.wrap (IntKind.i64.wrap (a.1 - b.1) * IntKind.i64.wrap (a.1 - b.1)) + IntKind.i64.wrap (IntKind.i64.wrap (a.2 - b.2) * IntKind.i64.wrap (a.2 - b.2)))) = _
  rw [w64 (x := a.1 - b.1) (by omega) (by omega), w64 (x := a.2 - b.2) (by omega) (by omega), w64 (x := (a.1 - b.1) * (a.1 - b.1)) (by omega) (by omega), w64 (x := (a.2 - b.2) * (a.2 - b.2)) (by omega) (by omega), w64 (by omega) (by omega)]
  rfl
theorem sqS_eq : sqS = sqI := rfl
theorem rootS_eq : rootS = rootI := rfl
theorem root_bd {n : Int} (h0 : 0 ≤ n) (h1 : n ≤ 200000000) : rootI n = some (isq n) ∧ 0 ≤ isq n ∧ isq n ≤ 20000 :=
  ⟨rootF_eq h0 (by omega), (isq_spec h0).1, root_le (isq_spec h0) (by omega) (by omega)⟩
noncomputable def clearF (y z : SiteD) : Int := isq (sqF y.2.1 z.2.1) - y.2.2.1 - z.2.2.2
theorem clearI_eq {p : PlateD} (hp : plateOk p = true) {i j : Nat} {y z : SiteD} (hy : p.2.2.2.2[i]? = some y) (hz : p.2.2.2.2[j]? = some z) : clearI (y, z) = some (clearF y z) := by
  obtain ⟨p1, p2, _⟩ := plate_bd hp
  obtain ⟨y1, y2, y3, y4⟩ := site_bd hp hy
  obtain ⟨z1, z2, z3, z4⟩ := site_bd hp hz
  have b := sqF_bd (a := y.2.1) (b := z.2.1) ⟨y1.1, by omega⟩ ⟨y2.1, by omega⟩ ⟨z1.1, by omega⟩ ⟨z2.1, by omega⟩
  obtain ⟨r1, r2, r3⟩ := root_bd b.1 b.2
  show ob (sqI (y.2.1, z.2.1)) (fun s => ob (rootI s) fun r => some (IntKind.i64.wrap (IntKind.i64.wrap (r - y.2.2.1) - z.2.2.2))) = _
  rw [sqI_eq ⟨y1.1, by omega⟩ ⟨y2.1, by omega⟩ ⟨z1.1, by omega⟩ ⟨z2.1, by omega⟩, ob_s, r1, ob_s, w64 (x := isq (sqF y.2.1 z.2.1) - y.2.2.1) (by omega) (by omega), w64 (by omega) (by omega)]
  rfl
theorem clearS_eq {p : PlateD} (hp : plateOk p = true) {i j : Int} {y z : SiteD} (hi : idx p.2.2.2.2 i = some y) (hj : idx p.2.2.2.2 j = some z) (hy : p.2.2.2.2[i.toNat]? = some y) (hz : p.2.2.2.2[j.toNat]? = some z) : clearS (p, i, j) = some (clearF y z) := by
  obtain ⟨p1, p2, _⟩ := plate_bd hp
  obtain ⟨y1, y2, y3, y4⟩ := site_bd hp hy
  obtain ⟨z1, z2, z3, z4⟩ := site_bd hp hz
  have b := sqF_bd (a := y.2.1) (b := z.2.1) ⟨y1.1, by omega⟩ ⟨y2.1, by omega⟩ ⟨z1.1, by omega⟩ ⟨z2.1, by omega⟩
  obtain ⟨r1, r2, r3⟩ := root_bd b.1 b.2
  have e : sqI ((y.2.1.1, y.2.1.2), z.2.1.1, z.2.1.2) = some (sqF y.2.1 z.2.1) := sqI_eq (a := y.2.1) (b := z.2.1) ⟨y1.1, by omega⟩ ⟨y2.1, by omega⟩ ⟨z1.1, by omega⟩ ⟨z2.1, by omega⟩
  unfold clearS
  simp only [hi, hj, ob_s, sqS_eq, rootS_eq, e, r1]
  rw [w64 (x := isq (sqF y.2.1 z.2.1) - y.2.2.1) (by omega) (by omega), w64 (by omega) (by omega)]
  rfl
end Rx
end Go.Proofs.Ytckbhfbcblehmaa
