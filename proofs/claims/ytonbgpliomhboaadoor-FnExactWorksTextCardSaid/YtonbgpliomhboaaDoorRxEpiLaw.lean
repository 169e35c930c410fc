/- The epicyclic speeds: the implementation's answers are the spec's. No program in sight. -/
import Derived.Test.YtonbgpliomhboaaDoorRxRatAddLaw
import Derived.Test.YtonbgpliomhboaaDoorRxEpi
namespace Go.Proofs.YtonbgpliomhboaaDoor
namespace Rx
open Go

/-- A train of planets with its teeth and its count in their bounds. -/
def epiBd (e : Int × Int × Int × Int) : Prop := (6 ≤ e.1 ∧ e.1 ≤ 240) ∧ (6 ≤ e.2.1 ∧ e.2.1 ≤ 240) ∧ (6 ≤ e.2.2.1 ∧ e.2.2.1 ≤ 240) ∧ (1 ≤ e.2.2.2 ∧ e.2.2.2 ≤ 8)
/-- A ratio of small terms is one of its terms. -/
theorem mkR_small {n d : Int} (hn : 1 ≤ n ∧ n ≤ 480) (hd : 1 ≤ d ∧ d ≤ 480) : ∃ p, mkR n d = some p := by
  have hg := gcd_pos (n := n) (d := d) (by omega)
  have qn := div_bd (x := mag n) (B := 480) hg (mag_nn n) (by unfold mag; omega)
  have qd := div_bd (x := mag d) (B := 480) hg (mag_nn d) (by unfold mag; omega)
  unfold mkR
  dsimp only
  rw [if_neg (by omega)]
  exact ⟨_, rfl⟩
theorem small64 {n : Int} (hn : 1 ≤ n ∧ n ≤ 480) : I64 n := ⟨by omega, by omega⟩

/-- How a wheel turns that meshes in a turning frame: what both sides come to. -/
def turnF (a b k : Int × Int) : (Int × Int) × Int :=
  let s := ratF (a.1 * b.2 - b.1 * a.2) (a.2 * b.2)
  if s.2 = 0 then
    let m := ratF (s.1.1 * k.1) (s.1.2 * k.2)
    if m.2 = 0 then ratF (b.1 * m.1.2 - m.1.1 * b.2) (b.2 * m.1.2) else ((0, 0), m.2)
  else ((0, 0), s.2)
theorem vpos {a b : Int × Int} (ha : vR a = true) (hb : vR b = true) : a.2 * b.2 ≠ 0 := by
  have := pp1 (vR_bd ha).1 (vR_bd hb).1
  omega
/-- The carrier: what both sides come to. -/
def carF (a b k l : Int × Int) : (Int × Int) × Int :=
  let s := ratF (a.1 * k.1) (a.2 * k.2)
  let t := ratF (b.1 * l.1) (b.2 * l.2)
  if s.2 = 0 then
    if t.2 = 0 then ratF (s.1.1 * t.1.2 + t.1.1 * s.1.2) (s.1.2 * t.1.2) else ((0, 0), 2)
  else ((0, 0), 2)
theorem ratF_two {n d : Int} (h : (ratF n d).2 ≠ 0) : (ratF n d).2 = 2 := by
  unfold ratF at h ⊢
  cases e : mkR n d with
  | none => rfl
  | some p => rw [e] at h; exact (h rfl).elim
theorem redF_ok {n d : Int} (h : (ratF n d).2 = 0) : redF n d = ((ratF n d).1, true) := by
  unfold ratF at h; unfold redF ratF
  cases e : mkR n d with
  | none => rw [e] at h; cases h
  | some p => rfl
theorem redF_no {n d : Int} (h : (ratF n d).2 ≠ 0) : redF n d = ((0, 0), false) := by
  unfold ratF at h; unfold redF
  cases e : mkR n d with
  | none => rfl
  | some p => rw [e] at h; exact (h rfl).elim
end Rx
end Go.Proofs.YtonbgpliomhboaaDoor
