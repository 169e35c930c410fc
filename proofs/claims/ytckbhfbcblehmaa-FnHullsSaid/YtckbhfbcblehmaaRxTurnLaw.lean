/- Plates turned over and about; sites outside. No program in sight. -/
import Derived.Test.YtckbhfbcblehmaaRxSitesLaw
import Derived.Test.YtckbhfbcblehmaaRxTurn
namespace Go.Proofs.Ytckbhfbcblehmaa
namespace Rx
open Go

theorem minP_eq (a b : Int) : minP (a, b) = some (if a < b then a else b) := by
  unfold minP
  dsimp only
  rw [br_if]
  simp only [decide_eq_true_eq]
  split <;> rfl
theorem outs_same (W H x y r e : Int) :
    decide (br (decide (H < br (decide (y < br (decide (W < x)) W x)) y (br (decide (W < x)) W x))) H (br (decide (y < br (decide (W < x)) W x)) y (br (decide (W < x)) W x)) < r + e)
      = decide ((if (if x < W then x else W) < (if y < H then y else H) then (if x < W then x else W) else (if y < H then y else H)) < r + e) := by
  simp only [br_if, decide_eq_true_eq]
  congr 1
  have : (if H < (if y < (if W < x then W else x) then y else (if W < x then W else x)) then H else (if y < (if W < x then W else x) then y else (if W < x then W else x))) = (if (if x < W then x else W) < (if y < H then y else H) then (if x < W then x else W) else (if y < H then y else H)) := by
    split <;> split <;> split <;> split <;> (try split) <;> (try split) <;> omega
  rw [this]
theorem out_both {p : PlateD} (hl : p.2.2.2.2.length ≤ 1048576) : ∃ a b, outIL (p, [], p.2.2.2.2, (p.2.2.2.2.length : Int), 0) = some a ∧ outSL (p, [], 0) = some b ∧ a.2.1 = b.2.1 ∧ a.2.1.length ≤ 1048576 := by
  obtain ⟨a, b, h1, h2, h3, h4⟩ := iterP_sim (stepA := outIL_step) (stepB := outSL_step)
    (fun a b => ∃ (o : List Int) (i : Int), a = (p, o, p.2.2.2.2, (p.2.2.2.2.length : Int), i) ∧ b = (p, o, i) ∧ (o.length : Int) ≤ i ∧ i ≤ p.2.2.2.2.length)
    (fun a b => a.2.1 = b.2.1 ∧ a.2.1.length ≤ 1048576) (fun a => ((p.2.2.2.2.length : Int) - a.2.2.2.2).toNat)
    (by
      rintro a b ⟨o, i, rfl, rfl, hi0, hi1⟩
      by_cases hi : i < p.2.2.2.2.length
      · obtain ⟨y, hy, hy2⟩ := idx_get (l := p.2.2.2.2) (i := i) (by omega) hi
        have e5 : IntKind.i64.wrap (i + 1) = i + 1 := w64 (by omega) (by omega)
        have hA : outIL_step (p, o, p.2.2.2.2, (p.2.2.2.2.length : Int), i) = br (decide (br (decide (IntKind.i64.wrap (p.2.1 - y.2.1.2) < br (decide (y.2.1.2 < br (decide (IntKind.i64.wrap (p.1 - y.2.1.1) < y.2.1.1)) (IntKind.i64.wrap (p.1 - y.2.1.1)) y.2.1.1)) y.2.1.2 (br (decide (IntKind.i64.wrap (p.1 - y.2.1.1) < y.2.1.1)) (IntKind.i64.wrap (p.1 - y.2.1.1)) y.2.1.1))) (IntKind.i64.wrap (p.2.1 - y.2.1.2)) (br (decide (y.2.1.2 < br (decide (IntKind.i64.wrap (p.1 - y.2.1.1) < y.2.1.1)) (IntKind.i64.wrap (p.1 - y.2.1.1)) y.2.1.1)) y.2.1.2 (br (decide (IntKind.i64.wrap (p.1 - y.2.1.1) < y.2.1.1)) (IntKind.i64.wrap (p.1 - y.2.1.1)) y.2.1.1)) < IntKind.i64.wrap (y.2.2.2 + p.2.2.1)))
            (some (.next, (p, o ++ [i], p.2.2.2.2, (p.2.2.2.2.length : Int), i + 1))) (some (.next, (p, o, p.2.2.2.2, (p.2.2.2.2.length : Int), i + 1))) := by
          unfold outIL_step
          dsimp only
          rw [br_t (by simpa using hi), hy, ob_s, e5]
          rw [br_t (c := decide (o.length + [i].length ≤ 4294967296)) (by simp; omega)]
        have hB : outSL_step (p, o, i) = br (decide ((if (if y.2.1.1 < IntKind.i64.wrap (p.1 - y.2.1.1) then y.2.1.1 else IntKind.i64.wrap (p.1 - y.2.1.1)) < (if y.2.1.2 < IntKind.i64.wrap (p.2.1 - y.2.1.2) then y.2.1.2 else IntKind.i64.wrap (p.2.1 - y.2.1.2)) then (if y.2.1.1 < IntKind.i64.wrap (p.1 - y.2.1.1) then y.2.1.1 else IntKind.i64.wrap (p.1 - y.2.1.1)) else (if y.2.1.2 < IntKind.i64.wrap (p.2.1 - y.2.1.2) then y.2.1.2 else IntKind.i64.wrap (p.2.1 - y.2.1.2))) < IntKind.i64.wrap (y.2.2.2 + p.2.2.1)))
            (some (.next, (p, o ++ [i], i + 1))) (some (.next, (p, o, i + 1))) := by
          unfold outSL_step
          dsimp only
          rw [br_t (by simpa using hi), hy]
          simp only [ob_s, minP_eq, e5]
          rw [br_t (c := decide (o.length + [i].length ≤ 4294967296)) (by simp; omega)]
        have key := outs_same (IntKind.i64.wrap (p.1 - y.2.1.1)) (IntKind.i64.wrap (p.2.1 - y.2.1.2)) y.2.1.1 y.2.1.2 (IntKind.i64.wrap (y.2.2.2 + p.2.2.1)) 0
        rw [Int.add_zero] at key
        rw [hA, hB, key]
        cases decide ((if (if y.2.1.1 < IntKind.i64.wrap (p.1 - y.2.1.1) then y.2.1.1 else IntKind.i64.wrap (p.1 - y.2.1.1)) < (if y.2.1.2 < IntKind.i64.wrap (p.2.1 - y.2.1.2) then y.2.1.2 else IntKind.i64.wrap (p.2.1 - y.2.1.2)) then (if y.2.1.1 < IntKind.i64.wrap (p.1 - y.2.1.1) then y.2.1.1 else IntKind.i64.wrap (p.1 - y.2.1.1)) else (if y.2.1.2 < IntKind.i64.wrap (p.2.1 - y.2.1.2) then y.2.1.2 else IntKind.i64.wrap (p.2.1 - y.2.1.2))) < IntKind.i64.wrap (y.2.2.2 + p.2.2.1)) with
        | true =>
          refine ⟨.next, _, _, rfl, rfl, fun _ => ⟨⟨o ++ [i], i + 1, rfl, rfl, ?_, by omega⟩, by dsimp only; omega⟩, fun h => (by cases h), fun h => by cases h⟩
          simp; omega
        | false =>
          exact ⟨.next, _, _, rfl, rfl, fun _ => ⟨⟨o, i + 1, rfl, rfl, by omega, by omega⟩, by dsimp only; omega⟩, fun h => (by cases h), fun h => by cases h⟩
      · refine ⟨.out, (p, o, p.2.2.2.2, (p.2.2.2.2.length : Int), i), (p, o, i), ?_, ?_, fun h => (by cases h), fun _ => ⟨rfl, by dsimp only; omega⟩, fun h => by cases h⟩
        · show br (decide (i < (p.2.2.2.2.length : Int))) _ _ = _
          rw [br_f (by simpa using hi)]
        · show br (decide (i < (p.2.2.2.2.length : Int))) _ _ = _
          rw [br_f (by simpa using hi)])
    (((p.2.2.2.2.length : Int) - 0).toNat + 1) (p.2.2.2.2.length - (0 : Int).toNat + 1) (p, [], p.2.2.2.2, (p.2.2.2.2.length : Int), 0) (p, [], 0) ⟨[], 0, rfl, rfl, by simp, by omega⟩ (by dsimp only; omega) (by dsimp only; omega)
  exact ⟨a, b, h1, h2, h3, h4⟩
theorem outI_S {p : PlateD} (hl : p.2.2.2.2.length ≤ 1048576) : ∃ v, outI p = some v ∧ outS p = some v ∧ v.1.length ≤ 1048576 := by
  have e1 : validPlateI (p.1, p.2.1, p.2.2.1, p.2.2.2.1, p.2.2.2.2) = some (plateOk p) := validPlateI_eq p
  have e2 : okPlateS (p.1, p.2.1, p.2.2.1, p.2.2.2.1, p.2.2.2.2) = some (plateOk p) := okPlateS_eq p
  obtain ⟨a, b, h1, h2, h3, h4⟩ := out_both hl
  have h1' : outIL ((p.1, p.2.1, p.2.2.1, p.2.2.2.1, p.2.2.2.2), [], p.2.2.2.2, (p.2.2.2.2.length : Int), 0) = some a := h1
  have h2' : outSL ((p.1, p.2.1, p.2.2.1, p.2.2.2.1, p.2.2.2.2), [], 0) = some b := h2
  unfold outI outS
  simp only [e1, e2, ob_s, h1', h2']
  cases plateOk p with
  | false => exact ⟨([], 1), rfl, rfl, by simp⟩
  | true => exact ⟨(a.2.1, 0), rfl, by rw [h3]; rfl, h4⟩
theorem cloneS_eq {l : List SiteD} (h : l.length ≤ 4294967296) : cloneS l = some l := by
  show br false (some []) (br (decide (0 + l.length ≤ 4294967296)) (some ([] ++ l)) none) = _
  rw [br_f rfl, br_t (by simpa using h)]; rfl
def mirF (p : PlateD) (y : SiteD) : SiteD := (y.1, (IntKind.i64.wrap (p.1 - y.2.1.1), y.2.1.2), y.2.2.1, y.2.2.2)
def turnF (p : PlateD) (y : SiteD) : SiteD := (y.1, (IntKind.i64.wrap (p.2.1 - y.2.1.2), y.2.1.1), y.2.2.1, y.2.2.2)
theorem mirIL_eq {p : PlateD} (h : p.2.2.2.2.length ≤ 1048576) : mirIL (p, (0, 0, 0, 0, []), (p.2.2.2.2.length : Int), 0) = some ((p.1, p.2.1, p.2.2.1, p.2.2.2.1, p.2.2.2.2.map (mirF p)), (0, 0, 0, 0, []), (p.2.2.2.2.length : Int), (p.2.2.2.2.length : Int)) :=
  map_loop (step := mirIL_step) (l := p.2.2.2.2) (f := mirF p) (fun o i => ((p.1, p.2.1, p.2.2.1, p.2.2.2.1, o), (0, 0, 0, 0, []), (p.2.2.2.2.length : Int), i))
    (fun o i y ho h0 h1 _ hy2 hy => by
      have e5 : IntKind.i64.wrap (i + 1) = i + 1 := w64 (by omega) (by omega)
      unfold mirIL_step
      simp only [gi]
      rw [br_t (by simpa using h1)]
      simp only [hy, hy2, ob_s, e5]
      rfl)
    (fun o ho => by
      show br (decide ((p.2.2.2.2.length : Int) < (p.2.2.2.2.length : Int))) _ _ = _
      rw [br_f (by simp)]) (n := ((p.2.2.2.2.length : Int) - 0).toNat + 1) (by omega)
theorem turnIL_eq {p : PlateD} (h : p.2.2.2.2.length ≤ 1048576) : turnIL (p, (0, 0, 0, 0, []), PUnit.unit, (p.2.2.2.2.length : Int), 0) = some ((p.1, p.2.1, p.2.2.1, p.2.2.2.1, p.2.2.2.2.map (turnF p)), (0, 0, 0, 0, []), PUnit.unit, (p.2.2.2.2.length : Int), (p.2.2.2.2.length : Int)) :=
  map_loop (step := turnIL_step) (l := p.2.2.2.2) (f := turnF p) (fun o i => ((p.1, p.2.1, p.2.2.1, p.2.2.2.1, o), (0, 0, 0, 0, []), PUnit.unit, (p.2.2.2.2.length : Int), i))
    (fun o i y ho h0 h1 _ hy2 hy => by
      have e5 : IntKind.i64.wrap (i + 1) = i + 1 := w64 (by omega) (by omega)
      unfold turnIL_step
      simp only [gi]
      rw [br_t (by simpa using h1)]
      simp only [hy, hy2, ob_s, e5]
      rfl)
    (fun o ho => by
      show br (decide ((p.2.2.2.2.length : Int) < (p.2.2.2.2.length : Int))) _ _ = _
      rw [br_f (by simp)]) (n := ((p.2.2.2.2.length : Int) - 0).toNat + 1) (by omega)
theorem movSL_eq {p : PlateD} {w h u v : Int} (hl : p.2.2.2.2.length ≤ 1048576) {n : Int} {f : SiteD → SiteD} (hf : (n = 1 ∧ f = mirF p) ∨ (n = 2 ∧ f = turnF p)) :
    movSL (n, p, (0, 0, 0, 0, []), (w, h, u, v, []), 0) = some (n, p, (0, 0, 0, 0, []), (w, h, u, v, p.2.2.2.2.map f), (p.2.2.2.2.length : Int)) := by
  obtain ⟨h1, _⟩ := fold_loop (step := movSL_step) (l := p.2.2.2.2) (fun i (a : List SiteD) => (n, p, (0, 0, 0, 0, []), (w, h, u, v, a), i)) (fun a y => a ++ [f y]) (fun i a => (a.length : Int) = i) (fun a => (n, p, (0, 0, 0, 0, []), (w, h, u, v, a), (p.2.2.2.2.length : Int)))
    (fun i a y h0 h1 hy hJ => by
      have e5 : IntKind.i64.wrap (i + 1) = i + 1 := w64 (by omega) (by omega)
      refine ⟨?_, by simp; omega⟩
      unfold movSL_step
      dsimp only
      rw [br_t (by simpa using h1), hy, ob_s, e5]
      rcases hf with ⟨rfl, rfl⟩ | ⟨rfl, rfl⟩
      · rw [br_t (c := (1 : Int) == 1) rfl, br_t (by simp; omega)]
        rfl
      · rw [br_f (c := (2 : Int) == 1) rfl, br_t (c := (2 : Int) == 2) rfl, br_t (by simp; omega)]
        rfl)
    (fun a hJ => by
      show br (decide ((p.2.2.2.2.length : Int) < (p.2.2.2.2.length : Int))) _ _ = _
      rw [br_f (by simp)]) (n := p.2.2.2.2.length - (0 : Int).toNat + 1) (by omega) (a0 := []) rfl
  rw [foldl_append, List.nil_append] at h1
  exact h1
theorem mir_both {p : PlateD} (hl : p.2.2.2.2.length ≤ 1048576) : ∃ v, mirI p = some v ∧ mirS p = some v ∧ v.1.2.2.2.2.length ≤ 1048576 := by
  have e1 : validPlateI (p.1, p.2.1, p.2.2.1, p.2.2.2.1, p.2.2.2.2) = some (plateOk p) := validPlateI_eq p
  have e2 : okPlateS (p.1, p.2.1, p.2.2.1, p.2.2.2.1, p.2.2.2.2) = some (plateOk p) := okPlateS_eq p
  have h1 : mirIL ((p.1, p.2.1, p.2.2.1, p.2.2.2.1, p.2.2.2.2), (0, 0, 0, 0, []), (p.2.2.2.2.length : Int), 0) = _ := mirIL_eq hl
  have h2 : movSL (1, (p.1, p.2.1, p.2.2.1, p.2.2.2.1, p.2.2.2.2), (0, 0, 0, 0, []), (p.1, p.2.1, p.2.2.1, p.2.2.2.1, []), 0) = _ := movSL_eq (p := p) hl (.inl ⟨rfl, rfl⟩)
  have h3 : movS ((p.1, p.2.1, p.2.2.1, p.2.2.2.1, p.2.2.2.2), 1) = some (p.1, p.2.1, p.2.2.1, p.2.2.2.1, p.2.2.2.2.map (mirF p)) := by
    unfold movS
    dsimp only
    rw [br_f (c := (1 : Int) == 2) rfl, h2]; rfl
  unfold mirI mirS
  simp only [e1, e2, ob_s, h3, cloneS_eq (l := p.2.2.2.2) (by omega), h1]
  cases plateOk p with
  | false => exact ⟨((0, 0, 0, 0, []), 1), rfl, rfl, by simp⟩
  | true => exact ⟨((p.1, p.2.1, p.2.2.1, p.2.2.2.1, p.2.2.2.2.map (mirF p)), 0), rfl, rfl, by simpa using hl⟩
theorem turn_both {p : PlateD} (hl : p.2.2.2.2.length ≤ 1048576) : ∃ v, turnPI p = some v ∧ turnPS p = some v ∧ v.1.2.2.2.2.length ≤ 1048576 := by
  have e1 : validPlateI (p.1, p.2.1, p.2.2.1, p.2.2.2.1, p.2.2.2.2) = some (plateOk p) := validPlateI_eq p
  have e2 : okPlateS (p.1, p.2.1, p.2.2.1, p.2.2.2.1, p.2.2.2.2) = some (plateOk p) := okPlateS_eq p
  have h1 : turnIL ((p.1, p.2.1, p.2.2.1, p.2.2.2.1, p.2.2.2.2), (0, 0, 0, 0, []), PUnit.unit, (p.2.2.2.2.length : Int), 0) = _ := turnIL_eq hl
  have h2 : movSL (2, (p.1, p.2.1, p.2.2.1, p.2.2.2.1, p.2.2.2.2), (0, 0, 0, 0, []), (p.2.1, p.1, p.2.2.1, p.2.2.2.1, []), 0) = _ := movSL_eq (p := p) hl (.inr ⟨rfl, rfl⟩)
  have h3 : movS ((p.1, p.2.1, p.2.2.1, p.2.2.2.1, p.2.2.2.2), 2) = some (p.2.1, p.1, p.2.2.1, p.2.2.2.1, p.2.2.2.2.map (turnF p)) := by
    unfold movS
    dsimp only
    rw [br_t (c := (2 : Int) == 2) rfl, h2]; rfl
  unfold turnPI turnPS
  simp only [e1, e2, ob_s, h3, cloneS_eq (l := p.2.2.2.2) (by omega), h1]
  cases plateOk p with
  | false => exact ⟨((0, 0, 0, 0, []), 1), rfl, rfl, by simp⟩
  | true => exact ⟨((p.2.1, p.1, p.2.2.1, p.2.2.2.1, p.2.2.2.2.map (turnF p)), 0), rfl, rfl, by simpa using hl⟩
end Rx
end Go.Proofs.Ytckbhfbcblehmaa
