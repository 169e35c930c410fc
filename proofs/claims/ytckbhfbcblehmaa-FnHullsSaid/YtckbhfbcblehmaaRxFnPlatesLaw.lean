/- Plates that are mirrored twice, turned four times: the law, in plain terms. No program in sight. -/
import Derived.Test.YtckbhfbcblehmaaRxTurnLaw
import Derived.Test.YtckbhfbcblehmaaRxClearLaw
import Derived.Test.YtckbhfbcblehmaaRxDrawLaw
import Derived.Test.YtckbhfbcblehmaaRxFnPlates
namespace Go.Proofs.Ytckbhfbcblehmaa
namespace Rx
open Go

/-! ### What the functions come to -/
def zeroP : PlateD := (0, 0, 0, 0, [])
def mirP (p : PlateD) : PlateD := (p.1, p.2.1, p.2.2.1, p.2.2.2.1, p.2.2.2.2.map (mirF p))
def turnP (p : PlateD) : PlateD := (p.2.1, p.1, p.2.2.1, p.2.2.2.1, p.2.2.2.2.map (turnF p))
theorem mir_val {p : PlateD} (hl : p.2.2.2.2.length ≤ 1048576) : mirI p = some (if plateOk p = true then (mirP p, 0) else (zeroP, 1)) ∧ mirS p = some (if plateOk p = true then (mirP p, 0) else (zeroP, 1)) := by
  have e1 : validPlateI (p.1, p.2.1, p.2.2.1, p.2.2.2.1, p.2.2.2.2) = some (plateOk p) := validPlateI_eq p
  have e2 : okPlateS (p.1, p.2.1, p.2.2.1, p.2.2.2.1, p.2.2.2.2) = some (plateOk p) := okPlateS_eq p
  have h1 : mirIL ((p.1, p.2.1, p.2.2.1, p.2.2.2.1, p.2.2.2.2), (0, 0, 0, 0, []), (p.2.2.2.2.length : Int), 0) = _ := mirIL_eq hl
  have h2 : movSL (1, (p.1, p.2.1, p.2.2.1, p.2.2.2.1, p.2.2.2.2), (0, 0, 0, 0, []), (p.1, p.2.1, p.2.2.1, p.2.2.2.1, []), 0) = _ := movSL_eq (p := p) hl (.inl ⟨rfl, rfl⟩)
  have h3 : movS ((p.1, p.2.1, p.2.2.1, p.2.2.2.1, p.2.2.2.2), 1) = some (p.1, p.2.1, p.2.2.1, p.2.2.2.1, p.2.2.2.2.map (mirF p)) := by
    unfold movS
    dsimp only
    rw [br_f (c := (1 : Int) == 2) rfl, h2]; rfl
  unfold mirI mirS
  simp only [e1, e2, ob_s, h3, cloneS_eq (l := p.2.2.2.2) (by omega), h1]
  cases plateOk p with
  | false => exact ⟨rfl, rfl⟩
  | true => exact ⟨rfl, rfl⟩
theorem turn_val {p : PlateD} (hl : p.2.2.2.2.length ≤ 1048576) : turnPI p = some (if plateOk p = true then (turnP p, 0) else (zeroP, 1)) ∧ turnPS p = some (if plateOk p = true then (turnP p, 0) else (zeroP, 1)) := by
  have e1 : validPlateI (p.1, p.2.1, p.2.2.1, p.2.2.2.1, p.2.2.2.2) = some (plateOk p) := validPlateI_eq p
  have e2 : okPlateS (p.1, p.2.1, p.2.2.1, p.2.2.2.1, p.2.2.2.2) = some (plateOk p) := okPlateS_eq p
  have h1 : turnIL ((p.1, p.2.1, p.2.2.1, p.2.2.2.1, p.2.2.2.2), (0, 0, 0, 0, []), PUnit.unit, (p.2.2.2.2.length : Int), 0) = _ := turnIL_eq hl
  have h2 : movSL (2, (p.1, p.2.1, p.2.2.1, p.2.2.2.1, p.2.2.2.2), (0, 0, 0, 0, []), (p.2.1, p.1, p.2.2.1, p.2.2.2.1, []), 0) = _ := movSL_eq (p := p) hl (.inr ⟨rfl, rfl⟩)
  have h3 : movS ((p.1, p.2.1, p.2.2.1, p.2.2.2.1, p.2.2.2.2), 2) = some (p.2.1, p.1, p.2.2.1, p.2.2.2.1, p.2.2.2.2.map (turnF p)) := by
    unfold movS
    dsimp only
    rw [br_t (c := (2 : Int) == 2) rfl, h2]; rfl
  unfold turnPI turnPS
  simp only [e1, e2, ob_s, h3, cloneS_eq (l := p.2.2.2.2) (by omega), h1]
  cases plateOk p with
  | false => exact ⟨rfl, rfl⟩
  | true => exact ⟨rfl, rfl⟩
/-- A site is too near to a border. -/
def nearF (p : PlateD) (y : SiteD) : Bool := decide ((if (if y.2.1.1 < IntKind.i64.wrap (p.1 - y.2.1.1) then y.2.1.1 else IntKind.i64.wrap (p.1 - y.2.1.1)) < (if y.2.1.2 < IntKind.i64.wrap (p.2.1 - y.2.1.2) then y.2.1.2 else IntKind.i64.wrap (p.2.1 - y.2.1.2)) then (if y.2.1.1 < IntKind.i64.wrap (p.1 - y.2.1.1) then y.2.1.1 else IntKind.i64.wrap (p.1 - y.2.1.1)) else (if y.2.1.2 < IntKind.i64.wrap (p.2.1 - y.2.1.2) then y.2.1.2 else IntKind.i64.wrap (p.2.1 - y.2.1.2))) < IntKind.i64.wrap (y.2.2.2 + p.2.2.1))
def outF (p : PlateD) : List Int := foldI (fun i a y => if nearF p y = true then a ++ [(i : Int)] else a) p.2.2.2.2 0 []
theorem outSL_val {p : PlateD} (hl : p.2.2.2.2.length ≤ 1048576) : outSL (p, [], 0) = some (p, outF p, (p.2.2.2.2.length : Int)) ∧ (outF p).length ≤ 1048576 := by
  have h := foldI_loop (step := outSL_step) (l := p.2.2.2.2) (fun i (a : List Int) => (p, a, i)) (fun i a y => if nearF p y = true then a ++ [(i : Int)] else a) (fun i a => (a.length : Int) ≤ i) (fun a => (p, a, (p.2.2.2.2.length : Int)))
    (fun i a y h0 h1 hy hy2 hJ => by
      have e5 : IntKind.i64.wrap (i + 1) = i + 1 := w64 (by omega) (by omega)
      have e6 : ((i.toNat : Nat) : Int) = i := by omega
      have hB : outSL_step (p, a, i) = br (nearF p y) (some (.next, (p, a ++ [i], i + 1))) (some (.next, (p, a, i + 1))) := by
        unfold outSL_step
        dsimp only
        rw [br_t (by simpa using h1), hy]
        simp only [ob_s, minP_eq, e5]
        rw [br_t (c := decide (a.length + [i].length ≤ 4294967296)) (by simp; omega)]
        rfl
      rw [hB, e6]
      cases nearF p y with
      | true => exact ⟨rfl, by simp; omega⟩
      | false => exact ⟨rfl, by simp; omega⟩)
    (fun a hJ => by
      show br (decide ((p.2.2.2.2.length : Int) < (p.2.2.2.2.length : Int))) _ _ = _
      rw [br_f (by simp)]) (n := p.2.2.2.2.length - (0 : Int).toNat + 1) (by omega) (a0 := []) (by simp)
  have h2 : ((outF p).length : Int) ≤ (p.2.2.2.2.length : Int) := h.2
  exact ⟨h.1.1, by omega⟩
theorem out_val {p : PlateD} (hl : p.2.2.2.2.length ≤ 1048576) : outI p = some (if plateOk p = true then (outF p, 0) else ([], 1)) ∧ outS p = some (if plateOk p = true then (outF p, 0) else ([], 1)) := by
  have e : outS p = some (if plateOk p = true then (outF p, 0) else ([], 1)) := by
    have e2 : okPlateS (p.1, p.2.1, p.2.2.1, p.2.2.2.1, p.2.2.2.2) = some (plateOk p) := okPlateS_eq p
    have h2 : outSL ((p.1, p.2.1, p.2.2.1, p.2.2.2.1, p.2.2.2.2), [], 0) = _ := (outSL_val hl).1
    unfold outS
    simp only [e2, ob_s, h2]
    cases plateOk p <;> rfl
  obtain ⟨v, h1, h2, _⟩ := outI_S hl
  rw [e] at h2
  cases h2
  exact ⟨h1, e⟩

/-! ### Turned sites are sites -/
theorem ok_take {p : PlateD} {g : SiteD → SiteD} (hg : ∀ y, (g y).1 = y.1) (y : SiteD) (i : Nat) : ((p.2.2.2.2.map g).take i).any (named (g y)) = (p.2.2.2.2.take i).any (named y) := by
  rw [← List.map_take, List.any_map]
  congr 1
  funext z
  show ((g z).1.toList == (g y).1.toList) = _
  rw [hg, hg]; rfl
theorem place_of {p : PlateD} (hp : plateOk p = true) {i : Nat} {y : SiteD} (hy : p.2.2.2.2[i]? = some y) : nameF y.1 = true ∧ ((p.2.2.2.2.take i).any (named y)) = false := by
  unfold plateOk at hp
  simp only [Bool.and_eq_true] at hp
  have := allI_true hp.2.2.2.2.2 i y hy
  unfold placeOk siteOk at this
  simp only [Bool.and_eq_true, Bool.not_eq_true'] at this
  rw [Nat.zero_add] at this
  exact ⟨this.1.1, this.2⟩
theorem inF_true {x lo hi : Int} (h1 : lo ≤ x) (h2 : x ≤ hi) : inF x lo hi = true := by
  unfold inF
  simp only [Bool.and_eq_true, decide_eq_true_eq]
  exact ⟨h1, h2⟩
theorem ok_mir {p : PlateD} (hp : plateOk p = true) : plateOk (mirP p) = true := by
  obtain ⟨p1, p2, p3, p4, p5⟩ := plate_bd hp
  unfold plateOk
  show (inF p.1 1 10000 && (inF p.2.1 1 10000 && (inF p.2.2.1 0 1000 && (inF p.2.2.2.1 0 1000 && (decide ((p.2.2.2.2.map (mirF p)).length ≤ 20) && allI (placeOk (mirP p)) (p.2.2.2.2.map (mirF p)) 0))))) = true
  rw [inF_true p1.1 p1.2, inF_true p2.1 p2.2, inF_true p3.1 p3.2, inF_true p4.1 p4.2, decide_eq_true (by rw [List.length_map]; exact p5)]
  simp only [Bool.true_and]
  refine allI_of fun i y hy => ?_
  rw [List.getElem?_map] at hy
  obtain ⟨z, hz, rfl⟩ := Option.map_eq_some_iff.1 hy
  obtain ⟨z1, z2, z3, z4⟩ := site_bd hp hz
  obtain ⟨n1, n2⟩ := place_of hp hz
  have e1 : IntKind.i64.wrap (p.1 - z.2.1.1) = p.1 - z.2.1.1 := w64 (by omega) (by omega)
  unfold placeOk siteOk
  show ((nameF z.1 && (inF (IntKind.i64.wrap (p.1 - z.2.1.1)) 0 p.1 && (inF z.2.1.2 0 p.2.1 && (inF z.2.2.2 1 1000 && inF z.2.2.1 z.2.2.2 10000)))) && !(((p.2.2.2.2.map (mirF p)).take (0 + i)).any (named (mirF p z)))) = true
  rw [Nat.zero_add, ok_take (p := p) (g := mirF p) (fun _ => rfl), n1, n2, e1, inF_true (by omega) (by omega), inF_true z2.1 z2.2, inF_true z3.1 z3.2, inF_true z4.1 z4.2]
  rfl
theorem ok_turn {p : PlateD} (hp : plateOk p = true) : plateOk (turnP p) = true := by
  obtain ⟨p1, p2, p3, p4, p5⟩ := plate_bd hp
  unfold plateOk
  show (inF p.2.1 1 10000 && (inF p.1 1 10000 && (inF p.2.2.1 0 1000 && (inF p.2.2.2.1 0 1000 && (decide ((p.2.2.2.2.map (turnF p)).length ≤ 20) && allI (placeOk (turnP p)) (p.2.2.2.2.map (turnF p)) 0))))) = true
  rw [inF_true p1.1 p1.2, inF_true p2.1 p2.2, inF_true p3.1 p3.2, inF_true p4.1 p4.2, decide_eq_true (by rw [List.length_map]; exact p5)]
  simp only [Bool.true_and]
  refine allI_of fun i y hy => ?_
  rw [List.getElem?_map] at hy
  obtain ⟨z, hz, rfl⟩ := Option.map_eq_some_iff.1 hy
  obtain ⟨z1, z2, z3, z4⟩ := site_bd hp hz
  obtain ⟨n1, n2⟩ := place_of hp hz
  have e1 : IntKind.i64.wrap (p.2.1 - z.2.1.2) = p.2.1 - z.2.1.2 := w64 (by omega) (by omega)
  unfold placeOk siteOk
  show ((nameF z.1 && (inF (IntKind.i64.wrap (p.2.1 - z.2.1.2)) 0 p.2.1 && (inF z.2.1.1 0 p.1 && (inF z.2.2.2 1 1000 && inF z.2.2.1 z.2.2.2 10000)))) && !(((p.2.2.2.2.map (turnF p)).take (0 + i)).any (named (turnF p z)))) = true
  rw [Nat.zero_add, ok_take (p := p) (g := turnF p) (fun _ => rfl), n1, n2, e1, inF_true (by omega) (by omega), inF_true z1.1 z1.2, inF_true z3.1 z3.2, inF_true z4.1 z4.2]
  rfl
theorem mem_bd {p : PlateD} (hp : plateOk p = true) {y : SiteD} (hy : y ∈ p.2.2.2.2) : (0 ≤ y.2.1.1 ∧ y.2.1.1 ≤ p.1) ∧ (0 ≤ y.2.1.2 ∧ y.2.1.2 ≤ p.2.1) ∧ (1 ≤ y.2.2.2 ∧ y.2.2.2 ≤ 1000) ∧ (y.2.2.2 ≤ y.2.2.1 ∧ y.2.2.1 ≤ 10000) := by
  obtain ⟨i, hi, e⟩ := List.mem_iff_getElem.1 hy
  exact site_bd hp (i := i) (by rw [List.getElem?_eq_getElem hi, e])
theorem mir_mir {p : PlateD} (hp : plateOk p = true) : mirP (mirP p) = p := by
  obtain ⟨p1, p2, p3, p4, p5⟩ := plate_bd hp
  have : (p.2.2.2.2.map (mirF p)).map (mirF (mirP p)) = p.2.2.2.2 := by
    rw [List.map_map]
    conv => rhs; rw [← List.map_id p.2.2.2.2]
    refine List.map_congr_left fun y hy => ?_
    obtain ⟨y1, y2, _⟩ := mem_bd hp hy
    show (y.1, (IntKind.i64.wrap (p.1 - IntKind.i64.wrap (p.1 - y.2.1.1)), y.2.1.2), y.2.2.1, y.2.2.2) = y
    rw [w64 (x := p.1 - y.2.1.1) (by omega) (by omega), w64 (by omega) (by omega), show p.1 - (p.1 - y.2.1.1) = y.2.1.1 by omega]
  show (p.1, p.2.1, p.2.2.1, p.2.2.2.1, (p.2.2.2.2.map (mirF p)).map (mirF (mirP p))) = p
  rw [this]
def halfF (p : PlateD) (y : SiteD) : SiteD := (y.1, (p.1 - y.2.1.1, p.2.1 - y.2.1.2), y.2.2.1, y.2.2.2)
def halfP (p : PlateD) : PlateD := (p.1, p.2.1, p.2.2.1, p.2.2.2.1, p.2.2.2.2.map (halfF p))
theorem turn_turn {p : PlateD} (hp : plateOk p = true) : turnP (turnP p) = halfP p := by
  obtain ⟨p1, p2, p3, p4, p5⟩ := plate_bd hp
  have : (p.2.2.2.2.map (turnF p)).map (turnF (turnP p)) = p.2.2.2.2.map (halfF p) := by
    rw [List.map_map]
    refine List.map_congr_left fun y hy => ?_
    obtain ⟨y1, y2, _⟩ := mem_bd hp hy
    show (y.1, (IntKind.i64.wrap (p.1 - y.2.1.1), IntKind.i64.wrap (p.2.1 - y.2.1.2)), y.2.2.1, y.2.2.2) = (y.1, (p.1 - y.2.1.1, p.2.1 - y.2.1.2), y.2.2.1, y.2.2.2)
    rw [w64 (x := p.1 - y.2.1.1) (by omega) (by omega), w64 (by omega) (by omega)]
  show (p.1, p.2.1, p.2.2.1, p.2.2.2.1, (p.2.2.2.2.map (turnF p)).map (turnF (turnP p))) = _
  rw [this]; rfl
theorem half_half (p : PlateD) : halfP (halfP p) = p := by
  have : (p.2.2.2.2.map (halfF p)).map (halfF (halfP p)) = p.2.2.2.2 := by
    rw [List.map_map]
    conv => rhs; rw [← List.map_id p.2.2.2.2]
    refine List.map_congr_left fun y hy => ?_
    show (y.1, (p.1 - (p.1 - y.2.1.1), p.2.1 - (p.2.1 - y.2.1.2)), y.2.2.1, y.2.2.2) = y
    rw [show p.1 - (p.1 - y.2.1.1) = y.2.1.1 by omega, show p.2.1 - (p.2.1 - y.2.1.2) = y.2.1.2 by omega]
  show (p.1, p.2.1, p.2.2.1, p.2.2.2.1, (p.2.2.2.2.map (halfF p)).map (halfF (halfP p))) = p
  rw [this]
theorem turn_four {p : PlateD} (hp : plateOk p = true) : turnP (turnP (turnP (turnP p))) = p := by
  have h2 : plateOk (turnP (turnP p)) = true := ok_turn (ok_turn hp)
  rw [turn_turn h2, turn_turn hp, half_half]
theorem near_mir {p : PlateD} (hp : plateOk p = true) {y : SiteD} (hy : y ∈ p.2.2.2.2) : nearF (mirP p) (mirF p y) = nearF p y := by
  obtain ⟨p1, p2, p3, p4, p5⟩ := plate_bd hp
  obtain ⟨y1, y2, _⟩ := mem_bd hp hy
  have e1 : IntKind.i64.wrap (p.1 - y.2.1.1) = p.1 - y.2.1.1 := w64 (by omega) (by omega)
  have e2 : IntKind.i64.wrap (p.2.1 - y.2.1.2) = p.2.1 - y.2.1.2 := w64 (by omega) (by omega)
  have e3 : IntKind.i64.wrap (p.1 - (p.1 - y.2.1.1)) = y.2.1.1 := by rw [w64 (by omega) (by omega)]; omega
  unfold nearF mirP mirF
  simp only [e1, e2, e3]
  congr 1
  have : (if (if p.1 - y.2.1.1 < y.2.1.1 then p.1 - y.2.1.1 else y.2.1.1) < (if y.2.1.2 < p.2.1 - y.2.1.2 then y.2.1.2 else p.2.1 - y.2.1.2) then (if p.1 - y.2.1.1 < y.2.1.1 then p.1 - y.2.1.1 else y.2.1.1) else (if y.2.1.2 < p.2.1 - y.2.1.2 then y.2.1.2 else p.2.1 - y.2.1.2)) = (if (if y.2.1.1 < p.1 - y.2.1.1 then y.2.1.1 else p.1 - y.2.1.1) < (if y.2.1.2 < p.2.1 - y.2.1.2 then y.2.1.2 else p.2.1 - y.2.1.2) then (if y.2.1.1 < p.1 - y.2.1.1 then y.2.1.1 else p.1 - y.2.1.1) else (if y.2.1.2 < p.2.1 - y.2.1.2 then y.2.1.2 else p.2.1 - y.2.1.2)) := by
    have e : (if p.1 - y.2.1.1 < y.2.1.1 then p.1 - y.2.1.1 else y.2.1.1) = (if y.2.1.1 < p.1 - y.2.1.1 then y.2.1.1 else p.1 - y.2.1.1) := by split <;> split <;> omega
    rw [e]
  rw [this]
theorem near_turn {p : PlateD} (hp : plateOk p = true) {y : SiteD} (hy : y ∈ p.2.2.2.2) : nearF (turnP p) (turnF p y) = nearF p y := by
  obtain ⟨p1, p2, p3, p4, p5⟩ := plate_bd hp
  obtain ⟨y1, y2, _⟩ := mem_bd hp hy
  have e1 : IntKind.i64.wrap (p.1 - y.2.1.1) = p.1 - y.2.1.1 := w64 (by omega) (by omega)
  have e2 : IntKind.i64.wrap (p.2.1 - y.2.1.2) = p.2.1 - y.2.1.2 := w64 (by omega) (by omega)
  have e3 : IntKind.i64.wrap (p.2.1 - (p.2.1 - y.2.1.2)) = y.2.1.2 := by rw [w64 (by omega) (by omega)]; omega
  unfold nearF turnP turnF
  simp only [e1, e2, e3]
  congr 1
  have : (if (if p.2.1 - y.2.1.2 < y.2.1.2 then p.2.1 - y.2.1.2 else y.2.1.2) < (if y.2.1.1 < p.1 - y.2.1.1 then y.2.1.1 else p.1 - y.2.1.1) then (if p.2.1 - y.2.1.2 < y.2.1.2 then p.2.1 - y.2.1.2 else y.2.1.2) else (if y.2.1.1 < p.1 - y.2.1.1 then y.2.1.1 else p.1 - y.2.1.1)) = (if (if y.2.1.1 < p.1 - y.2.1.1 then y.2.1.1 else p.1 - y.2.1.1) < (if y.2.1.2 < p.2.1 - y.2.1.2 then y.2.1.2 else p.2.1 - y.2.1.2) then (if y.2.1.1 < p.1 - y.2.1.1 then y.2.1.1 else p.1 - y.2.1.1) else (if y.2.1.2 < p.2.1 - y.2.1.2 then y.2.1.2 else p.2.1 - y.2.1.2)) := by
    have e : (if p.2.1 - y.2.1.2 < y.2.1.2 then p.2.1 - y.2.1.2 else y.2.1.2) = (if y.2.1.2 < p.2.1 - y.2.1.2 then y.2.1.2 else p.2.1 - y.2.1.2) := by split <;> split <;> omega
    rw [e]
    generalize (if y.2.1.2 < p.2.1 - y.2.1.2 then y.2.1.2 else p.2.1 - y.2.1.2) = a
    generalize (if y.2.1.1 < p.1 - y.2.1.1 then y.2.1.1 else p.1 - y.2.1.1) = b
    split <;> split <;> omega
  rw [this]
theorem out_mir {p : PlateD} (hp : plateOk p = true) : outF (mirP p) = outF p := by
  show foldI _ (p.2.2.2.2.map (mirF p)) 0 [] = _
  rw [foldI_map]
  exact foldI_congr _ _ _ fun j a y hy => by rw [near_mir hp hy]
theorem out_turn {p : PlateD} (hp : plateOk p = true) : outF (turnP p) = outF p := by
  show foldI _ (p.2.2.2.2.map (turnF p)) 0 [] = _
  rw [foldI_map]
  exact foldI_congr _ _ _ fun j a y hy => by rw [near_turn hp hy]
theorem sameF_self (p : PlateD) : sameF p p = true := by
  unfold sameF
  have : allI (atEq p.2.2.2.2) p.2.2.2.2 0 = true := allI_of fun i y hy => by
    unfold atEq
    rw [Nat.zero_add, hy]
    unfold siteEq
    have e : (y.1 == y.1) = true := by
      cases y.1 with
      | mk d => exact (beq_self_eq_true d : (d == d) = true)
    simp only [e, beq_self_eq_true, Bool.and_self]
  rw [this]
  simp
theorem sameS_self {p : PlateD} (hl : p.2.2.2.2.length ≤ 4294967296) : sameS (p, p) = some true := by
  rw [sameS_eq hl, sameF_self]
theorem f6same_self {l : List Int} (hl : l.length ≤ 4294967296) : f6same (l, l) = some true := by
  obtain ⟨i', h⟩ := eq_loop (step := f6sameL_step) hl (fun i b y h0 h1 hy => by
    show br (decide (i < (l.length : Int))) (ob (idx l i) fun y => ob (idx l i) fun y_1 => br (y != y_1) _ (some (LRes.next, l, l, b, IntKind.i64.wrap (i + 1)))) _ = _
    rw [br_t (by simpa using h1), hy]
    show br (y != y) _ _ = _
    rw [br_f (by simp)]
    rw [w64 (by omega) (by omega)]) (fun i b h => by
    show br (decide (i < (l.length : Int))) _ _ = _
    rw [br_f (by simpa using h)]) false
  have h' : f6sameL (l, l, false, 0) = some (true, (l, l, false, i')) := h
  show br ((l.length : Int) != (l.length : Int)) _ (ob (f6sameL (l, l, false, 0)) _) = _
  rw [br_f (by simp), h']
  rfl
theorem fnPlates_holds (c : List Int) (hw : WfAll [.slice (.int .u8)] c) : fnPlates c = some true := by
  have hc := bytes_wf hw
  obtain ⟨p, e0, hl⟩ := drawTurn_tot hc
  have L : ∀ q : PlateD, q.2.2.2.2.length = p.2.2.2.2.length → q.2.2.2.2.length ≤ 1048576 := fun q h => by omega
  have hm : (mirP p).2.2.2.2.length = p.2.2.2.2.length := List.length_map _
  have ht : ∀ q : PlateD, (turnP q).2.2.2.2.length = q.2.2.2.2.length := fun q => List.length_map _
  have o1 : outI (p.1, p.2.1, p.2.2.1, p.2.2.2.1, p.2.2.2.2) = _ := (out_val (L p rfl)).1
  have o2 : outS (p.1, p.2.1, p.2.2.1, p.2.2.2.1, p.2.2.2.2) = _ := (out_val (L p rfl)).2
  have v1 : validPlateI (p.1, p.2.1, p.2.2.1, p.2.2.2.1, p.2.2.2.2) = some (plateOk p) := validPlateI_eq p
  have m1 : mirI (p.1, p.2.1, p.2.2.1, p.2.2.2.1, p.2.2.2.2) = _ := (mir_val (L p rfl)).1
  have m2 : mirS (p.1, p.2.1, p.2.2.1, p.2.2.2.1, p.2.2.2.2) = _ := (mir_val (L p rfl)).2
  have t1 : turnPI (p.1, p.2.1, p.2.2.1, p.2.2.2.1, p.2.2.2.2) = _ := (turn_val (L p rfl)).1
  have t2 : turnPS (p.1, p.2.1, p.2.2.1, p.2.2.2.1, p.2.2.2.2) = _ := (turn_val (L p rfl)).2
  unfold fnPlates f6big
  simp only [ob_s]
  cases decide ((4096 : Int) < (c.length : Int)) with
  | true => rfl
  | false =>
    simp only [br, e0, ob_s, o1, o2, v1, m1, m2, t1, t2]
    cases hp : plateOk p with
    | false =>
      have s1 : sameS ((zeroP.1, zeroP.2.1, zeroP.2.2.1, zeroP.2.2.2.1, zeroP.2.2.2.2), zeroP.1, zeroP.2.1, zeroP.2.2.1, zeroP.2.2.2.1, zeroP.2.2.2.2) = some true := sameS_self (p := zeroP) (by show (0 : Nat) ≤ _; omega)
      simp only [Bool.false_eq_true, if_false, f6same_self (l := []) (by simp), s1, ob_s]
      rfl
    | true =>
      have hpm := ok_mir hp
      have hp1 := ok_turn hp
      have hp2 := ok_turn hp1
      have hp3 := ok_turn hp2
      have M1 : mirI ((mirP p).1, (mirP p).2.1, (mirP p).2.2.1, (mirP p).2.2.2.1, (mirP p).2.2.2.2) = _ := (mir_val (L (mirP p) hm)).1
      have T1 : turnPI ((turnP p).1, (turnP p).2.1, (turnP p).2.2.1, (turnP p).2.2.2.1, (turnP p).2.2.2.2) = _ := (turn_val (L (turnP p) (ht p))).1
      have T2 : turnPI ((turnP (turnP p)).1, (turnP (turnP p)).2.1, (turnP (turnP p)).2.2.1, (turnP (turnP p)).2.2.2.1, (turnP (turnP p)).2.2.2.2) = _ := (turn_val (L (turnP (turnP p)) ((ht _).trans (ht p)))).1
      have T3 : turnPI ((turnP (turnP (turnP p))).1, (turnP (turnP (turnP p))).2.1, (turnP (turnP (turnP p))).2.2.1, (turnP (turnP (turnP p))).2.2.2.1, (turnP (turnP (turnP p))).2.2.2.2) = _ := (turn_val (L (turnP (turnP (turnP p))) ((ht _).trans ((ht _).trans (ht p))))).1
      have O1 : outI ((mirP p).1, (mirP p).2.1, (mirP p).2.2.1, (mirP p).2.2.2.1, (mirP p).2.2.2.2) = _ := (out_val (L (mirP p) hm)).1
      have O2 : outI ((turnP p).1, (turnP p).2.1, (turnP p).2.2.1, (turnP p).2.2.2.1, (turnP p).2.2.2.2) = _ := (out_val (L (turnP p) (ht p))).1
      have s0 : sameS ((p.1, p.2.1, p.2.2.1, p.2.2.2.1, p.2.2.2.2), p.1, p.2.1, p.2.2.1, p.2.2.2.1, p.2.2.2.2) = some true := sameS_self (p := p) (by omega)
      have s1 : sameS (((mirP p).1, (mirP p).2.1, (mirP p).2.2.1, (mirP p).2.2.2.1, (mirP p).2.2.2.2), (mirP p).1, (mirP p).2.1, (mirP p).2.2.1, (mirP p).2.2.2.1, (mirP p).2.2.2.2) = some true := sameS_self (p := mirP p) (by omega)
      have s2 : sameS (((turnP p).1, (turnP p).2.1, (turnP p).2.2.1, (turnP p).2.2.2.1, (turnP p).2.2.2.2), (turnP p).1, (turnP p).2.1, (turnP p).2.2.1, (turnP p).2.2.2.1, (turnP p).2.2.2.2) = some true := sameS_self (p := turnP p) (by rw [ht]; omega)
      have f1 : f6same (outF p, outF p) = some true := f6same_self (by have := (outSL_val (L p rfl)).2; omega)
      rw [hpm, if_pos rfl, mir_mir hp] at M1
      rw [hp1, if_pos rfl] at T1
      rw [hp2, if_pos rfl] at T2
      rw [hp3, if_pos rfl, turn_four hp] at T3
      rw [hpm, if_pos rfl, out_mir hp] at O1
      rw [hp1, if_pos rfl, out_turn hp] at O2
      simp only [if_true, f1, s1, s2, M1, T1, T2, T3, O1, O2, s0, ob_s, bne_self_eq_false, beq_self_eq_true, Bool.not_true]
end Rx
end Go.Proofs.Ytckbhfbcblehmaa
