/- Clashes of wheels and staffs: the law, in plain terms. No program in sight. -/
import Derived.Test.YtckbhfbcblehmaaRxFnPlatesLaw
import Derived.Test.YtckbhfbcblehmaaRxFnClash
namespace Go.Proofs.Ytckbhfbcblehmaa
namespace Rx
open Go

/-! ### What the functions come to -/
open Classical in
/-- One more clash, where it is one. -/
noncomputable def clashOne (p : PlateD) (i : Int) (y : SiteD) (j : Nat) (a : List (Int × Int)) (z : SiteD) : List (Int × Int) := if i ≠ (j : Int) ∧ clearF y z < p.2.2.2.1 then a ++ [(i, (j : Int))] else a
noncomputable def clashRow (p : PlateD) (i : Nat) (a : List (Int × Int)) (y : SiteD) : List (Int × Int) := foldI (clashOne p (i : Int) y) p.2.2.2.2 0 a
noncomputable def clashF (p : PlateD) : List (Int × Int) := foldI (clashRow p) p.2.2.2.2 0 []
theorem clashOne_br (p : PlateD) (i : Int) (y : SiteD) (j : Int) (hj : 0 ≤ j) (a : List (Int × Int)) (z : SiteD) : clashOne p i y j.toNat a z = if (i != j) = true ∧ decide (clearF y z < p.2.2.2.1) = true then a ++ [(i, j)] else a := by
  unfold clashOne
  rw [show ((j.toNat : Nat) : Int) = j by omega]
  by_cases h1 : i = j
  · simp [h1]
  · simp [h1]
theorem clashOne_len (p : PlateD) (i : Int) (y : SiteD) (j : Nat) (a : List (Int × Int)) (z : SiteD) : (clashOne p i y j a z).length ≤ a.length + 1 := by
  unfold clashOne
  split
  · simp
  · omega
theorem clashIN_val {p : PlateD} (hp : plateOk p = true) {i : Int} {y : SiteD} (hi : 0 ≤ i) (hy : p.2.2.2.2[i.toNat]? = some y) {l : List SiteD} {n k : Int} {a : List (Int × Int)} (ha : a.length ≤ 1000) :
    clashIN (p, a, i, y, l, n, k, p.2.2.2.2, (p.2.2.2.2.length : Int), 0) = some (p, clashRow p i.toNat a y, i, y, l, n, k, p.2.2.2.2, (p.2.2.2.2.length : Int), (p.2.2.2.2.length : Int)) ∧ (clashRow p i.toNat a y).length ≤ a.length + p.2.2.2.2.length := by
  obtain ⟨p1, p2, p3, p4, p5⟩ := plate_bd hp
  have e0 : ((i.toNat : Nat) : Int) = i := by omega
  have h := foldI_loop (step := clashIN_step) (l := p.2.2.2.2) (fun j (b : List (Int × Int)) => (p, b, i, y, l, n, k, p.2.2.2.2, (p.2.2.2.2.length : Int), j)) (clashOne p i y) (fun j b => (b.length : Int) ≤ a.length + j) (fun b => (p, b, i, y, l, n, k, p.2.2.2.2, (p.2.2.2.2.length : Int), (p.2.2.2.2.length : Int)))
    (fun j b z h0 h1 hz hz2 hJ => by
      have e5 : IntKind.i64.wrap (j + 1) = j + 1 := w64 (by omega) (by omega)
      have e3 : clearI ((y.1, (y.2.1.1, y.2.1.2), y.2.2.1, y.2.2.2), z.1, (z.2.1.1, z.2.1.2), z.2.2.1, z.2.2.2) = some (clearF y z) := clearI_eq hp hy hz2
      have hlen := clashOne_len p i y j.toNat b z
      refine ⟨?_, by omega⟩
      rw [clashOne_br p i y j h0 b z]
      unfold clashIN_step
      dsimp only
      rw [br_t (by simpa using h1), hz]
      simp only [ob_s, e3, e5]
      rw [br_t (c := decide (b.length + [(i, j)].length ≤ 4294967296)) (by simp; omega)]
      cases i != j <;> cases decide (clearF y z < p.2.2.2.1) <;> rfl)
    (fun b hJ => by
      show br (decide ((p.2.2.2.2.length : Int) < (p.2.2.2.2.length : Int))) _ _ = _
      rw [br_f (by simp)]) (n := ((p.2.2.2.2.length : Int) - 0).toNat + 1) (by omega) (a0 := a) (by omega)
  unfold clashRow
  rw [e0]
  exact ⟨h.1.1, by have := h.2; omega⟩
theorem clashSN_val {p : PlateD} (hp : plateOk p = true) {i : Int} {y : SiteD} (hi : 0 ≤ i) (hiy : idx p.2.2.2.2 i = some y) (hy : p.2.2.2.2[i.toNat]? = some y) {a : List (Int × Int)} (ha : a.length ≤ 1000) :
    clashSN (p, a, i, 0) = some (p, clashRow p i.toNat a y, i, (p.2.2.2.2.length : Int)) ∧ (clashRow p i.toNat a y).length ≤ a.length + p.2.2.2.2.length := by
  obtain ⟨p1, p2, p3, p4, p5⟩ := plate_bd hp
  have e0 : ((i.toNat : Nat) : Int) = i := by omega
  have h := foldI_loop (step := clashSN_step) (l := p.2.2.2.2) (fun j (b : List (Int × Int)) => (p, b, i, j)) (clashOne p i y) (fun j b => (b.length : Int) ≤ a.length + j) (fun b => (p, b, i, (p.2.2.2.2.length : Int)))
    (fun j b z h0 h1 hz hz2 hJ => by
      have e5 : IntKind.i64.wrap (j + 1) = j + 1 := w64 (by omega) (by omega)
      have e3 : clearS ((p.1, p.2.1, p.2.2.1, p.2.2.2.1, p.2.2.2.2), i, j) = some (clearF y z) := clearS_eq hp hiy hz hy hz2
      have hlen := clashOne_len p i y j.toNat b z
      refine ⟨?_, by omega⟩
      rw [clashOne_br p i y j h0 b z]
      unfold clashSN_step
      dsimp only
      rw [br_t (by simpa using h1)]
      simp only [ob_s, e3, e5]
      rw [br_t (c := decide (b.length + [(i, j)].length ≤ 4294967296)) (by simp; omega)]
      cases i != j <;> cases decide (clearF y z < p.2.2.2.1) <;> rfl)
    (fun b hJ => by
      show br (decide ((p.2.2.2.2.length : Int) < (p.2.2.2.2.length : Int))) _ _ = _
      rw [br_f (by simp)]) (n := p.2.2.2.2.length - (0 : Int).toNat + 1) (by omega) (a0 := a) (by omega)
  unfold clashRow
  rw [e0]
  exact ⟨h.1.1, by have := h.2; omega⟩
theorem len_mul {x n : Nat} {i : Int} (hx : (x : Int) ≤ i * n) (hi : i ≤ n) (hn : n ≤ 20) (h0 : 0 ≤ i) : x ≤ 400 := by
  have h1 : i * (n : Int) ≤ 20 * 20 := Int.mul_le_mul (by omega) (by omega) (by omega) (by omega)
  omega
theorem clashI_loop {p : PlateD} (hp : plateOk p = true) : clashIL (p, [], p.2.2.2.2, (p.2.2.2.2.length : Int), 0) = some (p, clashF p, p.2.2.2.2, (p.2.2.2.2.length : Int), (p.2.2.2.2.length : Int)) ∧ (clashF p).length ≤ 400 := by
  obtain ⟨p1, p2, p3, p4, p5⟩ := plate_bd hp
  have h := foldI_loop (step := clashIL_step) (l := p.2.2.2.2) (fun i (a : List (Int × Int)) => (p, a, p.2.2.2.2, (p.2.2.2.2.length : Int), i)) (clashRow p) (fun i a => (a.length : Int) ≤ i * p.2.2.2.2.length) (fun a => (p, a, p.2.2.2.2, (p.2.2.2.2.length : Int), (p.2.2.2.2.length : Int)))
    (fun i a y h0 h1 hy hy2 hJ => by
      have e5 : IntKind.i64.wrap (i + 1) = i + 1 := w64 (by omega) (by omega)
      have ha := len_mul hJ (by omega) p5 h0
      obtain ⟨e, hl⟩ := clashIN_val hp h0 hy2 (l := p.2.2.2.2) (n := (p.2.2.2.2.length : Int)) (k := i) (a := a) (by omega)
      have e' : clashIN ((p.1, p.2.1, p.2.2.1, p.2.2.2.1, p.2.2.2.2), a, i, (y.1, (y.2.1.1, y.2.1.2), y.2.2.1, y.2.2.2), p.2.2.2.2, (p.2.2.2.2.length : Int), i, p.2.2.2.2, (p.2.2.2.2.length : Int), 0) = _ := e
      refine ⟨?_, by rw [Int.add_mul]; omega⟩
      unfold clashIL_step
      dsimp only
      rw [br_t (by simpa using h1), hy]
      simp only [ob_s, e', e5])
    (fun a hJ => by
      show br (decide ((p.2.2.2.2.length : Int) < (p.2.2.2.2.length : Int))) _ _ = _
      rw [br_f (by simp)]) (n := ((p.2.2.2.2.length : Int) - 0).toNat + 1) (by omega) (a0 := []) (by simp)
  exact ⟨h.1.1, len_mul h.2 (Int.le_refl _) p5 (by omega)⟩
theorem clashS_loop {p : PlateD} (hp : plateOk p = true) : clashSL (p, [], 0) = some (p, clashF p, (p.2.2.2.2.length : Int)) := by
  obtain ⟨p1, p2, p3, p4, p5⟩ := plate_bd hp
  have h := foldI_loop (step := clashSL_step) (l := p.2.2.2.2) (fun i (a : List (Int × Int)) => (p, a, i)) (clashRow p) (fun i a => (a.length : Int) ≤ i * p.2.2.2.2.length) (fun a => (p, a, (p.2.2.2.2.length : Int)))
    (fun i a y h0 h1 hy hy2 hJ => by
      have e5 : IntKind.i64.wrap (i + 1) = i + 1 := w64 (by omega) (by omega)
      have ha := len_mul hJ (by omega) p5 h0
      obtain ⟨e, hl⟩ := clashSN_val hp h0 hy hy2 (a := a) (by omega)
      have e' : clashSN ((p.1, p.2.1, p.2.2.1, p.2.2.2.1, p.2.2.2.2), a, i, 0) = _ := e
      refine ⟨?_, by rw [Int.add_mul]; omega⟩
      unfold clashSL_step
      dsimp only
      rw [br_t (by simpa using h1)]
      simp only [ob_s, e', e5])
    (fun a hJ => by
      show br (decide ((p.2.2.2.2.length : Int) < (p.2.2.2.2.length : Int))) _ _ = _
      rw [br_f (by simp)]) (n := p.2.2.2.2.length - (0 : Int).toNat + 1) (by omega) (a0 := []) (by simp)
  exact h.1.1
theorem clashI_val (p : PlateD) : clashI p = some (if plateOk p = true then (clashF p, 0) else ([], 1)) ∧ clashS p = some (if plateOk p = true then (clashF p, 0) else ([], 1)) := by
  have e1 : validPlateI (p.1, p.2.1, p.2.2.1, p.2.2.2.1, p.2.2.2.2) = some (plateOk p) := validPlateI_eq p
  have e2 : okPlateS (p.1, p.2.1, p.2.2.1, p.2.2.2.1, p.2.2.2.2) = some (plateOk p) := okPlateS_eq p
  unfold clashI clashS
  simp only [e1, e2, ob_s]
  cases hp : plateOk p with
  | false => exact ⟨rfl, rfl⟩
  | true =>
    have h1 : clashIL ((p.1, p.2.1, p.2.2.1, p.2.2.2.1, p.2.2.2.2), [], p.2.2.2.2, (p.2.2.2.2.length : Int), 0) = _ := (clashI_loop hp).1
    have h2 : clashSL ((p.1, p.2.1, p.2.2.1, p.2.2.2.1, p.2.2.2.2), [], 0) = _ := clashS_loop hp
    rw [h1, h2]
    exact ⟨rfl, rfl⟩

/-! ### Turned plates have the same clashes -/
theorem sq_neg {a b : Int} (h : a = -b) : a * a = b * b := by rw [h, Int.neg_mul_neg]
theorem clear_mir {p : PlateD} (hp : plateOk p = true) {y z : SiteD} (hy : y ∈ p.2.2.2.2) (hz : z ∈ p.2.2.2.2) : clearF (mirF p y) (mirF p z) = clearF y z := by
  obtain ⟨p1, p2, p3, p4, p5⟩ := plate_bd hp
  obtain ⟨y1, y2, _⟩ := mem_bd hp hy
  obtain ⟨z1, z2, _⟩ := mem_bd hp hz
  have e1 : IntKind.i64.wrap (p.1 - y.2.1.1) = p.1 - y.2.1.1 := w64 (by omega) (by omega)
  have e2 : IntKind.i64.wrap (p.1 - z.2.1.1) = p.1 - z.2.1.1 := w64 (by omega) (by omega)
  have : sqF (mirF p y).2.1 (mirF p z).2.1 = sqF y.2.1 z.2.1 := by
    unfold sqF mirF
    dsimp only
    rw [e1, e2, sq_neg (a := p.1 - y.2.1.1 - (p.1 - z.2.1.1)) (b := y.2.1.1 - z.2.1.1) (by omega)]
  unfold clearF
  rw [this]; rfl
theorem clear_turn {p : PlateD} (hp : plateOk p = true) {y z : SiteD} (hy : y ∈ p.2.2.2.2) (hz : z ∈ p.2.2.2.2) : clearF (turnF p y) (turnF p z) = clearF y z := by
  obtain ⟨p1, p2, p3, p4, p5⟩ := plate_bd hp
  obtain ⟨y1, y2, _⟩ := mem_bd hp hy
  obtain ⟨z1, z2, _⟩ := mem_bd hp hz
  have e1 : IntKind.i64.wrap (p.2.1 - y.2.1.2) = p.2.1 - y.2.1.2 := w64 (by omega) (by omega)
  have e2 : IntKind.i64.wrap (p.2.1 - z.2.1.2) = p.2.1 - z.2.1.2 := w64 (by omega) (by omega)
  have : sqF (turnF p y).2.1 (turnF p z).2.1 = sqF y.2.1 z.2.1 := by
    unfold sqF turnF
    dsimp only
    rw [e1, e2, sq_neg (a := p.2.1 - y.2.1.2 - (p.2.1 - z.2.1.2)) (b := y.2.1.2 - z.2.1.2) (by omega), Int.add_comm]
  unfold clearF
  rw [this]; rfl
theorem clash_same {p q : PlateD} {g : SiteD → SiteD} (hq : q.2.2.2.2 = p.2.2.2.2.map g) (hgap : q.2.2.2.1 = p.2.2.2.1) (hc : ∀ y z, y ∈ p.2.2.2.2 → z ∈ p.2.2.2.2 → clearF (g y) (g z) = clearF y z) : clashF q = clashF p := by
  unfold clashF
  rw [hq, foldI_map]
  refine foldI_congr _ _ _ fun i a y hy => ?_
  unfold clashRow
  rw [hq, foldI_map]
  refine foldI_congr _ _ _ fun j b z hz => ?_
  unfold clashOne
  rw [hgap, hc y z hy hz]
theorem clash_mir {p : PlateD} (hp : plateOk p = true) : clashF (mirP p) = clashF p := clash_same rfl rfl fun _ _ hy hz => clear_mir hp hy hz
theorem clash_turn {p : PlateD} (hp : plateOk p = true) : clashF (turnP p) = clashF p := clash_same rfl rfl fun _ _ hy hz => clear_turn hp hy hz

/-! ### They are counted -/
open Classical in
noncomputable def cntOne (p : PlateD) (i : Int) (y : SiteD) (j : Nat) (a : Int) (z : SiteD) : Int := if i ≠ (j : Int) ∧ clearF y z < p.2.2.2.1 then a + 1 else a
noncomputable def cntRow (p : PlateD) (i : Nat) (a : Int) (y : SiteD) : Int := foldI (cntOne p (i : Int) y) p.2.2.2.2 0 a
noncomputable def cntF (p : PlateD) : Int := foldI (cntRow p) p.2.2.2.2 0 0
theorem cnt_row (p : PlateD) (i : Nat) (y : SiteD) (a : List (Int × Int)) (b : Int) (h : (a.length : Int) = b) : ((clashRow p i a y).length : Int) = cntRow p i b y := by
  refine foldI_rel (fun (a : List (Int × Int)) b => (a.length : Int) = b) p.2.2.2.2 0 a b h fun j a b z _ h => ?_
  unfold clashOne cntOne
  split
  · simp; omega
  · exact h
theorem cnt_all (p : PlateD) : ((clashF p).length : Int) = cntF p :=
  foldI_rel (fun (a : List (Int × Int)) b => (a.length : Int) = b) p.2.2.2.2 0 [] 0 rfl fun j a b y _ h => cnt_row p j y a b h
theorem betweenI_val {p : PlateD} (hp : plateOk p = true) {i j : Int} {y z : SiteD} (hi : 0 ≤ i ∧ i < p.2.2.2.2.length) (hj : 0 ≤ j ∧ j < p.2.2.2.2.length) (hy : idx p.2.2.2.2 i = some y) (hz : idx p.2.2.2.2 j = some z) (hy2 : p.2.2.2.2[i.toNat]? = some y) (hz2 : p.2.2.2.2[j.toNat]? = some z) :
    betweenI (p, i, j) = some (if (i == j) = true then (0, 2) else (clearF y z, 0)) := by
  obtain ⟨p1, p2, p3, p4, p5⟩ := plate_bd hp
  have e1 : validPlateI (p.1, p.2.1, p.2.2.1, p.2.2.2.1, p.2.2.2.2) = some (plateOk p) := validPlateI_eq p
  have e3 : clearI ((y.1, (y.2.1.1, y.2.1.2), y.2.2.1, y.2.2.2), z.1, (z.2.1.1, z.2.1.2), z.2.2.1, z.2.2.2) = some (clearF y z) := clearI_eq hp hy2 hz2
  unfold betweenI
  simp only [e1, ob_s, withinP_eq]
  rw [w64 (by omega) (by omega), hp, inF_true hi.1 (by omega), inF_true hj.1 (by omega)]
  cases i == j with
  | true => rfl
  | false => simp only [Bool.not_true, br, hy, hz, ob_s, e3]; rfl
theorem countN_val {p : PlateD} (hp : plateOk p = true) {i : Int} {y : SiteD} (hi : 0 ≤ i ∧ i < p.2.2.2.2.length) (hiy : idx p.2.2.2.2 i = some y) (hy : p.2.2.2.2[i.toNat]? = some y) {l : List (Int × Int)} {a : Int} (ha : 0 ≤ a ∧ a ≤ 1000) :
    countN (false, p, l, a, i, 0) = some (true, (false, p, l, cntRow p i.toNat a y, i, (p.2.2.2.2.length : Int))) ∧ 0 ≤ cntRow p i.toNat a y ∧ cntRow p i.toNat a y ≤ a + p.2.2.2.2.length := by
  obtain ⟨p1, p2, p3, p4, p5⟩ := plate_bd hp
  have e0 : ((i.toNat : Nat) : Int) = i := by omega
  have h := foldI_loop (step := countN_step) (l := p.2.2.2.2) (fun j (b : Int) => (false, p, l, b, i, j)) (cntOne p i y) (fun j b => 0 ≤ b ∧ b ≤ a + j) (fun b => (false, p, l, b, i, (p.2.2.2.2.length : Int)))
    (fun j b z h0 h1 hz hz2 hJ => by
      have e5 : IntKind.i64.wrap (j + 1) = j + 1 := w64 (by omega) (by omega)
      have e6 : IntKind.i64.wrap (b + 1) = b + 1 := w64 (by omega) (by omega)
      have e7 : ((j.toNat : Nat) : Int) = j := by omega
      have e3 : betweenI ((p.1, p.2.1, p.2.2.1, p.2.2.2.1, p.2.2.2.2), i, j) = _ := betweenI_val hp hi ⟨h0, h1⟩ hiy hz hy hz2
      unfold cntOne
      rw [e7]
      unfold countN_step
      dsimp only
      rw [br_t (by simpa using h1), e3]
      simp only [ob_s, e5, e6]
      by_cases hij : i = j
      · have b1 : (i == j) = true := by simpa using hij
        have b2 : (i != j) = false := by simpa using hij
        rw [if_pos b1, if_neg (fun h => h.1 hij)]
        simp only [b2]
        exact ⟨rfl, by omega, by omega⟩
      · have b1 : (i == j) = false := by simpa using hij
        have b2 : (i != j) = true := by simpa using hij
        rw [if_neg (by rw [b1]; simp)]
        simp only [b2]
        by_cases hc : clearF y z < p.2.2.2.1
        · rw [if_pos ⟨hij, hc⟩, decide_eq_true hc]
          exact ⟨rfl, by omega, by omega⟩
        · rw [if_neg (fun h => hc h.2), decide_eq_false hc]
          exact ⟨rfl, by omega, by omega⟩)
    (fun b hJ => by
      show br (decide ((p.2.2.2.2.length : Int) < (p.2.2.2.2.length : Int))) _ _ = _
      rw [br_f (by simp)]) (n := p.2.2.2.2.length - (0 : Int).toNat + 1) (by omega) (a0 := a) ⟨ha.1, by omega⟩
  unfold cntRow
  rw [e0]
  exact ⟨h.1.2, h.2⟩
theorem countL_val {p : PlateD} (hp : plateOk p = true) (l : List (Int × Int)) : countL (false, p, l, 0, 0) = some (true, (false, p, l, cntF p, (p.2.2.2.2.length : Int))) := by
  obtain ⟨p1, p2, p3, p4, p5⟩ := plate_bd hp
  have h := foldI_loop (step := countL_step) (l := p.2.2.2.2) (fun i (a : Int) => (false, p, l, a, i)) (cntRow p) (fun i a => 0 ≤ a ∧ a ≤ i * p.2.2.2.2.length) (fun a => (false, p, l, a, (p.2.2.2.2.length : Int)))
    (fun i a y h0 h1 hy hy2 hJ => by
      have e5 : IntKind.i64.wrap (i + 1) = i + 1 := w64 (by omega) (by omega)
      have ha := len_mul (x := a.toNat) (n := p.2.2.2.2.length) (i := i) (by omega) (by omega) p5 h0
      obtain ⟨e, hl⟩ := countN_val hp ⟨h0, h1⟩ hy hy2 (l := l) (a := a) ⟨hJ.1, by omega⟩
      have e' : countN (false, (p.1, p.2.1, p.2.2.1, p.2.2.2.1, p.2.2.2.2), l, a, i, 0) = _ := e
      refine ⟨?_, hl.1, by rw [Int.add_mul]; omega⟩
      unfold countL_step
      dsimp only
      rw [br_t (by simpa using h1), e']
      simp only [ob_s, e5, br])
    (fun a hJ => by
      show br (decide ((p.2.2.2.2.length : Int) < (p.2.2.2.2.length : Int))) _ _ = _
      rw [br_f (by simp)]) (n := p.2.2.2.2.length - (0 : Int).toNat + 1) (by omega) (a0 := 0) (by simp)
  exact h.1.2
theorem f6clash_self {l : List (Int × Int)} (hl : l.length ≤ 4294967296) : f6clash (l, l) = some true := by
  obtain ⟨i', h⟩ := eq_loop (step := f6clashL_step) hl (fun i b y h0 h1 hy => by
    show br (decide (i < (l.length : Int))) (ob (idx l i) fun y => ob (idx l i) fun y_1 => br (!(y.1 == y_1.1 && y.2 == y_1.2)) _ (some (LRes.next, l, l, b, IntKind.i64.wrap (i + 1)))) _ = _
    rw [br_t (by simpa using h1), hy]
    show br (!(y.1 == y.1 && y.2 == y.2)) _ _ = _
    rw [br_f (by simp)]
    rw [w64 (by omega) (by omega)]) (fun i b h => by
    show br (decide (i < (l.length : Int))) _ _ = _
    rw [br_f (by simpa using h)]) false
  have h' : f6clashL (l, l, false, 0) = some (true, (l, l, false, i')) := h
  show br ((l.length : Int) != (l.length : Int)) _ (ob (f6clashL (l, l, false, 0)) _) = _
  rw [br_f (by simp), h']
  rfl
theorem fnClashes_holds (c : List Int) (hw : WfAll [.slice (.int .u8)] c) : fnClashes c = some true := by
  have hc := bytes_wf hw
  obtain ⟨p, e0, hl⟩ := drawClash_tot hc
  have hlp : p.2.2.2.2.length ≤ 1048576 := by omega
  have c1 : clashI (p.1, p.2.1, p.2.2.1, p.2.2.2.1, p.2.2.2.2) = _ := (clashI_val p).1
  have c2 : clashS (p.1, p.2.1, p.2.2.1, p.2.2.2.1, p.2.2.2.2) = _ := (clashI_val p).2
  have m1 : mirI (p.1, p.2.1, p.2.2.1, p.2.2.2.1, p.2.2.2.2) = _ := (mir_val hlp).1
  have t1 : turnPI (p.1, p.2.1, p.2.2.1, p.2.2.2.1, p.2.2.2.2) = _ := (turn_val hlp).1
  unfold fnClashes f6big
  simp only [ob_s]
  cases decide ((4096 : Int) < (c.length : Int)) with
  | true => rfl
  | false =>
    simp only [br, e0, ob_s, c1, c2, m1, t1]
    cases hp : plateOk p with
    | false =>
      simp only [Bool.false_eq_true, if_false, f6clash_self (l := []) (by simp), ob_s]
      rfl
    | true =>
      have C1 : clashI ((mirP p).1, (mirP p).2.1, (mirP p).2.2.1, (mirP p).2.2.2.1, (mirP p).2.2.2.2) = _ := (clashI_val (mirP p)).1
      have C2 : clashI ((turnP p).1, (turnP p).2.1, (turnP p).2.2.1, (turnP p).2.2.2.1, (turnP p).2.2.2.2) = _ := (clashI_val (turnP p)).1
      have f1 : f6clash (clashF p, clashF p) = some true := f6clash_self (by have := (clashI_loop hp).2; omega)
      have n1 : countL (false, (p.1, p.2.1, p.2.2.1, p.2.2.2.1, p.2.2.2.2), clashF p, 0, 0) = _ := countL_val hp (clashF p)
      rw [ok_mir hp, if_pos rfl, clash_mir hp] at C1
      rw [ok_turn hp, if_pos rfl, clash_turn hp] at C2
      simp only [if_true, f1, C1, C2, n1, ob_s, bne_self_eq_false, Bool.not_true, cnt_all, beq_self_eq_true]
end Rx
end Go.Proofs.Ytckbhfbcblehmaa
