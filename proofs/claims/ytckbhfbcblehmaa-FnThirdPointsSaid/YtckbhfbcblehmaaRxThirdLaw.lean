/- Third points have their distances up to rounding: the law, in plain terms. No program in sight. -/
import Derived.Test.YtckbhfbcblehmaaRxThirdMath
import Derived.Test.YtckbhfbcblehmaaRxClearLaw
import Derived.Test.YtckbhfbcblehmaaRxTurnLaw
import Derived.Test.YtckbhfbcblehmaaRxDrawLaw
import Derived.Test.YtckbhfbcblehmaaRxThird
import Derived.Test.YtckbhfbcblehmaaRxFnPlatesLaw
namespace Go.Proofs.Ytckbhfbcblehmaa
namespace Rx
open Go

theorem pbd {x y A B : Int} (h1 : -A ≤ x) (h2 : x ≤ A) (h3 : -B ≤ y) (h4 : y ≤ B) (hA : 0 ≤ A) : -(A * B) ≤ x * y ∧ x * y ≤ A * B := by
  have a := ab_mul (n := x) h3 h4
  have b : ab x ≤ A := by unfold ab; split <;> omega
  have c := Int.mul_le_mul_of_nonneg_right b (show 0 ≤ B by omega)
  omega

/-! ### Rounded quotients -/
theorem floorDI_eq {n m : Int} (hm : 1 ≤ m) (h1 : -1000000000000000000 ≤ n) (h2 : n ≤ 1000000000000000000) : floorDI (n, m) = some (n / m) := by
  obtain ⟨b1, b2⟩ := tdiv_bd hm h1 h2 (by omega)
  unfold floorDI
  dsimp only
  rw [br_f (by simp; omega), br_f (by simp; omega), w64 (x := n.tdiv m) (by omega) (by omega), w64 (by omega) (by omega)]
  by_cases h : n.tmod m < 0
  · rw [br_t (by simpa using h), down_neg hm h]
  · rw [br_f (by simpa using h), down_pos hm h]
theorem nearDI_eq {n m : Int} (hm : 1 ≤ m) (hm2 : m ≤ 10000000000) (h1 : -100000000000000000 ≤ n) (h2 : n ≤ 100000000000000000) : nearDI (n, m) = some (near n m) := by
  obtain ⟨c1, c2⟩ := ediv_bd hm h1 h2 (by omega)
  obtain ⟨e1, e2⟩ := ediv_mul_bd (n := n) hm
  unfold nearDI
  dsimp only
  rw [floorDI_eq hm (by omega) (by omega), ob_s, w64 (x := n / m * m) (by omega) (by omega), w64 (x := n - n / m * m) (by omega) (by omega), w64 (x := m - (n - n / m * m)) (by omega) (by omega), w64 (by omega) (by omega)]
  by_cases h : m - (n - n / m * m) ≤ n - n / m * m
  · rw [br_t (by simpa using h), near_up hm h]
  · rw [br_f (by simpa using h), near_down hm h]
theorem nearDS_eq {n m : Int} (hm : 1 ≤ m) (hm2 : m ≤ 10000000000) (h1 : -100000000000000000 ≤ n) (h2 : n ≤ 100000000000000000) : nearDS (n, m) = some (near n m) := by
  have e : downS = floorDI := rfl
  unfold nearDS
  dsimp only
  rw [w64 (x := 2 * n) (by omega) (by omega), w64 (x := 2 * n + m) (by omega) (by omega), w64 (x := 2 * m) (by omega) (by omega), e, floorDI_eq (by omega) (by omega) (by omega)]
  rfl

/-! ### Third points -/
def ptOk (p : Int × Int) : Bool := inF p.1 0 10000 && inF p.2 0 10000
theorem validPointI_eq (p : Int × Int) : validPointI p = some (ptOk p) := by
  unfold validPointI ptOk
  simp only [withinP_eq, ob_s]
  cases inF p.1 0 10000 <;> rfl
theorem okPointS_eq (p : Int × Int) : okPointS p = some (ptOk p) := validPointI_eq p
theorem ptOk_bd {p : Int × Int} (h : ptOk p = true) : (0 ≤ p.1 ∧ p.1 ≤ 10000) ∧ (0 ≤ p.2 ∧ p.2 ≤ 10000) := by
  unfold ptOk inF at h
  simp only [Bool.and_eq_true, decide_eq_true_eq] at h
  exact h
def alongF (D ra rb : Int) : Int := ra * ra - rb * rb + D
def restF2 (D ra A : Int) : Int := 4 * D * ra * ra - A * A
def uF (dx dy D A r : Int) : Int := near (A * dx - r * dy) (2 * D)
def vF (dx dy D A r : Int) : Int := near (A * dy + r * dx) (2 * D)
def endF (a : Int × Int) (u v : Int) : (Int × Int) × Int := if ptOk (a.1 + u, a.2 + v) = true then ((a.1 + u, a.2 + v), 0) else ((0, 0), 10)
noncomputable def midF (a b : Int × Int) (ra rb : Int) (left : Bool) : (Int × Int) × Int :=
  if restF2 (sqF b a) ra (alongF (sqF b a) ra rb) < 0 then ((0, 0), 3)
  else endF a (uF (b.1 - a.1) (b.2 - a.2) (sqF b a) (alongF (sqF b a) ra rb) (if left = true then isq (restF2 (sqF b a) ra (alongF (sqF b a) ra rb)) else -isq (restF2 (sqF b a) ra (alongF (sqF b a) ra rb))))
    (vF (b.1 - a.1) (b.2 - a.2) (sqF b a) (alongF (sqF b a) ra rb) (if left = true then isq (restF2 (sqF b a) ra (alongF (sqF b a) ra rb)) else -isq (restF2 (sqF b a) ra (alongF (sqF b a) ra rb))))
noncomputable def thirdF (a b : Int × Int) (ra rb : Int) (left : Bool) : (Int × Int) × Int :=
  if ptOk a = true then
    if ptOk b = true then
      if inF ra 0 10000 = true then
        if inF rb 0 10000 = true then
          if a = b then ((0, 0), 6) else midF a b ra rb left
        else ((0, 0), 2)
      else ((0, 0), 2)
    else ((0, 0), 1)
  else ((0, 0), 1)
theorem sqF_sym (a b : Int × Int) : sqF a b = sqF b a := by
  unfold sqF
  grind
theorem sqF_zero {a b : Int × Int} : sqF b a = 0 ↔ a = b := by
  constructor
  · intro h
    unfold sqF at h
    have p1 : 0 ≤ (b.1 - a.1) * (b.1 - a.1) := by have := ab_sq (b.1 - a.1); have := Int.mul_nonneg (ab_nn (b.1 - a.1)) (ab_nn (b.1 - a.1)); omega
    have p2 : 0 ≤ (b.2 - a.2) * (b.2 - a.2) := by have := ab_sq (b.2 - a.2); have := Int.mul_nonneg (ab_nn (b.2 - a.2)) (ab_nn (b.2 - a.2)); omega
    have z1 : b.1 - a.1 = 0 := by rcases Int.mul_eq_zero.1 (show (b.1 - a.1) * (b.1 - a.1) = 0 by omega) with h | h <;> exact h
    have z2 : b.2 - a.2 = 0 := by rcases Int.mul_eq_zero.1 (show (b.2 - a.2) * (b.2 - a.2) = 0 by omega) with h | h <;> exact h
    exact Prod.ext (by omega) (by omega)
  · rintro rfl
    unfold sqF
    simp
/-- What is known once the arguments are valid. -/
structure Bds (dx dy D ra rb A s : Int) : Prop where
  x : -10000 ≤ dx ∧ dx ≤ 10000
  y : -10000 ≤ dy ∧ dy ≤ 10000
  xx : 0 ≤ dx * dx ∧ dx * dx ≤ 100000000
  yy : 0 ≤ dy * dy ∧ dy * dy ≤ 100000000
  d : 0 ≤ D ∧ D ≤ 200000000
  a2 : 0 ≤ ra * ra ∧ ra * ra ≤ 100000000
  b2 : 0 ≤ rb * rb ∧ rb * rb ≤ 100000000
  al : -300000000 ≤ A ∧ A ≤ 300000000
  d4 : 0 ≤ 4 * D * ra ∧ 4 * D * ra ≤ 8000000000000
  d5 : 0 ≤ 4 * D * ra * ra ∧ 4 * D * ra * ra ≤ 80000000000000000
  aa : 0 ≤ A * A ∧ A * A ≤ 90000000000000000
  s : s ≤ 80000000000000000 ∧ -90000000000000000 ≤ s
theorem bds {a b : Int × Int} (ha : ptOk a = true) (hb : ptOk b = true) {ra rb : Int} (hra : 0 ≤ ra ∧ ra ≤ 10000) (hrb : 0 ≤ rb ∧ rb ≤ 10000) :
    Bds (b.1 - a.1) (b.2 - a.2) (sqF b a) ra rb (alongF (sqF b a) ra rb) (restF2 (sqF b a) ra (alongF (sqF b a) ra rb)) := by
  obtain ⟨a1, a2⟩ := ptOk_bd ha
  obtain ⟨b1, b2⟩ := ptOk_bd hb
  have xx := sq_small (d := b.1 - a.1) (by omega) (by omega)
  have yy := sq_small (d := b.2 - a.2) (by omega) (by omega)
  have r1 := sq_small (d := ra) (by omega) (by omega)
  have r2 := sq_small (d := rb) (by omega) (by omega)
  have hd : 0 ≤ sqF b a ∧ sqF b a ≤ 200000000 := by unfold sqF; omega
  generalize sqF b a = D at *
  have hal : -300000000 ≤ alongF D ra rb ∧ alongF D ra rb ≤ 300000000 := by unfold alongF; omega
  have p1 := pbd (x := 4 * D) (y := ra) (A := 800000000) (B := 10000) (by omega) (by omega) (by omega) (by omega) (by omega)
  have p1' : 0 ≤ 4 * D * ra := Int.mul_nonneg (by omega) (by omega)
  have p2 := pbd (x := 4 * D * ra) (y := ra) (A := 8000000000000) (B := 10000) (by omega) (by omega) (by omega) (by omega) (by omega)
  have p2' : 0 ≤ 4 * D * ra * ra := Int.mul_nonneg p1' (by omega)
  have p3 := pbd (x := alongF D ra rb) (y := alongF D ra rb) (A := 300000000) (B := 300000000) hal.1 hal.2 hal.1 hal.2 (by omega)
  have p3' : 0 ≤ alongF D ra rb * alongF D ra rb := by have := ab_sq (alongF D ra rb); have := Int.mul_nonneg (ab_nn (alongF D ra rb)) (ab_nn (alongF D ra rb)); omega
  refine ⟨by omega, by omega, xx, yy, hd, r1, r2, hal, by omega, by omega, by omega, ?_⟩
  unfold restF2
  omega
theorem third_both (a b : Int × Int) (ra rb : Int) (left : Bool) : thirdI (a, b, ra, rb, left) = some (thirdF a b ra rb left) ∧ thirdS (a, b, ra, rb, left) = some (thirdF a b ra rb left) := by
  have ea : validPointI (a.1, a.2) = some (ptOk a) := validPointI_eq a
  have eb : validPointI (b.1, b.2) = some (ptOk b) := validPointI_eq b
  have fa : okPointS (a.1, a.2) = some (ptOk a) := okPointS_eq a
  have fb : okPointS (b.1, b.2) = some (ptOk b) := okPointS_eq b
  unfold thirdI thirdS thirdF
  dsimp only
  rw [ea, fa]
  simp only [ob_s]
  cases ha : ptOk a with
  | false => exact ⟨rfl, rfl⟩
  | true =>
    rw [br_f (c := !true) rfl, br_f (c := !true) rfl, eb, fb]
    simp only [ob_s]
    cases hb : ptOk b with
    | false => exact ⟨rfl, rfl⟩
    | true =>
      rw [br_f (c := !true) rfl, br_f (c := !true) rfl, withinP_eq, inP_eq]
      simp only [ob_s]
      cases hra : inF ra 0 10000 with
      | false => exact ⟨rfl, rfl⟩
      | true =>
        rw [br_f (c := !true) rfl, br_f (c := !true) rfl, withinP_eq, inP_eq]
        simp only [ob_s]
        cases hrb : inF rb 0 10000 with
        | false => exact ⟨rfl, rfl⟩
        | true =>
          have hra' : 0 ≤ ra ∧ ra ≤ 10000 := by unfold inF at hra; simpa using hra
          have hrb' : 0 ≤ rb ∧ rb ≤ 10000 := by unfold inF at hrb; simpa using hrb
          have B := bds ha hb hra' hrb'
          obtain ⟨pa1, pa2⟩ := ptOk_bd ha
          obtain ⟨pb1, pb2⟩ := ptOk_bd hb
          have hsq : sqS ((a.1, a.2), b.1, b.2) = some (sqF b a) := by
            rw [sqS_eq, ← sqF_sym]
            exact sqI_eq (a := a) (b := b) pa1 pa2 pb1 pb2
          rw [br_f (c := !true) rfl, br_f (c := !true) rfl, hsq]
          simp only [ob_s, if_true]
          have w1 : IntKind.i64.wrap (b.1 - a.1) = b.1 - a.1 := w64 (by omega) (by omega)
          have w2 : IntKind.i64.wrap (b.2 - a.2) = b.2 - a.2 := w64 (by omega) (by omega)
          have w3 : IntKind.i64.wrap ((b.1 - a.1) * (b.1 - a.1)) = (b.1 - a.1) * (b.1 - a.1) := w64 (by have := B.xx; omega) (by have := B.xx; omega)
          have w4 : IntKind.i64.wrap ((b.2 - a.2) * (b.2 - a.2)) = (b.2 - a.2) * (b.2 - a.2) := w64 (by have := B.yy; omega) (by have := B.yy; omega)
          have w5 : IntKind.i64.wrap ((b.1 - a.1) * (b.1 - a.1) + (b.2 - a.2) * (b.2 - a.2)) = sqF b a := w64 (by have := B.xx; have := B.yy; omega) (by have := B.xx; have := B.yy; omega)
          have w6 : IntKind.i64.wrap (ra * ra) = ra * ra := w64 (by have := B.a2; omega) (by have := B.a2; omega)
          have w7 : IntKind.i64.wrap (rb * rb) = rb * rb := w64 (by have := B.b2; omega) (by have := B.b2; omega)
          have w8 : IntKind.i64.wrap (ra * ra - rb * rb) = ra * ra - rb * rb := w64 (by have := B.a2; have := B.b2; omega) (by have := B.a2; have := B.b2; omega)
          have w9 : IntKind.i64.wrap (ra * ra - rb * rb + sqF b a) = alongF (sqF b a) ra rb := by
            have h1 := B.al
            unfold alongF at h1 ⊢
            exact w64 (by omega) (by omega)
          simp only [w1, w2, w3, w4, w5, w6, w7, w8, w9]
          by_cases hab : a = b
          · have c1 : (a.1 == b.1 && a.2 == b.2) = true := by subst hab; simp
            have c2 : (sqF b a == 0) = true := by simpa using sqF_zero.2 hab
            rw [br_t c1, br_t c2, if_pos hab]
            exact ⟨rfl, rfl⟩
          · have c1 : (a.1 == b.1 && a.2 == b.2) = false := by
              rw [Bool.eq_false_iff]
              intro h
              simp only [Bool.and_eq_true, beq_iff_eq] at h
              exact hab (Prod.ext h.1 h.2)
            have c2 : (sqF b a == 0) = false := by
              have := mt sqF_zero.1 hab
              simpa using this
            rw [br_f c1, br_f c2, if_neg hab]
            have hD : 1 ≤ sqF b a := by have := B.d; have := mt sqF_zero.1 hab; omega
            unfold midF
            generalize hDD : sqF b a = D at *
            generalize hAA : alongF D ra rb = A at *
            generalize hdx : b.1 - a.1 = dx at *
            generalize hdy : b.2 - a.2 = dy at *
            have w10 : IntKind.i64.wrap (4 * D) = 4 * D := w64 (by omega) (by have := B.d; omega)
            have w11 : IntKind.i64.wrap (4 * D * ra) = 4 * D * ra := w64 (by have := B.d4; omega) (by have := B.d4; omega)
            have w12 : IntKind.i64.wrap (4 * D * ra * ra) = 4 * D * ra * ra := w64 (by have := B.d5; omega) (by have := B.d5; omega)
            have w13 : IntKind.i64.wrap (A * A) = A * A := w64 (by have := B.aa; omega) (by have := B.aa; omega)
            have w14 : IntKind.i64.wrap (4 * D * ra * ra - A * A) = restF2 D ra A := by
              have h1 := B.s
              unfold restF2 at h1 ⊢
              exact w64 (by omega) (by omega)
            have w15 : IntKind.i64.wrap (2 * D) = 2 * D := w64 (by omega) (by have := B.d; omega)
            simp only [w10, w11, w12, w13, w14, w15]
            generalize hss : restF2 D ra A = s at *
            by_cases hs : s < 0
            · rw [br_t (by simpa using hs), br_t (by simpa using hs), if_pos hs]
              exact ⟨rfl, rfl⟩
            · have hs1 := B.s
              have hroot : rootI s = some (isq s) := rootF_eq (by omega) (by omega)
              have hR0 : 0 ≤ isq s := (isq_spec (show 0 ≤ s by omega)).1
              have hR1 : isq s ≤ 300000000 := root_le (M := 300000000) (isq_spec (show 0 ≤ s by omega)) (by omega) (by omega)
              rw [br_f (by simpa using hs), br_f (by simpa using hs), if_neg hs, rootS_eq, hroot]
              simp only [ob_s]
              have hx := B.x
              have hy := B.y
              have hal := B.al
              have hd := B.d
              have q1 := pbd (x := A) (y := dx) (A := 300000000) (B := 10000) (by omega) (by omega) (by omega) (by omega) (by omega)
              have q2 := pbd (x := A) (y := dy) (A := 300000000) (B := 10000) (by omega) (by omega) (by omega) (by omega) (by omega)
              have fin : ∀ r : Int, -300000000 ≤ r → r ≤ 300000000 →
                  (nearDI (IntKind.i64.wrap (IntKind.i64.wrap (A * dx) - IntKind.i64.wrap (r * dy)), 2 * D) = some (uF dx dy D A r) ∧ nearDI (IntKind.i64.wrap (IntKind.i64.wrap (A * dy) + IntKind.i64.wrap (r * dx)), 2 * D) = some (vF dx dy D A r) ∧
                  nearDS (IntKind.i64.wrap (IntKind.i64.wrap (A * dx) - IntKind.i64.wrap (r * dy)), 2 * D) = some (uF dx dy D A r) ∧ nearDS (IntKind.i64.wrap (IntKind.i64.wrap (A * dy) + IntKind.i64.wrap (r * dx)), 2 * D) = some (vF dx dy D A r)) ∧
                  IntKind.i64.wrap (a.1 + uF dx dy D A r) = a.1 + uF dx dy D A r ∧ IntKind.i64.wrap (a.2 + vF dx dy D A r) = a.2 + vF dx dy D A r := by
                intro r r1 r2
                have q3 := pbd (x := r) (y := dy) (A := 300000000) (B := 10000) (by omega) (by omega) (by omega) (by omega) (by omega)
                have q4 := pbd (x := r) (y := dx) (A := 300000000) (B := 10000) (by omega) (by omega) (by omega) (by omega) (by omega)
                rw [w64 (x := A * dx) (by omega) (by omega), w64 (x := r * dy) (by omega) (by omega), w64 (x := A * dy) (by omega) (by omega), w64 (x := r * dx) (by omega) (by omega), w64 (x := A * dx - r * dy) (by omega) (by omega), w64 (x := A * dy + r * dx) (by omega) (by omega)]
                have b1 : -20000000000000 ≤ near (A * dx - r * dy) (2 * D) ∧ near (A * dx - r * dy) (2 * D) ≤ 20000000000000 := ediv_bd (by omega) (by omega) (by omega) (by omega)
                have b2 : -20000000000000 ≤ near (A * dy + r * dx) (2 * D) ∧ near (A * dy + r * dx) (2 * D) ≤ 20000000000000 := ediv_bd (by omega) (by omega) (by omega) (by omega)
                refine ⟨⟨nearDI_eq (by omega) (by omega) (by omega) (by omega), nearDI_eq (by omega) (by omega) (by omega) (by omega), nearDS_eq (by omega) (by omega) (by omega) (by omega), nearDS_eq (by omega) (by omega) (by omega) (by omega)⟩, ?_, ?_⟩
                · unfold uF; exact w64 (by omega) (by omega)
                · unfold vF; exact w64 (by omega) (by omega)
              cases left with
              | true =>
                obtain ⟨⟨f1, f2, f3, f4⟩, f5, f6⟩ := fin (isq s) (by omega) (by omega)
                rw [br_f (c := !true) rfl, br_f (c := !true) rfl, if_pos rfl]
                simp only [f1, f2, f3, f4, f5, f6, ob_s, validPointI_eq, okPointS_eq]
                unfold endF
                cases ptOk (a.1 + uF dx dy D A (isq s), a.2 + vF dx dy D A (isq s)) <;> exact ⟨rfl, rfl⟩
              | false =>
                obtain ⟨⟨f1, f2, f3, f4⟩, f5, f6⟩ := fin (-isq s) (by omega) (by omega)
                have w16 : IntKind.i64.wrap (0 - isq s) = -isq s := by rw [w64 (by omega) (by omega)]; omega
                rw [br_t (c := !false) rfl, br_t (c := !false) rfl, if_neg (by simp)]
                simp only [w16, f1, f2, f3, f4, f5, f6, ob_s, validPointI_eq, okPointS_eq]
                unfold endF
                cases ptOk (a.1 + uF dx dy D A (-isq s), a.2 + vF dx dy D A (-isq s)) <;> exact ⟨rfl, rfl⟩

/-! ### From the other side -/
theorem along_sym (D ra rb : Int) : alongF D rb ra = 2 * D - alongF D ra rb := by unfold alongF; omega
theorem rest_sym (D ra rb : Int) : restF2 D rb (alongF D rb ra) = restF2 D ra (alongF D ra rb) := by
  unfold restF2 alongF
  grind
theorem u_sym {dx dy D A r : Int} (hD : 1 ≤ D) : uF (-dx) (-dy) D (2 * D - A) (-r) = uF dx dy D A r - dx := by
  unfold uF
  rw [← near_shift (by omega)]
  congr 1
  grind
theorem v_sym {dx dy D A r : Int} (hD : 1 ≤ D) : vF (-dx) (-dy) D (2 * D - A) (-r) = vF dx dy D A r - dy := by
  unfold vF
  rw [← near_shift (by omega)]
  congr 1
  grind
theorem third_sym (a b : Int × Int) (ra rb : Int) (left : Bool) : thirdF b a rb ra (!left) = thirdF a b ra rb left := by
  unfold thirdF
  by_cases ha : ptOk a = true
  · by_cases hb : ptOk b = true
    · by_cases hra : inF ra 0 10000 = true
      · by_cases hrb : inF rb 0 10000 = true
        · by_cases hab : a = b
          · rw [if_pos ha, if_pos hb, if_pos hra, if_pos hrb, if_pos hab, if_pos hb, if_pos ha, if_pos hrb, if_pos hra, if_pos hab.symm]
          · rw [if_pos ha, if_pos hb, if_pos hra, if_pos hrb, if_neg hab, if_pos hb, if_pos ha, if_pos hrb, if_pos hra, if_neg (fun h => hab h.symm)]
            have hra' : 0 ≤ ra ∧ ra ≤ 10000 := by unfold inF at hra; simpa using hra
            have hrb' : 0 ≤ rb ∧ rb ≤ 10000 := by unfold inF at hrb; simpa using hrb
            have B := bds ha hb hra' hrb'
            have hD : 1 ≤ sqF b a := by have := B.d; have := mt sqF_zero.1 hab; omega
            unfold midF
            rw [sqF_sym a b, rest_sym, along_sym (sqF b a) ra rb]
            generalize restF2 (sqF b a) ra (alongF (sqF b a) ra rb) = s
            by_cases hs : s < 0
            · rw [if_pos hs, if_pos hs]
            · rw [if_neg hs, if_neg hs]
              have er : (if (!left) = true then isq s else -isq s) = -(if left = true then isq s else -isq s) := by
                cases left <;> simp
              rw [er]
              generalize (if left = true then isq s else -isq s) = r
              have ex : a.1 - b.1 = -(b.1 - a.1) := by omega
              have ey : a.2 - b.2 = -(b.2 - a.2) := by omega
              rw [ex, ey, u_sym hD, v_sym hD]
              unfold endF
              rw [show b.1 + (uF (b.1 - a.1) (b.2 - a.2) (sqF b a) (alongF (sqF b a) ra rb) r - (b.1 - a.1)) = a.1 + uF (b.1 - a.1) (b.2 - a.2) (sqF b a) (alongF (sqF b a) ra rb) r by omega,
                show b.2 + (vF (b.1 - a.1) (b.2 - a.2) (sqF b a) (alongF (sqF b a) ra rb) r - (b.2 - a.2)) = a.2 + vF (b.1 - a.1) (b.2 - a.2) (sqF b a) (alongF (sqF b a) ra rb) r by omega]
        · simp [ha, hb, hra, hrb]
      · by_cases hrb : inF rb 0 10000 = true <;> simp [ha, hb, hra, hrb]
    · simp [ha, hb]
  · by_cases hb : ptOk b = true <;> simp [ha, hb]
/-- What is known of a point that is found. -/
theorem third_ok {a b : Int × Int} {ra rb : Int} {left : Bool} (h : (thirdF a b ra rb left).2 = 0) :
    ptOk a = true ∧ ptOk b = true ∧ (0 ≤ ra ∧ ra ≤ 10000) ∧ (0 ≤ rb ∧ rb ≤ 10000) ∧ 1 ≤ sqF b a ∧ ∃ R r u v, 0 ≤ R ∧ R * R ≤ restF2 (sqF b a) ra (alongF (sqF b a) ra rb) ∧ restF2 (sqF b a) ra (alongF (sqF b a) ra rb) < (R + 1) * (R + 1) ∧ ((left = true ∧ r = R) ∨ (left = false ∧ r = -R)) ∧
      u = uF (b.1 - a.1) (b.2 - a.2) (sqF b a) (alongF (sqF b a) ra rb) r ∧ v = vF (b.1 - a.1) (b.2 - a.2) (sqF b a) (alongF (sqF b a) ra rb) r ∧ (thirdF a b ra rb left).1 = (a.1 + u, a.2 + v) ∧ ptOk (a.1 + u, a.2 + v) = true := by
  unfold thirdF at h ⊢
  by_cases ha : ptOk a = true
  · by_cases hb : ptOk b = true
    · by_cases hra : inF ra 0 10000 = true
      · by_cases hrb : inF rb 0 10000 = true
        · by_cases hab : a = b
          · rw [if_pos ha, if_pos hb, if_pos hra, if_pos hrb, if_pos hab] at h
            cases h
          · rw [if_pos ha, if_pos hb, if_pos hra, if_pos hrb, if_neg hab] at h ⊢
            have hra' : 0 ≤ ra ∧ ra ≤ 10000 := by unfold inF at hra; simpa using hra
            have hrb' : 0 ≤ rb ∧ rb ≤ 10000 := by unfold inF at hrb; simpa using hrb
            have B := bds ha hb hra' hrb'
            have hD : 1 ≤ sqF b a := by have := B.d; have := mt sqF_zero.1 hab; omega
            refine ⟨ha, hb, hra', hrb', hD, ?_⟩
            unfold midF at h ⊢
            generalize restF2 (sqF b a) ra (alongF (sqF b a) ra rb) = s at *
            by_cases hs : s < 0
            · rw [if_pos hs] at h
              cases h
            · rw [if_neg hs] at h ⊢
              have hq := isq_spec (show 0 ≤ s by omega)
              refine ⟨isq s, if left = true then isq s else -isq s, _, _, hq.1, hq.2.1, hq.2.2, ?_, rfl, rfl, ?_⟩
              · cases left
                · exact .inr ⟨rfl, by simp⟩
                · exact .inl ⟨rfl, by simp⟩
              · generalize (if left = true then isq s else -isq s) = r at h ⊢
                unfold endF at h ⊢
                split at h
                · rename_i hp
                  rw [if_pos hp]
                  exact ⟨rfl, hp⟩
                · cases h
        · rw [if_pos ha, if_pos hb, if_pos hra, if_neg hrb] at h
          cases h
      · rw [if_pos ha, if_pos hb, if_neg hra] at h
        cases h
    · rw [if_pos ha, if_neg hb] at h
      cases h
  · rw [if_neg ha] at h
    cases h
theorem third_dist {a b : Int × Int} {ra rb : Int} {left : Bool} (h : (thirdF a b ra rb left).2 = 0) :
    -(3 * ra + 3) ≤ sqF a (thirdF a b ra rb left).1 - ra * ra ∧ sqF a (thirdF a b ra rb left).1 - ra * ra ≤ 3 * ra + 3 := by
  obtain ⟨ha, hb, hra, hrb, hD, R, r, u, v, h1, h2, h3, h4, h5, h6, h7, h8⟩ := third_ok h
  have := dist_bd (dx := b.1 - a.1) (dy := b.2 - a.2) (D := sqF b a) (ra := ra) (A := alongF (sqF b a) ra rb) (s := restF2 (sqF b a) ra (alongF (sqF b a) ra rb)) (r := r) (R := R) (u := u) (v := v) rfl hD hra.1 rfl h1 h2 h3 (h4.imp (·.2) (·.2)) h5 h6
  have e : sqF a (a.1 + u, a.2 + v) = u * u + v * v := by
    unfold sqF
    grind
  rw [h7, e]
  exact this

/-! ### What is drawn -/
theorem drawPoint_bd {c : List Int} (hc : bytesOk c) {a g K : Int} (w h : Int) (hw : 0 ≤ w ∧ w ≤ 10000) (hh : 0 ≤ h ∧ h ≤ 10000) (ha : 0 ≤ a ∧ a ≤ K) (hK : K ≤ 100000) : ∃ y a' g', drawPointS ((c, a, g), w, h) = some (y, (c, a', g'), w, h) ∧ (0 ≤ a' ∧ a' ≤ K + 4) ∧ (0 ≤ y.1 ∧ y.1 ≤ w) ∧ (0 ≤ y.2 ∧ y.2 ≤ h) := by
  have w1 : IntKind.i64.wrap (w + 1) = w + 1 := w64 (by omega) (by omega)
  have w2 : IntKind.i64.wrap (h + 1) = h + 1 := w64 (by omega) (by omega)
  obtain ⟨y1, a1, g1, e1, b1, c1⟩ := pick_tot hc (g := g) (w + 1) ha (by omega)
  obtain ⟨y2, a2, g2, e2, b2, c2⟩ := pick_tot hc (g := g1) (h + 1) (K := K + 2) c1 (by omega)
  refine ⟨(y1, y2), a2, g2, ?_, by omega, ⟨b1.1, by dsimp only; omega⟩, b2.1, by dsimp only; omega⟩
  unfold drawPointS
  simp only [w1, w2, e1, ob_s, e2]
theorem bentPoint_tot {c : List Int} (hc : bytesOk c) {a g K : Int} (ha : 0 ≤ a ∧ a ≤ K) (hK : K ≤ 10000) : ∃ (p : Int × Int) (a' g' : Int), bentPointS (c, a, g) = some (p, c, a', g') ∧ (0 ≤ a' ∧ a' ≤ K + 8) ∧ (-1 ≤ p.1 ∧ p.1 ≤ 10001) ∧ (-1 ≤ p.2 ∧ p.2 ≤ 10001) := by
  obtain ⟨y1, a1, g1, e1, c1, b1, b2⟩ := drawPoint_bd hc (g := g) 600 600 (by omega) (by omega) ha (by omega)
  obtain ⟨y2, a2, g2, e2, _, c2⟩ := pick_tot hc (g := g1) 24 c1 (by omega)
  unfold bentPointS
  simp only [e1, e2, ob_s]
  cases y2 == (0 : Int) with
  | true =>
    obtain ⟨y, a4, g4, e4, b4, c4⟩ := among_tot hc (g := g2) [(-1 : Int), (10000 : Int), (10001 : Int)] (by simp) (by simp) c2 (by omega)
    have : -1 ≤ y ∧ y ≤ 10001 := by simp at b4; omega
    simp only [br, e4, ob_s]
    exact ⟨_, _, _, rfl, by omega, this, by dsimp only; omega, by dsimp only; omega⟩
  | false =>
  cases y2 == (1 : Int) with
  | true =>
    obtain ⟨y, a4, g4, e4, b4, c4⟩ := among_tot hc (g := g2) [(-1 : Int), (10000 : Int), (10001 : Int)] (by simp) (by simp) c2 (by omega)
    have : -1 ≤ y ∧ y ≤ 10001 := by simp at b4; omega
    simp only [br, e4, ob_s]
    exact ⟨_, _, _, rfl, by omega, ⟨by dsimp only; omega, by dsimp only; omega⟩, this⟩
  | false => exact ⟨_, _, _, rfl, by omega, ⟨by dsimp only; omega, by dsimp only; omega⟩, by dsimp only; omega, by dsimp only; omega⟩
theorem sq_small2 {d : Int} (h1 : -10002 ≤ d) (h2 : d ≤ 10002) : 0 ≤ d * d ∧ d * d ≤ 100040004 := by
  have e : d * d = ((d.natAbs * d.natAbs : Nat) : Int) := by rw [Int.natCast_mul, Int.natAbs_mul_self']
  have h3 : d.natAbs ≤ 10002 := by omega
  have h4 := Nat.mul_le_mul h3 h3
  omega
theorem reach_tot {p q : Int × Int} (p1 : -1 ≤ p.1 ∧ p.1 ≤ 10001) (p2 : -1 ≤ p.2 ∧ p.2 ≤ 10001) (q1 : 0 ≤ q.1 ∧ q.1 ≤ 600) (q2 : 0 ≤ q.2 ∧ q.2 ≤ 600) :
    ∃ s m r, sqS ((p.1, p.2), q.1, q.2) = some s ∧ minP (s, 100000000) = some m ∧ rootS m = some r := by
  have h1 := sq_small2 (d := p.1 - q.1) (by omega) (by omega)
  have h2 := sq_small2 (d := p.2 - q.2) (by omega) (by omega)
  have e : sqS ((p.1, p.2), q.1, q.2) = some (sqF p q) := by
    show some (IntKind.i64.wrap (IntKind.i64.wrap (IntKind.i64.wrap (p.1 - q.1) * IntKind.i64.wrap (p.1 - q.1)) + IntKind.i64.wrap (IntKind.i64.wrap (p.2 - q.2) * IntKind.i64.wrap (p.2 - q.2)))) = _
    rw [w64 (x := p.1 - q.1) (by omega) (by omega), w64 (x := p.2 - q.2) (by omega) (by omega), w64 (x := (p.1 - q.1) * (p.1 - q.1)) (by omega) (by omega), w64 (x := (p.2 - q.2) * (p.2 - q.2)) (by omega) (by omega), w64 (by omega) (by omega)]
    rfl
  have hs : 0 ≤ sqF p q := by unfold sqF; omega
  refine ⟨sqF p q, if sqF p q < 100000000 then sqF p q else 100000000, isq (if sqF p q < 100000000 then sqF p q else 100000000), e, minP_eq _ _, ?_⟩
  rw [rootS_eq]
  exact rootF_eq (by split <;> omega) (by split <;> omega)
theorem drawThird_tot {c : List Int} (hc : bytesOk c) : ∃ (a b : Int × Int) (ra rb : Int) (left : Bool), drawThirdS c = some (a, b, ra, rb, left) := by
  obtain ⟨a, a1, g1, e1, c1, pa1, pa2⟩ := bentPoint_tot hc (a := 0) (g := 0) (K := 0) (by omega) (by omega)
  obtain ⟨b, a2, g2, e2, c2, pb1, pb2⟩ := bentPoint_tot hc (g := g1) c1 (by omega)
  obtain ⟨y3, a3, g3, e3, c3⟩ := one_tot hc (g := g2) 12 c2 (by omega)
  obtain ⟨q, a4, g4, e4, c4, q1, q2⟩ := drawPoint_bd hc (g := g3) 600 600 (by omega) (by omega) c3 (by omega)
  obtain ⟨y5, a5, g5, e5, _, c5⟩ := pick_tot hc (g := g4) 3 c4 (by omega)
  obtain ⟨y6, a6, g6, e6, _, c6⟩ := pick_tot hc (g := g5) 3 c5 (by omega)
  obtain ⟨y7, a7, g7, e7, c7⟩ := one_tot hc (g := g6) 6 c6 (by omega)
  obtain ⟨sa, ma, ra, ea1, ea2, ea3⟩ := reach_tot pa1 pa2 q1 q2
  obtain ⟨sb, mb, rb, eb1, eb2, eb3⟩ := reach_tot pb1 pb2 q1 q2
  unfold drawThirdS fromS
  simp only [ob_s, e1, e2, e3]
  cases y3 with
  | true =>
    simp only [br, e4, ob_s, ea1, ea2, ea3, e5, e6, e7]
    cases y7 with
    | true =>
      obtain ⟨y8, a8, g8, e8, _, c8⟩ := pick_tot hc (g := g7) 400 c7 (by omega)
      obtain ⟨y9, a9, g9, e9, c9⟩ := one_tot hc (g := g8) 20 c8 (by omega)
      simp only [e8, ob_s, e9]
      cases y9 with
      | true =>
        obtain ⟨y10, a10, g10, e10, _, c10⟩ := among_tot hc (g := g9) [(-1 : Int), (0 : Int), (10000 : Int), (10001 : Int)] (by simp) (by simp) c9 (by omega)
        obtain ⟨y11, a11, g11, e11, c11⟩ := one_tot hc (g := g10) 2 c10 (by omega)
        simp only [e10, ob_s, e11]
        exact ⟨_, _, _, _, _, rfl⟩
      | false =>
        obtain ⟨y11, a11, g11, e11, c11⟩ := one_tot hc (g := g9) 2 c9 (by omega)
        simp only [ob_s, e11]
        exact ⟨_, _, _, _, _, rfl⟩
    | false =>
      obtain ⟨y9, a9, g9, e9, c9⟩ := one_tot hc (g := g7) 20 c7 (by omega)
      simp only [ob_s, e9]
      cases y9 with
      | true =>
        obtain ⟨y10, a10, g10, e10, _, c10⟩ := among_tot hc (g := g9) [(-1 : Int), (0 : Int), (10000 : Int), (10001 : Int)] (by simp) (by simp) c9 (by omega)
        obtain ⟨y11, a11, g11, e11, c11⟩ := one_tot hc (g := g10) 2 c10 (by omega)
        simp only [e10, ob_s, e11]
        exact ⟨_, _, _, _, _, rfl⟩
      | false =>
        obtain ⟨y11, a11, g11, e11, c11⟩ := one_tot hc (g := g9) 2 c9 (by omega)
        simp only [ob_s, e11]
        exact ⟨_, _, _, _, _, rfl⟩
  | false =>
    simp only [br, e4, ob_s, ea1, ea2, ea3, eb1, eb2, eb3, e5, e6, e7]
    cases y7 with
    | true =>
      obtain ⟨y8, a8, g8, e8, _, c8⟩ := pick_tot hc (g := g7) 400 c7 (by omega)
      obtain ⟨y9, a9, g9, e9, c9⟩ := one_tot hc (g := g8) 20 c8 (by omega)
      simp only [e8, ob_s, e9]
      cases y9 with
      | true =>
        obtain ⟨y10, a10, g10, e10, _, c10⟩ := among_tot hc (g := g9) [(-1 : Int), (0 : Int), (10000 : Int), (10001 : Int)] (by simp) (by simp) c9 (by omega)
        obtain ⟨y11, a11, g11, e11, c11⟩ := one_tot hc (g := g10) 2 c10 (by omega)
        simp only [e10, ob_s, e11]
        exact ⟨_, _, _, _, _, rfl⟩
      | false =>
        obtain ⟨y11, a11, g11, e11, c11⟩ := one_tot hc (g := g9) 2 c9 (by omega)
        simp only [ob_s, e11]
        exact ⟨_, _, _, _, _, rfl⟩
    | false =>
      obtain ⟨y9, a9, g9, e9, c9⟩ := one_tot hc (g := g7) 20 c7 (by omega)
      simp only [ob_s, e9]
      cases y9 with
      | true =>
        obtain ⟨y10, a10, g10, e10, _, c10⟩ := among_tot hc (g := g9) [(-1 : Int), (0 : Int), (10000 : Int), (10001 : Int)] (by simp) (by simp) c9 (by omega)
        obtain ⟨y11, a11, g11, e11, c11⟩ := one_tot hc (g := g10) 2 c10 (by omega)
        simp only [e10, ob_s, e11]
        exact ⟨_, _, _, _, _, rfl⟩
      | false =>
        obtain ⟨y11, a11, g11, e11, c11⟩ := one_tot hc (g := g9) 2 c9 (by omega)
        simp only [ob_s, e11]
        exact ⟨_, _, _, _, _, rfl⟩

/-! ### The law -/
theorem sqDist_val {p q : Int × Int} (hp : ptOk p = true) (hq : ptOk q = true) : sqDistI ((p.1, p.2), q.1, q.2) = some (sqF p q, 0) := by
  obtain ⟨p1, p2⟩ := ptOk_bd hp
  obtain ⟨q1, q2⟩ := ptOk_bd hq
  have e1 : validPointI (p.1, p.2) = some (ptOk p) := validPointI_eq p
  have e2 : validPointI (q.1, q.2) = some (ptOk q) := validPointI_eq q
  have e3 : sqI ((p.1, p.2), q.1, q.2) = some (sqF p q) := sqI_eq (a := p) (b := q) p1 p2 q1 q2
  unfold sqDistI
  dsimp only
  rw [e1, e2, hp, hq, e3]
  rfl
def crossF (a b p : Int × Int) : Int := (b.1 - a.1) * (p.2 - a.2) - (b.2 - a.2) * (p.1 - a.1)
theorem cross_val {a b p : Int × Int} (ha : ptOk a = true) (hb : ptOk b = true) (hp : ptOk p = true) : crossL ((a.1, a.2), (b.1, b.2), p.1, p.2) = some (crossF a b p) ∧ -200000000 ≤ crossF a b p ∧ crossF a b p ≤ 200000000 := by
  obtain ⟨a1, a2⟩ := ptOk_bd ha
  obtain ⟨b1, b2⟩ := ptOk_bd hb
  obtain ⟨p1, p2⟩ := ptOk_bd hp
  have q1 := pbd (x := b.1 - a.1) (y := p.2 - a.2) (A := 10000) (B := 10000) (by omega) (by omega) (by omega) (by omega) (by omega)
  have q2 := pbd (x := b.2 - a.2) (y := p.1 - a.1) (A := 10000) (B := 10000) (by omega) (by omega) (by omega) (by omega) (by omega)
  have hb : -200000000 ≤ crossF a b p ∧ crossF a b p ≤ 200000000 := by unfold crossF; omega
  refine ⟨?_, hb⟩
  show some (IntKind.i64.wrap (IntKind.i64.wrap (IntKind.i64.wrap (b.1 - a.1) * IntKind.i64.wrap (p.2 - a.2)) - IntKind.i64.wrap (IntKind.i64.wrap (b.2 - a.2) * IntKind.i64.wrap (p.1 - a.1)))) = _
  rw [w64 (x := b.1 - a.1) (by omega) (by omega), w64 (x := p.2 - a.2) (by omega) (by omega), w64 (x := b.2 - a.2) (by omega) (by omega), w64 (x := p.1 - a.1) (by omega) (by omega), w64 (x := (b.1 - a.1) * (p.2 - a.2)) (by omega) (by omega), w64 (x := (b.2 - a.2) * (p.1 - a.1)) (by omega) (by omega), w64 (by omega) (by omega)]
  rfl
theorem sizeL_le {x n : Int} (h1 : -n ≤ x) (h2 : x ≤ n) (hn : n ≤ 1000000000) : ∃ y, sizeL x = some y ∧ y ≤ n := by
  unfold sizeL
  by_cases h : x < 0
  · rw [br_t (by simpa using h), w64 (by omega) (by omega)]
    exact ⟨_, rfl, by omega⟩
  · rw [br_f (by simpa using h)]
    exact ⟨_, rfl, h2⟩
theorem third_side {a b : Int × Int} {ra rb : Int} {left : Bool} (h : (thirdF a b ra rb left).2 = 0) {t : Int} (ht : (left = true ∧ t = crossF a b (thirdF a b ra rb left).1) ∨ (left = false ∧ t = -crossF a b (thirdF a b ra rb left).1)) :
    0 ≤ t ∨ t * t ≤ 2 * sqF a b := by
  obtain ⟨ha, hb, hra, hrb, hD, R, r, u, v, h1, h2, h3, h4, h5, h6, h7, h8⟩ := third_ok h
  have e : crossF a b (thirdF a b ra rb left).1 = (b.1 - a.1) * v - (b.2 - a.2) * u := by
    rw [h7]
    unfold crossF
    grind
  rw [e] at ht
  rw [sqF_sym a b]
  refine side_bd (dx := b.1 - a.1) (dy := b.2 - a.2) (D := sqF b a) (A := alongF (sqF b a) ra rb) (r := r) (R := R) (u := u) (v := v) rfl hD h1 h5 h6 ?_
  rcases h4 with ⟨l1, l2⟩ | ⟨l1, l2⟩ <;> rcases ht with ⟨k1, k2⟩ | ⟨k1, k2⟩
  · exact .inl ⟨l2, k2⟩
  · rw [l1] at k1; cases k1
  · rw [l1] at k1; cases k1
  · exact .inr ⟨l2, k2⟩
theorem fnThird_holds (c : List Int) (hw : WfAll [.slice (.int .u8)] c) : fnThird c = some true := by
  have hc := bytes_wf hw
  obtain ⟨a, b, ra, rb, left, e0⟩ := drawThird_tot hc
  have t1 : thirdI ((a.1, a.2), (b.1, b.2), ra, rb, left) = some (thirdF a b ra rb left) := (third_both a b ra rb left).1
  have t2 : thirdS ((a.1, a.2), (b.1, b.2), ra, rb, left) = some (thirdF a b ra rb left) := (third_both a b ra rb left).2
  have t3 : thirdI ((b.1, b.2), (a.1, a.2), rb, ra, !left) = some (thirdF a b ra rb left) := by
    rw [← third_sym]
    exact (third_both b a rb ra (!left)).1
  unfold fnThird f6big
  simp only [ob_s]
  cases decide ((4096 : Int) < (c.length : Int)) with
  | true => rfl
  | false =>
    rw [br_f (c := false) rfl, e0]
    simp only [ob_s, t1, t2, t3, bne_self_eq_false, beq_self_eq_true, Bool.and_self, Bool.not_true]
    rw [br_f (c := false) rfl, br_f (c := false) rfl, br_f (c := false) rfl, br_f (c := false) rfl]
    by_cases h0 : (thirdF a b ra rb left).2 = 0
    · obtain ⟨ha, hb, hra, hrb, hD, R, r, u, v, _, _, _, _, _, _, h7, h8⟩ := third_ok h0
      have hp : ptOk (thirdF a b ra rb left).1 = true := by rw [h7]; exact h8
      have d1 := third_dist h0
      have d2 := third_dist (a := b) (b := a) (ra := rb) (rb := ra) (left := !left) (by rw [third_sym]; exact h0)
      rw [third_sym] at d2
      have s := fun t => third_side h0 (t := t)
      rw [br_f (by rw [h0]; rfl), sqDist_val ha hp, sqDist_val hb hp, sqDist_val ha hb, (cross_val ha hb hp).1]
      have cb := (cross_val ha hb hp).2
      generalize (thirdF a b ra rb left).1 = p at *
      obtain ⟨pa1, pa2⟩ := ptOk_bd ha
      obtain ⟨pb1, pb2⟩ := ptOk_bd hb
      obtain ⟨pp1, pp2⟩ := ptOk_bd hp
      have f1 := sqF_bd pa1 pa2 pp1 pp2
      have f2 := sqF_bd pb1 pb2 pp1 pp2
      have f3 := sqF_bd pa1 pa2 pb1 pb2
      have r1 := sq_small (d := ra) (by omega) (by omega)
      have r2 := sq_small (d := rb) (by omega) (by omega)
      obtain ⟨z1, ez1, hz1⟩ := sizeL_le d1.1 d1.2 (by omega)
      obtain ⟨z2, ez2, hz2⟩ := sizeL_le d2.1 d2.2 (by omega)
      have w1 : IntKind.i64.wrap (ra * ra) = ra * ra := w64 (by omega) (by omega)
      have w2 : IntKind.i64.wrap (rb * rb) = rb * rb := w64 (by omega) (by omega)
      have w3 : IntKind.i64.wrap (sqF a p - ra * ra) = sqF a p - ra * ra := w64 (by omega) (by omega)
      have w4 : IntKind.i64.wrap (sqF b p - rb * rb) = sqF b p - rb * rb := w64 (by omega) (by omega)
      have w5 : IntKind.i64.wrap (3 * ra) = 3 * ra := w64 (by omega) (by omega)
      have w6 : IntKind.i64.wrap (3 * rb) = 3 * rb := w64 (by omega) (by omega)
      have w7 : IntKind.i64.wrap (3 * ra + 3) = 3 * ra + 3 := w64 (by omega) (by omega)
      have w8 : IntKind.i64.wrap (3 * rb + 3) = 3 * rb + 3 := w64 (by omega) (by omega)
      have w9 : IntKind.i64.wrap (2 * sqF a b) = 2 * sqF a b := w64 (by omega) (by omega)
      have w10 : IntKind.i64.wrap (0 - crossF a b p) = -crossF a b p := by rw [w64 (by omega) (by omega)]; omega
      have last : ∀ t : Int, -200000000 ≤ t → t ≤ 200000000 → (0 ≤ t ∨ t * t ≤ 2 * sqF a b) → br (decide (0 ≤ t)) (some true) (some (decide (IntKind.i64.wrap (t * t) ≤ 2 * sqF a b))) = some true := by
        intro t b1 b2 ht
        have q := pbd (x := t) (y := t) (A := 200000000) (B := 200000000) b1 b2 b1 b2 (by omega)
        rw [w64 (by omega) (by omega)]
        rcases ht with ht | ht
        · rw [br_t (by simpa using ht)]
        · rw [decide_eq_true ht]
          exact br_same _ _
      simp only [ob_s, w1, w2, w3, w4, w5, w6, w7, w8, w9, w10, ez1, ez2, beq_self_eq_true, decide_eq_true hz1, decide_eq_true hz2]
      cases left with
      | true =>
        have := last (crossF a b p) cb.1 cb.2 (s _ (.inl ⟨rfl, rfl⟩))
        simpa only [br, Bool.not_true] using this
      | false =>
        have := last (-crossF a b p) (by omega) (by omega) (s _ (.inr ⟨rfl, rfl⟩))
        simpa only [br, Bool.not_false] using this
    · rw [br_t (by simpa using h0)]
end Rx
end Go.Proofs.Ytckbhfbcblehmaa
