/- The contracts of ThirdPoint, of the program and of the reference. No conditions. -/
import Derived.Test.YtincjooilmahfaaPoints3
import Derived.Test.YtincjooilmahfaaFloat
namespace Go.Proofs.Ytincjooilmahfaa
open Go.RowKit BigFrame

noncomputable def thirdAt (ax ay dx dy D A C : Int) : Value :=
  if vPt (ax + near (A * dx - C * dy) (2 * D)) (ay + near (A * dy + C * dx) (2 * D)) then
    .tuple #[.agg #[.int .i64 (ax + near (A * dx - C * dy) (2 * D)), .int .i64 (ay + near (A * dy + C * dx) (2 * D))], .int .i64 0]
  else .tuple #[.agg #[.int .i64 0, .int .i64 0], .int .i64 10]

noncomputable def third (ax ay bx by_ ra rb : Int) (left : Bool) : Value :=
  if vPt ax ay && vPt bx by_ then
    if inB ra 0 10000 && inB rb 0 10000 then
      if sq ax ay bx by_ = 0 then .tuple #[.agg #[.int .i64 0, .int .i64 0], .int .i64 6]
      else
        let D := sq ax ay bx by_
        let A := ra * ra - rb * rb + D
        let S := 4 * D * ra * ra - A * A
        if S < 0 then .tuple #[.agg #[.int .i64 0, .int .i64 0], .int .i64 3]
        else thirdAt ax ay (bx - ax) (by_ - ay) D A (if left then isq S else - isq S)
    else .tuple #[.agg #[.int .i64 0, .int .i64 0], .int .i64 2]
  else .tuple #[.agg #[.int .i64 0, .int .i64 0], .int .i64 1]

def ptOr (px py : Int) : Value := if vPt px py then .tuple #[.agg #[.int .i64 px, .int .i64 py], .int .i64 0] else .tuple #[.agg #[.int .i64 0, .int .i64 0], .int .i64 10]
theorem ptOr_yes {px py : Int} (h : (!vPt px py) = false) : Ending.returned (.tuple #[.agg #[.int .i64 px, .int .i64 py], .int .i64 0]) = .returned (ptOr px py) := by
  have h' : vPt px py = true := by simpa using h
  rw [ptOr, if_pos h']
theorem ptOr_no {px py : Int} (h : (!vPt px py) = true) : Ending.returned (.tuple #[.agg #[.int .i64 0, .int .i64 0], .int .i64 10]) = .returned (ptOr px py) := by
  have h' : ¬ vPt px py = true := by simpa using h
  rw [ptOr, if_neg h']
theorem third_form (ax ay bx by_ ra rb : Int) (left : Bool) : ∃ a b c : Int, third ax ay bx by_ ra rb left = .tuple #[.agg #[.int .i64 a, .int .i64 b], .int .i64 c] := by
  unfold third thirdAt
  repeat' (first | exact ⟨_, _, _, rfl⟩ | split | dsimp only)

theorem mulb {a b A B : Int} (h0 : -A ≤ a) (h1 : a ≤ A) (k0 : -B ≤ b) (k1 : b ≤ B) : -(A * B) ≤ a * b ∧ a * b ≤ A * B := by
  have hA : 0 ≤ A := by omega
  have hB : 0 ≤ B := by omega
  rcases Int.le_total 0 b with h | h
  · have e1 := Int.mul_le_mul_of_nonneg_right h1 h
    have e2 := Int.mul_le_mul_of_nonneg_left k1 hA
    have e3 := Int.mul_le_mul_of_nonneg_right h0 h
    rw [Int.neg_mul] at e3
    omega
  · have h' : 0 ≤ -b := by omega
    have e1 := Int.mul_le_mul_of_nonneg_right h1 h'
    have e2 := Int.mul_le_mul_of_nonneg_left (show -b ≤ B by omega) hA
    have e3 := Int.mul_le_mul_of_nonneg_right h0 h'
    rw [Int.neg_mul] at e3
    simp only [Int.mul_neg] at e1 e2 e3
    omega

theorem near_bd {n d : Int} (hd : 1 ≤ d) (hd2 : d ≤ 1000000000) (h1 : -10000000000000 ≤ n) (h2 : n ≤ 10000000000000) : -30000000000000 ≤ near n d ∧ near n d ≤ 30000000000000 :=
  ediv_bd (by omega) (by omega) (by omega) (by omega)

/-- All bounds of the way. -/
theorem third_bds {dx dy D ra rb A : Int} (x1 : -10000 ≤ dx) (x2 : dx ≤ 10000) (y1 : -10000 ≤ dy) (y2 : dy ≤ 10000) (d1 : 1 ≤ D) (d2 : D ≤ 200000000) (r1 : 0 ≤ ra) (r2 : ra ≤ 10000) (s1 : 0 ≤ rb) (s2 : rb ≤ 10000)
    (hA : ra * ra - rb * rb + D = A) :
    (0 ≤ ra * ra ∧ ra * ra ≤ 100000000) ∧ (0 ≤ rb * rb ∧ rb * rb ≤ 100000000) ∧ (0 ≤ 4 * D * ra ∧ 4 * D * ra ≤ 8000000000000) ∧ (0 ≤ 4 * D * ra * ra ∧ 4 * D * ra * ra ≤ 80000000000000000) ∧
    (-300000000 ≤ A ∧ A ≤ 300000000) ∧ (-90000000000000000 ≤ A * A ∧ A * A ≤ 90000000000000000) ∧ (-3000000000000 ≤ A * dx ∧ A * dx ≤ 3000000000000) ∧ (-3000000000000 ≤ A * dy ∧ A * dy ≤ 3000000000000) := by
  have m1 := mul_bd (a := ra) (b := ra) (A := 10000) (B := 10000) (by omega) (by omega) (by omega) (by omega)
  have m2 := mul_bd (a := rb) (b := rb) (A := 10000) (B := 10000) (by omega) (by omega) (by omega) (by omega)
  have m3 := mul_bd (a := 4 * D) (b := ra) (A := 800000000) (B := 10000) (by omega) (by omega) (by omega) (by omega)
  have m4 := mul_bd (a := 4 * D * ra) (b := ra) (A := 8000000000000) (B := 10000) (by omega) (by omega) (by omega) (by omega)
  have a1 : -300000000 ≤ A ∧ A ≤ 300000000 := by omega
  have m5 := mulb (a := A) (b := A) (A := 300000000) (B := 300000000) (by omega) (by omega) (by omega) (by omega)
  have m6 := mulb (a := A) (b := dx) (A := 300000000) (B := 10000) (by omega) (by omega) (by omega) (by omega)
  have m7 := mulb (a := A) (b := dy) (A := 300000000) (B := 10000) (by omega) (by omega) (by omega) (by omega)
  omega

theorem sq_self (ax ay : Int) : sq ax ay ax ay = 0 := by simp [sq]
theorem mul_self_nn (d : Int) : 0 ≤ d * d := by
  rcases Int.le_total 0 d with h | h
  · exact Int.mul_nonneg h h
  · exact Int.mul_nonneg_of_nonpos_of_nonpos h h
theorem mul_self_zero {d : Int} (h : d * d = 0) : d = 0 := by
  rcases Int.mul_eq_zero.1 h with h | h <;> exact h
theorem sq_zero {ax ay bx by_ : Int} (h : sq ax ay bx by_ = 0) : ax = bx ∧ ay = by_ := by
  unfold sq at h
  have a := mul_self_nn (ax - bx)
  have b := mul_self_nn (ay - by_)
  have c := mul_self_zero (d := ax - bx) (by omega)
  have d := mul_self_zero (d := ay - by_) (by omega)
  omega
theorem sq_comm (ax ay bx by_ : Int) : (bx - ax) * (bx - ax) + (by_ - ay) * (by_ - ay) = sq ax ay bx by_ := by
  unfold sq
  rw [← Int.neg_mul_neg (bx - ax), ← Int.neg_mul_neg (by_ - ay), Int.neg_sub, Int.neg_sub]
theorem sq_bd {ax ay bx by_ : Int} (ha : vPt ax ay = true) (hb : vPt bx by_ = true) : 0 ≤ sq ax ay bx by_ ∧ sq ax ay bx by_ ≤ 200000000 := by
  obtain ⟨a1, a2, a3, a4⟩ := vPt_bd ha
  obtain ⟨b1, b2, b3, b4⟩ := vPt_bd hb
  have p1 := sq_part a1 a2 b1 b2
  have p2 := sq_part a3 a4 b3 b4
  unfold sq
  omega

theorem mul_bd_abs {d : Int} (h1 : -10000 ≤ d) (h2 : d ≤ 10000) : 0 ≤ d * d ∧ d * d ≤ 100000000 := by
  have h := mulb (a := d) (b := d) (A := 10000) (B := 10000) h1 h2 h1 h2
  have k := mul_self_nn d
  omega

set_option maxHeartbeats 1000000 in
theorem ThirdPointS_far (ax ay bx by_ ra rb : Int) (left : Bool) (w : World) (ha : vPt ax ay = true) (hb : vPt bx by_ = true) (hra : inB ra 0 10000 = true) (hrb : inB rb 0 10000 = true) (D A S : Int)
    (hD : sq ax ay bx by_ = D) (hA : ra * ra - rb * rb + D = A) (hS : 4 * D * ra * ra - A * A = S) (hD1 : 1 ≤ D) (hneg : S < 0) :
    Calls Try.prog 31 #[.agg #[.int .i64 ax, .int .i64 ay], .agg #[.int .i64 bx, .int .i64 by_], .int .i64 ra, .int .i64 rb, .bool left] w
      fun e w' => e = .returned (.tuple #[.agg #[.int .i64 0, .int .i64 0], .int .i64 3]) ∧ Ext w w' := by
  obtain ⟨r1, r2⟩ := inB_iff.1 hra
  obtain ⟨s1, s2⟩ := inB_iff.1 hrb
  have d2 : D ≤ 200000000 := by rw [← hD]; exact (sq_bd ha hb).2
  obtain ⟨⟨b1, b2⟩, ⟨b3, b4⟩, ⟨b5, b6⟩, ⟨b7, b8⟩, ⟨b9, b10⟩, ⟨b11, b12⟩, _, _⟩ := third_bds (dx := 0) (dy := 0) (by omega) (by omega) (by omega) (by omega) hD1 d2 r1 r2 s1 s2 hA
  have hd0 : (D == 0) = false := by simp; omega
  go_enter Try.func31, Try.ntmps31
  go_wp2_with (first | ((first | with_reducible refine wp_region_ext' (by kernel_rfl) (by kernel_rfl) ?_ | with_reducible refine wp_region_ext (by kernel_rfl) (by kernel_rfl) ?_); (repeat (go_big_quiet_step ((first | (go_at_call 64; exact Calls.ext_of (l09Point_any _ _ _)) | (go_at_call 69; exact Calls.ext_of_same (l00In_any _ _ _ _)) | (go_at_call 66; exact Calls.ext_of (l09Square_any _ _ _ _ _ ha hb)))))); refine wpQuiet_nil ?_; intro _ hw'; obtain ⟨xw, hw''⟩ := hw'; subst hw''; have hz := ExtOf.size_le xw; (try simp only [World.size_alloc, World.size_setCell] at hz); (try have hz0 : w.heap.size < xw.w.heap.size := by omega); (try have hz1 : w.heap.size + 1 < xw.w.heap.size := by omega); (try have hz2 : w.heap.size + 1 + 1 < xw.w.heap.size := by omega); (try have hz3 : w.heap.size + 1 + 1 + 1 < xw.w.heap.size := by omega); (try have hz4 : w.heap.size + 1 + 1 + 1 + 1 < xw.w.heap.size := by omega)) | (go_at_call 64; refine (l09Point_any _ _ _).mono ?_; rintro e w' ⟨rfl, hE⟩; (first | (obtain ⟨xw, rfl⟩ := ExtOf.mk' hE) | (obtain ⟨xw, rfl⟩ := ExtOf.mk hE)); clear hE; have hz := ExtOf.size_le xw; (try simp only [World.size_alloc, World.size_setCell] at hz); (try have hz0 : w.heap.size < xw.w.heap.size := by omega); (try have hz1 : w.heap.size + 1 < xw.w.heap.size := by omega); (try have hz2 : w.heap.size + 1 + 1 < xw.w.heap.size := by omega); (try have hz3 : w.heap.size + 1 + 1 + 1 < xw.w.heap.size := by omega); (try have hz4 : w.heap.size + 1 + 1 + 1 + 1 < xw.w.heap.size := by omega)) | (go_at_call 69; refine (l00In_any _ _ _ _).mono ?_; rintro e w' ⟨rfl, rfl⟩) | (go_at_call 66; refine (l09Square_any _ _ _ _ _ ha hb).mono ?_; rintro e w' ⟨rfl, hE⟩; (first | (obtain ⟨xw, rfl⟩ := ExtOf.mk' hE) | (obtain ⟨xw, rfl⟩ := ExtOf.mk hE)); clear hE; have hz := ExtOf.size_le xw; (try simp only [World.size_alloc, World.size_setCell] at hz); (try have hz0 : w.heap.size < xw.w.heap.size := by omega); (try have hz1 : w.heap.size + 1 < xw.w.heap.size := by omega); (try have hz2 : w.heap.size + 1 + 1 < xw.w.heap.size := by omega); (try have hz3 : w.heap.size + 1 + 1 + 1 < xw.w.heap.size := by omega); (try have hz4 : w.heap.size + 1 + 1 + 1 + 1 < xw.w.heap.size := by omega)))
  go_returns
  exact ⟨rfl, by (repeat' (first | exact Ext.refl _ | assumption | refine Ext.val _ ?_ | refine Ext.alloc ?_ _ | refine Ext.drew ?_ | refine Ext.drewN ?_ _ | refine Ext.setCell ?_ (by first | exact Nat.le_refl _ | omega | (simp; done) | (simp; omega)) _ | refine Ext.trans ?_ (by assumption)))⟩
end Go.Proofs.Ytincjooilmahfaa
