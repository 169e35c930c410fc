/- The contracts of the functions on ratios, of the program and of the reference. No conditions. -/
import Derived.Test.YtaaieejhbpdmoaaBasic
import Derived.Test.YtaaieejhbpdmoaaGcd
namespace Go.Proofs.Ytaaieejhbpdmoaa
open Go.RowKit BigFrame

theorem l02Size_any (n : Int) (w : World) (h1 : -4000000000000000000 ≤ n) (h2 : n ≤ 4000000000000000000) :
    Calls Try.prog 74 #[.int .i64 n] w fun e w' => e = .returned (.int .i64 (mag n)) ∧ w = w' := by
  by_cases h : n < 0
  all_goals
    go_enter Try.func74, Try.ntmps74
    go_wp2
    go_ret
    first | exact ⟨ret_int (mag_of_neg h).symm, rfl⟩ | exact ⟨ret_int (mag_of_nn (by omega)).symm, rfl⟩

theorem gcd_end {x G : Int} (h0 : 0 ≤ x) (h : (Int.gcd x 0 : Int) = G) : x = G := by
  rw [gcd_zero_right, if_neg (by omega)] at h; exact h
theorem gcd_end' {x G : Int} (h : (Int.gcd x 0 : Int) = G) : (x < 0 → -x = G) ∧ (¬ x < 0 → x = G) := by
  rw [gcd_zero_right] at h
  constructor <;> intro hx
  · rw [if_pos hx] at h; exact h
  · rw [if_neg hx] at h; exact h
theorem gcd_step {x y G : Int} (h0 : 0 ≤ x) (h : (Int.gcd x y : Int) = G) : (Int.gcd y (x % y) : Int) = G := by rw [gcd_emod h0]; exact h
theorem gcd_step' {x y G : Int} (h : (Int.gcd x y : Int) = G) : (Int.gcd y (x.tmod y) : Int) = G := by rw [gcd_tmod]; exact h

theorem l02Gcd_any (a b : Int) (w : World) (ha : 0 ≤ a) (hb : 0 ≤ b) :
    Calls Try.prog 73 #[.int .i64 a, .int .i64 b] w fun e w' => e = .returned (.int .i64 (Int.gcd a b)) ∧ w = w' := by
  go_enter Try.func73, Try.ntmps73
  go_wp2
  go_loop [0, 1] (fun v0 v1 => ∃ x y : Int, 0 ≤ x ∧ 0 ≤ y ∧ Hid ((Int.gcd x y : Int) = Int.gcd a b) ∧ v0 = .int .i64 x ∧ v1 = .int .i64 y) (fun _ v1 => (intOf v1).toNat)
  case atStart => exact ⟨a, b, ha, hb, Lib.hid rfl, rfl, rfl⟩
  case round =>
    obtain ⟨x, y, g1, g2, g3, rfl, rfl⟩ := hrel
    by_cases hlt : 0 < y
    · have h1 := Int.emod_nonneg x (b := y) (by omega)
      have h2 := Int.emod_lt_of_pos x hlt
      go_wp2
      go_round
      case rel => exact ⟨y, x % y, g2, h1, Lib.hid (gcd_step g1 g3.out), rfl, rfl⟩
      case measure => simp [intOf]; omega
    · obtain rfl : y = 0 := by omega
      go_wp2
      go_ret
      exact ⟨ret_int (gcd_end g1 g3.out), rfl⟩

theorem tmod_bd {x y B : Int} (h0 : y ≠ 0) (h1 : -B ≤ y) (h2 : y ≤ B) : (-B ≤ x.tmod y ∧ x.tmod y ≤ B) ∧ (x.tmod y).natAbs < y.natAbs := by
  have t1 := Int.natAbs_tmod x y
  have t2 := Nat.mod_lt x.natAbs (show 0 < y.natAbs by omega)
  omega

theorem gcdI_any (a b : Int) (w : World) (h1 : -4000000000000000000 ≤ a) (h2 : a ≤ 4000000000000000000) (h3 : -4000000000000000000 ≤ b) (h4 : b ≤ 4000000000000000000) :
    Calls Try.prog 76 #[.int .i64 a, .int .i64 b] w fun e w' => e = .returned (.int .i64 (Int.gcd a b)) ∧ Ext w w' := by
  go_enter Try.func76, Try.ntmps76
  go_wp2
  go_loopw [0, 1] (fun v0 v1 wr => ∃ x y : Int, (-4000000000000000000 ≤ x ∧ x ≤ 4000000000000000000) ∧ (-4000000000000000000 ≤ y ∧ y ≤ 4000000000000000000) ∧ Hid ((Int.gcd x y : Int) = Int.gcd a b) ∧ v0 = .int .i64 x ∧ v1 = .int .i64 y ∧ Ext w wr) (fun _ v1 _ => (intOf v1).natAbs)
  case atStart => exact ⟨a, b, ⟨h1, h2⟩, ⟨h3, h4⟩, Lib.hid rfl, rfl, rfl, Ext.refl w⟩
  case round =>
    obtain ⟨x, y, ⟨g1, g1'⟩, ⟨g2, g2'⟩, g3, rfl, rfl, hW⟩ := hrel
    by_cases h0 : y = 0
    · subst h0
      have hx := gcd_end' g3.out
      by_cases hneg : x < 0
      · have HX := Lib.hid (hx.1 hneg)
        clear hx
        go_wp2
        go_ret
        exact ⟨ret_int HX.out, hW⟩
      · have HX := Lib.hid (hx.2 hneg)
        clear hx
        go_wp2
        go_ret
        exact ⟨ret_int HX.out, hW⟩
    · have hne : (y == 0) = false := by simpa using h0
      have hne' : (y != 0) = true := by simpa using h0
      obtain ⟨⟨t1, t2⟩, t3⟩ := tmod_bd (x := x) h0 g2 g2'
      clear h0
      go_wp2_with ((first | with_reducible refine wp_region_ext' (by kernel_rfl) (by kernel_rfl) ?_ | with_reducible refine wp_region_ext (by kernel_rfl) (by kernel_rfl) ?_); (repeat (go_big_quiet_step (fail))); refine wpQuiet_nil ?_; intro _ hw'; obtain ⟨xw, hw''⟩ := hw'; subst hw''; have hz := ExtOf.size_le xw; (try simp only [World.size_alloc, World.size_setCell] at hz); (try have hz0 : w.heap.size < xw.w.heap.size := by omega); (try have hz1 : w.heap.size + 1 < xw.w.heap.size := by omega); (try have hz2 : w.heap.size + 1 + 1 < xw.w.heap.size := by omega); (try have hz3 : w.heap.size + 1 + 1 + 1 < xw.w.heap.size := by omega); (try have hz4 : w.heap.size + 1 + 1 + 1 + 1 < xw.w.heap.size := by omega))
      refine ⟨⟨y, x.tmod y, ⟨g2, g2'⟩, ⟨t1, t2⟩, Lib.hid (gcd_step' g3.out), rfl, rfl, by (repeat' (first | exact Ext.refl _ | assumption | refine Ext.val _ ?_ | refine Ext.alloc ?_ _ | refine Ext.drew ?_ | refine Ext.drewN ?_ _ | refine Ext.setCell ?_ (by first | exact Nat.le_refl _ | omega | (simp; done) | (simp; omega)) _ | refine Ext.trans ?_ (by assumption)))⟩, by simpa [intOf, Int.natAbs_tmod] using t3⟩

theorem u64_neg {n : Int} (h : n < 0) (h1 : -4000000000000000000 ≤ n) : IntKind.u64.wrap (-IntKind.u64.wrap n) = mag n := by
  rw [mag_of_neg h, IntKind.wrap_u64, IntKind.wrap_u64]; omega

theorem l02Part_any (n : Int) (w : World) (h1 : -4000000000000000000 ≤ n) (h2 : n ≤ 4000000000000000000) :
    Calls Try.prog 77 #[.int .i64 n] w fun e w' => e = .returned (.int .u64 (mag n)) ∧ w = w' := by
  by_cases h : n < 0
  · go_enter Try.func77, Try.ntmps77
    go_wp2
    go_ret
    exact ⟨ret_int (u64_neg h h1), rfl⟩
  · go_enter Try.func77, Try.ntmps77
    go_wp2
    go_ret
    exact ⟨ret_int (mag_of_nn (by omega)).symm, rfl⟩
theorem magnitude_any (n : Int) (w : World) (h1 : -4000000000000000000 ≤ n) (h2 : n ≤ 4000000000000000000) :
    Calls Try.prog 82 #[.int .i64 n] w fun e w' => e = .returned (.int .u64 (mag n)) ∧ w = w' := by
  by_cases h : n < 0
  · go_enter Try.func82, Try.ntmps82
    go_wp2
    go_ret
    exact ⟨ret_int (u64_neg h h1), rfl⟩
  · go_enter Try.func82, Try.ntmps82
    go_wp2
    go_ret
    exact ⟨ret_int (mag_of_nn (by omega)).symm, rfl⟩

/-! ### The ratio of two numbers -/
def rA (o : Option (Int × Int)) : Value := match o with | some (x, y) => .agg #[.int .i64 x, .int .i64 y] | none => .agg #[.int .i64 0, .int .i64 0]
def rB (o : Option (Int × Int)) : Value := .tuple #[rA o, .bool o.isSome]
def rC (o : Option (Int × Int)) : Value := .tuple #[rA o, .int .i64 (if o.isSome then 0 else 2)]

theorem mkR_some {n d x y : Int} {g : Int} (hg : (Int.gcd n d : Int) = g) (h1 : ¬ 1000000000 < mag n / g) (h2 : ¬ 1000000000 < mag d / g) (hx : (if decide (n < 0) != decide (d < 0) then -(mag n / g) else mag n / g) = x) (hy : mag d / g = y) : mkR n d = some (x, y) := by
  unfold mkR
  rw [hg]
  dsimp only
  rw [if_neg (by omega), hx, hy]
theorem mkR_none {n d : Int} {g : Int} (hg : (Int.gcd n d : Int) = g) (h1 : 1000000000 < mag n / g ∨ 1000000000 < mag d / g) : mkR n d = none := by
  unfold mkR
  rw [hg]
  dsimp only
  rw [if_pos h1]
theorem gcd_mag (n d : Int) : Int.gcd (mag n) (mag d) = Int.gcd n d := by
  unfold mag; rw [gcd_nat, gcd_nat, Int.natAbs_natCast, Int.natAbs_natCast]

theorem rB_some {n d x y : Int} {g A D : Int} (hg : (Int.gcd n d : Int) = g) (hA : mag n = A) (hD : mag d = D) (h1 : A / g ≤ 1000000000) (h2 : D / g ≤ 1000000000) (hx : (if decide (n < 0) != decide (d < 0) then -(A / g) else A / g) = x) (hy : D / g = y) :
    Value.tuple #[.agg #[.int .i64 x, .int .i64 y], .bool true] = rB (mkR n d) := by
  subst hA; subst hD
  rw [mkR_some hg (by omega) (by omega) hx hy]; rfl
theorem rB_none {n d : Int} {g A D : Int} (hg : (Int.gcd n d : Int) = g) (hA : mag n = A) (hD : mag d = D) (h1 : 1000000000 < A / g ∨ 1000000000 < D / g) :
    Value.tuple #[.agg #[.int .i64 0, .int .i64 0], .bool false] = rB (mkR n d) := by
  subst hA; subst hD
  rw [mkR_none hg h1]; rfl
theorem ret_eq {a b : Value} (h : a = b) : Ending.returned a = .returned b := by rw [h]

set_option maxHeartbeats 1000000 in
theorem l02Make_any (n d : Int) (w : World) (h1 : -4000000000000000000 ≤ n) (h2 : n ≤ 4000000000000000000) (h3 : -4000000000000000000 ≤ d) (h4 : d ≤ 4000000000000000000) (h0 : d ≠ 0) :
    Calls Try.prog 63 #[.int .i64 n, .int .i64 d] w fun e w' => e = .returned (rB (mkR n d)) ∧ Ext w w' := by
  have m1 := mag_nn n
  have m2 := mag_le h1 h2
  have m3 := mag_nn d
  have m4 := mag_le h3 h4
  have hG := gcd_pos (n := n) h0
  have hGm := gcd_mag n d
  have q1 := div_bd hG m1 m2
  have q2 := div_bd hG m3 m4
  generalize hA : mag n = A at *
  generalize hD : mag d = D at *
  obtain ⟨G, hg⟩ : ∃ G : Int, (Int.gcd n d : Int) = G := ⟨_, rfl⟩
  rw [hg] at hG q1 q2
  have HG := Lib.hid hg
  have HA := Lib.hid hA
  have HD := Lib.hid hD
  have HGm : Hid ((Int.gcd A D : Int) = G) := by rw [hGm]; exact hg
  clear hg hA hD hGm h0
  obtain ⟨q1, q1'⟩ := q1
  obtain ⟨q2, q2'⟩ := q2
  go_enter Try.func63, Try.ntmps63
  go_wp2_with (first | (go_at_call 77; refine (l02Part_any _ _ (by omega) (by omega)).mono ?_; rintro e w' ⟨rfl, rfl⟩; (first | rw [HA.out] | rw [HD.out])))
  go_loop [8, 9] (fun v8 v9 => ∃ x y : Int, 0 ≤ x ∧ 0 ≤ y ∧ Hid ((Int.gcd x y : Int) = G) ∧ v8 = .int .u64 x ∧ v9 = .int .u64 y) (fun _ v9 => (intOf v9).toNat)
  case atStart => exact ⟨A, D, m1, m3, HGm, rfl, rfl⟩
  case round =>
    obtain ⟨x, y, g1, g2, g3, rfl, rfl⟩ := hrel
    by_cases hlt : 0 < y
    · have k1 := Int.emod_nonneg x (b := y) (by omega)
      have k2 := Int.emod_lt_of_pos x hlt
      go_wp2
      go_round
      case rel => exact ⟨y, x % y, g2, k1, Lib.hid (gcd_step g1 g3.out), rfl, rfl⟩
      case measure => simp [intOf]; omega
    · obtain rfl : y = 0 := by omega
      obtain rfl : x = G := gcd_end g1 g3.out
      by_cases c1 : 1000000000 < A / x
      · go_wp2
        go_returns
        exact ⟨ret_eq (rB_none HG.out HA.out HD.out (.inl c1)), by (repeat' (first | exact Ext.refl _ | assumption | refine Ext.val _ ?_ | refine Ext.alloc ?_ _ | refine Ext.drew ?_ | refine Ext.drewN ?_ _ | refine Ext.setCell ?_ (by first | exact Nat.le_refl _ | omega | (simp; done) | (simp; omega)) _ | refine Ext.trans ?_ (by assumption)))⟩
      by_cases c2 : 1000000000 < D / x
      · go_wp2
        go_returns
        exact ⟨ret_eq (rB_none HG.out HA.out HD.out (.inr c2)), by (repeat' (first | exact Ext.refl _ | assumption | refine Ext.val _ ?_ | refine Ext.alloc ?_ _ | refine Ext.drew ?_ | refine Ext.drewN ?_ _ | refine Ext.setCell ?_ (by first | exact Nat.le_refl _ | omega | (simp; done) | (simp; omega)) _ | refine Ext.trans ?_ (by assumption)))⟩
      cases s1 : decide (n < 0) <;> cases s2 : decide (d < 0)
      all_goals
        have E1 := Lib.hid s1
        have E2 := Lib.hid s2
        simp only [decide_eq_true_eq, decide_eq_false_iff_not] at s1 s2
        go_wp2
        go_returns
        exact ⟨ret_eq (rB_some HG.out HA.out HD.out (by omega) (by omega) (by rw [E1.out, E2.out]; rfl) rfl), by (repeat' (first | exact Ext.refl _ | assumption | refine Ext.val _ ?_ | refine Ext.alloc ?_ _ | refine Ext.drew ?_ | refine Ext.drewN ?_ _ | refine Ext.setCell ?_ (by first | exact Nat.le_refl _ | omega | (simp; done) | (simp; omega)) _ | refine Ext.trans ?_ (by assumption)))⟩

set_option maxHeartbeats 1000000 in
theorem reduced_any (n d : Int) (w : World) (h1 : -4000000000000000000 ≤ n) (h2 : n ≤ 4000000000000000000) (h3 : -4000000000000000000 ≤ d) (h4 : d ≤ 4000000000000000000) (h0 : d ≠ 0) :
    Calls Try.prog 78 #[.int .i64 n, .int .i64 d] w fun e w' => e = .returned (rB (mkR n d)) ∧ Ext w w' := by
  have m1 := mag_nn n
  have m2 := mag_le h1 h2
  have m3 := mag_nn d
  have m4 := mag_le h3 h4
  have hG := gcd_pos (n := n) h0
  have hGm := gcd_mag n d
  have q1 := div_bd hG m1 m2
  have q2 := div_bd hG m3 m4
  generalize hA : mag n = A at *
  generalize hD : mag d = D at *
  obtain ⟨G, hg⟩ : ∃ G : Int, (Int.gcd n d : Int) = G := ⟨_, rfl⟩
  rw [hg] at hG q1 q2
  have HG := Lib.hid hg
  have HA := Lib.hid hA
  have HD := Lib.hid hD
  have HGm : Hid ((Int.gcd A D : Int) = G) := by rw [hGm]; exact hg
  clear hg hA hD hGm h0
  obtain ⟨q1, q1'⟩ := q1
  obtain ⟨q2, q2'⟩ := q2
  go_enter Try.func78, Try.ntmps78
  go_wp2_with (first | (go_at_call 82; refine (magnitude_any _ _ (by omega) (by omega)).mono ?_; rintro e w' ⟨rfl, rfl⟩; (first | rw [HA.out] | rw [HD.out])))
  go_loopw [8, 9] (fun v8 v9 wr => ∃ x y : Int, 0 ≤ x ∧ 0 ≤ y ∧ Hid ((Int.gcd x y : Int) = G) ∧ v8 = .int .u64 x ∧ v9 = .int .u64 y ∧ ∃ z : ExtOf (w.alloc (.cells #[.int .i64 0, .int .i64 0] 34)), wr = z.w) (fun _ v9 _ => (intOf v9).toNat)
  case atStart => exact ⟨A, D, m1, m3, HGm, rfl, rfl, ExtOf.mk (Ext.refl _)⟩
  case round =>
    obtain ⟨x, y, g1, g2, g3, rfl, rfl, xw, rfl⟩ := hrel
    have hz := ExtOf.size_le xw; (try simp only [World.size_alloc, World.size_setCell] at hz); (try have hz0 : w.heap.size < xw.w.heap.size := by omega); (try have hz1 : w.heap.size + 1 < xw.w.heap.size := by omega); (try have hz2 : w.heap.size + 1 + 1 < xw.w.heap.size := by omega); (try have hz3 : w.heap.size + 1 + 1 + 1 < xw.w.heap.size := by omega); (try have hz4 : w.heap.size + 1 + 1 + 1 + 1 < xw.w.heap.size := by omega)
    by_cases hlt : 0 < y
    · have k1 := Int.emod_nonneg x (b := y) (by omega)
      have k2 := Int.emod_lt_of_pos x hlt
      have hne : (y != 0) = true := by simp; omega
      go_wp2_with ((first | with_reducible refine wp_region_ext' (by kernel_rfl) (by kernel_rfl) ?_ | with_reducible refine wp_region_ext (by kernel_rfl) (by kernel_rfl) ?_); (repeat (go_big_quiet_step (fail))); refine wpQuiet_nil ?_; intro _ hw'; obtain ⟨xw, hw''⟩ := hw'; subst hw''; have hz := ExtOf.size_le xw; (try simp only [World.size_alloc, World.size_setCell] at hz); (try have hz0 : w.heap.size < xw.w.heap.size := by omega); (try have hz1 : w.heap.size + 1 < xw.w.heap.size := by omega); (try have hz2 : w.heap.size + 1 + 1 < xw.w.heap.size := by omega); (try have hz3 : w.heap.size + 1 + 1 + 1 < xw.w.heap.size := by omega); (try have hz4 : w.heap.size + 1 + 1 + 1 + 1 < xw.w.heap.size := by omega))
      refine ⟨⟨y, x % y, g2, k1, Lib.hid (gcd_step g1 g3.out), rfl, rfl, xw, rfl⟩, by simp [intOf]; omega⟩
    · obtain rfl : y = 0 := by omega
      obtain rfl : x = G := gcd_end g1 g3.out
      by_cases c1 : 1000000000 < A / x
      · go_wp2_with ((first | with_reducible refine wp_region_ext' (by kernel_rfl) (by kernel_rfl) ?_ | with_reducible refine wp_region_ext (by kernel_rfl) (by kernel_rfl) ?_); (repeat (go_big_quiet_step (fail))); refine wpQuiet_nil ?_; intro _ hw'; obtain ⟨xw, hw''⟩ := hw'; subst hw''; have hz := ExtOf.size_le xw; (try simp only [World.size_alloc, World.size_setCell] at hz); (try have hz0 : w.heap.size < xw.w.heap.size := by omega); (try have hz1 : w.heap.size + 1 < xw.w.heap.size := by omega); (try have hz2 : w.heap.size + 1 + 1 < xw.w.heap.size := by omega); (try have hz3 : w.heap.size + 1 + 1 + 1 < xw.w.heap.size := by omega); (try have hz4 : w.heap.size + 1 + 1 + 1 + 1 < xw.w.heap.size := by omega))
        (refine bodyPost_ret (v := .tuple #[.agg #[.int .i64 0, .int .i64 0], .bool false]) ?_ rfl ?_; (focus (have hr := Try.results78; simp only [results, hr]; go_simp; done)))
        exact ⟨ret_eq (rB_none HG.out HA.out HD.out (.inl (by omega))), by (repeat' (first | exact Ext.refl _ | assumption | refine Ext.val _ ?_ | refine Ext.alloc ?_ _ | refine Ext.drew ?_ | refine Ext.drewN ?_ _ | refine Ext.setCell ?_ (by first | exact Nat.le_refl _ | omega | (simp; done) | (simp; omega)) _ | refine Ext.trans ?_ (by assumption)))⟩
      by_cases c2 : 1000000000 < D / x
      · go_wp2_with ((first | with_reducible refine wp_region_ext' (by kernel_rfl) (by kernel_rfl) ?_ | with_reducible refine wp_region_ext (by kernel_rfl) (by kernel_rfl) ?_); (repeat (go_big_quiet_step (fail))); refine wpQuiet_nil ?_; intro _ hw'; obtain ⟨xw, hw''⟩ := hw'; subst hw''; have hz := ExtOf.size_le xw; (try simp only [World.size_alloc, World.size_setCell] at hz); (try have hz0 : w.heap.size < xw.w.heap.size := by omega); (try have hz1 : w.heap.size + 1 < xw.w.heap.size := by omega); (try have hz2 : w.heap.size + 1 + 1 < xw.w.heap.size := by omega); (try have hz3 : w.heap.size + 1 + 1 + 1 < xw.w.heap.size := by omega); (try have hz4 : w.heap.size + 1 + 1 + 1 + 1 < xw.w.heap.size := by omega))
        (refine bodyPost_ret (v := .tuple #[.agg #[.int .i64 0, .int .i64 0], .bool false]) ?_ rfl ?_; (focus (have hr := Try.results78; simp only [results, hr]; go_simp; done)))
        exact ⟨ret_eq (rB_none HG.out HA.out HD.out (.inr (by omega))), by (repeat' (first | exact Ext.refl _ | assumption | refine Ext.val _ ?_ | refine Ext.alloc ?_ _ | refine Ext.drew ?_ | refine Ext.drewN ?_ _ | refine Ext.setCell ?_ (by first | exact Nat.le_refl _ | omega | (simp; done) | (simp; omega)) _ | refine Ext.trans ?_ (by assumption)))⟩
      cases s1 : decide (n < 0) <;> cases s2 : decide (d < 0)
      all_goals
        have E1 := Lib.hid s1
        have E2 := Lib.hid s2
        simp only [decide_eq_true_eq, decide_eq_false_iff_not] at s1 s2
        go_wp2_with ((first | with_reducible refine wp_region_ext' (by kernel_rfl) (by kernel_rfl) ?_ | with_reducible refine wp_region_ext (by kernel_rfl) (by kernel_rfl) ?_); (repeat (go_big_quiet_step (fail))); refine wpQuiet_nil ?_; intro _ hw'; obtain ⟨xw, hw''⟩ := hw'; subst hw''; have hz := ExtOf.size_le xw; (try simp only [World.size_alloc, World.size_setCell] at hz); (try have hz0 : w.heap.size < xw.w.heap.size := by omega); (try have hz1 : w.heap.size + 1 < xw.w.heap.size := by omega); (try have hz2 : w.heap.size + 1 + 1 < xw.w.heap.size := by omega); (try have hz3 : w.heap.size + 1 + 1 + 1 < xw.w.heap.size := by omega); (try have hz4 : w.heap.size + 1 + 1 + 1 + 1 < xw.w.heap.size := by omega))
        first
          | ((refine bodyPost_ret (v := .tuple #[.agg #[.int .i64 (A / x), .int .i64 (D / x)], .bool true]) ?_ rfl ?_; (focus (have hr := Try.results78; simp only [results, hr]; go_simp; done))); exact ⟨ret_eq (rB_some HG.out HA.out HD.out (by omega) (by omega) (by rw [E1.out, E2.out]; rfl) rfl), by (repeat' (first | exact Ext.refl _ | assumption | refine Ext.val _ ?_ | refine Ext.alloc ?_ _ | refine Ext.drew ?_ | refine Ext.drewN ?_ _ | refine Ext.setCell ?_ (by first | exact Nat.le_refl _ | omega | (simp; done) | (simp; omega)) _ | refine Ext.trans ?_ (by assumption)))⟩)
          | ((refine bodyPost_ret (v := .tuple #[.agg #[.int .i64 (-(A / x)), .int .i64 (D / x)], .bool true]) ?_ rfl ?_; (focus (have hr := Try.results78; simp only [results, hr]; go_simp; done))); exact ⟨ret_eq (rB_some HG.out HA.out HD.out (by omega) (by omega) (by rw [E1.out, E2.out]; rfl) rfl), by (repeat' (first | exact Ext.refl _ | assumption | refine Ext.val _ ?_ | refine Ext.alloc ?_ _ | refine Ext.drew ?_ | refine Ext.drewN ?_ _ | refine Ext.setCell ?_ (by first | exact Nat.le_refl _ | omega | (simp; done) | (simp; omega)) _ | refine Ext.trans ?_ (by assumption)))⟩)
end Go.Proofs.Ytaaieejhbpdmoaa
