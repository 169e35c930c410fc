/- The contracts of the functions on ratios, continued. No conditions. -/
import Derived.Test.YtaaieejhbpdmoaaRatio
namespace Go.Proofs.Ytaaieejhbpdmoaa
open Go.RowKit BigFrame

theorem l00In_is {n lo hi : Int} {b : Bool} (h : inB n lo hi = b) (w : World) :
    Calls Try.prog 47 #[.int .i64 n, .int .i64 lo, .int .i64 hi] w fun e w' => e = .returned (.bool b) ∧ w = w' := by
  subst h; exact l00In_any _ _ _ _
theorem within_is {n lo hi : Int} {b : Bool} (h : inB n lo hi = b) (w : World) :
    Calls Try.prog 50 #[.int .i64 n, .int .i64 lo, .int .i64 hi] w fun e w' => e = .returned (.bool b) ∧ w = w' := by
  subst h; exact within_any _ _ _ _
theorem vRat_eq (n d : Int) : vRat n d = (inB d 1 1000000000 && (inB n (-1000000000) 1000000000 && decide ((Int.gcd n d : Int) = 1))) := rfl
theorem vRat_1 {n d : Int} (h : inB d 1 1000000000 = false) : vRat n d = false := by rw [vRat_eq, h]; rfl
theorem vRat_2 {n d : Int} (h : inB n (-1000000000) 1000000000 = false) : vRat n d = false := by rw [vRat_eq, h]; simp
theorem vRat_3 {n d : Int} (h : inB d 1 1000000000 = true) (h' : inB n (-1000000000) 1000000000 = true) {g : Int} (hg : (Int.gcd n d : Int) = g) : vRat n d = (g == 1) := by
  rw [vRat_eq, h, h', hg]
  simp only [Bool.true_and]
  by_cases e : g = 1 <;> simp [e]

set_option maxRecDepth 8000 in
theorem l02Ok_any (n d : Int) (w : World) :
    Calls Try.prog 53 #[.agg #[.int .i64 n, .int .i64 d]] w fun e w' => e = .returned (.bool (vRat n d)) ∧ Ext w w' := by
  cases hd : inB d 1 1000000000
  · have hv := Lib.hid (vRat_1 (n := n) hd)
    go_enter Try.func53, Try.ntmps53
    go_wp2_with (first | ((first | with_reducible refine wp_region_ext' (by kernel_rfl) (by kernel_rfl) ?_ | with_reducible refine wp_region_ext (by kernel_rfl) (by kernel_rfl) ?_); (repeat (go_big_quiet_step ((first | (go_at_call 47; with_reducible exact Calls.ext_of_same (l00In_is hd _)))))); refine wpQuiet_nil ?_; intro _ hw'; obtain ⟨xw, hw''⟩ := hw'; subst hw''; have hz := ExtOf.size_le xw; (try simp only [World.size_alloc, World.size_setCell] at hz); (try have hz0 : w.heap.size < xw.w.heap.size := by omega); (try have hz1 : w.heap.size + 1 < xw.w.heap.size := by omega); (try have hz2 : w.heap.size + 1 + 1 < xw.w.heap.size := by omega); (try have hz3 : w.heap.size + 1 + 1 + 1 < xw.w.heap.size := by omega); (try have hz4 : w.heap.size + 1 + 1 + 1 + 1 < xw.w.heap.size := by omega)) | (go_at_call 47; with_reducible refine (l00In_is hd _).mono ?_; rintro e w' ⟨rfl, rfl⟩))
    go_returns
    exact ⟨ret_bool hv.out.symm, by (repeat' (first | exact Ext.refl _ | assumption | refine Ext.val _ ?_ | refine Ext.alloc ?_ _ | refine Ext.drew ?_ | refine Ext.drewN ?_ _ | refine Ext.setCell ?_ (by first | exact Nat.le_refl _ | omega | (simp; done) | (simp; omega)) _ | refine Ext.trans ?_ (by assumption)))⟩
  cases hn : inB n (-1000000000) 1000000000
  · have hv := Lib.hid (vRat_2 (d := d) hn)
    go_enter Try.func53, Try.ntmps53
    go_wp2_with (first | ((first | with_reducible refine wp_region_ext' (by kernel_rfl) (by kernel_rfl) ?_ | with_reducible refine wp_region_ext (by kernel_rfl) (by kernel_rfl) ?_); (repeat (go_big_quiet_step ((first | (go_at_call 47; with_reducible exact Calls.ext_of_same (l00In_is hd _)) | (go_at_call 47; with_reducible exact Calls.ext_of_same (l00In_is hn _)))))); refine wpQuiet_nil ?_; intro _ hw'; obtain ⟨xw, hw''⟩ := hw'; subst hw''; have hz := ExtOf.size_le xw; (try simp only [World.size_alloc, World.size_setCell] at hz); (try have hz0 : w.heap.size < xw.w.heap.size := by omega); (try have hz1 : w.heap.size + 1 < xw.w.heap.size := by omega); (try have hz2 : w.heap.size + 1 + 1 < xw.w.heap.size := by omega); (try have hz3 : w.heap.size + 1 + 1 + 1 < xw.w.heap.size := by omega); (try have hz4 : w.heap.size + 1 + 1 + 1 + 1 < xw.w.heap.size := by omega)) | (go_at_call 47; with_reducible refine (l00In_is hd _).mono ?_; rintro e w' ⟨rfl, rfl⟩) | (go_at_call 47; with_reducible refine (l00In_is hn _).mono ?_; rintro e w' ⟨rfl, rfl⟩))
    go_returns
    exact ⟨ret_bool hv.out.symm, by (repeat' (first | exact Ext.refl _ | assumption | refine Ext.val _ ?_ | refine Ext.alloc ?_ _ | refine Ext.drew ?_ | refine Ext.drewN ?_ _ | refine Ext.setCell ?_ (by first | exact Nat.le_refl _ | omega | (simp; done) | (simp; omega)) _ | refine Ext.trans ?_ (by assumption)))⟩
  obtain ⟨d1, d2⟩ := inB_iff.1 hd
  obtain ⟨n1, n2⟩ := inB_iff.1 hn
  have m1 := mag_nn n
  have hgm : Int.gcd (mag n) d = Int.gcd n d := by
    have := gcd_mag n d
    rwa [mag_of_nn (show 0 ≤ d by omega)] at this
  obtain ⟨G, hG⟩ : ∃ G : Int, (Int.gcd n d : Int) = G := ⟨_, rfl⟩
  have hv := Lib.hid (vRat_3 hd hn hG)
  have hc := fun W => l02Gcd_any (mag n) d W m1 (by omega)
  rw [hgm, hG] at hc
  have HC := Lib.hid hc
  clear hc hG hgm
  go_enter Try.func53, Try.ntmps53
  go_wp2_with (first | ((first | with_reducible refine wp_region_ext' (by kernel_rfl) (by kernel_rfl) ?_ | with_reducible refine wp_region_ext (by kernel_rfl) (by kernel_rfl) ?_); (repeat (go_big_quiet_step ((first | (go_at_call 47; with_reducible exact Calls.ext_of_same (l00In_is hd _)) | (go_at_call 47; with_reducible exact Calls.ext_of_same (l00In_is hn _)) | (go_at_call 74; exact Calls.ext_of_same (l02Size_any _ _ (by omega) (by omega))) | (go_at_call 73; exact Calls.ext_of_same (HC.out _)))))); refine wpQuiet_nil ?_; intro _ hw'; obtain ⟨xw, hw''⟩ := hw'; subst hw''; have hz := ExtOf.size_le xw; (try simp only [World.size_alloc, World.size_setCell] at hz); (try have hz0 : w.heap.size < xw.w.heap.size := by omega); (try have hz1 : w.heap.size + 1 < xw.w.heap.size := by omega); (try have hz2 : w.heap.size + 1 + 1 < xw.w.heap.size := by omega); (try have hz3 : w.heap.size + 1 + 1 + 1 < xw.w.heap.size := by omega); (try have hz4 : w.heap.size + 1 + 1 + 1 + 1 < xw.w.heap.size := by omega)) | (go_at_call 47; with_reducible refine (l00In_is hd _).mono ?_; rintro e w' ⟨rfl, rfl⟩) | (go_at_call 47; with_reducible refine (l00In_is hn _).mono ?_; rintro e w' ⟨rfl, rfl⟩) | (go_at_call 74; refine (l02Size_any _ _ (by omega) (by omega)).mono ?_; rintro e w' ⟨rfl, rfl⟩) | (go_at_call 73; refine (HC.out _).mono ?_; rintro e w' ⟨rfl, rfl⟩))
  go_returns
  exact ⟨ret_bool hv.out.symm, by (repeat' (first | exact Ext.refl _ | assumption | refine Ext.val _ ?_ | refine Ext.alloc ?_ _ | refine Ext.drew ?_ | refine Ext.drewN ?_ _ | refine Ext.setCell ?_ (by first | exact Nat.le_refl _ | omega | (simp; done) | (simp; omega)) _ | refine Ext.trans ?_ (by assumption)))⟩

set_option maxRecDepth 8000 in
theorem ValidRatioI_any (n d : Int) (w : World) :
    Calls Try.prog 56 #[.agg #[.int .i64 n, .int .i64 d]] w fun e w' => e = .returned (.bool (vRat n d)) ∧ Ext w w' := by
  cases hd : inB d 1 1000000000
  · have hv := Lib.hid (vRat_1 (n := n) hd)
    go_enter Try.func56, Try.ntmps56
    go_wp2_with (first | ((first | with_reducible refine wp_region_ext' (by kernel_rfl) (by kernel_rfl) ?_ | with_reducible refine wp_region_ext (by kernel_rfl) (by kernel_rfl) ?_); (repeat (go_big_quiet_step ((first | (go_at_call 50; exact Calls.ext_of_same (within_any _ _ _ _)))))); refine wpQuiet_nil ?_; intro _ hw'; obtain ⟨xw, hw''⟩ := hw'; subst hw''; have hz := ExtOf.size_le xw; (try simp only [World.size_alloc, World.size_setCell] at hz); (try have hz0 : w.heap.size < xw.w.heap.size := by omega); (try have hz1 : w.heap.size + 1 < xw.w.heap.size := by omega); (try have hz2 : w.heap.size + 1 + 1 < xw.w.heap.size := by omega); (try have hz3 : w.heap.size + 1 + 1 + 1 < xw.w.heap.size := by omega); (try have hz4 : w.heap.size + 1 + 1 + 1 + 1 < xw.w.heap.size := by omega)) | (go_at_call 50; refine (within_any _ _ _ _).mono ?_; rintro e w' ⟨rfl, rfl⟩))
    go_returns
    exact ⟨ret_bool hv.out.symm, by (repeat' (first | exact Ext.refl _ | assumption | refine Ext.val _ ?_ | refine Ext.alloc ?_ _ | refine Ext.drew ?_ | refine Ext.drewN ?_ _ | refine Ext.setCell ?_ (by first | exact Nat.le_refl _ | omega | (simp; done) | (simp; omega)) _ | refine Ext.trans ?_ (by assumption)))⟩
  cases hn : inB n (-1000000000) 1000000000
  · have hv := Lib.hid (vRat_2 (d := d) hn)
    go_enter Try.func56, Try.ntmps56
    go_wp2_with (first | ((first | with_reducible refine wp_region_ext' (by kernel_rfl) (by kernel_rfl) ?_ | with_reducible refine wp_region_ext (by kernel_rfl) (by kernel_rfl) ?_); (repeat (go_big_quiet_step ((first | (go_at_call 50; exact Calls.ext_of_same (within_any _ _ _ _)))))); refine wpQuiet_nil ?_; intro _ hw'; obtain ⟨xw, hw''⟩ := hw'; subst hw''; have hz := ExtOf.size_le xw; (try simp only [World.size_alloc, World.size_setCell] at hz); (try have hz0 : w.heap.size < xw.w.heap.size := by omega); (try have hz1 : w.heap.size + 1 < xw.w.heap.size := by omega); (try have hz2 : w.heap.size + 1 + 1 < xw.w.heap.size := by omega); (try have hz3 : w.heap.size + 1 + 1 + 1 < xw.w.heap.size := by omega); (try have hz4 : w.heap.size + 1 + 1 + 1 + 1 < xw.w.heap.size := by omega)) | (go_at_call 50; refine (within_any _ _ _ _).mono ?_; rintro e w' ⟨rfl, rfl⟩))
    go_returns
    exact ⟨ret_bool hv.out.symm, by (repeat' (first | exact Ext.refl _ | assumption | refine Ext.val _ ?_ | refine Ext.alloc ?_ _ | refine Ext.drew ?_ | refine Ext.drewN ?_ _ | refine Ext.setCell ?_ (by first | exact Nat.le_refl _ | omega | (simp; done) | (simp; omega)) _ | refine Ext.trans ?_ (by assumption)))⟩
  obtain ⟨d1, d2⟩ := inB_iff.1 hd
  obtain ⟨n1, n2⟩ := inB_iff.1 hn
  obtain ⟨G, hG⟩ : ∃ G : Int, (Int.gcd n d : Int) = G := ⟨_, rfl⟩
  have hv := Lib.hid (vRat_3 hd hn hG)
  have hc := fun W => gcdI_any n d W (by omega) (by omega) (by omega) (by omega)
  rw [hG] at hc
  have HC := Lib.hid hc
  clear hc hG
  go_enter Try.func56, Try.ntmps56
  go_wp2_with (first | ((first | with_reducible refine wp_region_ext' (by kernel_rfl) (by kernel_rfl) ?_ | with_reducible refine wp_region_ext (by kernel_rfl) (by kernel_rfl) ?_); (repeat (go_big_quiet_step ((first | (go_at_call 50; exact Calls.ext_of_same (within_any _ _ _ _)) | (go_at_call 76; exact Calls.ext_of (HC.out _)))))); refine wpQuiet_nil ?_; intro _ hw'; obtain ⟨xw, hw''⟩ := hw'; subst hw''; have hz := ExtOf.size_le xw; (try simp only [World.size_alloc, World.size_setCell] at hz); (try have hz0 : w.heap.size < xw.w.heap.size := by omega); (try have hz1 : w.heap.size + 1 < xw.w.heap.size := by omega); (try have hz2 : w.heap.size + 1 + 1 < xw.w.heap.size := by omega); (try have hz3 : w.heap.size + 1 + 1 + 1 < xw.w.heap.size := by omega); (try have hz4 : w.heap.size + 1 + 1 + 1 + 1 < xw.w.heap.size := by omega)) | (go_at_call 50; refine (within_any _ _ _ _).mono ?_; rintro e w' ⟨rfl, rfl⟩) | (go_at_call 76; refine (HC.out _).mono ?_; rintro e w' ⟨rfl, hE⟩; (first | (obtain ⟨xw, rfl⟩ := ExtOf.mk' hE) | (obtain ⟨xw, rfl⟩ := ExtOf.mk hE)); clear hE; have hz := ExtOf.size_le xw; (try simp only [World.size_alloc, World.size_setCell] at hz); (try have hz0 : w.heap.size < xw.w.heap.size := by omega); (try have hz1 : w.heap.size + 1 < xw.w.heap.size := by omega); (try have hz2 : w.heap.size + 1 + 1 < xw.w.heap.size := by omega); (try have hz3 : w.heap.size + 1 + 1 + 1 < xw.w.heap.size := by omega); (try have hz4 : w.heap.size + 1 + 1 + 1 + 1 < xw.w.heap.size := by omega)))
  go_returns
  exact ⟨ret_bool hv.out.symm, by (repeat' (first | exact Ext.refl _ | assumption | refine Ext.val _ ?_ | refine Ext.alloc ?_ _ | refine Ext.drew ?_ | refine Ext.drewN ?_ _ | refine Ext.setCell ?_ (by first | exact Nat.le_refl _ | omega | (simp; done) | (simp; omega)) _ | refine Ext.trans ?_ (by assumption)))⟩

theorem toRatio_any (x y : Int) (w : World) :
    Calls Try.prog 23 #[.agg #[.int .i64 x, .int .i64 y]] w fun e w' => e = .returned (.agg #[.int .i64 x, .int .i64 y]) ∧ Ext w w' := by
  go_enter Try.func23, Try.ntmps23
  go_wp2
  go_returns
  exact ⟨rfl, by (repeat' (first | exact Ext.refl _ | assumption | refine Ext.val _ ?_ | refine Ext.alloc ?_ _ | refine Ext.drew ?_ | refine Ext.drewN ?_ _ | refine Ext.setCell ?_ (by first | exact Nat.le_refl _ | omega | (simp; done) | (simp; omega)) _ | refine Ext.trans ?_ (by assumption)))⟩
theorem eqRatio_any (ax ay bx by_ : Int) (w : World) :
    Calls Try.prog 25 #[.agg #[.int .i64 ax, .int .i64 ay], .agg #[.int .i64 bx, .int .i64 by_]] w fun e w' => e = .returned (.bool (ax == bx && ay == by_)) ∧ Ext w w' := by
  cases h1 : ax == bx <;> cases h2 : ay == by_
  all_goals
    have h1' : (ax != bx) = !(ax == bx) := rfl
    have h2' : (ay != by_) = !(ay == by_) := rfl
    rw [h1] at h1'
    rw [h2] at h2'
    simp only [Bool.not_true, Bool.not_false] at h1' h2'
    go_enter Try.func25, Try.ntmps25
    go_wp2
    go_returns
    exact ⟨rfl, by (repeat' (first | exact Ext.refl _ | assumption | refine Ext.val _ ?_ | refine Ext.alloc ?_ _ | refine Ext.drew ?_ | refine Ext.drewN ?_ _ | refine Ext.setCell ?_ (by first | exact Nat.le_refl _ | omega | (simp; done) | (simp; omega)) _ | refine Ext.trans ?_ (by assumption)))⟩
theorem eqRatio_same (ax ay : Int) (w : World) :
    Calls Try.prog 25 #[.agg #[.int .i64 ax, .int .i64 ay], .agg #[.int .i64 ax, .int .i64 ay]] w fun e w' => e = .returned (.bool true) ∧ Ext w w' :=
  (eqRatio_any ax ay ax ay w).mono fun e w' ⟨he, hw⟩ => ⟨by rw [he]; simp, hw⟩

theorem l02Code_any (x y : Int) (b : Bool) (w : World) :
    Calls Try.prog 65 #[.agg #[.int .i64 x, .int .i64 y], .bool b] w fun e w' => e = .returned (if b then .tuple #[.agg #[.int .i64 x, .int .i64 y], .int .i64 0] else .tuple #[.agg #[.int .i64 0, .int .i64 0], .int .i64 2]) ∧ Ext w w' := by
  cases b
  all_goals
    go_enter Try.func65, Try.ntmps65
    go_wp2
    go_returns
    exact ⟨rfl, by (repeat' (first | exact Ext.refl _ | assumption | refine Ext.val _ ?_ | refine Ext.alloc ?_ _ | refine Ext.drew ?_ | refine Ext.drewN ?_ _ | refine Ext.setCell ?_ (by first | exact Nat.le_refl _ | omega | (simp; done) | (simp; omega)) _ | refine Ext.trans ?_ (by assumption)))⟩
theorem l02CodeO_any (o : Option (Int × Int)) (w : World) :
    Calls Try.prog 65 #[rA o, .bool o.isSome] w fun e w' => e = .returned (rC o) ∧ Ext w w' := by
  cases o with
  | none => exact (l02Code_any 0 0 false w).mono fun e w' h => h
  | some p => exact (l02Code_any p.1 p.2 true w).mono fun e w' h => h

set_option maxRecDepth 8000 in
theorem MakeRatioI_any (n d : Int) (w : World) (h1 : -4000000000000000000 ≤ n) (h2 : n ≤ 4000000000000000000) (h3 : -4000000000000000000 ≤ d) (h4 : d ≤ 4000000000000000000) (h0 : d ≠ 0) :
    Calls Try.prog 66 #[.int .i64 n, .int .i64 d] w fun e w' => e = .returned (rC (mkR n d)) ∧ Ext w w' := by
  have hd0 : (d == 0) = false := by simpa using h0
  have hc := fun W => reduced_any n d W h1 h2 h3 h4 h0
  cases ho : mkR n d with
  | none =>
    rw [ho] at hc
    have HC := Lib.hid (show ∀ W, Calls Try.prog 78 #[.int .i64 n, .int .i64 d] W fun e w' => e = .returned (.tuple #[.agg #[.int .i64 0, .int .i64 0], .bool false]) ∧ Ext W w' from hc)
    clear hc ho
    go_enter Try.func66, Try.ntmps66
    go_wp2_with (first | ((first | with_reducible refine wp_region_ext' (by kernel_rfl) (by kernel_rfl) ?_ | with_reducible refine wp_region_ext (by kernel_rfl) (by kernel_rfl) ?_); (repeat (go_big_quiet_step ((first | (go_at_call 78; exact Calls.ext_of (HC.out _)))))); refine wpQuiet_nil ?_; intro _ hw'; obtain ⟨xw, hw''⟩ := hw'; subst hw''; have hz := ExtOf.size_le xw; (try simp only [World.size_alloc, World.size_setCell] at hz); (try have hz0 : w.heap.size < xw.w.heap.size := by omega); (try have hz1 : w.heap.size + 1 < xw.w.heap.size := by omega); (try have hz2 : w.heap.size + 1 + 1 < xw.w.heap.size := by omega); (try have hz3 : w.heap.size + 1 + 1 + 1 < xw.w.heap.size := by omega); (try have hz4 : w.heap.size + 1 + 1 + 1 + 1 < xw.w.heap.size := by omega)) | (go_at_call 78; refine (HC.out _).mono ?_; rintro e w' ⟨rfl, hE⟩; (first | (obtain ⟨xw, rfl⟩ := ExtOf.mk' hE) | (obtain ⟨xw, rfl⟩ := ExtOf.mk hE)); clear hE; have hz := ExtOf.size_le xw; (try simp only [World.size_alloc, World.size_setCell] at hz); (try have hz0 : w.heap.size < xw.w.heap.size := by omega); (try have hz1 : w.heap.size + 1 < xw.w.heap.size := by omega); (try have hz2 : w.heap.size + 1 + 1 < xw.w.heap.size := by omega); (try have hz3 : w.heap.size + 1 + 1 + 1 < xw.w.heap.size := by omega); (try have hz4 : w.heap.size + 1 + 1 + 1 + 1 < xw.w.heap.size := by omega)))
    (refine bodyPost_ret (v := .tuple #[.agg #[.int .i64 0, .int .i64 0], .int .i64 2]) ?_ rfl ?_; (focus (have hr := Try.results66; simp only [results, hr]; go_simp; done)))
    exact ⟨rfl, by (repeat' (first | exact Ext.refl _ | assumption | refine Ext.val _ ?_ | refine Ext.alloc ?_ _ | refine Ext.drew ?_ | refine Ext.drewN ?_ _ | refine Ext.setCell ?_ (by first | exact Nat.le_refl _ | omega | (simp; done) | (simp; omega)) _ | refine Ext.trans ?_ (by assumption)))⟩
  | some p =>
    obtain ⟨x, y⟩ := p
    rw [ho] at hc
    have HC := Lib.hid (show ∀ W, Calls Try.prog 78 #[.int .i64 n, .int .i64 d] W fun e w' => e = .returned (.tuple #[.agg #[.int .i64 x, .int .i64 y], .bool true]) ∧ Ext W w' from hc)
    clear hc ho
    go_enter Try.func66, Try.ntmps66
    go_wp2_with (first | ((first | with_reducible refine wp_region_ext' (by kernel_rfl) (by kernel_rfl) ?_ | with_reducible refine wp_region_ext (by kernel_rfl) (by kernel_rfl) ?_); (repeat (go_big_quiet_step ((first | (go_at_call 78; exact Calls.ext_of (HC.out _)))))); refine wpQuiet_nil ?_; intro _ hw'; obtain ⟨xw, hw''⟩ := hw'; subst hw''; have hz := ExtOf.size_le xw; (try simp only [World.size_alloc, World.size_setCell] at hz); (try have hz0 : w.heap.size < xw.w.heap.size := by omega); (try have hz1 : w.heap.size + 1 < xw.w.heap.size := by omega); (try have hz2 : w.heap.size + 1 + 1 < xw.w.heap.size := by omega); (try have hz3 : w.heap.size + 1 + 1 + 1 < xw.w.heap.size := by omega); (try have hz4 : w.heap.size + 1 + 1 + 1 + 1 < xw.w.heap.size := by omega)) | (go_at_call 78; refine (HC.out _).mono ?_; rintro e w' ⟨rfl, hE⟩; (first | (obtain ⟨xw, rfl⟩ := ExtOf.mk' hE) | (obtain ⟨xw, rfl⟩ := ExtOf.mk hE)); clear hE; have hz := ExtOf.size_le xw; (try simp only [World.size_alloc, World.size_setCell] at hz); (try have hz0 : w.heap.size < xw.w.heap.size := by omega); (try have hz1 : w.heap.size + 1 < xw.w.heap.size := by omega); (try have hz2 : w.heap.size + 1 + 1 < xw.w.heap.size := by omega); (try have hz3 : w.heap.size + 1 + 1 + 1 < xw.w.heap.size := by omega); (try have hz4 : w.heap.size + 1 + 1 + 1 + 1 < xw.w.heap.size := by omega)))
    (refine bodyPost_ret (v := .tuple #[.agg #[.int .i64 x, .int .i64 y], .int .i64 0]) ?_ rfl ?_; (focus (have hr := Try.results66; simp only [results, hr]; go_simp; done)))
    exact ⟨rfl, by (repeat' (first | exact Ext.refl _ | assumption | refine Ext.val _ ?_ | refine Ext.alloc ?_ _ | refine Ext.drew ?_ | refine Ext.drewN ?_ _ | refine Ext.setCell ?_ (by first | exact Nat.le_refl _ | omega | (simp; done) | (simp; omega)) _ | refine Ext.trans ?_ (by assumption)))⟩

theorem l02Neg_any (x y : Int) (w : World) (h : -1000000000 ≤ x ∧ x ≤ 1000000000) :
    Calls Try.prog 75 #[.agg #[.int .i64 x, .int .i64 y]] w fun e w' => e = .returned (.agg #[.int .i64 (-x), .int .i64 y]) ∧ Ext w w' := by
  obtain ⟨h1, h2⟩ := h
  go_enter Try.func75, Try.ntmps75
  go_wp2
  go_returns
  exact ⟨rfl, by (repeat' (first | exact Ext.refl _ | assumption | refine Ext.val _ ?_ | refine Ext.alloc ?_ _ | refine Ext.drew ?_ | refine Ext.drewN ?_ _ | refine Ext.setCell ?_ (by first | exact Nat.le_refl _ | omega | (simp; done) | (simp; omega)) _ | refine Ext.trans ?_ (by assumption)))⟩

theorem prod_bd {a d : Int} (h1 : -1000000000 ≤ a) (h2 : a ≤ 1000000000) (h3 : 1 ≤ d) (h4 : d ≤ 1000000000) : -1000000000000000000 ≤ a * d ∧ a * d ≤ 1000000000000000000 := by
  rcases Int.le_total 0 a with h | h
  · have e1 := Int.mul_le_mul h2 h4 (by omega) (by omega)
    have e2 := Int.mul_nonneg h (show 0 ≤ d by omega)
    omega
  · have h' : 0 ≤ -a := by omega
    have e1 := Int.mul_le_mul (show -a ≤ 1000000000 by omega) h4 (by omega) (by omega)
    have e2 := Int.mul_nonneg h' (show 0 ≤ d by omega)
    rw [Int.neg_mul] at e1 e2
    omega
theorem den_bd {b d : Int} (h1 : 1 ≤ b) (h2 : b ≤ 1000000000) (h3 : 1 ≤ d) (h4 : d ≤ 1000000000) : 1 ≤ b * d ∧ b * d ≤ 1000000000000000000 := by
  have e1 := Int.mul_le_mul h2 h4 (by omega) (by omega)
  have e2 := Int.mul_le_mul h1 h3 (by omega) (by omega)
  omega
def addR (a b c d : Int) : Option (Int × Int) := mkR (a * d + c * b) (b * d)
def subR (a b c d : Int) : Option (Int × Int) := mkR (a * d - c * b) (b * d)
def mulR (a b c d : Int) : Option (Int × Int) := mkR (a * c) (b * d)
theorem num_bd {a c : Int} (h1 : -1000000000 ≤ a) (h2 : a ≤ 1000000000) (h3 : -1000000000 ≤ c) (h4 : c ≤ 1000000000) : -1000000000000000000 ≤ a * c ∧ a * c ≤ 1000000000000000000 := by
  rcases Int.le_total 1 c with h | h
  · exact prod_bd h1 h2 h h4
  · rcases Int.le_total c (-1) with h' | h'
    · have := prod_bd (a := a) (d := -c) h1 h2 (by omega) (by omega)
      rw [Int.mul_neg] at this
      omega
    · have : c = 0 ∨ c = 1 ∨ c = -1 := by omega
      rcases this with rfl | rfl | rfl <;> omega

set_option maxRecDepth 4000 in
theorem l02AddRaw_any (a b c d : Int) (w : World) (h1 : -1000000000 ≤ a ∧ a ≤ 1000000000) (h2 : 1 ≤ b ∧ b ≤ 1000000000) (h3 : -1000000000 ≤ c ∧ c ≤ 1000000000) (h4 : 1 ≤ d ∧ d ≤ 1000000000) :
    Calls Try.prog 54 #[.agg #[.int .i64 a, .int .i64 b], .agg #[.int .i64 c, .int .i64 d]] w fun e w' => e = .returned (rB (addR a b c d)) ∧ Ext w w' := by
  obtain ⟨a1, a2⟩ := h1
  obtain ⟨b1, b2⟩ := h2
  obtain ⟨c1, c2⟩ := h3
  obtain ⟨d1, d2⟩ := h4
  obtain ⟨p1, p2⟩ := prod_bd a1 a2 d1 d2
  obtain ⟨p3, p4⟩ := prod_bd c1 c2 b1 b2
  obtain ⟨p5, p6⟩ := den_bd b1 b2 d1 d2
  have hc := fun W => l02Make_any (a * d + c * b) (b * d) W (by omega) (by omega) (by omega) (by omega) (by omega)
  unfold addR
  cases ho : mkR (a * d + c * b) (b * d) with
  | none =>
    rw [ho] at hc
    have HC := Lib.hid (show ∀ W, Calls Try.prog 63 #[.int .i64 (a * d + c * b), .int .i64 (b * d)] W fun e w' => e = .returned (.tuple #[.agg #[.int .i64 0, .int .i64 0], .bool false]) ∧ Ext W w' from hc)
    clear hc ho
    go_enter Try.func54, Try.ntmps54
    go_wp2_with (first | ((first | with_reducible refine wp_region_ext' (by kernel_rfl) (by kernel_rfl) ?_ | with_reducible refine wp_region_ext (by kernel_rfl) (by kernel_rfl) ?_); (repeat (go_big_quiet_step ((first | (go_at_call 63; exact Calls.ext_of (HC.out _)))))); refine wpQuiet_nil ?_; intro _ hw'; obtain ⟨xw, hw''⟩ := hw'; subst hw''; have hz := ExtOf.size_le xw; (try simp only [World.size_alloc, World.size_setCell] at hz); (try have hz0 : w.heap.size < xw.w.heap.size := by omega); (try have hz1 : w.heap.size + 1 < xw.w.heap.size := by omega); (try have hz2 : w.heap.size + 1 + 1 < xw.w.heap.size := by omega); (try have hz3 : w.heap.size + 1 + 1 + 1 < xw.w.heap.size := by omega); (try have hz4 : w.heap.size + 1 + 1 + 1 + 1 < xw.w.heap.size := by omega)) | (go_at_call 63; refine (HC.out _).mono ?_; rintro e w' ⟨rfl, hE⟩; (first | (obtain ⟨xw, rfl⟩ := ExtOf.mk' hE) | (obtain ⟨xw, rfl⟩ := ExtOf.mk hE)); clear hE; have hz := ExtOf.size_le xw; (try simp only [World.size_alloc, World.size_setCell] at hz); (try have hz0 : w.heap.size < xw.w.heap.size := by omega); (try have hz1 : w.heap.size + 1 < xw.w.heap.size := by omega); (try have hz2 : w.heap.size + 1 + 1 < xw.w.heap.size := by omega); (try have hz3 : w.heap.size + 1 + 1 + 1 < xw.w.heap.size := by omega); (try have hz4 : w.heap.size + 1 + 1 + 1 + 1 < xw.w.heap.size := by omega)))
    (refine bodyPost_ret (v := .tuple #[.agg #[.int .i64 0, .int .i64 0], .bool false]) ?_ rfl ?_; (focus (have hr := Try.results54; simp only [results, hr]; go_simp; done)))
    exact ⟨rfl, by (repeat' (first | exact Ext.refl _ | assumption | refine Ext.val _ ?_ | refine Ext.alloc ?_ _ | refine Ext.drew ?_ | refine Ext.drewN ?_ _ | refine Ext.setCell ?_ (by first | exact Nat.le_refl _ | omega | (simp; done) | (simp; omega)) _ | refine Ext.trans ?_ (by assumption)))⟩
  | some p =>
    obtain ⟨x, y⟩ := p
    rw [ho] at hc
    have HC := Lib.hid (show ∀ W, Calls Try.prog 63 #[.int .i64 (a * d + c * b), .int .i64 (b * d)] W fun e w' => e = .returned (.tuple #[.agg #[.int .i64 x, .int .i64 y], .bool true]) ∧ Ext W w' from hc)
    clear hc ho
    go_enter Try.func54, Try.ntmps54
    go_wp2_with (first | ((first | with_reducible refine wp_region_ext' (by kernel_rfl) (by kernel_rfl) ?_ | with_reducible refine wp_region_ext (by kernel_rfl) (by kernel_rfl) ?_); (repeat (go_big_quiet_step ((first | (go_at_call 63; exact Calls.ext_of (HC.out _)))))); refine wpQuiet_nil ?_; intro _ hw'; obtain ⟨xw, hw''⟩ := hw'; subst hw''; have hz := ExtOf.size_le xw; (try simp only [World.size_alloc, World.size_setCell] at hz); (try have hz0 : w.heap.size < xw.w.heap.size := by omega); (try have hz1 : w.heap.size + 1 < xw.w.heap.size := by omega); (try have hz2 : w.heap.size + 1 + 1 < xw.w.heap.size := by omega); (try have hz3 : w.heap.size + 1 + 1 + 1 < xw.w.heap.size := by omega); (try have hz4 : w.heap.size + 1 + 1 + 1 + 1 < xw.w.heap.size := by omega)) | (go_at_call 63; refine (HC.out _).mono ?_; rintro e w' ⟨rfl, hE⟩; (first | (obtain ⟨xw, rfl⟩ := ExtOf.mk' hE) | (obtain ⟨xw, rfl⟩ := ExtOf.mk hE)); clear hE; have hz := ExtOf.size_le xw; (try simp only [World.size_alloc, World.size_setCell] at hz); (try have hz0 : w.heap.size < xw.w.heap.size := by omega); (try have hz1 : w.heap.size + 1 < xw.w.heap.size := by omega); (try have hz2 : w.heap.size + 1 + 1 < xw.w.heap.size := by omega); (try have hz3 : w.heap.size + 1 + 1 + 1 < xw.w.heap.size := by omega); (try have hz4 : w.heap.size + 1 + 1 + 1 + 1 < xw.w.heap.size := by omega)))
    (refine bodyPost_ret (v := .tuple #[.agg #[.int .i64 x, .int .i64 y], .bool true]) ?_ rfl ?_; (focus (have hr := Try.results54; simp only [results, hr]; go_simp; done)))
    exact ⟨rfl, by (repeat' (first | exact Ext.refl _ | assumption | refine Ext.val _ ?_ | refine Ext.alloc ?_ _ | refine Ext.drew ?_ | refine Ext.drewN ?_ _ | refine Ext.setCell ?_ (by first | exact Nat.le_refl _ | omega | (simp; done) | (simp; omega)) _ | refine Ext.trans ?_ (by assumption)))⟩
end Go.Proofs.Ytaaieejhbpdmoaa
