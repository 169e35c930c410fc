/- The contracts of ThirdPoint, of the program and of the reference. No conditions. -/
import Derived.Test.YtincjooilmahfaaThird
namespace Go.Proofs.Ytincjooilmahfaa
open Go.RowKit BigFrame

set_option maxHeartbeats 1000000 in
theorem ThirdPointI_far (ax ay bx by_ ra rb : Int) (left : Bool) (w : World) (ha : vPt ax ay = true) (hb : vPt bx by_ = true) (hra : inB ra 0 10000 = true) (hrb : inB rb 0 10000 = true) (dx dy D A S : Int)
    (hdx : bx - ax = dx) (hdy : by_ - ay = dy) (hD : dx * dx + dy * dy = D) (hA : ra * ra - rb * rb + D = A) (hS : 4 * D * ra * ra - A * A = S) (hD1 : 1 ≤ D) (hD2 : D ≤ 200000000) (hneg : S < 0)
    (u v : Bool) (hu : (ax == bx) = u) (hv : (ay == by_) = v) (hu' : (ax = bx) = (u = true)) (hv' : (ay = by_) = (v = true)) (huv : (u && v) = false) :
    Calls Try.prog 32 #[.agg #[.int .i64 ax, .int .i64 ay], .agg #[.int .i64 bx, .int .i64 by_], .int .i64 ra, .int .i64 rb, .bool left] w
      fun e w' => e = .returned (.tuple #[.agg #[.int .i64 0, .int .i64 0], .int .i64 3]) ∧ Ext w w' := by
  obtain ⟨r1, r2⟩ := inB_iff.1 hra
  obtain ⟨s1, s2⟩ := inB_iff.1 hrb
  obtain ⟨a1, a2, a3, a4⟩ := vPt_bd ha
  obtain ⟨c1, c2, c3, c4⟩ := vPt_bd hb
  have e1 := mul_bd_abs (d := dx) (by omega) (by omega)
  have e2 := mul_bd_abs (d := dy) (by omega) (by omega)
  obtain ⟨⟨b1, b2⟩, ⟨b3, b4⟩, ⟨b5, b6⟩, ⟨b7, b8⟩, ⟨b9, b10⟩, ⟨b11, b12⟩, _, _⟩ := third_bds (dx := 0) (dy := 0) (by omega) (by omega) (by omega) (by omega) hD1 hD2 r1 r2 s1 s2 hA
  cases u <;> cases v <;> simp only [Bool.and_self, Bool.false_eq_true, Bool.true_eq_false, reduceCtorEq, Bool.and_true, Bool.and_false, Bool.false_and, Bool.true_and] at huv
  all_goals
   simp only [Bool.false_eq_true, eq_self] at hu' hv'
   go_enter Try.func32, Try.ntmps32
   go_wp2_with (first | ((first | with_reducible refine wp_region_ext' (by kernel_rfl) (by kernel_rfl) ?_ | with_reducible refine wp_region_ext (by kernel_rfl) (by kernel_rfl) ?_); (repeat (go_big_quiet_step ((first | (go_at_call 20; exact Calls.ext_of (ValidPointI_any _ _ _)) | (go_at_call 65; exact Calls.ext_of_same (within_any _ _ _ _)) | (go_at_call 77; exact Calls.ext_of_same (rootOf_any _ _ (by omega) (by omega))) | (go_at_call 78; exact Calls.ext_of_same (nearestDiv_any _ _ _ (by omega) (by omega) (by omega) (by omega))))))); refine wpQuiet_nil ?_; intro _ hw'; obtain ⟨xw, hw''⟩ := hw'; subst hw''; have hz := ExtOf.size_le xw; (try simp only [World.size_alloc, World.size_setCell] at hz); (try have hz0 : w.heap.size < xw.w.heap.size := by omega); (try have hz1 : w.heap.size + 1 < xw.w.heap.size := by omega); (try have hz2 : w.heap.size + 1 + 1 < xw.w.heap.size := by omega); (try have hz3 : w.heap.size + 1 + 1 + 1 < xw.w.heap.size := by omega); (try have hz4 : w.heap.size + 1 + 1 + 1 + 1 < xw.w.heap.size := by omega)) | (go_at_call 20; refine (ValidPointI_any _ _ _).mono ?_; rintro e w' ⟨rfl, hE⟩; (first | (obtain ⟨xw, rfl⟩ := ExtOf.mk' hE) | (obtain ⟨xw, rfl⟩ := ExtOf.mk hE)); clear hE; have hz := ExtOf.size_le xw; (try simp only [World.size_alloc, World.size_setCell] at hz); (try have hz0 : w.heap.size < xw.w.heap.size := by omega); (try have hz1 : w.heap.size + 1 < xw.w.heap.size := by omega); (try have hz2 : w.heap.size + 1 + 1 < xw.w.heap.size := by omega); (try have hz3 : w.heap.size + 1 + 1 + 1 < xw.w.heap.size := by omega); (try have hz4 : w.heap.size + 1 + 1 + 1 + 1 < xw.w.heap.size := by omega)) | (go_at_call 65; refine (within_any _ _ _ _).mono ?_; rintro e w' ⟨rfl, rfl⟩) | (go_at_call 77; refine (rootOf_any _ _ (by omega) (by omega)).mono ?_; rintro e w' ⟨rfl, rfl⟩) | (go_at_call 78; refine (nearestDiv_any _ _ _ (by omega) (by omega) (by omega) (by omega)).mono ?_; rintro e w' ⟨rfl, rfl⟩))
   go_returns
   exact ⟨rfl, by (repeat' (first | exact Ext.refl _ | assumption | refine Ext.val _ ?_ | refine Ext.alloc ?_ _ | refine Ext.drew ?_ | refine Ext.drewN ?_ _ | refine Ext.setCell ?_ (by first | exact Nat.le_refl _ | omega | (simp; done) | (simp; omega)) _ | refine Ext.trans ?_ (by assumption)))⟩

set_option maxHeartbeats 2000000 in
theorem ThirdPointI_near (ax ay bx by_ ra rb : Int) (left : Bool) (w : World) (ha : vPt ax ay = true) (hb : vPt bx by_ = true) (hra : inB ra 0 10000 = true) (hrb : inB rb 0 10000 = true) (dx dy D A S R C X Y px py : Int)
    (hdx : bx - ax = dx) (hdy : by_ - ay = dy) (hD : dx * dx + dy * dy = D) (hA : ra * ra - rb * rb + D = A) (hS : 4 * D * ra * ra - A * A = S) (hD1 : 1 ≤ D) (hD2 : D ≤ 200000000) (hpos : 0 ≤ S)
    (hR : isq S = R) (hC : (if left then R else -R) = C) (hX : near (A * dx - C * dy) (2 * D) = X) (hY : near (A * dy + C * dx) (2 * D) = Y) (hpx : ax + X = px) (hpy : ay + Y = py)
    (u v : Bool) (hu : (ax == bx) = u) (hv : (ay == by_) = v) (hu' : (ax = bx) = (u = true)) (hv' : (ay = by_) = (v = true)) (huv : (u && v) = false) :
    Calls Try.prog 32 #[.agg #[.int .i64 ax, .int .i64 ay], .agg #[.int .i64 bx, .int .i64 by_], .int .i64 ra, .int .i64 rb, .bool left] w
      fun e w' => e = .returned (ptOr px py) ∧ Ext w w' := by
  obtain ⟨r1, r2⟩ := inB_iff.1 hra
  obtain ⟨s1, s2⟩ := inB_iff.1 hrb
  obtain ⟨a1, a2, a3, a4⟩ := vPt_bd ha
  obtain ⟨c1, c2, c3, c4⟩ := vPt_bd hb
  have e1 := mul_bd_abs (d := dx) (by omega) (by omega)
  have e2 := mul_bd_abs (d := dy) (by omega) (by omega)
  obtain ⟨⟨b1, b2⟩, ⟨b3, b4⟩, ⟨b5, b6⟩, ⟨b7, b8⟩, ⟨b9, b10⟩, ⟨b11, b12⟩, ⟨b13, b14⟩, ⟨b15, b16⟩⟩ := third_bds (dx := dx) (dy := dy) (by omega) (by omega) (by omega) (by omega) hD1 hD2 r1 r2 s1 s2 hA
  have q1 : 0 ≤ R ∧ R ≤ 300000000 := by
    rw [← hR]
    have k := isq_spec hpos
    have l := mul_self_nn A
    exact ⟨k.1, root_le k (by omega) (by omega)⟩
  have q2 : -300000000 ≤ C ∧ C ≤ 300000000 := by
    rw [← hC]; split <;> omega
  obtain ⟨k1, k2⟩ := mulb (a := C) (b := dx) (A := 300000000) (B := 10000) q2.1 q2.2 (by omega) (by omega)
  obtain ⟨k3, k4⟩ := mulb (a := C) (b := dy) (A := 300000000) (B := 10000) q2.1 q2.2 (by omega) (by omega)
  have q3 : -30000000000000 ≤ X ∧ X ≤ 30000000000000 := by
    rw [← hX]; exact near_bd (by omega) (by omega) (by omega) (by omega)
  have q4 : -30000000000000 ≤ Y ∧ Y ≤ 30000000000000 := by
    rw [← hY]; exact near_bd (by omega) (by omega) (by omega) (by omega)
  obtain ⟨q5, q6⟩ := q1
  obtain ⟨q7, q8⟩ := q2
  obtain ⟨q9, q10⟩ := q3
  obtain ⟨q11, q12⟩ := q4
  have hd0 : (D == 0) = false := by simp; omega
  cases left <;> simp only [if_true, Bool.false_eq_true, if_false] at hC
  all_goals
    cases u <;> cases v <;> simp only [Bool.and_self, Bool.false_eq_true, Bool.true_eq_false, reduceCtorEq, Bool.and_true, Bool.and_false, Bool.false_and, Bool.true_and] at huv
  all_goals
    simp only [Bool.false_eq_true, eq_self] at hu' hv'
    go_enter Try.func32, Try.ntmps32
    go_wp2_with (first | (with_reducible refine wp_region_float1 28 121 27 18 25 _ (by kernel_rfl) Try.zeroValue25 (by decide +kernel) (by decide +kernel) (by kernel_rfl) rfl ?_; simp only [List.take_succ_cons, List.take_zero, List.eraseIdx_cons_succ, List.eraseIdx_cons_zero, List.drop_succ_cons, List.drop_zero]; apply Exists.intro; refine ⟨fun S hS hne => ?_, ?_⟩; (· (repeat (go_big_quiet_step ((first | (go_at_call 20; exact Calls.exts_of hS (ValidPointI_any _ _ _)) | (go_at_call 65; exact Calls.exts_of_same hS (within_any _ _ _ _)) | (go_at_call 77; exact Calls.exts_of_same hS (rootOf_any _ _ (by omega) (by omega))) | (go_at_call 78; exact Calls.exts_of_same hS (nearestDiv_any _ _ _ (by omega) (by omega) (by omega) (by omega))))))); exact wpQuiet_nil rfl); intro xw g hg1 hg2 hg3; obtain ⟨hg4, hg5⟩ := block_cells hg3; clear hg3; (try simp only [World.size_alloc, World.size_setCell] at hg1); have hz := ExtOf.size_le xw; (try simp only [World.size_alloc, World.size_setCell] at hz); (try have hz0 : w.heap.size < xw.w.heap.size := by omega); (try have hz1 : w.heap.size + 1 < xw.w.heap.size := by omega); (try have hz2 : w.heap.size + 1 + 1 < xw.w.heap.size := by omega); (try have hz3 : w.heap.size + 1 + 1 + 1 < xw.w.heap.size := by omega); (try have hz4 : w.heap.size + 1 + 1 + 1 + 1 < xw.w.heap.size := by omega); simp only [Act.put, List.setIfInBounds_toArray, List.set_cons_succ, List.set_cons_zero]) | ((first | with_reducible refine wp_region_ext' (by kernel_rfl) (by kernel_rfl) ?_ | with_reducible refine wp_region_ext (by kernel_rfl) (by kernel_rfl) ?_); (repeat (go_big_quiet_step ((first | (go_at_call 20; exact Calls.ext_of (ValidPointI_any _ _ _)) | (go_at_call 65; exact Calls.ext_of_same (within_any _ _ _ _)) | (go_at_call 77; exact Calls.ext_of_same (rootOf_any _ _ (by omega) (by omega))) | (go_at_call 78; exact Calls.ext_of_same (nearestDiv_any _ _ _ (by omega) (by omega) (by omega) (by omega))))))); refine wpQuiet_nil ?_; intro _ hw'; obtain ⟨xw, hw''⟩ := hw'; subst hw''; have hz := ExtOf.size_le xw; (try simp only [World.size_alloc, World.size_setCell] at hz); (try have hz0 : w.heap.size < xw.w.heap.size := by omega); (try have hz1 : w.heap.size + 1 < xw.w.heap.size := by omega); (try have hz2 : w.heap.size + 1 + 1 < xw.w.heap.size := by omega); (try have hz3 : w.heap.size + 1 + 1 + 1 < xw.w.heap.size := by omega); (try have hz4 : w.heap.size + 1 + 1 + 1 + 1 < xw.w.heap.size := by omega)) | (go_at_call 20; refine (ValidPointI_any _ _ _).mono ?_; rintro e w' ⟨rfl, hE⟩; (first | (obtain ⟨xw, rfl⟩ := ExtOf.mk' hE) | (obtain ⟨xw, rfl⟩ := ExtOf.mk hE)); clear hE; have hz := ExtOf.size_le xw; (try simp only [World.size_alloc, World.size_setCell] at hz); (try have hz0 : w.heap.size < xw.w.heap.size := by omega); (try have hz1 : w.heap.size + 1 < xw.w.heap.size := by omega); (try have hz2 : w.heap.size + 1 + 1 < xw.w.heap.size := by omega); (try have hz3 : w.heap.size + 1 + 1 + 1 < xw.w.heap.size := by omega); (try have hz4 : w.heap.size + 1 + 1 + 1 + 1 < xw.w.heap.size := by omega)) | (go_at_call 65; refine (within_any _ _ _ _).mono ?_; rintro e w' ⟨rfl, rfl⟩) | (go_at_call 77; refine (rootOf_any _ _ (by omega) (by omega)).mono ?_; rintro e w' ⟨rfl, rfl⟩) | (go_at_call 78; refine (nearestDiv_any _ _ _ (by omega) (by omega) (by omega) (by omega)).mono ?_; rintro e w' ⟨rfl, rfl⟩))
    all_goals
      first
        | (have hq := ptOr_yes ‹_›; (refine bodyPost_ret (v := .tuple #[.agg #[.int .i64 px, .int .i64 py], .int .i64 0]) ?_ rfl ?_; (focus (have hr := Try.results32; simp only [results, hr]; go_simp; done))); exact ⟨hq, by (repeat' (first | exact Ext.refl _ | assumption | refine Ext.val _ ?_ | refine Ext.alloc ?_ _ | refine Ext.drew ?_ | refine Ext.drewN ?_ _ | refine Ext.setCell ?_ (by first | exact Nat.le_refl _ | omega | (simp; done) | (simp; omega)) _ | refine Ext.trans ?_ (by assumption)))⟩)
        | (have hq := ptOr_no ‹_›; (refine bodyPost_ret (v := .tuple #[.agg #[.int .i64 0, .int .i64 0], .int .i64 10]) ?_ rfl ?_; (focus (have hr := Try.results32; simp only [results, hr]; go_simp; done))); exact ⟨hq, by (repeat' (first | exact Ext.refl _ | assumption | refine Ext.val _ ?_ | refine Ext.alloc ?_ _ | refine Ext.drew ?_ | refine Ext.drewN ?_ _ | refine Ext.setCell ?_ (by first | exact Nat.le_refl _ | omega | (simp; done) | (simp; omega)) _ | refine Ext.trans ?_ (by assumption)))⟩)
end Go.Proofs.Ytincjooilmahfaa
