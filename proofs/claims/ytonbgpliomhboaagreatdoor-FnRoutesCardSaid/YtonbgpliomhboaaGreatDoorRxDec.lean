/- ReadDecimal as a contract of the evaluator. No conditions. -/
import Derived.Test.YtonbgpliomhboaaGreatDoorRxLibR
import Derived.Test.YtonbgpliomhboaaGreatDoorRxTextLaw
import Derived.Laws.Strings
namespace Go.Proofs.YtonbgpliomhboaaGreatDoor
open Go.RowKit BigFrame
namespace Rx
open Go Go.Sort

noncomputable def digOf (s : ByteArray) : ByteArray := ba (Lib.trimPrefix s.data.toList [45])
open Classical in
noncomputable def readD (s : ByteArray) : Int × Bool :=
  if 1 ≤ (digOf s).size ∧ (digOf s).size ≤ 18 then (match Lib.parseIntB 64 s.data.toList with | .ok v => if decB v = s then (v, true) else (0, false) | _ => (0, false)) else (0, false)
theorem trim_any (s : ByteArray) (w : World) : Calls Tryz.prog 50 #[.string s, .string ⟨#[45]⟩] w fun e w' => e = .returned (.string (digOf s)) ∧ w' = w :=
  Tryz.strings_TrimPrefix s ⟨#[45]⟩ w
theorem parse_bd {l : List UInt8} {v : Int} (h : Lib.parseIntB 64 l = .ok v) : -9223372036854775808 ≤ v ∧ v ≤ 9223372036854775807 := by
  unfold Lib.parseIntB at h
  split at h
  · cases h
  · simp only at h
    split at h
    · cases h
    · cases h
    · split at h
      · cases h
      · split at h
        · cases h
        · rename_i h1 h2
          have e := Lib.NumEnd.ok.inj h
          split at e <;> simp_all <;> omega
theorem parse_yes {s : ByteArray} (hs : s.size ≤ 281474976710656) {v : Int} (h : Lib.parseIntB 64 s.data.toList = .ok v) (w : World) : Calls Tryz.prog 51 #[.string s, .int .i64 10, .int .i64 64] w fun e w' => e = .returned (.tuple #[.int .i64 v, .nilIface]) ∧ Ext w w' :=
  (Tryz.strconv_ParseInt_10_at64_ok s (by omega) v h w).mono fun e w' ⟨he, hw⟩ => ⟨he, by
    rcases hw with rfl | ⟨t, rfl⟩
    · exact Ext.refl _
    · exact Lib.bytesWorld_below _ _ _⟩
theorem parse_no {s : ByteArray} (hs : s.size ≤ 281474976710656) (h : ∀ v, Lib.parseIntB 64 s.data.toList ≠ .ok v) (w : World) (hL : Laid w) : Calls Tryz.prog 51 #[.string s, .int .i64 10, .int .i64 64] w fun e w' => (∃ m t a, e = .returned (.tuple #[.int .i64 m, .iface t (.pointer (some a))])) ∧ Ext w w' := by
  obtain ⟨_, _, ⟨t1, p1, h2⟩, ⟨t2, p2, h3⟩, _⟩ := hL
  cases hp : Lib.parseIntB 64 s.data.toList with
  | ok v => exact (h v hp).elim
  | range =>
    refine (Tryz.strconv_ParseInt_10_at64_range_var s hs hp t2 p2 w h3).mono ?_
    rintro e w' ⟨N, rfl, _, _, hB⟩
    exact ⟨⟨_, _, _, rfl⟩, hB⟩
  | _ =>
    refine (Tryz.strconv_ParseInt_10_at64_syntax_var s hs hp t1 p1 w h2).mono ?_
    rintro e w' ⟨N, rfl, _, _, hB⟩
    exact ⟨⟨_, _, _, rfl⟩, hB⟩
theorem toList_inj {a b : ByteArray} (h : a.toList = b.toList) : a = b := ba_ext (by rwa [ByteArray.toList_eq, ByteArray.toList_eq] at h)
theorem one_cell {v x : Value} (h : v.oneCell' = true) (e : v.cells.toList = [x]) : v = x := by
  cases v <;> first | (cases h; done) | (simpa [Value.cells] using e) | skip
theorem dec_any {n : Int} (h0 : -9223372036854775808 ≤ n) (h1 : n ≤ 9223372036854775807) (w : World) (hL : Laid w) : Calls Tryz.prog 43 #[.int .i64 n] w fun e w' => e = .returned (.string (decB n)) ∧ Ext w w' := by
  refine (decI_ok.2 w (fun _ => False) [.int .i64 n] n (decB n) hL (fun _ h => h.elim) ⟨_, rfl, rfl⟩ (decI_eq ⟨h0, h1⟩)).mono ?_
  rintro e w' ⟨rs, hs, M', rfl, hE, ⟨v, rfl, hsh, hv, _⟩, _⟩
  exact ⟨congrArg Ending.returned (one_cell hsh hv), hE⟩

theorem read_short (s d : ByteArray) (w : World) (hT : ∀ w, Calls Tryz.prog 50 #[.string s, .string ⟨#[45]⟩] w fun e w' => e = .returned (.string d) ∧ w' = w) (hd : (d.size : Int) < 1 ∨ 18 < (d.size : Int)) :
    Calls Tryz.prog 23 #[.string s] w fun e w' => e = .returned (.tuple #[.int .i64 0, .bool false]) ∧ Ext w w' := by
  go_enter Tryz.func23, Tryz.ntmps23
  go_wp2_with (first | ((first | with_reducible refine wp_region_ext' (by kernel_rfl) (by kernel_rfl) ?_ | with_reducible refine wp_region_ext (by kernel_rfl) (by kernel_rfl) ?_); (repeat (go_big_quiet_step (fail))); refine wpQuiet_nil ?_; intro _ hw'; obtain ⟨xw, hw''⟩ := hw'; subst hw''; have hz := ExtOf.size_le xw; (try simp only [World.size_alloc, World.size_setCell] at hz); (try have hz0 : w.heap.size < xw.w.heap.size := by omega); (try have hz1 : w.heap.size + 1 < xw.w.heap.size := by omega); (try have hz2 : w.heap.size + 1 + 1 < xw.w.heap.size := by omega); (try have hz3 : w.heap.size + 1 + 1 + 1 < xw.w.heap.size := by omega); (try have hz4 : w.heap.size + 1 + 1 + 1 + 1 < xw.w.heap.size := by omega)) | (go_at_call 50; refine (hT _).mono ?_; rintro e w' ⟨rfl, rfl⟩))
  all_goals first
    | (go_returns; exact ⟨rfl, by (repeat' (first | exact Ext.refl _ | assumption | refine Ext.val _ ?_ | refine Ext.alloc ?_ _ | refine Ext.drew ?_ | refine Ext.drewN ?_ _ | refine Ext.setCell ?_ (by first | exact Nat.le_refl _ | omega | (simp; done) | (simp; omega)) _ | refine Ext.trans ?_ (by assumption)))⟩)
    | (exfalso; omega)
theorem read_bad (s d : ByteArray) (w : World) (hL : Laid w) (hT : ∀ w, Calls Tryz.prog 50 #[.string s, .string ⟨#[45]⟩] w fun e w' => e = .returned (.string d) ∧ w' = w) (h1 : 1 ≤ (d.size : Int)) (h2 : (d.size : Int) ≤ 18)
    (hs : s.size ≤ 281474976710656) (hp : ∀ v, Lib.parseIntB 64 s.data.toList ≠ .ok v) :
    Calls Tryz.prog 23 #[.string s] w fun e w' => e = .returned (.tuple #[.int .i64 0, .bool false]) ∧ Ext w w' := by
  go_enter Tryz.func23, Tryz.ntmps23
  go_wp2_with (first | ((first | with_reducible refine wp_region_ext' (by kernel_rfl) (by kernel_rfl) ?_ | with_reducible refine wp_region_ext (by kernel_rfl) (by kernel_rfl) ?_); (repeat (go_big_quiet_step (fail))); refine wpQuiet_nil ?_; intro _ hw'; obtain ⟨xw, hw''⟩ := hw'; subst hw''; have hz := ExtOf.size_le xw; (try simp only [World.size_alloc, World.size_setCell] at hz); (try have hz0 : w.heap.size < xw.w.heap.size := by omega); (try have hz1 : w.heap.size + 1 < xw.w.heap.size := by omega); (try have hz2 : w.heap.size + 1 + 1 < xw.w.heap.size := by omega); (try have hz3 : w.heap.size + 1 + 1 + 1 < xw.w.heap.size := by omega); (try have hz4 : w.heap.size + 1 + 1 + 1 + 1 < xw.w.heap.size := by omega)) | (go_at_call 50; refine (hT _).mono ?_; rintro e w' ⟨rfl, rfl⟩) | (go_at_call 51; refine (parse_no hs hp _ (hL.ext (by (repeat' (first | exact Ext.refl _ | assumption | refine Ext.val _ ?_ | refine Ext.alloc ?_ _ | refine Ext.drew ?_ | refine Ext.drewN ?_ _ | refine Ext.setCell ?_ (by first | exact Nat.le_refl _ | omega | (simp; done) | (simp; omega)) _ | refine Ext.trans ?_ (by assumption)))))).mono ?_; rintro e w' ⟨⟨m, t, a, rfl⟩, hE⟩; (first | (obtain ⟨xw, rfl⟩ := ExtOf.mk' hE) | (obtain ⟨xw, rfl⟩ := ExtOf.mk hE)); clear hE; have hz := ExtOf.size_le xw; (try simp only [World.size_alloc, World.size_setCell] at hz); (try have hz0 : w.heap.size < xw.w.heap.size := by omega); (try have hz1 : w.heap.size + 1 < xw.w.heap.size := by omega); (try have hz2 : w.heap.size + 1 + 1 < xw.w.heap.size := by omega); (try have hz3 : w.heap.size + 1 + 1 + 1 < xw.w.heap.size := by omega); (try have hz4 : w.heap.size + 1 + 1 + 1 + 1 < xw.w.heap.size := by omega)))
  all_goals first
    | (go_returns; exact ⟨rfl, by (repeat' (first | exact Ext.refl _ | assumption | refine Ext.val _ ?_ | refine Ext.alloc ?_ _ | refine Ext.drew ?_ | refine Ext.drewN ?_ _ | refine Ext.setCell ?_ (by first | exact Nat.le_refl _ | omega | (simp; done) | (simp; omega)) _ | refine Ext.trans ?_ (by assumption)))⟩)
    | (exfalso; omega)
    | skip
theorem read_good (s d : ByteArray) (v : Int) (w : World) (hL : Laid w) (hT : ∀ w, Calls Tryz.prog 50 #[.string s, .string ⟨#[45]⟩] w fun e w' => e = .returned (.string d) ∧ w' = w) (h1 : 1 ≤ (d.size : Int)) (h2 : (d.size : Int) ≤ 18)
    (hs : s.size ≤ 281474976710656) (hp : Lib.parseIntB 64 s.data.toList = .ok v) (t : ByteArray) (ht : decB v = t) (r : Int) (b : Bool) (hb : (t.toList == s.toList) = b) (hr : r = if b then v else 0) :
    Calls Tryz.prog 23 #[.string s] w fun e w' => e = .returned (.tuple #[.int .i64 r, .bool b]) ∧ Ext w w' := by
  obtain ⟨v0, v1⟩ := parse_bd hp
  have hD : ∀ (w : World), Laid w → Calls Tryz.prog 43 #[.int .i64 v] w fun e w' => e = .returned (.string t) ∧ Ext w w' := fun w h => ht ▸ dec_any v0 v1 w h
  have hP : ∀ (w : World), Calls Tryz.prog 51 #[.string s, .int .i64 10, .int .i64 64] w fun e w' => e = .returned (.tuple #[.int .i64 v, .nilIface]) ∧ Ext w w' := fun w => parse_yes hs hp w
  clear ht hp
  go_enter Tryz.func23, Tryz.ntmps23
  go_wp2_with (first | ((first | with_reducible refine wp_region_ext' (by kernel_rfl) (by kernel_rfl) ?_ | with_reducible refine wp_region_ext (by kernel_rfl) (by kernel_rfl) ?_); (repeat (go_big_quiet_step ((go_at_call 43; exact Calls.ext_of (hD _ (hL.ext (by (repeat' (first | exact Ext.refl _ | assumption | refine Ext.val _ ?_ | refine Ext.alloc ?_ _ | refine Ext.drew ?_ | refine Ext.drewN ?_ _ | refine Ext.setCell ?_ (by first | exact Nat.le_refl _ | omega | (simp; done) | (simp; omega)) _ | refine Ext.trans ?_ (by assumption)))))))))); refine wpQuiet_nil ?_; intro _ hw'; obtain ⟨xw, hw''⟩ := hw'; subst hw''; have hz := ExtOf.size_le xw; (try simp only [World.size_alloc, World.size_setCell] at hz); (try have hz0 : w.heap.size < xw.w.heap.size := by omega); (try have hz1 : w.heap.size + 1 < xw.w.heap.size := by omega); (try have hz2 : w.heap.size + 1 + 1 < xw.w.heap.size := by omega); (try have hz3 : w.heap.size + 1 + 1 + 1 < xw.w.heap.size := by omega); (try have hz4 : w.heap.size + 1 + 1 + 1 + 1 < xw.w.heap.size := by omega)) | (go_at_call 50; refine (hT _).mono ?_; rintro e w' ⟨rfl, rfl⟩) | (go_at_call 51; refine (hP _).mono ?_; rintro e w' ⟨rfl, hE⟩; (first | (obtain ⟨xw, rfl⟩ := ExtOf.mk' hE) | (obtain ⟨xw, rfl⟩ := ExtOf.mk hE)); clear hE; have hz := ExtOf.size_le xw; (try simp only [World.size_alloc, World.size_setCell] at hz); (try have hz0 : w.heap.size < xw.w.heap.size := by omega); (try have hz1 : w.heap.size + 1 < xw.w.heap.size := by omega); (try have hz2 : w.heap.size + 1 + 1 < xw.w.heap.size := by omega); (try have hz3 : w.heap.size + 1 + 1 + 1 < xw.w.heap.size := by omega); (try have hz4 : w.heap.size + 1 + 1 + 1 + 1 < xw.w.heap.size := by omega)) | (go_at_call 43; refine (hD _ (hL.ext (by (repeat' (first | exact Ext.refl _ | assumption | refine Ext.val _ ?_ | refine Ext.alloc ?_ _ | refine Ext.drew ?_ | refine Ext.drewN ?_ _ | refine Ext.setCell ?_ (by first | exact Nat.le_refl _ | omega | (simp; done) | (simp; omega)) _ | refine Ext.trans ?_ (by assumption)))))).mono ?_; rintro e w' ⟨rfl, hE⟩; (first | (obtain ⟨xw, rfl⟩ := ExtOf.mk' hE) | (obtain ⟨xw, rfl⟩ := ExtOf.mk hE)); clear hE; have hz := ExtOf.size_le xw; (try simp only [World.size_alloc, World.size_setCell] at hz); (try have hz0 : w.heap.size < xw.w.heap.size := by omega); (try have hz1 : w.heap.size + 1 < xw.w.heap.size := by omega); (try have hz2 : w.heap.size + 1 + 1 < xw.w.heap.size := by omega); (try have hz3 : w.heap.size + 1 + 1 + 1 < xw.w.heap.size := by omega); (try have hz4 : w.heap.size + 1 + 1 + 1 + 1 < xw.w.heap.size := by omega)))
  all_goals rename_i hc
  all_goals try rw [hb] at hc
  all_goals cases b <;> first | (cases hc; done) | skip
  all_goals go_returns
  all_goals exact ⟨by subst hr; rfl, by (repeat' (first | exact Ext.refl _ | assumption | refine Ext.val _ ?_ | refine Ext.alloc ?_ _ | refine Ext.drew ?_ | refine Ext.drewN ?_ _ | refine Ext.setCell ?_ (by first | exact Nat.le_refl _ | omega | (simp; done) | (simp; omega)) _ | refine Ext.trans ?_ (by assumption)))⟩
open Classical in
noncomputable def readX : ByteArray → Option (Int × Bool) := fun s => if s.size ≤ 281474976710656 then some (readD s) else none
noncomputable def readX_con : Con := ⟨[.str], [.d i64, .d .bool], readX⟩
theorem read_any (s : ByteArray) (w : World) (hL : Laid w) (hs : s.size ≤ 281474976710656) : Calls Tryz.prog 23 #[.string s] w fun e w' => e = .returned (.tuple #[.int .i64 (readD s).1, .bool (readD s).2]) ∧ Ext w w' := by
  unfold readD
  by_cases h : 1 ≤ (digOf s).size ∧ (digOf s).size ≤ 18
  · rw [if_pos h]
    cases hp : Lib.parseIntB 64 s.data.toList with
    | ok v =>
      by_cases e : decB v = s
      · simp only [if_pos e]
        exact read_good s (digOf s) v w hL (trim_any s) (by omega) (by omega) hs hp s e v true (by simp) rfl
      · simp only [if_neg e]
        exact read_good s (digOf s) v w hL (trim_any s) (by omega) (by omega) hs hp (decB v) rfl 0 false (by
          rw [beq_eq_false_iff_ne]
          intro h'
          exact e (toList_inj h')) rfl
    | range => exact read_bad s (digOf s) w hL (trim_any s) (by omega) (by omega) hs (fun v h => by rw [hp] at h; cases h)
    | _ => exact read_bad s (digOf s) w hL (trim_any s) (by omega) (by omega) hs (fun v h => by rw [hp] at h; cases h)
  · rw [if_neg h]
    exact read_short s (digOf s) w (trim_any s) (by omega)
theorem readX_ok : readX_con.ok Tryz.prog 23 := by
  refine ⟨⟨_, _, Tryz.func23, by kernel_rfl, rfl⟩, fun w M vs s y hld hM hr hF => ?_⟩
  obtain ⟨v, rfl, hv⟩ := hr
  have hv : v = .string s := hv
  subst hv
  change readX s = some y at hF
  unfold readX at hF
  split at hF
  · rename_i hn
    cases hF
    refine (read_any s w hld hn).mono ?_
    rintro e w' ⟨rfl, hE⟩
    exact ⟨[.int .i64 (readD s).1, .bool (readD s).2], [], M, rfl, hE, ⟨_, _, [], [], rfl, rfl, rfl, ⟨rfl, rfl⟩, _, rfl, rfl, rfl, rfl⟩, by simp [gsOf], fun p hp => ⟨.inl hp, Nat.lt_of_lt_of_le (hM p hp) hE.size, by simp [gsOf]⟩⟩
  · cases hF
end Rx
end Go.Proofs.YtonbgpliomhboaaGreatDoor
