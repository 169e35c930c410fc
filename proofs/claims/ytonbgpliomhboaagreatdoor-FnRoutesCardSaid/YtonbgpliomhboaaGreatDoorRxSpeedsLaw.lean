/- Ratios in lowest terms, as rational numbers. No program in sight. No conditions. -/
import Derived.Test.YtonbgpliomhboaaGreatDoorRxOld
import Derived.Test.YtonbgpliomhboaaGreatDoorRxEnv
import Derived.Test.YtonbgpliomhboaaGreatDoorRxDeepWLaw
import Derived.Test.YtonbgpliomhboaaGreatDoorRxMeshLaw
namespace Go.Proofs.YtonbgpliomhboaaGreatDoor
namespace Rx
open Go

/-! ### Ratios in lowest terms -/
theorem mkR_parts {n d : Int} {p : Int × Int} (hd : 0 < d) (h : mkR n d = some p) : ∃ g : Int, 1 ≤ g ∧ n = g * p.1 ∧ d = g * p.2 := by
  have g1 := gcd_pos (n := n) (show d ≠ 0 by omega)
  refine ⟨Int.gcd n d, g1, ?_⟩
  have d1 : (Int.gcd n d : Int) ∣ n := Int.gcd_dvd_left ..
  have d2 : (Int.gcd n d : Int) ∣ d := Int.gcd_dvd_right ..
  unfold mkR at h
  dsimp only at h
  generalize (Int.gcd n d : Int) = g at *
  split at h
  · cases h
  · cases h
    obtain ⟨n', rfl⟩ := d1
    obtain ⟨d', rfl⟩ := d2
    dsimp only
    have e1 : decide (g * d' < 0) = false := decide_eq_false (by omega)
    have e2 : mag (g * d') = g * d' := mag_of_nn (by omega)
    rw [e1, e2, Int.mul_ediv_cancel_left _ (show g ≠ 0 by omega)]
    by_cases hn : g * n' < 0
    · have e3 : mag (g * n') = g * (-n') := by rw [mag_of_neg hn, Int.mul_neg]
      rw [decide_eq_true hn]
      show g * n' = g * (-(mag (g * n') / g)) ∧ _
      rw [e3, Int.mul_ediv_cancel_left _ (show g ≠ 0 by omega), Int.neg_neg]
      exact ⟨rfl, rfl⟩
    · have e3 : mag (g * n') = g * n' := mag_of_nn (by omega)
      rw [decide_eq_false hn]
      show g * n' = g * (mag (g * n') / g) ∧ _
      rw [e3, Int.mul_ediv_cancel_left _ (show g ≠ 0 by omega)]
      exact ⟨rfl, rfl⟩
theorem mkR_cross {n d : Int} {p : Int × Int} (hd : 0 < d) (h : mkR n d = some p) : n * p.2 = p.1 * d := by
  obtain ⟨g, _, h1, h2⟩ := mkR_parts hd h
  generalize p.1 = x at *
  generalize p.2 = y at *
  subst h1; subst h2
  rw [Int.mul_comm g x, Int.mul_assoc]
theorem cop_dvd {p : Int × Int} {x y : Int} (hp : vR p = true) (h : p.1 * x = y * p.2) : p.2.natAbs ∣ x.natAbs := by
  have hg : Nat.gcd p.1.natAbs p.2.natAbs = 1 := vRat_gcd hp
  have h1 : p.2.natAbs ∣ p.1.natAbs * x.natAbs := by
    rw [← Int.natAbs_mul, h, Int.natAbs_mul]
    exact Nat.dvd_mul_left ..
  exact Nat.Coprime.dvd_of_dvd_mul_left (show Nat.Coprime p.2.natAbs p.1.natAbs by rw [Nat.Coprime, Nat.gcd_comm]; exact hg) h1
theorem rat_unique {p q : Int × Int} (hp : vR p = true) (hq : vR q = true) (h : p.1 * q.2 = q.1 * p.2) : p = q := by
  have b1 := vR_bd hp
  have b2 := vR_bd hq
  have e := Nat.dvd_antisymm (cop_dvd hp h) (cop_dvd hq h.symm)
  have e2 : p.2 = q.2 := by omega
  have e1 : p.1 = q.1 := by
    rw [e2] at h
    exact Int.eq_of_mul_eq_mul_right (by omega) h
  exact Prod.ext e1 e2
theorem mkR_some {n d : Int} (hn : -1000000000 ≤ n ∧ n ≤ 1000000000) (hd : 1 ≤ d ∧ d ≤ 1000000000) : ∃ p, mkR n d = some p := by
  have hg := gcd_pos (n := n) (d := d) (by omega)
  have qn := div_bd (x := mag n) (B := 1000000000) hg (mag_nn n) (by unfold mag; omega)
  have qd := div_bd (x := mag d) (B := 1000000000) hg (mag_nn d) (by unfold mag; omega)
  unfold mkR
  dsimp only
  rw [if_neg (by omega)]
  exact ⟨_, rfl⟩
theorem ratF_code (n d : Int) : (ratF n d).2 = 0 ∨ (ratF n d).2 = 2 := by
  unfold ratF
  cases mkR n d with
  | none => exact .inr rfl
  | some p => exact .inl rfl

/-! ### Ratios as numbers -/
noncomputable def val (p : Int × Int) : Rat := (p.1 : Rat) / (p.2 : Rat)
theorem frac_eq {a b c d : Rat} (hb : b ≠ 0) (hd : d ≠ 0) (h : a * d = c * b) : a / b = c / d := by grind
theorem frac_cross {a b c d : Rat} (hb : b ≠ 0) (hd : d ≠ 0) (h : a / b = c / d) : a * d = c * b := by grind
theorem frac_mul {a b c d : Rat} (hb : b ≠ 0) (hd : d ≠ 0) : (a * c) / (b * d) = (a / b) * (c / d) := by grind
theorem cast_ne {a : Int} (h : 0 < a) : (a : Rat) ≠ 0 := by
  intro e
  have : a = 0 := Rat.intCast_inj.1 e
  omega
theorem val_ratF {n d : Int} (hd : 0 < d) (h : (ratF n d).2 = 0) : vR (ratF n d).1 = true ∧ val (ratF n d).1 = (n : Rat) / (d : Rat) := by
  obtain ⟨v, hm⟩ := ratF_valid (by omega) h
  have hc := mkR_cross hd hm
  have hp := vR_bd v
  refine ⟨v, ?_⟩
  generalize (ratF n d).1 = p at hc hp
  have hc : (n : Rat) * (p.2 : Rat) = (p.1 : Rat) * (d : Rat) := by
    rw [← Rat.intCast_mul, ← Rat.intCast_mul, hc]
  exact frac_eq (cast_ne (by omega)) (cast_ne hd) hc.symm
theorem val_inj {p q : Int × Int} (hp : vR p = true) (hq : vR q = true) (h : val p = val q) : p = q := by
  have bp := vR_bd hp
  have bq := vR_bd hq
  have hc := frac_cross (cast_ne (by omega)) (cast_ne (by omega)) h
  rw [← Rat.intCast_mul, ← Rat.intCast_mul] at hc
  exact rat_unique hp hq (Rat.intCast_inj.1 hc)
theorem den_ne {p : Int × Int} (hp : vR p = true) : ((p.2 : Int) : Rat) ≠ 0 := cast_ne (by have := vR_bd hp; omega)
theorem den_pos {p q : Int × Int} (hp : vR p = true) (hq : vR q = true) : 0 < p.2 * q.2 := by
  have := pp1 (vR_bd hp).1 (vR_bd hq).1
  omega
theorem val_mul {a b : Int × Int} (ha : vR a = true) (hb : vR b = true) (h : (ratF (a.1 * b.1) (a.2 * b.2)).2 = 0) : vR (ratF (a.1 * b.1) (a.2 * b.2)).1 = true ∧ val (ratF (a.1 * b.1) (a.2 * b.2)).1 = val a * val b := by
  obtain ⟨v, e⟩ := val_ratF (den_pos ha hb) h
  refine ⟨v, e.trans ?_⟩
  rw [Rat.intCast_mul, Rat.intCast_mul]
  exact frac_mul (den_ne ha) (den_ne hb)
theorem v11 : vR (1, 1) = true := by decide
theorem val11 : val (1, 1) = 1 := by unfold val; simp; grind
end Rx
end Go.Proofs.YtonbgpliomhboaaGreatDoor

namespace Go.Proofs.YtonbgpliomhboaaGreatDoor
namespace Rx
open Go

noncomputable section
def speedFnI : (Int × Int) → Option (Bool) :=
fun x => some (x.2 == (0 : Int))
def meshedI : (Int × Int) × Int × Int → Option ((Int × Int) × Int) :=
fun x =>
  ob (makeRatI (IntKind.i64.wrap ((0 : Int) - x.snd.1), x.snd.2)) fun y =>
    ob (mulRatI ((x.fst.1, x.fst.2), y.fst.1, y.fst.2)) fun y => some ((y.fst.1, y.fst.2), y.2)
def speedsILN_step : (List ((ByteArray × List (Int))) × List ((Int × Int × Int × Int))) × List ((Int × Int)) × Bool × List ((Int × Int × Int × Int)) × Int × Int → Option (LS ((List ((ByteArray × List (Int))) × List ((Int × Int × Int × Int))) × List ((Int × Int)) × Bool × List ((Int × Int × Int × Int)) × Int × Int) (List ((Int × Int)) × Int)) :=
fun x =>
  br (decide (x.snd.snd.snd.snd.2 < x.snd.snd.snd.snd.1))
    (ob (idx x.snd.snd.snd.1 x.snd.snd.snd.snd.2) fun y =>
      ob (pairWI ((x.fst.1, x.fst.2), y.1, y.snd.1, y.snd.snd.1, y.snd.snd.2)) fun y_1 =>
        ob (idx x.snd.1 y.1) fun x_1 =>
          ob (List.get?Internal x.snd.1 (Int.toNat y.1)) fun x_2 =>
            br (x_2.2 == (0 : Int))
              (ob (idx x.snd.1 y.snd.snd.1) fun x_3 =>
                ob (List.get?Internal x.snd.1 (Int.toNat y.snd.snd.1)) fun x_4 =>
                  br (x_4.2 == (0 : Int))
                    (some
                      (LS.next
                        ((x.fst.1, x.fst.2), x.snd.1, x.snd.snd.1, x.snd.snd.snd.1, x.snd.snd.snd.snd.1,
                          IntKind.i64.wrap (x.snd.snd.snd.snd.2 + (1 : Int)))))
                    (ob (idx x.snd.1 y.1) fun x_5 =>
                      ob (List.get?Internal x.snd.1 (Int.toNat y.1)) fun x_6 =>
                        br (x_6.2 != (0 : Int))
                          (some
                            (LS.next
                              ((x.fst.1, x.fst.2), x.snd.1, x.snd.snd.1, x.snd.snd.snd.1, x.snd.snd.snd.snd.1,
                                IntKind.i64.wrap (x.snd.snd.snd.snd.2 + (1 : Int)))))
                          (ob (idx x.snd.1 y.snd.snd.1) fun x_7 =>
                            ob (List.get?Internal x.snd.1 (Int.toNat y.snd.snd.1)) fun x_8 =>
                              ob (meshedI ((x_8.1, x_8.2), y_1.2, y_1.1)) fun y_2 =>
                                br (y_2.2 != (0 : Int)) (some (LS.ret ([], y_2.2)))
                                  (ob (idx x.snd.1 y.1) fun x_9 =>
                                    ob (List.get?Internal x.snd.1 (Int.toNat y.1)) fun x_10 =>
                                      some
                                        (LS.next
                                          ((x.fst.1, x.fst.2), List.set x.snd.1 (Int.toNat y.1) (y_2.fst.1, y_2.fst.2),
                                            true, x.snd.snd.snd.1, x.snd.snd.snd.snd.1,
                                            IntKind.i64.wrap (x.snd.snd.snd.snd.2 + (1 : Int))))))))
              (ob (idx x.snd.1 y.1) fun x_3 =>
                ob (List.get?Internal x.snd.1 (Int.toNat y.1)) fun x_4 =>
                  br (x_4.2 == (0 : Int))
                    (some
                      (LS.next
                        ((x.fst.1, x.fst.2), x.snd.1, x.snd.snd.1, x.snd.snd.snd.1, x.snd.snd.snd.snd.1,
                          IntKind.i64.wrap (x.snd.snd.snd.snd.2 + (1 : Int)))))
                    (ob (idx x.snd.1 y.snd.snd.1) fun x_5 =>
                      ob (List.get?Internal x.snd.1 (Int.toNat y.snd.snd.1)) fun x_6 =>
                        br (x_6.2 != (0 : Int))
                          (some
                            (LS.next
                              ((x.fst.1, x.fst.2), x.snd.1, x.snd.snd.1, x.snd.snd.snd.1, x.snd.snd.snd.snd.1,
                                IntKind.i64.wrap (x.snd.snd.snd.snd.2 + (1 : Int)))))
                          (ob (idx x.snd.1 y.1) fun x_7 =>
                            ob (List.get?Internal x.snd.1 (Int.toNat y.1)) fun x_8 =>
                              ob (meshedI ((x_8.1, x_8.2), y_1.1, y_1.2)) fun y_2 =>
                                br (y_2.2 != (0 : Int)) (some (LS.ret ([], y_2.2)))
                                  (ob (idx x.snd.1 y.snd.snd.1) fun x_9 =>
                                    ob (List.get?Internal x.snd.1 (Int.toNat y.snd.snd.1)) fun x_10 =>
                                      some
                                        (LS.next
                                          ((x.fst.1, x.fst.2),
                                            List.set x.snd.1 (Int.toNat y.snd.snd.1) (y_2.fst.1, y_2.fst.2), true,
                                            x.snd.snd.snd.1, x.snd.snd.snd.snd.1,
                                            IntKind.i64.wrap (x.snd.snd.snd.snd.2 + (1 : Int)))))))))
    (some
      (LS.out ((x.fst.1, x.fst.2), x.snd.1, x.snd.snd.1, x.snd.snd.snd.1, x.snd.snd.snd.snd.1, x.snd.snd.snd.snd.2)))
def speedsILN_fuel : (List ((ByteArray × List (Int))) × List ((Int × Int × Int × Int))) × List ((Int × Int)) × Bool × List ((Int × Int × Int × Int)) × Int × Int → Nat := fun s => (s.2.2.2.2.1 - s.2.2.2.2.2).toNat + 1
def speedsILN : (List ((ByteArray × List (Int))) × List ((Int × Int × Int × Int))) × List ((Int × Int)) × Bool × List ((Int × Int × Int × Int)) × Int × Int → Option (Sum ((List ((ByteArray × List (Int))) × List ((Int × Int × Int × Int))) × List ((Int × Int)) × Bool × List ((Int × Int × Int × Int)) × Int × Int) (List ((Int × Int)) × Int)) := fun s => iterA speedsILN_step (speedsILN_fuel s) s
def speedsIL_step : (List ((ByteArray × List (Int))) × List ((Int × Int × Int × Int))) × List ((Int × Int)) × Bool → Option (LS ((List ((ByteArray × List (Int))) × List ((Int × Int × Int × Int))) × List ((Int × Int)) × Bool) (List ((Int × Int)) × Int)) :=
fun x =>
  br x.snd.2
    (ob (speedsILN ((x.fst.1, x.fst.2), x.snd.1, false, x.fst.2, (↑(List.length x.fst.2) : Int), (0 : Int))) fun r =>
      el r (fun r => some (LS.next ((r.fst.1, r.fst.2), r.snd.1, r.snd.snd.1))) fun r => some (LS.ret (r.1, r.2)))
    (some (LS.out ((x.fst.1, x.fst.2), x.snd.1, x.snd.2)))
def speedsIL_fuel : (List ((ByteArray × List (Int))) × List ((Int × Int × Int × Int))) × List ((Int × Int)) × Bool → Nat := fun s => s.1.1.length + 2
def speedsIL : (List ((ByteArray × List (Int))) × List ((Int × Int × Int × Int))) × List ((Int × Int)) × Bool → Option (Sum ((List ((ByteArray × List (Int))) × List ((Int × Int × Int × Int))) × List ((Int × Int)) × Bool) (List ((Int × Int)) × Int)) := fun s => iterA speedsIL_step (speedsIL_fuel s) s
def speedsFI : (List ((ByteArray × List (Int))) × List ((Int × Int × Int × Int))) × Int → Option (List ((Int × Int)) × Int) :=
fun x =>
  br
    (decide
      ((0 : Int) ≤ (↑(List.length x.fst.1) : Int) ∧
        (↑(List.length x.fst.1) : Int) = (↑(List.length x.fst.1) : Int) ∧
          (↑(List.length x.fst.1) : Int) ≤ (1048576 : Int)))
    (ob (idx (List.replicate (↑(List.length x.fst.1) : Int).toNat ((0 : Int), (0 : Int))) x.2) fun x_1 =>
      ob ((List.replicate (↑(List.length x.fst.1) : Int).toNat ((0 : Int), (0 : Int))).get?Internal x.2.toNat)
        fun x_2 =>
        ob
          (speedsIL
            ((x.fst.1, x.fst.2),
              (List.replicate (↑(List.length x.fst.1) : Int).toNat ((0 : Int), (0 : Int))).set x.2.toNat
                ((1 : Int), (1 : Int)),
              true))
          fun r => el r (fun r => some (r.snd.1, (0 : Int))) fun r => some (r.1, r.2))
    none
def findRatL_step : List ((Int × Int)) × Unit × Int × Int × Int → Option (LRes × (List ((Int × Int)) × Unit × Int × Int × Int)) :=
fun x =>
  br (decide (x.snd.snd.snd.2 < x.snd.snd.snd.1))
    (ob (idx x.1 x.snd.snd.snd.2) fun y =>
      ob (speedFnI (y.1, y.2)) fun y =>
        br y (some (LRes.ret, x.1, x.snd.1, x.snd.snd.snd.2, x.snd.snd.snd.1, x.snd.snd.snd.2))
          (some
            (LRes.next, x.1, x.snd.1, x.snd.snd.1, x.snd.snd.snd.1, IntKind.i64.wrap (x.snd.snd.snd.2 + (1 : Int)))))
    (some (LRes.out, x.1, x.snd.1, x.snd.snd.1, x.snd.snd.snd.1, x.snd.snd.snd.2))
def findRatL_fuel : List ((Int × Int)) × Unit × Int × Int × Int → Nat := fun s => (s.2.2.2.1 - s.2.2.2.2).toNat + 1
def findRatL : List ((Int × Int)) × Unit × Int × Int × Int → Option (Bool × (List ((Int × Int)) × Unit × Int × Int × Int)) := fun s => iter findRatL_step (findRatL_fuel s) s

def findRat : List ((Int × Int)) × Unit → Option (Int) :=
fun x =>
  ob (findRatL (x.1, x.2, (0 : Int), (↑x.1.length : Int), (0 : Int))) fun r =>
    br r.1 (some (-1 : Int)) (some r.snd.snd.snd.1)

def hasRat : List ((Int × Int)) × Unit → Option (Bool) :=
fun x => ob (findRat (x.1, x.2)) fun y => some (decide ((0 : Int) ≤ y))

def speedsOIL_step : (List ((ByteArray × List (Int))) × List ((Int × Int × Int × Int))) × List ((Int × Int)) × List ((Int × Int × Int × Int)) × Int × Int → Option (LS ((List ((ByteArray × List (Int))) × List ((Int × Int × Int × Int))) × List ((Int × Int)) × List ((Int × Int × Int × Int)) × Int × Int) (List ((Int × Int)) × Int)) :=
fun x =>
  br (decide (x.snd.snd.snd.2 < x.snd.snd.snd.1))
    (ob (idx x.snd.snd.1 x.snd.snd.snd.2) fun y =>
      ob (pairWI ((x.fst.1, x.fst.2), y.1, y.snd.1, y.snd.snd.1, y.snd.snd.2)) fun y_1 =>
        ob (idx x.snd.1 y.1) fun x_1 =>
          ob (List.get?Internal x.snd.1 (Int.toNat y.1)) fun x_2 =>
            ob (meshedI ((x_2.1, x_2.2), y_1.1, y_1.2)) fun y_2 =>
              br (y_2.2 != (0 : Int)) (some (LS.ret ([], (10 : Int))))
                (ob (idx x.snd.1 y.snd.snd.1) fun x_3 =>
                  ob (List.get?Internal x.snd.1 (Int.toNat y.snd.snd.1)) fun x_4 =>
                    br (!(y_2.fst.1 == x_4.1 && y_2.fst.2 == x_4.2)) (some (LS.ret ([], (10 : Int))))
                      (some
                        (LS.next
                          ((x.fst.1, x.fst.2), x.snd.1, x.snd.snd.1, x.snd.snd.snd.1,
                            IntKind.i64.wrap (x.snd.snd.snd.2 + (1 : Int)))))))
    (some (LS.out ((x.fst.1, x.fst.2), x.snd.1, x.snd.snd.1, x.snd.snd.snd.1, x.snd.snd.snd.2)))
def speedsOIL_fuel : (List ((ByteArray × List (Int))) × List ((Int × Int × Int × Int))) × List ((Int × Int)) × List ((Int × Int × Int × Int)) × Int × Int → Nat := fun s => (s.2.2.2.1 - s.2.2.2.2).toNat + 1
def speedsOIL : (List ((ByteArray × List (Int))) × List ((Int × Int × Int × Int))) × List ((Int × Int)) × List ((Int × Int × Int × Int)) × Int × Int → Option (Sum ((List ((ByteArray × List (Int))) × List ((Int × Int × Int × Int))) × List ((Int × Int)) × List ((Int × Int × Int × Int)) × Int × Int) (List ((Int × Int)) × Int)) := fun s => iterA speedsOIL_step (speedsOIL_fuel s) s
def speedsOI : (List ((ByteArray × List (Int))) × List ((Int × Int × Int × Int))) × Int → Option (List ((Int × Int)) × Int) :=
fun x =>
  ob (validWI (x.fst.1, x.fst.2)) fun y =>
    br (!y) (some ([], (1 : Int)))
      (ob (withinP (x.2, (0 : Int), IntKind.i64.wrap ((↑(List.length x.fst.1) : Int) - (1 : Int)))) fun y =>
        br (!y) (some ([], (2 : Int)))
          (ob (speedsFI ((x.fst.1, x.fst.2), x.2)) fun y =>
            br (y.2 != (0 : Int)) (some ([], y.2))
              (ob (hasRat (y.1, PUnit.unit)) fun y_1 =>
                br y_1 (some ([], (6 : Int)))
                  (ob (speedsOIL ((x.fst.1, x.fst.2), y.1, x.fst.2, (↑(List.length x.fst.2) : Int), (0 : Int))) fun r =>
                    el r (fun r => some (r.snd.1, (0 : Int))) fun r => some (r.1, r.2)))))
def rootS : (List ((ByteArray × List (Int))) × List ((Int × Int × Int × Int))) × Int → Option (Bool) :=
fun x => ob (inP (x.2, (0 : Int), IntKind.i64.wrap ((↑(List.length x.fst.1) : Int) - (1 : Int)))) fun y => some y
def rootS_con : Con := ⟨[.ref (.pair (.slice (.pair (.str) (.slice (i64)))) (.slice (.pair (i64) (.pair (i64) (.pair (i64) (i64)))))), i64], [.d (.bool)], rootS⟩
theorem rootS_run (x : Dens [.ref (.pair (.slice (.pair (.str) (.slice (i64)))) (.slice (.pair (i64) (.pair (i64) (.pair (i64) (i64)))))), i64]) : runFn (mkEnv [(98, inP_con)] []) Tryz.f72 [.ref (.pair (.slice (.pair (.str) (.slice (i64)))) (.slice (.pair (i64) (.pair (i64) (.pair (i64) (i64)))))), i64] [.d (.bool)] x = rootS x := by kernel_rfl
theorem rootS_ok : rootS_con.ok Tryz.prog 72 := fn_ok (con := rootS_con) (mkEnv_ok (cons := [(98, inP_con)]) ⟨inP_ok, trivial⟩ []) Tryz.func72 rfl (by kernel_rfl) (by exact trivial) (fun x y h => (rootS_run x).trans h)

def roundSL_vars : Vars := [(0, .val (.ref (.pair (.slice (.pair (.str) (.slice (i64)))) (.slice (.pair (i64) (.pair (i64) (.pair (i64) (i64)))))))), (1, .row 2 4 (.bool)), (2, .row 4 45 (.pair (i64) (i64))), (8, .val (.bool)), (9, .val (i64))]
def roundSL_rv : Vars := [(1, .row 2 4 (.bool)), (2, .row 4 45 (.pair (i64) (i64))), (6, .val (.bool)), (7, .val (.bool))]
def roundSL_step : (List ((ByteArray × List (Int))) × List ((Int × Int × Int × Int))) × List (Bool) × List ((Int × Int)) × Bool × Int → Option (LS ((List ((ByteArray × List (Int))) × List ((Int × Int × Int × Int))) × List (Bool) × List ((Int × Int)) × Bool × Int) (List (Bool) × List ((Int × Int)) × Bool × Bool)) :=
fun x =>
  br (decide (x.snd.snd.snd.2 < (↑(List.length x.fst.2) : Int)))
    (ob (idx x.fst.2 x.snd.snd.snd.2) fun y =>
      ob (pairWS (x.1, y.1, y.snd.1, y.snd.snd.1, y.snd.snd.2)) fun y_1 =>
        ob (idx x.snd.1 y.1) fun x_1 =>
          ob (List.get?Internal x.snd.1 (Int.toNat y.1)) fun x_2 =>
            ob (idx x.snd.1 y.snd.snd.1) fun x_3 =>
              ob (List.get?Internal x.snd.1 (Int.toNat y.snd.snd.1)) fun x_4 =>
                br (x_2 == x_4)
                  (some
                    (LS.next
                      (x.1, x.snd.1, x.snd.snd.1, x.snd.snd.snd.1, IntKind.i64.wrap (x.snd.snd.snd.2 + (1 : Int)))))
                  (ob (idx x.snd.1 y.snd.snd.1) fun x_5 =>
                    ob (List.get?Internal x.snd.1 (Int.toNat y.snd.snd.1)) fun x_6 =>
                      br x_6
                        (ob (mkS (IntKind.i64.wrap ((0 : Int) - y_1.2), y_1.1)) fun y_2 =>
                          ob (idx x.snd.snd.1 y.snd.snd.1) fun x_7 =>
                            ob (List.get?Internal x.snd.snd.1 (Int.toNat y.snd.snd.1)) fun x_8 =>
                              ob (mulS ((x_8.1, x_8.2), y_2.fst.1, y_2.fst.2)) fun y_3 =>
                                br (!y_3.2) (some (LS.ret (x.snd.1, x.snd.snd.1, false, false)))
                                  (ob (idx x.snd.snd.1 y.1) fun x_9 =>
                                    ob (List.get?Internal x.snd.snd.1 (Int.toNat y.1)) fun x_10 =>
                                      ob (idx x.snd.1 y.1) fun x_11 =>
                                        ob (List.get?Internal x.snd.1 (Int.toNat y.1)) fun x_12 =>
                                          some
                                            (LS.next
                                              (x.1, List.set x.snd.1 (Int.toNat y.1) true,
                                                List.set x.snd.snd.1 (Int.toNat y.1) (y_3.fst.1, y_3.fst.2), true,
                                                IntKind.i64.wrap (x.snd.snd.snd.2 + (1 : Int))))))
                        (ob (mkS (IntKind.i64.wrap ((0 : Int) - y_1.1), y_1.2)) fun y_2 =>
                          ob (idx x.snd.snd.1 y.1) fun x_7 =>
                            ob (List.get?Internal x.snd.snd.1 (Int.toNat y.1)) fun x_8 =>
                              ob (mulS ((x_8.1, x_8.2), y_2.fst.1, y_2.fst.2)) fun y_3 =>
                                br (!y_3.2) (some (LS.ret (x.snd.1, x.snd.snd.1, false, false)))
                                  (ob (idx x.snd.snd.1 y.snd.snd.1) fun x_9 =>
                                    ob (List.get?Internal x.snd.snd.1 (Int.toNat y.snd.snd.1)) fun x_10 =>
                                      ob (idx x.snd.1 y.snd.snd.1) fun x_11 =>
                                        ob (List.get?Internal x.snd.1 (Int.toNat y.snd.snd.1)) fun x_12 =>
                                          some
                                            (LS.next
                                              (x.1, List.set x.snd.1 (Int.toNat y.snd.snd.1) true,
                                                List.set x.snd.snd.1 (Int.toNat y.snd.snd.1) (y_3.fst.1, y_3.fst.2),
                                                true, IntKind.i64.wrap (x.snd.snd.snd.2 + (1 : Int))))))))
    (some (LS.out (x.1, x.snd.1, x.snd.snd.1, x.snd.snd.snd.1, x.snd.snd.snd.2)))
def roundSL_fuel : (List ((ByteArray × List (Int))) × List ((Int × Int × Int × Int))) × List (Bool) × List ((Int × Int)) × Bool × Int → Nat := fun s => (s.1.2.length - s.2.2.2.2.toNat) + 1
def roundSL : (List ((ByteArray × List (Int))) × List ((Int × Int × Int × Int))) × List (Bool) × List ((Int × Int)) × Bool × Int → Option (Sum ((List ((ByteArray × List (Int))) × List ((Int × Int × Int × Int))) × List (Bool) × List ((Int × Int)) × Bool × Int) (List (Bool) × List ((Int × Int)) × Bool × Bool)) := fun s => iterA roundSL_step (roundSL_fuel s) s
def roundSL_L : LoopC := ⟨roundSL_vars, 0, .alt roundSL_rv roundSL⟩
noncomputable def roundSL_key : Nat := key (loopAt Tryz.f74 0)
theorem roundSL_stepok (x : roundSL_vars.den) : stepOfA (mkEnv [(99, pairWS_con), (77, mkS_con), (78, mulS_con)] []) Tryz.f74.ntmps roundSL_vars roundSL_rv 0 (loopAt Tryz.f74 0) x = roundSL_step x := by kernel_rfl
theorem roundSL_ok : LoopOK Tryz.prog Tryz.f74.ntmps roundSL_L (loopAt Tryz.f74 0)   := iterA_loop (n := Tryz.f74.ntmps) (vs := roundSL_vars) (rv := roundSL_rv) (out := 0) (body := loopAt Tryz.f74 0) (mkEnv_ok (cons := [(99, pairWS_con), (77, mkS_con), (78, mulS_con)]) ⟨pairWS_ok, mkS_ok, mulS_ok, trivial⟩ []) roundSL_step roundSL_fuel (by exact trivial) roundSL_stepok

def roundS : (List ((ByteArray × List (Int))) × List ((Int × Int × Int × Int))) × List (Bool) × List ((Int × Int)) → Option ((Bool × Bool) × ((List ((ByteArray × List (Int))) × List ((Int × Int × Int × Int))) × List (Bool) × List ((Int × Int)))) :=
fun x =>
  ob (roundSL (x.1, x.snd.1, x.snd.2, false, (0 : Int))) fun r =>
    el r (fun r => some ((r.snd.snd.snd.1, true), x.1, r.snd.1, r.snd.snd.1)) fun r =>
      some ((r.snd.snd.1, r.snd.snd.2), x.1, r.1, r.snd.1)
def roundS_con : MCon := ⟨[.v (.d (.ref (.pair (.slice (.pair (.str) (.slice (i64)))) (.slice (.pair (i64) (.pair (i64) (.pair (i64) (i64)))))))), .v (.row 4 (.bool)), .v (.row 45 (.pair (i64) (i64)))], [.d (.bool), .d (.bool)], roundS⟩
theorem roundS_run (x : ADens [.v (.d (.ref (.pair (.slice (.pair (.str) (.slice (i64)))) (.slice (.pair (i64) (.pair (i64) (.pair (i64) (i64)))))))), .v (.row 4 (.bool)), .v (.row 45 (.pair (i64) (i64)))]) : runFnM (mkEnv [(99, pairWS_con), (77, mkS_con), (78, mulS_con)] [(roundSL_key, roundSL_L)]) Tryz.f74 [.v (.d (.ref (.pair (.slice (.pair (.str) (.slice (i64)))) (.slice (.pair (i64) (.pair (i64) (.pair (i64) (i64)))))))), .v (.row 4 (.bool)), .v (.row 45 (.pair (i64) (i64)))] [.d (.bool), .d (.bool)] x = roundS x := by kernel_rfl
theorem roundS_ok : roundS_con.ok Tryz.prog 74 := fnM_ok (con := roundS_con) (mkEnv_ok (cons := [(99, pairWS_con), (77, mkS_con), (78, mulS_con)]) ⟨pairWS_ok, mkS_ok, mulS_ok, trivial⟩ [(roundSL_key, roundSL_L)]) Tryz.func74 rfl (by kernel_rfl) (by exact ⟨roundSL_ok, trivial⟩) (fun x y h => (roundS_run x).trans h)

def fitsS : (List ((ByteArray × List (Int))) × List ((Int × Int × Int × Int))) × (Int × Int × Int × Int) × List ((Int × Int)) → Option (Bool) :=
fun x =>
  ob (pairWS (x.1, x.snd.fst.1, x.snd.fst.snd.1, x.snd.fst.snd.snd.1, x.snd.fst.snd.snd.2)) fun y =>
    ob (mkS (IntKind.i64.wrap ((0 : Int) - y.1), y.2)) fun y =>
      ob (idx x.snd.2 x.snd.fst.1) fun y_1 =>
        ob (mulS ((y_1.1, y_1.2), y.fst.1, y.fst.2)) fun y =>
          br y.2 (ob (idx x.snd.2 x.snd.fst.snd.snd.1) fun y_2 => some (y.fst.1 == y_2.1 && y.fst.2 == y_2.2))
            (some false)
def fitsS_con : Con := ⟨[.ref (.pair (.slice (.pair (.str) (.slice (i64)))) (.slice (.pair (i64) (.pair (i64) (.pair (i64) (i64)))))), .pair (i64) (.pair (i64) (.pair (i64) (i64))), .slice (.pair (i64) (i64))], [.d (.bool)], fitsS⟩
theorem fitsS_run (x : Dens [.ref (.pair (.slice (.pair (.str) (.slice (i64)))) (.slice (.pair (i64) (.pair (i64) (.pair (i64) (i64)))))), .pair (i64) (.pair (i64) (.pair (i64) (i64))), .slice (.pair (i64) (i64))]) : runFn (mkEnv [(99, pairWS_con), (77, mkS_con), (78, mulS_con)] []) Tryz.f75 [.ref (.pair (.slice (.pair (.str) (.slice (i64)))) (.slice (.pair (i64) (.pair (i64) (.pair (i64) (i64)))))), .pair (i64) (.pair (i64) (.pair (i64) (i64))), .slice (.pair (i64) (i64))] [.d (.bool)] x = fitsS x := by kernel_rfl
theorem fitsS_ok : fitsS_con.ok Tryz.prog 75 := fn_ok (con := fitsS_con) (mkEnv_ok (cons := [(99, pairWS_con), (77, mkS_con), (78, mulS_con)]) ⟨pairWS_ok, mkS_ok, mulS_ok, trivial⟩ []) Tryz.func75 rfl (by kernel_rfl) (by exact trivial) (fun x y h => (fitsS_run x).trans h)

def speedsSL_vars : Vars := [(0, .val (.ref (.pair (.slice (.pair (.str) (.slice (i64)))) (.slice (.pair (i64) (.pair (i64) (.pair (i64) (i64)))))))), (6, .row 0 4 (.bool)), (7, .row 0 45 (.pair (i64) (i64))), (8, .val (.bool))]
def speedsSL_rv : Vars := [(4, .row 0 45 (.pair (i64) (i64))), (5, .val (i64))]
def speedsSL_step : (List ((ByteArray × List (Int))) × List ((Int × Int × Int × Int))) × List (Bool) × List ((Int × Int)) × Bool → Option (LS ((List ((ByteArray × List (Int))) × List ((Int × Int × Int × Int))) × List (Bool) × List ((Int × Int)) × Bool) (List ((Int × Int)) × Int)) :=
fun x =>
  br x.snd.snd.2
    (ob (roundS (x.1, x.snd.1, x.snd.snd.1)) fun y =>
      br (!y.fst.2) (some (LS.ret ([], (2 : Int)))) (some (LS.next (x.1, y.snd.snd.1, y.snd.snd.2, y.fst.1))))
    (some (LS.out (x.1, x.snd.1, x.snd.snd.1, x.snd.snd.2)))
def speedsSL_fuel : (List ((ByteArray × List (Int))) × List ((Int × Int × Int × Int))) × List (Bool) × List ((Int × Int)) × Bool → Nat := fun s => s.1.1.length + 2
def speedsSL : (List ((ByteArray × List (Int))) × List ((Int × Int × Int × Int))) × List (Bool) × List ((Int × Int)) × Bool → Option (Sum ((List ((ByteArray × List (Int))) × List ((Int × Int × Int × Int))) × List (Bool) × List ((Int × Int)) × Bool) (List ((Int × Int)) × Int)) := fun s => iterA speedsSL_step (speedsSL_fuel s) s
def speedsSL_L : LoopC := ⟨speedsSL_vars, 0, .alt speedsSL_rv speedsSL⟩
noncomputable def speedsSL_key : Nat := key (loopAt Tryz.f38 0)
theorem speedsSL_stepok (x : speedsSL_vars.den) : stepOfA (mkEnvM [] [(74, roundS_con)] []) Tryz.f38.ntmps speedsSL_vars speedsSL_rv 0 (loopAt Tryz.f38 0) x = speedsSL_step x := by kernel_rfl
theorem speedsSL_ok : LoopOK Tryz.prog Tryz.f38.ntmps speedsSL_L (loopAt Tryz.f38 0)   := iterA_loop (n := Tryz.f38.ntmps) (vs := speedsSL_vars) (rv := speedsSL_rv) (out := 0) (body := loopAt Tryz.f38 0) (mkEnvM_ok (cons := []) (mcons := [(74, roundS_con)]) trivial ⟨roundS_ok, trivial⟩ []) speedsSL_step speedsSL_fuel (by exact trivial) speedsSL_stepok

def speedsSK_vars : Vars := [(0, .val (.ref (.pair (.slice (.pair (.str) (.slice (i64)))) (.slice (.pair (i64) (.pair (i64) (.pair (i64) (i64)))))))), (6, .row 0 4 (.bool)), (7, .row 0 45 (.pair (i64) (i64))), (11, .val (i64))]
def speedsSK_rv : Vars := [(4, .row 0 45 (.pair (i64) (i64))), (5, .val (i64))]
def speedsSK_step : (List ((ByteArray × List (Int))) × List ((Int × Int × Int × Int))) × List (Bool) × List ((Int × Int)) × Int → Option (LS ((List ((ByteArray × List (Int))) × List ((Int × Int × Int × Int))) × List (Bool) × List ((Int × Int)) × Int) (List ((Int × Int)) × Int)) :=
fun x =>
  br (decide (x.snd.snd.2 < (↑(List.length x.snd.1) : Int)))
    (ob (idx x.snd.1 x.snd.snd.2) fun x_1 =>
      ob (List.get?Internal x.snd.1 (Int.toNat x.snd.snd.2)) fun x_2 =>
        br (!x_2) (some (LS.ret ([], (6 : Int))))
          (some (LS.next (x.1, x.snd.1, x.snd.snd.1, IntKind.i64.wrap (x.snd.snd.2 + (1 : Int))))))
    (some (LS.out (x.1, x.snd.1, x.snd.snd.1, x.snd.snd.2)))
def speedsSK_fuel : (List ((ByteArray × List (Int))) × List ((Int × Int × Int × Int))) × List (Bool) × List ((Int × Int)) × Int → Nat := fun s => (s.2.1.length - s.2.2.2.toNat) + 1
def speedsSK : (List ((ByteArray × List (Int))) × List ((Int × Int × Int × Int))) × List (Bool) × List ((Int × Int)) × Int → Option (Sum ((List ((ByteArray × List (Int))) × List ((Int × Int × Int × Int))) × List (Bool) × List ((Int × Int)) × Int) (List ((Int × Int)) × Int)) := fun s => iterA speedsSK_step (speedsSK_fuel s) s
def speedsSK_L : LoopC := ⟨speedsSK_vars, 2, .alt speedsSK_rv speedsSK⟩
noncomputable def speedsSK_key : Nat := key (loopAt Tryz.f38 1)
theorem speedsSK_stepok (x : speedsSK_vars.den) : stepOfA (mkEnv [] []) Tryz.f38.ntmps speedsSK_vars speedsSK_rv 2 (loopAt Tryz.f38 1) x = speedsSK_step x := by kernel_rfl
theorem speedsSK_ok : LoopOK Tryz.prog Tryz.f38.ntmps speedsSK_L (loopAt Tryz.f38 1)   := iterA_loop (n := Tryz.f38.ntmps) (vs := speedsSK_vars) (rv := speedsSK_rv) (out := 2) (body := loopAt Tryz.f38 1) (mkEnv_ok (cons := []) trivial []) speedsSK_step speedsSK_fuel (by exact trivial) speedsSK_stepok

def speedsSF_vars : Vars := [(0, .val (.ref (.pair (.slice (.pair (.str) (.slice (i64)))) (.slice (.pair (i64) (.pair (i64) (.pair (i64) (i64)))))))), (7, .row 0 45 (.pair (i64) (i64))), (12, .val (i64))]
def speedsSF_rv : Vars := [(4, .row 0 45 (.pair (i64) (i64))), (5, .val (i64))]
def speedsSF_step : (List ((ByteArray × List (Int))) × List ((Int × Int × Int × Int))) × List ((Int × Int)) × Int → Option (LS ((List ((ByteArray × List (Int))) × List ((Int × Int × Int × Int))) × List ((Int × Int)) × Int) (List ((Int × Int)) × Int)) :=
fun x =>
  br (decide (x.snd.2 < (↑(List.length x.fst.2) : Int)))
    (ob (idx x.fst.2 x.snd.2) fun y =>
      ob (fitsS (x.1, (y.1, y.snd.1, y.snd.snd.1, y.snd.snd.2), x.snd.1)) fun y =>
        br (!y) (some (LS.ret ([], (10 : Int))))
          (some (LS.next (x.1, x.snd.1, IntKind.i64.wrap (x.snd.2 + (1 : Int))))))
    (some (LS.out (x.1, x.snd.1, x.snd.2)))
def speedsSF_fuel : (List ((ByteArray × List (Int))) × List ((Int × Int × Int × Int))) × List ((Int × Int)) × Int → Nat := fun s => (s.1.2.length - s.2.2.toNat) + 1
def speedsSF : (List ((ByteArray × List (Int))) × List ((Int × Int × Int × Int))) × List ((Int × Int)) × Int → Option (Sum ((List ((ByteArray × List (Int))) × List ((Int × Int × Int × Int))) × List ((Int × Int)) × Int) (List ((Int × Int)) × Int)) := fun s => iterA speedsSF_step (speedsSF_fuel s) s
def speedsSF_L : LoopC := ⟨speedsSF_vars, 4, .alt speedsSF_rv speedsSF⟩
noncomputable def speedsSF_key : Nat := key (loopAt Tryz.f38 2)
theorem speedsSF_stepok (x : speedsSF_vars.den) : stepOfA (mkEnv [(75, fitsS_con)] []) Tryz.f38.ntmps speedsSF_vars speedsSF_rv 4 (loopAt Tryz.f38 2) x = speedsSF_step x := by kernel_rfl
theorem speedsSF_ok : LoopOK Tryz.prog Tryz.f38.ntmps speedsSF_L (loopAt Tryz.f38 2)   := iterA_loop (n := Tryz.f38.ntmps) (vs := speedsSF_vars) (rv := speedsSF_rv) (out := 4) (body := loopAt Tryz.f38 2) (mkEnv_ok (cons := [(75, fitsS_con)]) ⟨fitsS_ok, trivial⟩ []) speedsSF_step speedsSF_fuel (by exact trivial) speedsSF_stepok

def speedsS : (List ((ByteArray × List (Int))) × List ((Int × Int × Int × Int))) × Int → Option (List ((Int × Int)) × Int) :=
fun x =>
  ob (rootS (x.1, x.2)) fun y =>
    br (!y) (some ([], (2 : Int)))
      (br
        (decide
          ((0 : Int) ≤ (↑(List.length x.fst.1) : Int) ∧
            (↑(List.length x.fst.1) : Int) = (↑(List.length x.fst.1) : Int) ∧
              (↑(List.length x.fst.1) : Int) ≤ (1048576 : Int)))
        (br
          (decide
            ((0 : Int) ≤ (↑(List.length x.fst.1) : Int) ∧
              (↑(List.length x.fst.1) : Int) = (↑(List.length x.fst.1) : Int) ∧
                (↑(List.length x.fst.1) : Int) ≤ (1048576 : Int)))
          (ob (idx (List.replicate (↑(List.length x.fst.1) : Int).toNat false) x.2) fun x_1 =>
            ob ((List.replicate (↑(List.length x.fst.1) : Int).toNat false).get?Internal x.2.toNat) fun x_2 =>
              ob (wholeS (1 : Int)) fun y =>
                ob (idx (List.replicate (↑(List.length x.fst.1) : Int).toNat ((0 : Int), (0 : Int))) x.2) fun x_3 =>
                  ob
                    ((List.replicate (↑(List.length x.fst.1) : Int).toNat ((0 : Int), (0 : Int))).get?Internal
                      x.2.toNat)
                    fun x_4 =>
                    ob
                      (speedsSL
                        (x.1, (List.replicate (↑(List.length x.fst.1) : Int).toNat false).set x.2.toNat true,
                          (List.replicate (↑(List.length x.fst.1) : Int).toNat ((0 : Int), (0 : Int))).set x.2.toNat
                            (y.1, y.2),
                          true))
                      fun r =>
                      el r
                        (fun r =>
                          ob (speedsSK (r.1, r.snd.1, r.snd.snd.1, (0 : Int))) fun r =>
                            el r
                              (fun r =>
                                ob (speedsSF (r.1, r.snd.snd.1, (0 : Int))) fun r =>
                                  el r (fun r => some (r.snd.1, (0 : Int))) fun r => some (r.1, r.2))
                              fun r => some (r.1, r.2))
                        fun r => some (r.1, r.2))
          none)
        none)
def speedsS_con : Con := ⟨[.ref (.pair (.slice (.pair (.str) (.slice (i64)))) (.slice (.pair (i64) (.pair (i64) (.pair (i64) (i64)))))), i64], [.row 45 (.pair (i64) (i64)), .d (i64)], speedsS⟩
theorem speedsS_run (x : Dens [.ref (.pair (.slice (.pair (.str) (.slice (i64)))) (.slice (.pair (i64) (.pair (i64) (.pair (i64) (i64)))))), i64]) : runFn (mkEnvM [(72, rootS_con), (73, wholeS_con), (75, fitsS_con)] [(74, roundS_con)] [(speedsSL_key, speedsSL_L), (speedsSK_key, speedsSK_L), (speedsSF_key, speedsSF_L)]) Tryz.f38 [.ref (.pair (.slice (.pair (.str) (.slice (i64)))) (.slice (.pair (i64) (.pair (i64) (.pair (i64) (i64)))))), i64] [.row 45 (.pair (i64) (i64)), .d (i64)] x = speedsS x := by kernel_rfl
theorem speedsS_ok : speedsS_con.ok Tryz.prog 38 := fn_ok (con := speedsS_con) (mkEnvM_ok (cons := [(72, rootS_con), (73, wholeS_con), (75, fitsS_con)]) (mcons := [(74, roundS_con)]) ⟨rootS_ok, wholeS_ok, fitsS_ok, trivial⟩ ⟨roundS_ok, trivial⟩ [(speedsSL_key, speedsSL_L), (speedsSK_key, speedsSK_L), (speedsSF_key, speedsSF_L)]) Tryz.func38 rfl (by kernel_rfl) (by exact ⟨speedsSL_ok, speedsSK_ok, speedsSF_ok, trivial⟩) (fun x y h => (speedsS_run x).trans h)

def speedsOS : (List ((ByteArray × List (Int))) × List ((Int × Int × Int × Int))) × Int → Option (List ((Int × Int)) × Int) :=
fun x =>
  ob (okWS (x.fst.1, x.fst.2)) fun y =>
    br (!y) (some ([], (1 : Int))) (ob (speedsS ((x.fst.1, x.fst.2), x.2)) fun y => some (y.1, y.2))
def speedsOS_con : Con := ⟨[.pair (.slice (.pair (.str) (.slice (i64)))) (.slice (.pair (i64) (.pair (i64) (.pair (i64) (i64))))), i64], [.row 45 (.pair (i64) (i64)), .d (i64)], speedsOS⟩
theorem speedsOS_run (x : Dens [.pair (.slice (.pair (.str) (.slice (i64)))) (.slice (.pair (i64) (.pair (i64) (.pair (i64) (i64))))), i64]) : runFn (mkEnv [(37, okWS_con), (38, speedsS_con)] []) Tryz.f15 [.pair (.slice (.pair (.str) (.slice (i64)))) (.slice (.pair (i64) (.pair (i64) (.pair (i64) (i64))))), i64] [.row 45 (.pair (i64) (i64)), .d (i64)] x = speedsOS x := by kernel_rfl
theorem speedsOS_ok : speedsOS_con.ok Tryz.prog 15 := fn_ok (con := speedsOS_con) (mkEnv_ok (cons := [(37, okWS_con), (38, speedsS_con)]) ⟨okWS_ok, speedsS_ok, trivial⟩ []) Tryz.func15 rfl (by kernel_rfl) (by exact trivial) (fun x y h => (speedsOS_run x).trans h)









end
end Rx
end Go.Proofs.YtonbgpliomhboaaGreatDoor

namespace Go.Proofs.YtonbgpliomhboaaGreatDoor
namespace Rx
open Go

/-! ### A wheel that engages -/
def meshF (v : RatD) (t u : Int) : RatD × Int := ratF (v.1 * (ratF (-t) u).1.1) (v.2 * (ratF (-t) u).1.2)
theorem redF_ratF (n d : Int) : redF n d = ((ratF n d).1, (ratF n d).2 == 0) := by
  unfold redF ratF
  cases mkR n d <;> rfl
theorem step_ok {t u : Int} (ht : teeth t) (hu : teeth u) : (ratF (-t) u).2 = 0 ∧ vR (ratF (-t) u).1 = true := by
  obtain ⟨t1, t2⟩ := ht
  obtain ⟨u1, u2⟩ := hu
  obtain ⟨p, hp⟩ := mkR_some (n := -t) (d := u) (by omega) (by omega)
  have e : ratF (-t) u = (p, 0) := by unfold ratF; rw [hp]
  have := (ratF_valid (n := -t) (d := u) (by omega) (by rw [e])).1
  rw [e] at this ⊢
  exact ⟨rfl, this⟩
theorem neg64 {t : Int} (ht : teeth t) : IntKind.i64.wrap ((0 : Int) - t) = -t := by
  obtain ⟨t1, t2⟩ := ht
  rw [w64 (by omega) (by omega)]; omega
theorem meshF_valid {v : RatD} {t u : Int} (hv : vR v = true) (ht : teeth t) (hu : teeth u) (h : (meshF v t u).2 = 0) : vR (meshF v t u).1 = true := by
  have h1 := (vR_bd hv).1
  have h2 := (vR_bd (step_ok ht hu).2).1
  exact (ratF_valid (by have := pp1 h1 h2; omega) h).1
theorem meshF_code (v : RatD) (t u : Int) : (meshF v t u).2 = 0 ∨ (meshF v t u).2 = 2 := ratF_code _ _
theorem meshedI_eq {v : RatD} {t u : Int} (hv : vR v = true) (ht : teeth t) (hu : teeth u) : meshedI ((v.1, v.2), t, u) = some (meshF v t u) := by
  have hs := step_ok ht hu
  have e1 : makeRatI (-t, u) = some (ratF (-t) u) := by
    obtain ⟨t1, t2⟩ := ht
    obtain ⟨u1, u2⟩ := hu
    exact makeRatI_eq ⟨by omega, by omega⟩ ⟨by omega, by omega⟩ (by omega)
  show ob (makeRatI (IntKind.i64.wrap ((0 : Int) - t), u)) (fun y => ob (mulRatI ((v.1, v.2), y.fst.1, y.fst.2)) fun y => some ((y.fst.1, y.fst.2), y.2)) = _
  rw [neg64 ht, e1, ob_s]
  have e2 : mulRatI ((v.1, v.2), (ratF (-t) u).1.1, (ratF (-t) u).1.2) = some (meshF v t u) := by
    have := mulRatI_eq v (ratF (-t) u).1
    rw [if_pos ⟨hv, hs.2⟩] at this
    exact this
  rw [e2]; rfl
/-- What the reference makes of it. -/
theorem meshS_step {v : RatD} {t u : Int} (hv : vR v = true) (ht : teeth t) (hu : teeth u) {β : Type} (k : RatD × Bool → Option β) :
    ob (mkS (IntKind.i64.wrap ((0 : Int) - t), u)) (fun y => ob (mulS ((v.1, v.2), y.fst.1, y.fst.2)) k) = k ((meshF v t u).1, (meshF v t u).2 == 0) := by
  have hs := step_ok ht hu
  have e1 : mkS (-t, u) = some (redF (-t) u) := by
    obtain ⟨t1, t2⟩ := ht
    obtain ⟨u1, u2⟩ := hu
    exact mkS_eq ⟨by omega, by omega⟩ ⟨by omega, by omega⟩ (by omega)
  rw [neg64 ht, e1, ob_s, redF_ratF]
  have e2 : mulS ((v.1, v.2), (ratF (-t) u).1.1, (ratF (-t) u).1.2) = some ((meshF v t u).1, (meshF v t u).2 == 0) := by
    have := mulS_eq hv hs.2
    rw [redF_ratF] at this
    exact this
  show ob (mulS ((v.1, v.2), (ratF (-t) u).1.1, (ratF (-t) u).1.2)) k = _
  rw [e2]; rfl

/-! ### Speeds that are known and others -/
def okSp (v : RatD) : Prop := v = (0, 0) ∨ vR v = true
theorem okSp_den {v : RatD} (h : okSp v) (h0 : v.2 ≠ 0) : vR v = true := by
  rcases h with rfl | h
  · exact (h0 rfl).elim
  · exact h
theorem vR_den {v : RatD} (h : vR v = true) : (v.2 == (0 : Int)) = false := by
  have := vR_bd h
  simp; omega
def knownB (sp : List RatD) : List Bool := sp.map fun v => v.2 != 0
/-- How many are not known. -/
def unk (sp : List RatD) : Nat := sp.countP fun v => v.2 == 0
theorem unk_set : ∀ {sp : List RatD} {i : Nat} {v y : RatD}, sp[i]? = some y → y.2 = 0 → v.2 ≠ 0 → unk (sp.set i v) < unk sp
  | [], _, _, _, h, _, _ => by simp at h
  | z :: sp, 0, v, y, h, h1, h2 => by
    simp at h; subst h
    unfold unk
    rw [List.set_cons_zero, List.countP_cons, List.countP_cons, if_neg (by simpa using h2), if_pos (by simpa using h1)]
    omega
  | z :: sp, i + 1, v, y, h, h1, h2 => by
    have := unk_set (sp := sp) (i := i) (v := v) (by simpa using h) h1 h2
    unfold unk at this ⊢
    rw [List.set_cons_succ, List.countP_cons, List.countP_cons]
    omega
theorem unk_le (sp : List RatD) : unk sp ≤ sp.length := List.countP_le_length
theorem knownB_set {sp : List RatD} {i : Nat} {v : RatD} (h : vR v = true) : knownB (sp.set i v) = (knownB sp).set i true := by
  unfold knownB
  rw [List.map_set]
  have : (v.2 != 0) = true := by rw [bne, vR_den h]; rfl
  rw [this]
theorem knownB_get {sp : List RatD} {i : Nat} {v : RatD} (h : sp[i]? = some v) : (knownB sp)[i]? = some (v.2 != 0) := by
  unfold knownB
  rw [List.getElem?_map, h]; rfl
/-- What the spreading keeps: each known speed has a property that goes on along the meshes. -/
def closed (w : WorksD) (P : Int → RatD → Prop) : Prop := ∀ m ∈ w.2, ∀ p, meshOk w m p → (∀ v, P m.1 v → vR v = true → (meshF v p.1 p.2).2 = 0 → P m.2.2.1 (meshF v p.1 p.2).1) ∧ (∀ v, P m.2.2.1 v → vR v = true → (meshF v p.2 p.1).2 = 0 → P m.1 (meshF v p.2 p.1).1)
structure SpOk (w : WorksD) (r0 : Nat) (P : Int → RatD → Prop) (sp : List RatD) : Prop where
  keep : sp[r0]? = some (1, 1)
  len : sp.length = w.1.length
  ok : ∀ v ∈ sp, okSp v
  prop : ∀ (i : Int) v, 0 ≤ i → sp[i.toNat]? = some v → v.2 ≠ 0 → P i v
theorem SpOk.set {w : WorksD} {r0 : Nat} {P : Int → RatD → Prop} {sp : List RatD} (h : SpOk w r0 P sp) {i : Int} (h0 : 0 ≤ i) {v x : RatD} (hx : sp[i.toNat]? = some x) (hx0 : x.2 = 0) (hv : vR v = true) (hP : P i v) : SpOk w r0 P (sp.set i.toNat v) where
  keep := by
    have : i.toNat ≠ r0 := fun e => by
      rw [e, h.keep] at hx
      cases hx
      cases hx0
    rw [List.getElem?_set_ne this]
    exact h.keep
  len := by rw [List.length_set]; exact h.len
  ok := fun z hz => by
    rcases List.mem_or_eq_of_mem_set hz with h1 | rfl
    · exact h.ok z h1
    · exact .inr hv
  prop := fun j z hj hz hz0 => by
    by_cases hij : j = i
    · subst hij
      by_cases hl : j.toNat < sp.length
      · rw [List.getElem?_set_self hl] at hz
        cases hz; exact hP
      · rw [List.getElem?_eq_none (by rw [List.length_set]; omega)] at hz
        cases hz
    · rw [List.getElem?_set_ne (by omega)] at hz
      exact h.prop j z hj hz hz0

/-! ### One round over the meshes -/
section
variable {w : WorksD} {r0 : Nat} {P : Int → RatD → Prop}
/-- Both ends of a mesh are known, or none. -/
def sameK (sp : List RatD) (m : MeshD) : Prop := ∀ x y, sp[m.1.toNat]? = some x → sp[m.2.2.1.toNat]? = some y → (x.2 = 0 ↔ y.2 = 0)
def InI (w : WorksD) (r0 : Nat) (P : Int → RatD → Prop) (U : Nat) (a : WorksD × List RatD × Bool × List MeshD × Int × Int) (b : WorksD × List Bool × List RatD × Bool × Int) : Prop :=
  a.1 = w ∧ b.1 = w ∧ a.2.2.2.1 = w.2 ∧ a.2.2.2.2.1 = (w.2.length : Int) ∧ (0 ≤ a.2.2.2.2.2 ∧ a.2.2.2.2.2 ≤ w.2.length) ∧ b.2.2.2.2 = a.2.2.2.2.2 ∧ b.2.2.1 = a.2.1 ∧ b.2.1 = knownB a.2.1 ∧ b.2.2.2.1 = a.2.2.1 ∧ SpOk w r0 P a.2.1 ∧ unk a.2.1 ≤ U ∧ (a.2.2.1 = true → unk a.2.1 < U) ∧ (a.2.2.1 = false → ∀ (j : Nat) m, (j : Int) < a.2.2.2.2.2 → w.2[j]? = some m → sameK a.2.1 m)
theorem round_sim (hk : worksOk w = true) (hw : smallW w) (hP : closed w P) (U : Nat) (sp : List RatD) (hsp : SpOk w r0 P sp) (hU : unk sp ≤ U) :
    (∃ sp' b, speedsILN (w, sp, false, w.2, (w.2.length : Int), 0) = some (.inl (w, sp', b, w.2, (w.2.length : Int), (w.2.length : Int))) ∧ roundSL (w, knownB sp, sp, false, 0) = some (.inl (w, knownB sp', sp', b, (w.2.length : Int))) ∧ SpOk w r0 P sp' ∧ unk sp' ≤ U ∧ (b = true → unk sp' < U) ∧ (b = false → ∀ m ∈ w.2, sameK sp' m)) ∨
    ∃ r r', speedsILN (w, sp, false, w.2, (w.2.length : Int), 0) = some (.inr r) ∧ roundSL (w, knownB sp, sp, false, 0) = some (.inr r') ∧ r = ([], 2) ∧ r'.2.2 = (false, false) := by
  have hl := hw.2.2
  have main := iterA_sim (stepA := speedsILN_step) (stepB := roundSL_step) (InI w r0 P U) (fun a b => InI w r0 P U a b ∧ a.2.2.2.2.2 = w.2.length) (fun r r' => r = ([], 2) ∧ r'.2.2 = (false, false)) (fun a => w.2.length - a.2.2.2.2.2.toNat) (by
    rintro ⟨w', sp1, ag1, ms, len, i1⟩ ⟨w'', kn, sp, ag, i⟩ ⟨h1, h2, h3, h4, h5, h6, h7, h8, h9, h10, h11, h12, h13⟩
    dsimp only at h1 h2 h3 h4 h5 h6 h7 h8 h9 h10 h11 h12 h13
    subst h1; subst h2; subst h3; subst h4; subst h6; subst h7; subst h8; subst h9
    by_cases hi : i < w''.2.length
    · obtain ⟨m, hm, hm2⟩ := idx_get (l := w''.2) h5.1 hi
      obtain ⟨p, hp⟩ := meshes_ok hk (List.mem_of_getElem? hm2)
      have hcl := hP m (List.mem_of_getElem? hm2) p hp
      obtain ⟨a1, a2, a3, t1, t2, ep⟩ := hp
      have eps : pairWS (w'', m.1, m.2.1, m.2.2.1, m.2.2.2) = some p := ep
      have hlen := h10.len
      obtain ⟨x, hx, hx2⟩ := idx_get (α := RatD) (l := sp) a1.1 (by omega)
      obtain ⟨y, hy, hy2⟩ := idx_get (l := sp) a2.1 (by omega)
      have hxk := knownB_get hx2
      have hyk := knownB_get hy2
      have hxi := idx_nat a1.1 hxk
      have hyi := idx_nat a2.1 hyk
      have ox := h10.ok x (List.mem_of_getElem? hx2)
      have oy := h10.ok y (List.mem_of_getElem? hy2)
      have ew : IntKind.i64.wrap (i + 1) = i + 1 := w64 (by omega) (by omega)
      have hmu : w''.2.length - (i + 1).toNat < w''.2.length - i.toNat := by omega
      have stay (hs : x.2 = 0 ↔ y.2 = 0) : InI w'' r0 P U (w'', sp, ag, w''.2, (w''.2.length : Int), i + 1) (w'', knownB sp, sp, ag, i + 1) := ⟨rfl, rfl, rfl, rfl, ⟨by dsimp only; omega, by dsimp only; omega⟩, rfl, rfl, rfl, rfl, h10, h11, h12, fun hag j m' hj hm' => by
        dsimp only at hj ⊢
        by_cases hji : (j : Int) < i
        · exact h13 hag j m' hji hm'
        · have : j = i.toNat := by omega
          subst this
          rw [hm2] at hm'
          cases hm'
          intro x' y' hx' hy'
          rw [hx2] at hx'; rw [hy2] at hy'
          cases hx'; cases hy'
          exact hs⟩
      have eI : speedsILN_step (w'', sp, ag, w''.2, (w''.2.length : Int), i) = br (x.2 == 0) (br (y.2 == 0) (some (LS.next (w'', sp, ag, w''.2, (w''.2.length : Int), i + 1))) (br (x.2 != 0) (some (LS.next (w'', sp, ag, w''.2, (w''.2.length : Int), i + 1))) (ob (meshedI ((y.1, y.2), p.2, p.1)) fun r => br (r.2 != 0) (some (LS.ret ([], r.2))) (some (LS.next (w'', sp.set m.1.toNat r.1, true, w''.2, (w''.2.length : Int), i + 1)))))) (br (x.2 == 0) (some (LS.next (w'', sp, ag, w''.2, (w''.2.length : Int), i + 1))) (br (y.2 != 0) (some (LS.next (w'', sp, ag, w''.2, (w''.2.length : Int), i + 1))) (ob (meshedI ((x.1, x.2), p.1, p.2)) fun r => br (r.2 != 0) (some (LS.ret ([], r.2))) (some (LS.next (w'', sp.set m.2.2.1.toNat r.1, true, w''.2, (w''.2.length : Int), i + 1)))))) := by
        unfold speedsILN_step
        dsimp only
        rw [br_t (by simpa using hi)]
        simp only [hm, ep, gi, hx, hx2, hy, hy2, ob_s, ew]
      have eS : roundSL_step (w'', knownB sp, sp, ag, i) = br ((x.2 != 0) == (y.2 != 0)) (some (LS.next (w'', knownB sp, sp, ag, i + 1))) (br (y.2 != 0)
          (ob (mkS (IntKind.i64.wrap ((0 : Int) - p.2), p.1)) fun z => ob (mulS ((y.1, y.2), z.fst.1, z.fst.2)) fun r => br (!r.2) (some (LS.ret (knownB sp, sp, false, false))) (some (LS.next (w'', (knownB sp).set m.1.toNat true, sp.set m.1.toNat r.1, true, i + 1))))
          (ob (mkS (IntKind.i64.wrap ((0 : Int) - p.1), p.2)) fun z => ob (mulS ((x.1, x.2), z.fst.1, z.fst.2)) fun r => br (!r.2) (some (LS.ret (knownB sp, sp, false, false))) (some (LS.next (w'', (knownB sp).set m.2.2.1.toNat true, sp.set m.2.2.1.toNat r.1, true, i + 1))))) := by
        unfold roundSL_step
        dsimp only
        rw [br_t (by simpa using hi)]
        simp only [hm, eps, gi, hx, hx2, hy, hy2, hxi, hxk, hyi, hyk, ob_s, ew]
      rw [eI, eS]
      by_cases x0 : x.2 = 0
      · by_cases y0 : y.2 = 0
        · rw [br_t (by simpa using x0), br_t (by simpa using y0), br_t (by simp [x0, y0])]
          exact .inl ⟨_, _, rfl, rfl, stay ⟨fun _ => y0, fun _ => x0⟩, hmu⟩
        · have vy := okSp_den oy y0
          rw [br_t (by simpa using x0), br_f (by simpa using y0), br_f (by simpa using x0), br_f (by simp [x0, y0]), br_t (by simpa using y0), meshedI_eq vy t2 t1, meshS_step vy t2 t1, ob_s]
          rcases meshF_code y p.2 p.1 with hc | hc
          · rw [br_f (by simp [hc]), br_f (by simp [hc])]
            have vv := meshF_valid vy t2 t1 hc
            have vd : (meshF y p.2 p.1).1.2 ≠ 0 := by have := vR_bd vv; omega
            have hd := unk_set hx2 x0 vd
            refine .inl ⟨_, _, rfl, rfl, ⟨rfl, rfl, rfl, rfl, ⟨by dsimp only; omega, by dsimp only; omega⟩, rfl, rfl, (knownB_set vv).symm, rfl, h10.set a1.1 hx2 x0 vv (hcl.2 y (h10.prop _ y a2.1 hy2 y0) vy hc), ?_, fun _ => ?_, fun h => by cases h⟩, hmu⟩
            · dsimp only; omega
            · dsimp only; omega
          · rw [br_t (by simp [hc]), br_t (by simp [hc]), hc]
            exact .inr (.inr ⟨_, _, rfl, rfl, rfl, rfl⟩)
      · have vx := okSp_den ox x0
        by_cases y0 : y.2 = 0
        · rw [br_f (by simpa using x0), br_f (by simpa using x0), br_f (by simpa using y0), br_f (by rw [show (x.2 != 0) = true by simpa using x0, show (y.2 != 0) = false by simp [y0]]; rfl), br_f (by simpa using y0), meshedI_eq vx t1 t2, meshS_step vx t1 t2, ob_s]
          rcases meshF_code x p.1 p.2 with hc | hc
          · rw [br_f (by simp [hc]), br_f (by simp [hc])]
            have vv := meshF_valid vx t1 t2 hc
            have vd : (meshF x p.1 p.2).1.2 ≠ 0 := by have := vR_bd vv; omega
            have hd := unk_set hy2 y0 vd
            refine .inl ⟨_, _, rfl, rfl, ⟨rfl, rfl, rfl, rfl, ⟨by dsimp only; omega, by dsimp only; omega⟩, rfl, rfl, (knownB_set vv).symm, rfl, h10.set a2.1 hy2 y0 vv (hcl.1 x (h10.prop _ x a1.1 hx2 x0) vx hc), ?_, fun _ => ?_, fun h => by cases h⟩, hmu⟩
            · dsimp only; omega
            · dsimp only; omega
          · rw [br_t (by simp [hc]), br_t (by simp [hc]), hc]
            exact .inr (.inr ⟨_, _, rfl, rfl, rfl, rfl⟩)
        · rw [br_f (by simpa using x0), br_f (by simpa using x0), br_t (by simpa using y0), br_t (by rw [show (x.2 != 0) = true by simpa using x0, show (y.2 != 0) = true by simpa using y0]; rfl)]
          exact .inl ⟨_, _, rfl, rfl, stay ⟨fun h => (x0 h).elim, fun h => (y0 h).elim⟩, hmu⟩
    · have : i = w''.2.length := by omega
      subst this
      refine .inr (.inl ⟨(w'', sp, ag, w''.2, (w''.2.length : Int), (w''.2.length : Int)), (w'', knownB sp, sp, ag, (w''.2.length : Int)), ?_, ?_, ?_⟩)
      · unfold speedsILN_step
        dsimp only
        rw [br_f (by simp)]
      · unfold roundSL_step
        dsimp only
        rw [br_f (by simp)]
      · exact ⟨⟨rfl, rfl, rfl, rfl, ⟨by dsimp only; omega, by dsimp only; omega⟩, rfl, rfl, rfl, rfl, h10, h11, h12, h13⟩, rfl⟩)
  rcases main (w.2.length + 1) (w.2.length + 1) (w, sp, false, w.2, (w.2.length : Int), 0) (w, knownB sp, sp, false, 0) ⟨rfl, rfl, rfl, rfl, ⟨by dsimp only; omega, by dsimp only; omega⟩, rfl, rfl, rfl, rfl, hsp, hU, fun h => (by cases h), fun _ j m hj _ => (by dsimp only at hj; omega)⟩ (by dsimp only; omega) (by dsimp only; omega) with ⟨a', b', e1, e2, ⟨h1, h2, h3, h4, h5, h6, h7, h8, h9, h10, h11, h12, h13⟩, hi⟩ | ⟨r, r', e1, e2, q1, q2⟩
  · obtain ⟨w', sp1, ag1, ms, len, i1⟩ := a'
    obtain ⟨w'', kn, sp', ag, i⟩ := b'
    dsimp only at h1 h2 h3 h4 h5 h6 h7 h8 h9 h10 h11 h12 h13 hi
    subst h1; subst h2; subst h3; subst h4; subst h6; subst h7; subst h8; subst h9; subst hi
    refine .inl ⟨_, _, ?_, e2, h10, h11, h12, fun hb m hm => by
      obtain ⟨j, hj1, hj2⟩ := List.mem_iff_getElem.1 hm
      exact h13 hb j m (by have hj3 : j < w''.2.length := hj1; omega) (by rw [List.getElem?_eq_getElem hj1, hj2])⟩
    show iterA speedsILN_step (((w''.2.length : Int) - 0).toNat + 1) _ = _
    rw [show ((w''.2.length : Int) - 0).toNat = w''.2.length by omega]
    exact e1
  · refine .inr ⟨r, r', ?_, e2, q1, q2⟩
    show iterA speedsILN_step (((w.2.length : Int) - 0).toNat + 1) _ = _
    rw [show ((w.2.length : Int) - 0).toNat = w.2.length by omega]
    exact e1
/-! ### All rounds -/
def sp0 (n : Nat) (root : Int) : List RatD := (List.replicate n ((0 : Int), (0 : Int))).set root.toNat (1, 1)
theorem sp0_ok {root : Int} (h0 : 0 ≤ root) (h1 : root < w.1.length) (hP : P root (1, 1)) : SpOk w root.toNat P (sp0 w.1.length root) where
  keep := List.getElem?_set_self (by rw [List.length_replicate]; omega)
  len := by unfold sp0; simp
  ok := fun v hv => by
    rcases List.mem_or_eq_of_mem_set hv with h | rfl
    · exact .inl (List.mem_replicate.1 h).2
    · exact .inr v11
  prop := fun i v hi hv hv0 => by
    by_cases e : i = root
    · subst e
      unfold sp0 at hv
      rw [List.getElem?_set_self (by rw [List.length_replicate]; omega)] at hv
      cases hv; exact hP
    · unfold sp0 at hv
      rw [List.getElem?_set_ne (by omega)] at hv
      have := (List.mem_replicate.1 (List.mem_of_getElem? hv)).2
      subst this
      exact (hv0 rfl).elim
theorem known0 {n : Nat} {root : Int} : knownB (sp0 n root) = (List.replicate n false).set root.toNat true := by
  unfold sp0 knownB
  rw [List.map_set, List.map_replicate]; rfl
theorem spread_sim (hk : worksOk w = true) (hw : smallW w) (hP : closed w P) {sp : List RatD} (hsp : SpOk w r0 P sp) :
    (∃ sp', speedsIL (w, sp, true) = some (.inl (w, sp', false)) ∧ speedsSL (w, knownB sp, sp, true) = some (.inl (w, knownB sp', sp', false)) ∧ SpOk w r0 P sp' ∧ ∀ m ∈ w.2, sameK sp' m) ∨
    (speedsIL (w, sp, true) = some (.inr ([], 2)) ∧ speedsSL (w, knownB sp, sp, true) = some (.inr ([], 2))) := by
  have main := iterA_sim (stepA := speedsIL_step) (stepB := speedsSL_step) (fun a b => a.1 = w ∧ b.1 = w ∧ b.2.2.1 = a.2.1 ∧ b.2.1 = knownB a.2.1 ∧ b.2.2.2 = a.2.2 ∧ SpOk w r0 P a.2.1 ∧ (a.2.2 = false → ∀ m ∈ w.2, sameK a.2.1 m)) (fun a b => a.1 = w ∧ b.1 = w ∧ b.2.2.1 = a.2.1 ∧ b.2.1 = knownB a.2.1 ∧ b.2.2.2 = a.2.2 ∧ SpOk w r0 P a.2.1 ∧ a.2.2 = false ∧ ∀ m ∈ w.2, sameK a.2.1 m) (fun r r' => r = ([], 2) ∧ r' = ([], 2)) (fun a => if a.2.2 then unk a.2.1 + 1 else 0) (by
    rintro ⟨w', sp1, ag1⟩ ⟨w'', kn, sp, ag⟩ ⟨h1, h2, h3, h4, h5, h6, h8⟩
    dsimp only at h1 h2 h3 h4 h5 h6 h8
    subst h1; subst h2; subst h3; subst h4; subst h5
    cases ag with
    | false => exact .inr (.inl ⟨_, _, rfl, rfl, rfl, rfl, rfl, rfl, rfl, h6, rfl, h8 rfl⟩)
    | true =>
      have eI : speedsIL_step (w'', sp, true) = ob (speedsILN (w'', sp, false, w''.2, (w''.2.length : Int), 0)) (fun r => el r (fun r => some (LS.next (r.1, r.snd.1, r.snd.snd.1))) fun r => some (LS.ret r)) := rfl
      have eS : speedsSL_step (w'', knownB sp, sp, true) = ob (ob (roundSL (w'', knownB sp, sp, false, 0)) fun r => el r (fun r => some ((r.snd.snd.snd.1, true), w'', r.snd.1, r.snd.snd.1)) fun r => some ((r.snd.snd.1, r.snd.snd.2), w'', r.1, r.snd.1)) (fun y => br (!y.fst.2) (some (LS.ret ([], (2 : Int)))) (some (LS.next (w'', y.snd.snd.1, y.snd.snd.2, y.fst.1)))) := rfl
      rw [eI, eS]
      rcases round_sim hk hw hP (unk sp) sp h6 (Nat.le_refl _) with ⟨sp', b, e1, e2, q1, q2, q3, q4⟩ | ⟨r, r', e1, e2, q1, q2⟩
      · rw [e1, e2]
        refine .inl ⟨_, _, rfl, rfl, ⟨rfl, rfl, rfl, rfl, rfl, q1, q4⟩, ?_⟩
        dsimp only
        cases b with
        | false => exact Nat.succ_pos _
        | true => exact Nat.succ_lt_succ (q3 rfl)
      · rw [e1, e2]
        obtain ⟨k1, k2, k3, k4⟩ := r'
        cases q2
        subst q1
        exact .inr (.inr ⟨_, _, rfl, rfl, rfl, rfl⟩))
  have hlen := hsp.len
  have hu := unk_le sp
  rcases main (w.1.length + 2) (w.1.length + 2) (w, sp, true) (w, knownB sp, sp, true) ⟨rfl, rfl, rfl, rfl, rfl, hsp, fun h => by cases h⟩ (show unk sp + 1 < _ by omega) (show unk sp + 1 < _ by omega) with ⟨a', b', e1, e2, h1, h2, h3, h4, h5, h6, h7, h8⟩ | ⟨r, r', e1, e2, q1, q2⟩
  · obtain ⟨w', sp1, ag1⟩ := a'
    obtain ⟨w'', kn, sp', ag⟩ := b'
    dsimp only at h1 h2 h3 h4 h5 h6 h7 h8
    subst h1; subst h2; subst h3; subst h4; subst h5; subst h7
    exact .inl ⟨_, e1, e2, h6, h8⟩
  · subst q1; subst q2
    exact .inr ⟨e1, e2⟩
/-! ### What is looked at in the end -/
theorem all_loopA {σ α β : Type} {step : σ → Option (LS σ β)} {l : List α} (st : Int → σ) (p : α → Bool) (o : σ) (q : β)
    (hn : ∀ (i : Int) (y : α), 0 ≤ i → i < l.length → idx l i = some y → l[i.toNat]? = some y → p y = true → step (st i) = some (.next (st (i + 1))))
    (hb : ∀ (i : Int) (y : α), 0 ≤ i → i < l.length → idx l i = some y → l[i.toNat]? = some y → p y = false → step (st i) = some (.ret q))
    (ho : step (st l.length) = some (.out o)) {n : Nat} (hf : l.length < n) : iterA step n (st 0) = some (if l.all p = true then .inl o else .inr q) := by
  have key : ∀ (n : Nat) (i : Nat), i ≤ l.length → l.length - i < n → iterA step n (st i) = some (if (l.drop i).all p = true then .inl o else .inr q) := by
    intro n
    induction n with
    | zero => intro i _ h; omega
    | succ n ih =>
      intro i hi h
      show ob (step (st i)) _ = _
      by_cases hlt : i < l.length
      · obtain ⟨y, hy, hy2⟩ := idx_get (l := l) (i := (i : Int)) (by omega) (by omega)
        have hd : l.drop i = y :: l.drop (i + 1) := by
          rw [List.drop_eq_getElem_cons hlt]
          congr 1
          have := List.getElem?_eq_getElem hlt
          rw [show l[(i : Int).toNat]? = l[i]? by simp, this] at hy2
          cases hy2; rfl
        rw [hd, List.all_cons]
        cases hp : p y with
        | true =>
          rw [hn i y (by omega) (by omega) hy hy2 hp, Bool.true_and]
          exact ih (i + 1) (by omega) (by omega)
        | false =>
          rw [hb i y (by omega) (by omega) hy hy2 hp, Bool.false_and]
          rfl
      · have : i = l.length := by omega
        subst this
        rw [ho, List.drop_length]
        rfl
  exact key n 0 (by omega) (by omega)
theorem hasRat_eq {l : List RatD} (hl : l.length ≤ 1048576) : hasRat (l, ()) = some (l.any fun v => v.2 == 0) := by
  obtain ⟨b, t, e, h1, h2⟩ := find_loop (step := findRatL_step) (l := l) (fun i => (l, (), 0, (l.length : Int), i)) (fun v => v.2 == 0) (fun i t => t.2.2.1 = i)
    (fun i y h0 h1 hy hp => by
      show br (decide (i < (l.length : Int))) (ob (idx l i) fun y => ob (speedFnI (y.1, y.2)) fun y => br y _ (some (LRes.next, l, (), 0, (l.length : Int), IntKind.i64.wrap (i + 1)))) _ = _
      rw [br_t (by simpa using h1), hy, ob_s, show speedFnI (y.1, y.2) = some (y.2 == 0) from rfl, ob_s, br_f hp, w64 (by omega) (by omega)])
    (fun i y h0 h1 hy hp => by
      show ∃ s, br (decide (i < (l.length : Int))) (ob (idx l i) fun y => ob (speedFnI (y.1, y.2)) fun y => br y (some (LRes.ret, l, (), i, (l.length : Int), i)) _) _ = _ ∧ _
      rw [br_t (by simpa using h1), hy, ob_s, show speedFnI (y.1, y.2) = some (y.2 == 0) from rfl, ob_s, br_t hp]
      exact ⟨_, rfl, rfl⟩)
    ⟨_, by
      show br (decide ((l.length : Int) < (l.length : Int))) _ _ = _
      rw [br_f (by simp)]⟩ (n := ((l.length : Int) - 0).toNat + 1) (by omega)
  have e' : findRatL (l, (), 0, (l.length : Int), 0) = some (b, t) := e
  have ef : findRat (l, ()) = some (placeOf (fun v => v.2 == 0) l) := by
    show ob (findRatL (l, (), 0, (l.length : Int), 0)) _ = _
    rw [e']
    unfold placeOf
    cases b with
    | true => rw [h1 rfl]; rfl
    | false =>
      obtain ⟨k, k1, k2⟩ := h2 rfl
      rw [k1]
      show some t.2.2.1 = _
      rw [k2]
  show ob (findRat (l, ())) (fun y => some (decide (0 ≤ y))) = _
  rw [ef, ob_s, placeOf_any]
theorem knownS_all (w : WorksD) {l : List RatD} (hl : l.length ≤ 1048576) : speedsSK (w, knownB l, l, 0) = some (if (l.any fun v => v.2 == 0) = true then .inr ([], 6) else .inl (w, knownB l, l, (l.length : Int))) := by
  have hlen : (knownB l).length = l.length := by unfold knownB; simp
  have h := all_loopA (step := speedsSK_step) (l := knownB l) (fun i => (w, knownB l, l, i)) (fun b => b) (w, knownB l, l, ((knownB l).length : Int)) ([], 6)
    (fun i y h0 h1 hy hy2 hp => by
      show br (decide (i < ((knownB l).length : Int))) (ob (idx (knownB l) i) fun _ => ob ((knownB l)[i.toNat]?) fun y => br (!y) _ (some (LS.next (w, knownB l, l, IntKind.i64.wrap (i + 1))))) _ = _
      rw [br_t (by simpa using h1), hy, ob_s, hy2, ob_s, br_f (by simp [hp]), w64 (by omega) (by omega)])
    (fun i y h0 h1 hy hy2 hp => by
      show br (decide (i < ((knownB l).length : Int))) (ob (idx (knownB l) i) fun _ => ob ((knownB l)[i.toNat]?) fun y => br (!y) (some (LS.ret ([], 6))) _) _ = _
      rw [br_t (by simpa using h1), hy, ob_s, hy2, ob_s, br_t (by simp [hp])])
    (by
      show br (decide (((knownB l).length : Int) < ((knownB l).length : Int))) _ _ = _
      rw [br_f (by simp)]) (n := ((knownB l).length - (0 : Int).toNat) + 1) (by simp)
  have h' : speedsSK (w, knownB l, l, 0) = _ := h
  rw [h', hlen]
  have e : (knownB l).all (fun b => b) = !(l.any fun v => v.2 == 0) := by
    unfold knownB
    rw [List.all_map, List.all_eq_not_any_not]
    congr 1
    congr 1
    funext v
    simp [bne]
  rw [e]
  cases (l.any fun v => v.2 == 0) <;> rfl
/-- A mesh fits the speeds of its arbors. -/
def fitF (w : WorksD) (sp : List RatD) (m : MeshD) : Bool := match idx sp m.1, idx sp m.2.2.1, pairWI ((w.1, w.2), m.1, m.2.1, m.2.2.1, m.2.2.2) with
  | some x, some y, some p => (meshF x p.1 p.2).2 == 0 && ((meshF x p.1 p.2).1.1 == y.1 && (meshF x p.1 p.2).1.2 == y.2)
  | _, _, _ => false
theorem fits_both {sp : List RatD} (hk : worksOk w = true) (hw : smallW w) (hsp : SpOk w r0 P sp) (ha : (sp.any fun v => v.2 == 0) = false) :
    speedsOIL (w, sp, w.2, (w.2.length : Int), 0) = some (if w.2.all (fitF w sp) = true then .inl (w, sp, w.2, (w.2.length : Int), (w.2.length : Int)) else .inr ([], 10)) ∧
    speedsSF (w, sp, 0) = some (if w.2.all (fitF w sp) = true then .inl (w, sp, (w.2.length : Int)) else .inr ([], 10)) := by
  have hl := hw.2.2
  have hlen := hsp.len
  have each : ∀ m ∈ w.2, ∃ x y p, idx sp m.1 = some x ∧ sp[m.1.toNat]? = some x ∧ idx sp m.2.2.1 = some y ∧ sp[m.2.2.1.toNat]? = some y ∧ vR x = true ∧ teeth p.1 ∧ teeth p.2 ∧ pairWI ((w.1, w.2), m.1, m.2.1, m.2.2.1, m.2.2.2) = some p ∧ fitF w sp m = ((meshF x p.1 p.2).2 == 0 && ((meshF x p.1 p.2).1.1 == y.1 && (meshF x p.1 p.2).1.2 == y.2)) := by
    intro m hm
    obtain ⟨p, a1, a2, a3, t1, t2, ep⟩ := meshes_ok hk hm
    obtain ⟨x, hx, hx2⟩ := idx_get (l := sp) a1.1 (by omega)
    obtain ⟨y, hy, hy2⟩ := idx_get (l := sp) a2.1 (by omega)
    have hx0 := List.any_eq_false.1 ha x (List.mem_of_getElem? hx2)
    refine ⟨x, y, p, hx, hx2, hy, hy2, okSp_den (hsp.ok x (List.mem_of_getElem? hx2)) (by simpa using hx0), t1, t2, ep, ?_⟩
    unfold fitF
    rw [hx, hy, ep]
  constructor
  · refine all_loopA (step := speedsOIL_step) (l := w.2) (fun i => (w, sp, w.2, (w.2.length : Int), i)) (fitF w sp) (w, sp, w.2, (w.2.length : Int), (w.2.length : Int)) ([], 10) (fun i m h0 h1 hm hm2 hp => ?_) (fun i m h0 h1 hm hm2 hp => ?_) ?_ (n := ((w.2.length : Int) - 0).toNat + 1) (by omega)
    · obtain ⟨x, y, p, hx, hx2, hy, hy2, vx, t1, t2, ep, ef⟩ := each m (List.mem_of_getElem? hm2)
      rw [ef] at hp
      simp only [Bool.and_eq_true] at hp
      unfold speedsOIL_step
      dsimp only
      rw [br_t (by simpa using h1), hm, ob_s, ep, ob_s, hx, ob_s, gi, hx2, ob_s, meshedI_eq vx t1 t2, ob_s, br_f (by rw [bne, hp.1]; rfl), hy, ob_s, gi, hy2, ob_s, hp.2.1, hp.2.2, w64 (by omega) (by omega)]
      rfl
    · obtain ⟨x, y, p, hx, hx2, hy, hy2, vx, t1, t2, ep, ef⟩ := each m (List.mem_of_getElem? hm2)
      rw [ef] at hp
      unfold speedsOIL_step
      dsimp only
      rw [br_t (by simpa using h1), hm, ob_s, ep, ob_s, hx, ob_s, gi, hx2, ob_s, meshedI_eq vx t1 t2, ob_s]
      cases hc : (meshF x p.1 p.2).2 == 0 with
      | false => rw [br_t (by rw [bne, hc]; rfl)]
      | true =>
        rw [hc, Bool.true_and] at hp
        rw [br_f (by rw [bne, hc]; rfl), hy, ob_s, gi, hy2, ob_s, hp]
        rfl
    · unfold speedsOIL_step
      dsimp only
      rw [br_f (by simp)]
  · refine all_loopA (step := speedsSF_step) (l := w.2) (fun i => (w, sp, i)) (fitF w sp) (w, sp, (w.2.length : Int)) ([], 10) (fun i m h0 h1 hm hm2 hp => ?_) (fun i m h0 h1 hm hm2 hp => ?_) ?_ (n := (w.2.length - (0 : Int).toNat) + 1) (by omega)
    all_goals try
      obtain ⟨x, y, p, hx, hx2, hy, hy2, vx, t1, t2, ep, ef⟩ := each m (List.mem_of_getElem? hm2)
      have e : fitsS (w, (m.1, m.2.1, m.2.2.1, m.2.2.2), sp) = some (fitF w sp m) := by
        have eps : pairWS (w, m.1, m.2.1, m.2.2.1, m.2.2.2) = some p := ep
        unfold fitsS
        dsimp only
        rw [eps, ob_s, hx]
        show ob (mkS (IntKind.i64.wrap ((0 : Int) - p.1), p.2)) (fun z => ob (mulS ((x.1, x.2), z.fst.1, z.fst.2)) fun r => br r.2 (ob (idx sp m.2.2.1) fun y => some (r.fst.1 == y.1 && r.fst.2 == y.2)) (some false)) = _
        rw [meshS_step vx t1 t2, ef, hy]
        cases (meshF x p.1 p.2).2 == 0 <;> rfl
      unfold speedsSF_step
      dsimp only
      rw [br_t (by simpa using h1), hm, ob_s, e, ob_s, hp]
    · rw [w64 (by omega) (by omega)]; rfl
    · rfl
    · unfold speedsSF_step
      dsimp only
      rw [br_f (by simp)]

/-! ### Both answer alike -/
theorem speeds_both (hw : smallW w) (root : Int) (hP : closed w P) (h1 : P root (1, 1)) : ∃ v, speedsOI ((w.1, w.2), root) = some v ∧ speedsOS ((w.1, w.2), root) = some v ∧ ((v.1 = [] ∧ ((v.2 = 1 ∧ worksOk w = false) ∨ v.2 = 2 ∨ (v.2 = 6 ∧ ∃ sp, SpOk w root.toNat P sp ∧ (∀ m ∈ w.2, sameK sp m) ∧ (sp.any fun v => v.2 == 0) = true) ∨ (v.2 = 10 ∧ ∃ sp, SpOk w root.toNat P sp ∧ (sp.any fun v => v.2 == 0) = false ∧ w.2.all (fitF w sp) = false))) ∨
    (v.2 = 0 ∧ worksOk w = true ∧ (0 ≤ root ∧ root < w.1.length) ∧ SpOk w root.toNat P v.1 ∧ (v.1.any fun v => v.2 == 0) = false ∧ w.2.all (fitF w v.1) = true)) := by
  have h1l := hw.1
  have e1 : validWI (w.1, w.2) = some (worksOk w) := validWI_eq hw
  have e2 : okWS (w.1, w.2) = some (worksOk w) := okWS_eq hw
  unfold speedsOI speedsOS
  dsimp only
  rw [e1, e2, ob_s, ob_s]
  cases hk : worksOk w with
  | false => exact ⟨_, rfl, rfl, .inl ⟨rfl, .inl ⟨rfl, rfl⟩⟩⟩
  | true =>
    rw [br_f (c := !true) rfl, br_f (c := !true) rfl, withinP_eq, ob_s]
    unfold speedsS rootS
    dsimp only
    rw [inP_eq, ob_s, ob_s, w64 (by omega) (by omega)]
    cases hr : inF root 0 ((w.1.length : Int) - 1) with
    | false => exact ⟨_, rfl, rfl, .inl ⟨rfl, .inr (.inl rfl)⟩⟩
    | true =>
      unfold inF at hr
      rw [Bool.and_eq_true, decide_eq_true_eq, decide_eq_true_eq] at hr
      have hn : (w.1.length : Int).toNat = w.1.length := by omega
      obtain ⟨a, ha, ha2⟩ := idx_get (l := List.replicate w.1.length ((0 : Int), (0 : Int))) (i := root) hr.1 (by rw [List.length_replicate]; omega)
      obtain ⟨b, hb, hb2⟩ := idx_get (l := List.replicate w.1.length false) (i := root) hr.1 (by rw [List.length_replicate]; omega)
      rw [br_f (c := !true) rfl, br_f (c := !true) rfl]
      unfold speedsFI
      dsimp only
      have hd : decide ((0 : Int) ≤ (w.1.length : Int) ∧ (w.1.length : Int) = (w.1.length : Int) ∧ (w.1.length : Int) ≤ 1048576) = true := by simp; omega
      rw [br_t hd, br_t hd, br_t hd, hn]
      simp only [gi, ha, ha2, hb, hb2, ob_s, show wholeS 1 = some (1, 1) from rfl]
      rw [show (List.replicate w.1.length ((0 : Int), (0 : Int))).set root.toNat ((1 : Int), (1 : Int)) = sp0 w.1.length root from rfl, ← known0]
      have hsp := sp0_ok (w := w) (P := P) hr.1 (by omega) h1
      rcases spread_sim hk hw hP hsp with ⟨sp, q1, q2, q3, q4⟩ | ⟨q1, q2⟩
      · have q1' : speedsIL ((w.1, w.2), sp0 w.1.length root, true) = _ := q1
        have q2' : speedsSL ((w.1, w.2), knownB (sp0 w.1.length root), sp0 w.1.length root, true) = _ := q2
        have hlen := q3.len
        rw [q1', q2']
        simp only [ob_s, el]
        have f1 : hasRat (sp, PUnit.unit) = some (sp.any fun v => v.2 == 0) := hasRat_eq (l := sp) (by omega)
        have f2 : speedsSK ((w.1, w.2), knownB sp, sp, 0) = some (if (sp.any fun v => v.2 == 0) = true then .inr ([], 6) else .inl (w, knownB sp, sp, (sp.length : Int))) := knownS_all w (l := sp) (by omega)
        show ∃ v, br ((0 : Int) != 0) _ (ob (hasRat (sp, PUnit.unit)) _) = _ ∧ _
        rw [br_f (by rfl), f1, f2, ob_s, ob_s]
        cases ha : (sp.any fun v => v.2 == 0) with
        | true =>
          rw [br_t (c := true) rfl]
          exact ⟨_, rfl, rfl, .inl ⟨rfl, .inr (.inr (.inl ⟨rfl, sp, q3, q4, ha⟩))⟩⟩
        | false =>
          obtain ⟨g1, g2⟩ := fits_both hk hw q3 ha
          have g1' : speedsOIL ((w.1, w.2), sp, w.2, (w.2.length : Int), 0) = _ := g1
          have g2' : speedsSF (w, sp, 0) = _ := g2
          rw [br_f (c := false) rfl, g1']
          rw [if_neg (show ¬ (false = true) by decide)]
          show ∃ v, _ ∧ ob (ob (speedsSF (w, sp, 0)) _) _ = _ ∧ _
          rw [g2']
          cases hf : w.2.all (fitF w sp) with
          | true => exact ⟨_, rfl, rfl, .inr ⟨rfl, trivial, ⟨hr.1, by omega⟩, q3, ha, hf⟩⟩
          | false => exact ⟨_, rfl, rfl, .inl ⟨rfl, .inr (.inr (.inr ⟨rfl, sp, q3, ha, hf⟩))⟩⟩
      · have q1' : speedsIL ((w.1, w.2), sp0 w.1.length root, true) = _ := q1
        have q2' : speedsSL ((w.1, w.2), knownB (sp0 w.1.length root), sp0 w.1.length root, true) = _ := q2
        rw [q1', q2']
        exact ⟨_, rfl, rfl, .inl ⟨rfl, .inr (.inl rfl)⟩⟩
end

/-! ### The law -/
theorem closed_all (w : WorksD) : closed w fun _ _ => True := fun _ _ _ _ => ⟨fun _ _ _ _ => trivial, fun _ _ _ _ => trivial⟩
end Rx
end Go.Proofs.YtonbgpliomhboaaGreatDoor
