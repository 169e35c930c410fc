/- What the functions of RxSpeeds come to, and their contracts. No conditions. -/
import Derived.Test.YthehdbedojcpdaaRxEnv
import Derived.Test.YthehdbedojcpdaaRxDeepW
import Derived.Test.YthehdbedojcpdaaRxRatI
import Derived.Test.YthehdbedojcpdaaRxRatS
import Derived.Test.YthehdbedojcpdaaRxRatAdd
namespace Go.Proofs.Ythehdbedojcpdaa
namespace Rx
open Go

noncomputable section
def speedFnI : (Int × Int) → Option (Bool) :=
fun x => some (x.2 == (0 : Int))
def speedFnI_con : Con := ⟨[.pair (i64) (i64)], [.d (.bool)], speedFnI⟩
theorem speedFnI_run (x : Dens [.pair (i64) (i64)]) : runFn (mkEnv [] []) Try.f80 [.pair (i64) (i64)] [.d (.bool)] x = speedFnI x := by kernel_rfl
theorem speedFnI_ok : speedFnI_con.ok Try.prog 80 := fn_ok (con := speedFnI_con) (mkEnv_ok (cons := []) trivial []) Try.func80 rfl (by kernel_rfl) (by exact trivial) (fun x y h => (speedFnI_run x).trans h)

def meshedI : (Int × Int) × Int × Int → Option ((Int × Int) × Int) :=
fun x =>
  ob (makeRatI (IntKind.i64.wrap ((0 : Int) - x.snd.1), x.snd.2)) fun y =>
    ob (mulRatI ((x.fst.1, x.fst.2), y.fst.1, y.fst.2)) fun y => some ((y.fst.1, y.fst.2), y.2)
def meshedI_con : Con := ⟨[.pair (i64) (i64), i64, i64], [.d (.pair (i64) (i64)), .d (i64)], meshedI⟩
theorem meshedI_run (x : Dens [.pair (i64) (i64), i64, i64]) : runFn (mkEnv [(108, makeRatI_con), (109, mulRatI_con)] []) Try.f81 [.pair (i64) (i64), i64, i64] [.d (.pair (i64) (i64)), .d (i64)] x = meshedI x := by kernel_rfl
theorem meshedI_ok : meshedI_con.ok Try.prog 81 := fn_ok (con := meshedI_con) (mkEnv_ok (cons := [(108, makeRatI_con), (109, mulRatI_con)]) ⟨makeRatI_ok, mulRatI_ok, trivial⟩ []) Try.func81 rfl (by kernel_rfl) (by exact trivial) (fun x y h => (meshedI_run x).trans h)

def speedsILN_vars : Vars := [(2, .box 0 33 (.pair (.slice (.pair (.str) (.slice (i64)))) (.slice (.pair (i64) (.pair (i64) (.pair (i64) (i64))))))), (6, .row 0 72 (.pair (i64) (i64))), (7, .val (.bool)), (25, .val (.slice (.pair (i64) (.pair (i64) (.pair (i64) (i64)))))), (26, .val (i64)), (27, .val (i64))]
def speedsILN_rv : Vars := [(4, .row 0 72 (.pair (i64) (i64))), (5, .val (i64))]
def speedsILN_step : (List ((ByteArray × List (Int))) × List ((Int × Int × Int × Int))) × List ((Int × Int)) × Bool × List ((Int × Int × Int × Int)) × Int × Int → Option (LS ((List ((ByteArray × List (Int))) × List ((Int × Int × Int × Int))) × List ((Int × Int)) × Bool × List ((Int × Int × Int × Int)) × Int × Int) (List ((Int × Int)) × Int)) :=
fun x =>
  br (decide (x.snd.snd.snd.snd.2 < x.snd.snd.snd.snd.1))
    (ob (idx x.snd.snd.snd.1 x.snd.snd.snd.snd.2) fun y =>
      ob (pairWI ((x.fst.1, x.fst.2), y.1, y.snd.1, y.snd.snd.1, y.snd.snd.2)) fun y_1 =>
        ob (idx x.snd.1 y.1) fun x_1 =>
          ob (List.get?Internal x.snd.1 (Int.toNat y.1)) fun x_2 =>
            br (x_2.2 == (0 : Int))
              (ob (idx x.snd.1 y.snd.snd.1) fun x_3 =>
                ob (List.get?Internal x.snd.1 (Int.toNat y.snd.snd.1)) fun x_4 =>
                  br (x_4.2 == (0 : Int))
                    (some
                      (LS.next
                        ((x.fst.1, x.fst.2), x.snd.1, x.snd.snd.1, x.snd.snd.snd.1, x.snd.snd.snd.snd.1,
                          IntKind.i64.wrap (x.snd.snd.snd.snd.2 + (1 : Int)))))
                    (ob (idx x.snd.1 y.1) fun x_5 =>
                      ob (List.get?Internal x.snd.1 (Int.toNat y.1)) fun x_6 =>
                        br (x_6.2 != (0 : Int))
                          (some
                            (LS.next
                              ((x.fst.1, x.fst.2), x.snd.1, x.snd.snd.1, x.snd.snd.snd.1, x.snd.snd.snd.snd.1,
                                IntKind.i64.wrap (x.snd.snd.snd.snd.2 + (1 : Int)))))
                          (ob (idx x.snd.1 y.snd.snd.1) fun x_7 =>
                            ob (List.get?Internal x.snd.1 (Int.toNat y.snd.snd.1)) fun x_8 =>
                              ob (meshedI ((x_8.1, x_8.2), y_1.2, y_1.1)) fun y_2 =>
                                br (y_2.2 != (0 : Int)) (some (LS.ret ([], y_2.2)))
                                  (ob (idx x.snd.1 y.1) fun x_9 =>
                                    ob (List.get?Internal x.snd.1 (Int.toNat y.1)) fun x_10 =>
                                      some
                                        (LS.next
                                          ((x.fst.1, x.fst.2), List.set x.snd.1 (Int.toNat y.1) (y_2.fst.1, y_2.fst.2),
                                            true, x.snd.snd.snd.1, x.snd.snd.snd.snd.1,
                                            IntKind.i64.wrap (x.snd.snd.snd.snd.2 + (1 : Int))))))))
              (ob (idx x.snd.1 y.1) fun x_3 =>
                ob (List.get?Internal x.snd.1 (Int.toNat y.1)) fun x_4 =>
                  br (x_4.2 == (0 : Int))
                    (some
                      (LS.next
                        ((x.fst.1, x.fst.2), x.snd.1, x.snd.snd.1, x.snd.snd.snd.1, x.snd.snd.snd.snd.1,
                          IntKind.i64.wrap (x.snd.snd.snd.snd.2 + (1 : Int)))))
                    (ob (idx x.snd.1 y.snd.snd.1) fun x_5 =>
                      ob (List.get?Internal x.snd.1 (Int.toNat y.snd.snd.1)) fun x_6 =>
                        br (x_6.2 != (0 : Int))
                          (some
                            (LS.next
                              ((x.fst.1, x.fst.2), x.snd.1, x.snd.snd.1, x.snd.snd.snd.1, x.snd.snd.snd.snd.1,
                                IntKind.i64.wrap (x.snd.snd.snd.snd.2 + (1 : Int)))))
                          (ob (idx x.snd.1 y.1) fun x_7 =>
                            ob (List.get?Internal x.snd.1 (Int.toNat y.1)) fun x_8 =>
                              ob (meshedI ((x_8.1, x_8.2), y_1.1, y_1.2)) fun y_2 =>
                                br (y_2.2 != (0 : Int)) (some (LS.ret ([], y_2.2)))
                                  (ob (idx x.snd.1 y.snd.snd.1) fun x_9 =>
                                    ob (List.get?Internal x.snd.1 (Int.toNat y.snd.snd.1)) fun x_10 =>
                                      some
                                        (LS.next
                                          ((x.fst.1, x.fst.2),
                                            List.set x.snd.1 (Int.toNat y.snd.snd.1) (y_2.fst.1, y_2.fst.2), true,
                                            x.snd.snd.snd.1, x.snd.snd.snd.snd.1,
                                            IntKind.i64.wrap (x.snd.snd.snd.snd.2 + (1 : Int)))))))))
    (some
      (LS.out ((x.fst.1, x.fst.2), x.snd.1, x.snd.snd.1, x.snd.snd.snd.1, x.snd.snd.snd.snd.1, x.snd.snd.snd.snd.2)))
def speedsILN_fuel : (List ((ByteArray × List (Int))) × List ((Int × Int × Int × Int))) × List ((Int × Int)) × Bool × List ((Int × Int × Int × Int)) × Int × Int → Nat := fun s => (s.2.2.2.2.1 - s.2.2.2.2.2).toNat + 1
def speedsILN : (List ((ByteArray × List (Int))) × List ((Int × Int × Int × Int))) × List ((Int × Int)) × Bool × List ((Int × Int × Int × Int)) × Int × Int → Option (Sum ((List ((ByteArray × List (Int))) × List ((Int × Int × Int × Int))) × List ((Int × Int)) × Bool × List ((Int × Int × Int × Int)) × Int × Int) (List ((Int × Int)) × Int)) := fun s => iterA speedsILN_step (speedsILN_fuel s) s
def speedsILN_L : LoopC := ⟨speedsILN_vars, 2, .alt speedsILN_rv speedsILN⟩
noncomputable def speedsILN_key : Nat := key (loopIn (loopAt Try.f78 0) 0)
theorem speedsILN_stepok (x : speedsILN_vars.den) : stepOfA (mkEnv [(75, pairWI_con), (81, meshedI_con)] []) Try.f78.ntmps speedsILN_vars speedsILN_rv 2 (loopIn (loopAt Try.f78 0) 0) x = speedsILN_step x := by kernel_rfl
theorem speedsILN_ok : LoopOK Try.prog Try.f78.ntmps speedsILN_L (loopIn (loopAt Try.f78 0) 0)   := iterA_loop (n := Try.f78.ntmps) (vs := speedsILN_vars) (rv := speedsILN_rv) (out := 2) (body := loopIn (loopAt Try.f78 0) 0) (mkEnv_ok (cons := [(75, pairWI_con), (81, meshedI_con)]) ⟨pairWI_ok, meshedI_ok, trivial⟩ []) speedsILN_step speedsILN_fuel (by exact trivial) speedsILN_stepok

def speedsIL_vars : Vars := [(2, .box 0 33 (.pair (.slice (.pair (.str) (.slice (i64)))) (.slice (.pair (i64) (.pair (i64) (.pair (i64) (i64))))))), (6, .row 0 72 (.pair (i64) (i64))), (7, .val (.bool))]
def speedsIL_rv : Vars := [(4, .row 0 72 (.pair (i64) (i64))), (5, .val (i64))]
def speedsIL_step : (List ((ByteArray × List (Int))) × List ((Int × Int × Int × Int))) × List ((Int × Int)) × Bool → Option (LS ((List ((ByteArray × List (Int))) × List ((Int × Int × Int × Int))) × List ((Int × Int)) × Bool) (List ((Int × Int)) × Int)) :=
fun x =>
  br x.snd.2
    (ob (speedsILN ((x.fst.1, x.fst.2), x.snd.1, false, x.fst.2, (↑(List.length x.fst.2) : Int), (0 : Int))) fun r =>
      el r (fun r => some (LS.next ((r.fst.1, r.fst.2), r.snd.1, r.snd.snd.1))) fun r => some (LS.ret (r.1, r.2)))
    (some (LS.out ((x.fst.1, x.fst.2), x.snd.1, x.snd.2)))
def speedsIL_fuel : (List ((ByteArray × List (Int))) × List ((Int × Int × Int × Int))) × List ((Int × Int)) × Bool → Nat := fun s => s.1.1.length + 2
def speedsIL : (List ((ByteArray × List (Int))) × List ((Int × Int × Int × Int))) × List ((Int × Int)) × Bool → Option (Sum ((List ((ByteArray × List (Int))) × List ((Int × Int × Int × Int))) × List ((Int × Int)) × Bool) (List ((Int × Int)) × Int)) := fun s => iterA speedsIL_step (speedsIL_fuel s) s
def speedsIL_L : LoopC := ⟨speedsIL_vars, 0, .alt speedsIL_rv speedsIL⟩
noncomputable def speedsIL_key : Nat := key (loopAt Try.f78 0)
theorem speedsIL_stepok (x : speedsIL_vars.den) : stepOfA (mkEnv [] [(speedsILN_key, speedsILN_L)]) Try.f78.ntmps speedsIL_vars speedsIL_rv 0 (loopAt Try.f78 0) x = speedsIL_step x := by kernel_rfl
theorem speedsIL_ok : LoopOK Try.prog Try.f78.ntmps speedsIL_L (loopAt Try.f78 0)   := iterA_loop (n := Try.f78.ntmps) (vs := speedsIL_vars) (rv := speedsIL_rv) (out := 0) (body := loopAt Try.f78 0) (mkEnv_ok (cons := []) trivial [(speedsILN_key, speedsILN_L)]) speedsIL_step speedsIL_fuel (by exact ⟨speedsILN_ok, trivial⟩) speedsIL_stepok

def speedsFI : (List ((ByteArray × List (Int))) × List ((Int × Int × Int × Int))) × Int → Option (List ((Int × Int)) × Int) :=
fun x =>
  br
    (decide
      ((0 : Int) ≤ (↑(List.length x.fst.1) : Int) ∧
        (↑(List.length x.fst.1) : Int) = (↑(List.length x.fst.1) : Int) ∧
          (↑(List.length x.fst.1) : Int) ≤ (1048576 : Int)))
    (ob (idx (List.replicate (↑(List.length x.fst.1) : Int).toNat ((0 : Int), (0 : Int))) x.2) fun x_1 =>
      ob ((List.replicate (↑(List.length x.fst.1) : Int).toNat ((0 : Int), (0 : Int))).get?Internal x.2.toNat)
        fun x_2 =>
        ob
          (speedsIL
            ((x.fst.1, x.fst.2),
              (List.replicate (↑(List.length x.fst.1) : Int).toNat ((0 : Int), (0 : Int))).set x.2.toNat
                ((1 : Int), (1 : Int)),
              true))
          fun r => el r (fun r => some (r.snd.1, (0 : Int))) fun r => some (r.1, r.2))
    none
def speedsFI_con : Con := ⟨[.pair (.slice (.pair (.str) (.slice (i64)))) (.slice (.pair (i64) (.pair (i64) (.pair (i64) (i64))))), i64], [.row 72 (.pair (i64) (i64)), .d (i64)], speedsFI⟩
theorem speedsFI_run (x : Dens [.pair (.slice (.pair (.str) (.slice (i64)))) (.slice (.pair (i64) (.pair (i64) (.pair (i64) (i64))))), i64]) : runFn (mkEnv [] [(speedsIL_key, speedsIL_L)]) Try.f78 [.pair (.slice (.pair (.str) (.slice (i64)))) (.slice (.pair (i64) (.pair (i64) (.pair (i64) (i64))))), i64] [.row 72 (.pair (i64) (i64)), .d (i64)] x = speedsFI x := by kernel_rfl
theorem speedsFI_ok : speedsFI_con.ok Try.prog 78 := fn_ok (con := speedsFI_con) (mkEnv_ok (cons := []) trivial [(speedsIL_key, speedsIL_L)]) Try.func78 rfl (by kernel_rfl) (by exact ⟨speedsIL_ok, trivial⟩) (fun x y h => (speedsFI_run x).trans h)

def findRatL_vars : Vars := [(0, .val (.slice (.pair (i64) (i64)))), (1, .val (.clo 80 (.unit))), (4, .val (i64)), (7, .val (i64)), (8, .val (i64))]
def findRatL_step : List ((Int × Int)) × Unit × Int × Int × Int → Option (LRes × (List ((Int × Int)) × Unit × Int × Int × Int)) :=
fun x =>
  br (decide (x.snd.snd.snd.2 < x.snd.snd.snd.1))
    (ob (idx x.1 x.snd.snd.snd.2) fun y =>
      ob (speedFnI (y.1, y.2)) fun y =>
        br y (some (LRes.ret, x.1, x.snd.1, x.snd.snd.snd.2, x.snd.snd.snd.1, x.snd.snd.snd.2))
          (some
            (LRes.next, x.1, x.snd.1, x.snd.snd.1, x.snd.snd.snd.1, IntKind.i64.wrap (x.snd.snd.snd.2 + (1 : Int)))))
    (some (LRes.out, x.1, x.snd.1, x.snd.snd.1, x.snd.snd.snd.1, x.snd.snd.snd.2))
def findRatL_fuel : List ((Int × Int)) × Unit × Int × Int × Int → Nat := fun s => (s.2.2.2.1 - s.2.2.2.2).toNat + 1
def findRatL : List ((Int × Int)) × Unit × Int × Int × Int → Option (Bool × (List ((Int × Int)) × Unit × Int × Int × Int)) := fun s => iter findRatL_step (findRatL_fuel s) s
def findRatL_L : LoopC := ⟨findRatL_vars, 0, .two findRatL⟩
noncomputable def findRatL_key : Nat := key (loopAt Try.f107 0)
theorem findRatL_stepok (x : findRatL_vars.den) : stepOf (mkEnv [(80, speedFnI_con)] []) Try.f107.ntmps findRatL_vars 0 (loopAt Try.f107 0) x = findRatL_step x := by kernel_rfl
theorem findRatL_ok : LoopOK Try.prog Try.f107.ntmps findRatL_L (loopAt Try.f107 0)   := iter_loop (n := Try.f107.ntmps) (vs := findRatL_vars) (out := 0) (body := loopAt Try.f107 0) (mkEnv_ok (cons := [(80, speedFnI_con)]) ⟨speedFnI_ok, trivial⟩ []) findRatL_step findRatL_fuel (by exact trivial) findRatL_stepok

def findRat : List ((Int × Int)) × Unit → Option (Int) :=
fun x =>
  ob (findRatL (x.1, x.2, (0 : Int), (↑x.1.length : Int), (0 : Int))) fun r =>
    br r.1 (some (-1 : Int)) (some r.snd.snd.snd.1)
def findRat_con : Con := ⟨[.slice (.pair (i64) (i64)), .clo 80 (.unit)], [.d (i64)], findRat⟩
theorem findRat_run (x : Dens [.slice (.pair (i64) (i64)), .clo 80 (.unit)]) : runFn (mkEnv [] [(findRatL_key, findRatL_L)]) Try.f107 [.slice (.pair (i64) (i64)), .clo 80 (.unit)] [.d (i64)] x = findRat x := by kernel_rfl
theorem findRat_ok : findRat_con.ok Try.prog 107 := fn_ok (con := findRat_con) (mkEnv_ok (cons := []) trivial [(findRatL_key, findRatL_L)]) Try.func107 rfl (by kernel_rfl) (by exact ⟨findRatL_ok, trivial⟩) (fun x y h => (findRat_run x).trans h)

def hasRat : List ((Int × Int)) × Unit → Option (Bool) :=
fun x => ob (findRat (x.1, x.2)) fun y => some (decide ((0 : Int) ≤ y))
def hasRat_con : Con := ⟨[.slice (.pair (i64) (i64)), .clo 80 (.unit)], [.d (.bool)], hasRat⟩
theorem hasRat_run (x : Dens [.slice (.pair (i64) (i64)), .clo 80 (.unit)]) : runFn (mkEnv [(107, findRat_con)] []) Try.f79 [.slice (.pair (i64) (i64)), .clo 80 (.unit)] [.d (.bool)] x = hasRat x := by kernel_rfl
theorem hasRat_ok : hasRat_con.ok Try.prog 79 := fn_ok (con := hasRat_con) (mkEnv_ok (cons := [(107, findRat_con)]) ⟨findRat_ok, trivial⟩ []) Try.func79 rfl (by kernel_rfl) (by exact trivial) (fun x y h => (hasRat_run x).trans h)

def speedsOIL_vars : Vars := [(2, .box 0 33 (.pair (.slice (.pair (.str) (.slice (i64)))) (.slice (.pair (i64) (.pair (i64) (.pair (i64) (i64))))))), (6, .row 0 72 (.pair (i64) (i64))), (35, .val (.slice (.pair (i64) (.pair (i64) (.pair (i64) (i64)))))), (36, .val (i64)), (37, .val (i64))]
def speedsOIL_rv : Vars := [(4, .row 0 72 (.pair (i64) (i64))), (5, .val (i64))]
def speedsOIL_step : (List ((ByteArray × List (Int))) × List ((Int × Int × Int × Int))) × List ((Int × Int)) × List ((Int × Int × Int × Int)) × Int × Int → Option (LS ((List ((ByteArray × List (Int))) × List ((Int × Int × Int × Int))) × List ((Int × Int)) × List ((Int × Int × Int × Int)) × Int × Int) (List ((Int × Int)) × Int)) :=
fun x =>
  br (decide (x.snd.snd.snd.2 < x.snd.snd.snd.1))
    (ob (idx x.snd.snd.1 x.snd.snd.snd.2) fun y =>
      ob (pairWI ((x.fst.1, x.fst.2), y.1, y.snd.1, y.snd.snd.1, y.snd.snd.2)) fun y_1 =>
        ob (idx x.snd.1 y.1) fun x_1 =>
          ob (List.get?Internal x.snd.1 (Int.toNat y.1)) fun x_2 =>
            ob (meshedI ((x_2.1, x_2.2), y_1.1, y_1.2)) fun y_2 =>
              br (y_2.2 != (0 : Int)) (some (LS.ret ([], (10 : Int))))
                (ob (idx x.snd.1 y.snd.snd.1) fun x_3 =>
                  ob (List.get?Internal x.snd.1 (Int.toNat y.snd.snd.1)) fun x_4 =>
                    br (!(y_2.fst.1 == x_4.1 && y_2.fst.2 == x_4.2)) (some (LS.ret ([], (10 : Int))))
                      (some
                        (LS.next
                          ((x.fst.1, x.fst.2), x.snd.1, x.snd.snd.1, x.snd.snd.snd.1,
                            IntKind.i64.wrap (x.snd.snd.snd.2 + (1 : Int)))))))
    (some (LS.out ((x.fst.1, x.fst.2), x.snd.1, x.snd.snd.1, x.snd.snd.snd.1, x.snd.snd.snd.2)))
def speedsOIL_fuel : (List ((ByteArray × List (Int))) × List ((Int × Int × Int × Int))) × List ((Int × Int)) × List ((Int × Int × Int × Int)) × Int × Int → Nat := fun s => (s.2.2.2.1 - s.2.2.2.2).toNat + 1
def speedsOIL : (List ((ByteArray × List (Int))) × List ((Int × Int × Int × Int))) × List ((Int × Int)) × List ((Int × Int × Int × Int)) × Int × Int → Option (Sum ((List ((ByteArray × List (Int))) × List ((Int × Int × Int × Int))) × List ((Int × Int)) × List ((Int × Int × Int × Int)) × Int × Int) (List ((Int × Int)) × Int)) := fun s => iterA speedsOIL_step (speedsOIL_fuel s) s
def speedsOIL_L : LoopC := ⟨speedsOIL_vars, 0, .alt speedsOIL_rv speedsOIL⟩
noncomputable def speedsOIL_key : Nat := key (loopAt Try.f34 0)
theorem speedsOIL_stepok (x : speedsOIL_vars.den) : stepOfA (mkEnv [(75, pairWI_con), (81, meshedI_con)] []) Try.f34.ntmps speedsOIL_vars speedsOIL_rv 0 (loopAt Try.f34 0) x = speedsOIL_step x := by kernel_rfl
theorem speedsOIL_ok : LoopOK Try.prog Try.f34.ntmps speedsOIL_L (loopAt Try.f34 0)   := iterA_loop (n := Try.f34.ntmps) (vs := speedsOIL_vars) (rv := speedsOIL_rv) (out := 0) (body := loopAt Try.f34 0) (mkEnv_ok (cons := [(75, pairWI_con), (81, meshedI_con)]) ⟨pairWI_ok, meshedI_ok, trivial⟩ []) speedsOIL_step speedsOIL_fuel (by exact trivial) speedsOIL_stepok

def speedsOI : (List ((ByteArray × List (Int))) × List ((Int × Int × Int × Int))) × Int → Option (List ((Int × Int)) × Int) :=
fun x =>
  ob (validWI (x.fst.1, x.fst.2)) fun y =>
    br (!y) (some ([], (1 : Int)))
      (ob (withinP (x.2, (0 : Int), IntKind.i64.wrap ((↑(List.length x.fst.1) : Int) - (1 : Int)))) fun y =>
        br (!y) (some ([], (2 : Int)))
          (ob (speedsFI ((x.fst.1, x.fst.2), x.2)) fun y =>
            br (y.2 != (0 : Int)) (some ([], y.2))
              (ob (hasRat (y.1, PUnit.unit)) fun y_1 =>
                br y_1 (some ([], (6 : Int)))
                  (ob (speedsOIL ((x.fst.1, x.fst.2), y.1, x.fst.2, (↑(List.length x.fst.2) : Int), (0 : Int))) fun r =>
                    el r (fun r => some (r.snd.1, (0 : Int))) fun r => some (r.1, r.2)))))
def speedsOI_con : Con := ⟨[.pair (.slice (.pair (.str) (.slice (i64)))) (.slice (.pair (i64) (.pair (i64) (.pair (i64) (i64))))), i64], [.row 72 (.pair (i64) (i64)), .d (i64)], speedsOI⟩
theorem speedsOI_run (x : Dens [.pair (.slice (.pair (.str) (.slice (i64)))) (.slice (.pair (i64) (.pair (i64) (.pair (i64) (i64))))), i64]) : runFn (mkEnv [(49, validWI_con), (50, withinP_con), (78, speedsFI_con), (79, hasRat_con)] [(speedsOIL_key, speedsOIL_L)]) Try.f34 [.pair (.slice (.pair (.str) (.slice (i64)))) (.slice (.pair (i64) (.pair (i64) (.pair (i64) (i64))))), i64] [.row 72 (.pair (i64) (i64)), .d (i64)] x = speedsOI x := by kernel_rfl
theorem speedsOI_ok : speedsOI_con.ok Try.prog 34 := fn_ok (con := speedsOI_con) (mkEnv_ok (cons := [(49, validWI_con), (50, withinP_con), (78, speedsFI_con), (79, hasRat_con)]) ⟨validWI_ok, withinP_ok, speedsFI_ok, hasRat_ok, trivial⟩ [(speedsOIL_key, speedsOIL_L)]) Try.func34 rfl (by kernel_rfl) (by exact ⟨speedsOIL_ok, trivial⟩) (fun x y h => (speedsOI_run x).trans h)

def rootS : (List ((ByteArray × List (Int))) × List ((Int × Int × Int × Int))) × Int → Option (Bool) :=
fun x => ob (inP (x.2, (0 : Int), IntKind.i64.wrap ((↑(List.length x.fst.1) : Int) - (1 : Int)))) fun y => some y
def rootS_con : Con := ⟨[.ref (.pair (.slice (.pair (.str) (.slice (i64)))) (.slice (.pair (i64) (.pair (i64) (.pair (i64) (i64)))))), i64], [.d (.bool)], rootS⟩
theorem rootS_run (x : Dens [.ref (.pair (.slice (.pair (.str) (.slice (i64)))) (.slice (.pair (i64) (.pair (i64) (.pair (i64) (i64)))))), i64]) : runFn (mkEnv [(114, inP_con)] []) Try.f88 [.ref (.pair (.slice (.pair (.str) (.slice (i64)))) (.slice (.pair (i64) (.pair (i64) (.pair (i64) (i64)))))), i64] [.d (.bool)] x = rootS x := by kernel_rfl
theorem rootS_ok : rootS_con.ok Try.prog 88 := fn_ok (con := rootS_con) (mkEnv_ok (cons := [(114, inP_con)]) ⟨inP_ok, trivial⟩ []) Try.func88 rfl (by kernel_rfl) (by exact trivial) (fun x y h => (rootS_run x).trans h)

def roundSL_vars : Vars := [(0, .val (.ref (.pair (.slice (.pair (.str) (.slice (i64)))) (.slice (.pair (i64) (.pair (i64) (.pair (i64) (i64)))))))), (1, .row 2 4 (.bool)), (2, .row 4 72 (.pair (i64) (i64))), (8, .val (.bool)), (9, .val (i64))]
def roundSL_rv : Vars := [(1, .row 2 4 (.bool)), (2, .row 4 72 (.pair (i64) (i64))), (6, .val (.bool)), (7, .val (.bool))]
def roundSL_step : (List ((ByteArray × List (Int))) × List ((Int × Int × Int × Int))) × List (Bool) × List ((Int × Int)) × Bool × Int → Option (LS ((List ((ByteArray × List (Int))) × List ((Int × Int × Int × Int))) × List (Bool) × List ((Int × Int)) × Bool × Int) (List (Bool) × List ((Int × Int)) × Bool × Bool)) :=
fun x =>
  br (decide (x.snd.snd.snd.2 < (↑(List.length x.fst.2) : Int)))
    (ob (idx x.fst.2 x.snd.snd.snd.2) fun y =>
      ob (pairWS (x.1, y.1, y.snd.1, y.snd.snd.1, y.snd.snd.2)) fun y_1 =>
        ob (idx x.snd.1 y.1) fun x_1 =>
          ob (List.get?Internal x.snd.1 (Int.toNat y.1)) fun x_2 =>
            ob (idx x.snd.1 y.snd.snd.1) fun x_3 =>
              ob (List.get?Internal x.snd.1 (Int.toNat y.snd.snd.1)) fun x_4 =>
                br (x_2 == x_4)
                  (some
                    (LS.next
                      (x.1, x.snd.1, x.snd.snd.1, x.snd.snd.snd.1, IntKind.i64.wrap (x.snd.snd.snd.2 + (1 : Int)))))
                  (ob (idx x.snd.1 y.snd.snd.1) fun x_5 =>
                    ob (List.get?Internal x.snd.1 (Int.toNat y.snd.snd.1)) fun x_6 =>
                      br x_6
                        (ob (mkS (IntKind.i64.wrap ((0 : Int) - y_1.2), y_1.1)) fun y_2 =>
                          ob (idx x.snd.snd.1 y.snd.snd.1) fun x_7 =>
                            ob (List.get?Internal x.snd.snd.1 (Int.toNat y.snd.snd.1)) fun x_8 =>
                              ob (mulS ((x_8.1, x_8.2), y_2.fst.1, y_2.fst.2)) fun y_3 =>
                                br (!y_3.2) (some (LS.ret (x.snd.1, x.snd.snd.1, false, false)))
                                  (ob (idx x.snd.snd.1 y.1) fun x_9 =>
                                    ob (List.get?Internal x.snd.snd.1 (Int.toNat y.1)) fun x_10 =>
                                      ob (idx x.snd.1 y.1) fun x_11 =>
                                        ob (List.get?Internal x.snd.1 (Int.toNat y.1)) fun x_12 =>
                                          some
                                            (LS.next
                                              (x.1, List.set x.snd.1 (Int.toNat y.1) true,
                                                List.set x.snd.snd.1 (Int.toNat y.1) (y_3.fst.1, y_3.fst.2), true,
                                                IntKind.i64.wrap (x.snd.snd.snd.2 + (1 : Int))))))
                        (ob (mkS (IntKind.i64.wrap ((0 : Int) - y_1.1), y_1.2)) fun y_2 =>
                          ob (idx x.snd.snd.1 y.1) fun x_7 =>
                            ob (List.get?Internal x.snd.snd.1 (Int.toNat y.1)) fun x_8 =>
                              ob (mulS ((x_8.1, x_8.2), y_2.fst.1, y_2.fst.2)) fun y_3 =>
                                br (!y_3.2) (some (LS.ret (x.snd.1, x.snd.snd.1, false, false)))
                                  (ob (idx x.snd.snd.1 y.snd.snd.1) fun x_9 =>
                                    ob (List.get?Internal x.snd.snd.1 (Int.toNat y.snd.snd.1)) fun x_10 =>
                                      ob (idx x.snd.1 y.snd.snd.1) fun x_11 =>
                                        ob (List.get?Internal x.snd.1 (Int.toNat y.snd.snd.1)) fun x_12 =>
                                          some
                                            (LS.next
                                              (x.1, List.set x.snd.1 (Int.toNat y.snd.snd.1) true,
                                                List.set x.snd.snd.1 (Int.toNat y.snd.snd.1) (y_3.fst.1, y_3.fst.2),
                                                true, IntKind.i64.wrap (x.snd.snd.snd.2 + (1 : Int))))))))
    (some (LS.out (x.1, x.snd.1, x.snd.snd.1, x.snd.snd.snd.1, x.snd.snd.snd.2)))
def roundSL_fuel : (List ((ByteArray × List (Int))) × List ((Int × Int × Int × Int))) × List (Bool) × List ((Int × Int)) × Bool × Int → Nat := fun s => (s.1.2.length - s.2.2.2.2.toNat) + 1
def roundSL : (List ((ByteArray × List (Int))) × List ((Int × Int × Int × Int))) × List (Bool) × List ((Int × Int)) × Bool × Int → Option (Sum ((List ((ByteArray × List (Int))) × List ((Int × Int × Int × Int))) × List (Bool) × List ((Int × Int)) × Bool × Int) (List (Bool) × List ((Int × Int)) × Bool × Bool)) := fun s => iterA roundSL_step (roundSL_fuel s) s
def roundSL_L : LoopC := ⟨roundSL_vars, 0, .alt roundSL_rv roundSL⟩
noncomputable def roundSL_key : Nat := key (loopAt Try.f105 0)
theorem roundSL_stepok (x : roundSL_vars.den) : stepOfA (mkEnv [(74, pairWS_con), (117, mkS_con), (87, mulS_con)] []) Try.f105.ntmps roundSL_vars roundSL_rv 0 (loopAt Try.f105 0) x = roundSL_step x := by kernel_rfl
theorem roundSL_ok : LoopOK Try.prog Try.f105.ntmps roundSL_L (loopAt Try.f105 0)   := iterA_loop (n := Try.f105.ntmps) (vs := roundSL_vars) (rv := roundSL_rv) (out := 0) (body := loopAt Try.f105 0) (mkEnv_ok (cons := [(74, pairWS_con), (117, mkS_con), (87, mulS_con)]) ⟨pairWS_ok, mkS_ok, mulS_ok, trivial⟩ []) roundSL_step roundSL_fuel (by exact trivial) roundSL_stepok

def roundS : (List ((ByteArray × List (Int))) × List ((Int × Int × Int × Int))) × List (Bool) × List ((Int × Int)) → Option ((Bool × Bool) × ((List ((ByteArray × List (Int))) × List ((Int × Int × Int × Int))) × List (Bool) × List ((Int × Int)))) :=
fun x =>
  ob (roundSL (x.1, x.snd.1, x.snd.2, false, (0 : Int))) fun r =>
    el r (fun r => some ((r.snd.snd.snd.1, true), x.1, r.snd.1, r.snd.snd.1)) fun r =>
      some ((r.snd.snd.1, r.snd.snd.2), x.1, r.1, r.snd.1)
def roundS_con : MCon := ⟨[.v (.d (.ref (.pair (.slice (.pair (.str) (.slice (i64)))) (.slice (.pair (i64) (.pair (i64) (.pair (i64) (i64)))))))), .v (.row 4 (.bool)), .v (.row 72 (.pair (i64) (i64)))], [.d (.bool), .d (.bool)], roundS⟩
theorem roundS_run (x : ADens [.v (.d (.ref (.pair (.slice (.pair (.str) (.slice (i64)))) (.slice (.pair (i64) (.pair (i64) (.pair (i64) (i64)))))))), .v (.row 4 (.bool)), .v (.row 72 (.pair (i64) (i64)))]) : runFnM (mkEnv [(74, pairWS_con), (117, mkS_con), (87, mulS_con)] [(roundSL_key, roundSL_L)]) Try.f105 [.v (.d (.ref (.pair (.slice (.pair (.str) (.slice (i64)))) (.slice (.pair (i64) (.pair (i64) (.pair (i64) (i64)))))))), .v (.row 4 (.bool)), .v (.row 72 (.pair (i64) (i64)))] [.d (.bool), .d (.bool)] x = roundS x := by kernel_rfl
theorem roundS_ok : roundS_con.ok Try.prog 105 := fnM_ok (con := roundS_con) (mkEnv_ok (cons := [(74, pairWS_con), (117, mkS_con), (87, mulS_con)]) ⟨pairWS_ok, mkS_ok, mulS_ok, trivial⟩ [(roundSL_key, roundSL_L)]) Try.func105 rfl (by kernel_rfl) (by exact ⟨roundSL_ok, trivial⟩) (fun x y h => (roundS_run x).trans h)

def fitsS : (List ((ByteArray × List (Int))) × List ((Int × Int × Int × Int))) × (Int × Int × Int × Int) × List ((Int × Int)) → Option (Bool) :=
fun x =>
  ob (pairWS (x.1, x.snd.fst.1, x.snd.fst.snd.1, x.snd.fst.snd.snd.1, x.snd.fst.snd.snd.2)) fun y =>
    ob (mkS (IntKind.i64.wrap ((0 : Int) - y.1), y.2)) fun y =>
      ob (idx x.snd.2 x.snd.fst.1) fun y_1 =>
        ob (mulS ((y_1.1, y_1.2), y.fst.1, y.fst.2)) fun y =>
          br y.2 (ob (idx x.snd.2 x.snd.fst.snd.snd.1) fun y_2 => some (y.fst.1 == y_2.1 && y.fst.2 == y_2.2))
            (some false)
def fitsS_con : Con := ⟨[.ref (.pair (.slice (.pair (.str) (.slice (i64)))) (.slice (.pair (i64) (.pair (i64) (.pair (i64) (i64)))))), .pair (i64) (.pair (i64) (.pair (i64) (i64))), .slice (.pair (i64) (i64))], [.d (.bool)], fitsS⟩
theorem fitsS_run (x : Dens [.ref (.pair (.slice (.pair (.str) (.slice (i64)))) (.slice (.pair (i64) (.pair (i64) (.pair (i64) (i64)))))), .pair (i64) (.pair (i64) (.pair (i64) (i64))), .slice (.pair (i64) (i64))]) : runFn (mkEnv [(74, pairWS_con), (117, mkS_con), (87, mulS_con)] []) Try.f106 [.ref (.pair (.slice (.pair (.str) (.slice (i64)))) (.slice (.pair (i64) (.pair (i64) (.pair (i64) (i64)))))), .pair (i64) (.pair (i64) (.pair (i64) (i64))), .slice (.pair (i64) (i64))] [.d (.bool)] x = fitsS x := by kernel_rfl
theorem fitsS_ok : fitsS_con.ok Try.prog 106 := fn_ok (con := fitsS_con) (mkEnv_ok (cons := [(74, pairWS_con), (117, mkS_con), (87, mulS_con)]) ⟨pairWS_ok, mkS_ok, mulS_ok, trivial⟩ []) Try.func106 rfl (by kernel_rfl) (by exact trivial) (fun x y h => (fitsS_run x).trans h)

def speedsSL_vars : Vars := [(0, .val (.ref (.pair (.slice (.pair (.str) (.slice (i64)))) (.slice (.pair (i64) (.pair (i64) (.pair (i64) (i64)))))))), (6, .row 0 4 (.bool)), (7, .row 0 72 (.pair (i64) (i64))), (8, .val (.bool))]
def speedsSL_rv : Vars := [(4, .row 0 72 (.pair (i64) (i64))), (5, .val (i64))]
def speedsSL_step : (List ((ByteArray × List (Int))) × List ((Int × Int × Int × Int))) × List (Bool) × List ((Int × Int)) × Bool → Option (LS ((List ((ByteArray × List (Int))) × List ((Int × Int × Int × Int))) × List (Bool) × List ((Int × Int)) × Bool) (List ((Int × Int)) × Int)) :=
fun x =>
  br x.snd.snd.2
    (ob (roundS (x.1, x.snd.1, x.snd.snd.1)) fun y =>
      br (!y.fst.2) (some (LS.ret ([], (2 : Int)))) (some (LS.next (x.1, y.snd.snd.1, y.snd.snd.2, y.fst.1))))
    (some (LS.out (x.1, x.snd.1, x.snd.snd.1, x.snd.snd.2)))
def speedsSL_fuel : (List ((ByteArray × List (Int))) × List ((Int × Int × Int × Int))) × List (Bool) × List ((Int × Int)) × Bool → Nat := fun s => s.1.1.length + 2
def speedsSL : (List ((ByteArray × List (Int))) × List ((Int × Int × Int × Int))) × List (Bool) × List ((Int × Int)) × Bool → Option (Sum ((List ((ByteArray × List (Int))) × List ((Int × Int × Int × Int))) × List (Bool) × List ((Int × Int)) × Bool) (List ((Int × Int)) × Int)) := fun s => iterA speedsSL_step (speedsSL_fuel s) s
def speedsSL_L : LoopC := ⟨speedsSL_vars, 0, .alt speedsSL_rv speedsSL⟩
noncomputable def speedsSL_key : Nat := key (loopAt Try.f77 0)
theorem speedsSL_stepok (x : speedsSL_vars.den) : stepOfA (mkEnvM [] [(105, roundS_con)] []) Try.f77.ntmps speedsSL_vars speedsSL_rv 0 (loopAt Try.f77 0) x = speedsSL_step x := by kernel_rfl
theorem speedsSL_ok : LoopOK Try.prog Try.f77.ntmps speedsSL_L (loopAt Try.f77 0)   := iterA_loop (n := Try.f77.ntmps) (vs := speedsSL_vars) (rv := speedsSL_rv) (out := 0) (body := loopAt Try.f77 0) (mkEnvM_ok (cons := []) (mcons := [(105, roundS_con)]) trivial ⟨roundS_ok, trivial⟩ []) speedsSL_step speedsSL_fuel (by exact trivial) speedsSL_stepok

def speedsSK_vars : Vars := [(0, .val (.ref (.pair (.slice (.pair (.str) (.slice (i64)))) (.slice (.pair (i64) (.pair (i64) (.pair (i64) (i64)))))))), (6, .row 0 4 (.bool)), (7, .row 0 72 (.pair (i64) (i64))), (11, .val (i64))]
def speedsSK_rv : Vars := [(4, .row 0 72 (.pair (i64) (i64))), (5, .val (i64))]
def speedsSK_step : (List ((ByteArray × List (Int))) × List ((Int × Int × Int × Int))) × List (Bool) × List ((Int × Int)) × Int → Option (LS ((List ((ByteArray × List (Int))) × List ((Int × Int × Int × Int))) × List (Bool) × List ((Int × Int)) × Int) (List ((Int × Int)) × Int)) :=
fun x =>
  br (decide (x.snd.snd.2 < (↑(List.length x.snd.1) : Int)))
    (ob (idx x.snd.1 x.snd.snd.2) fun x_1 =>
      ob (List.get?Internal x.snd.1 (Int.toNat x.snd.snd.2)) fun x_2 =>
        br (!x_2) (some (LS.ret ([], (6 : Int))))
          (some (LS.next (x.1, x.snd.1, x.snd.snd.1, IntKind.i64.wrap (x.snd.snd.2 + (1 : Int))))))
    (some (LS.out (x.1, x.snd.1, x.snd.snd.1, x.snd.snd.2)))
def speedsSK_fuel : (List ((ByteArray × List (Int))) × List ((Int × Int × Int × Int))) × List (Bool) × List ((Int × Int)) × Int → Nat := fun s => (s.2.1.length - s.2.2.2.toNat) + 1
def speedsSK : (List ((ByteArray × List (Int))) × List ((Int × Int × Int × Int))) × List (Bool) × List ((Int × Int)) × Int → Option (Sum ((List ((ByteArray × List (Int))) × List ((Int × Int × Int × Int))) × List (Bool) × List ((Int × Int)) × Int) (List ((Int × Int)) × Int)) := fun s => iterA speedsSK_step (speedsSK_fuel s) s
def speedsSK_L : LoopC := ⟨speedsSK_vars, 2, .alt speedsSK_rv speedsSK⟩
noncomputable def speedsSK_key : Nat := key (loopAt Try.f77 1)
theorem speedsSK_stepok (x : speedsSK_vars.den) : stepOfA (mkEnv [] []) Try.f77.ntmps speedsSK_vars speedsSK_rv 2 (loopAt Try.f77 1) x = speedsSK_step x := by kernel_rfl
theorem speedsSK_ok : LoopOK Try.prog Try.f77.ntmps speedsSK_L (loopAt Try.f77 1)   := iterA_loop (n := Try.f77.ntmps) (vs := speedsSK_vars) (rv := speedsSK_rv) (out := 2) (body := loopAt Try.f77 1) (mkEnv_ok (cons := []) trivial []) speedsSK_step speedsSK_fuel (by exact trivial) speedsSK_stepok

def speedsSF_vars : Vars := [(0, .val (.ref (.pair (.slice (.pair (.str) (.slice (i64)))) (.slice (.pair (i64) (.pair (i64) (.pair (i64) (i64)))))))), (7, .row 0 72 (.pair (i64) (i64))), (12, .val (i64))]
def speedsSF_rv : Vars := [(4, .row 0 72 (.pair (i64) (i64))), (5, .val (i64))]
def speedsSF_step : (List ((ByteArray × List (Int))) × List ((Int × Int × Int × Int))) × List ((Int × Int)) × Int → Option (LS ((List ((ByteArray × List (Int))) × List ((Int × Int × Int × Int))) × List ((Int × Int)) × Int) (List ((Int × Int)) × Int)) :=
fun x =>
  br (decide (x.snd.2 < (↑(List.length x.fst.2) : Int)))
    (ob (idx x.fst.2 x.snd.2) fun y =>
      ob (fitsS (x.1, (y.1, y.snd.1, y.snd.snd.1, y.snd.snd.2), x.snd.1)) fun y =>
        br (!y) (some (LS.ret ([], (10 : Int))))
          (some (LS.next (x.1, x.snd.1, IntKind.i64.wrap (x.snd.2 + (1 : Int))))))
    (some (LS.out (x.1, x.snd.1, x.snd.2)))
def speedsSF_fuel : (List ((ByteArray × List (Int))) × List ((Int × Int × Int × Int))) × List ((Int × Int)) × Int → Nat := fun s => (s.1.2.length - s.2.2.toNat) + 1
def speedsSF : (List ((ByteArray × List (Int))) × List ((Int × Int × Int × Int))) × List ((Int × Int)) × Int → Option (Sum ((List ((ByteArray × List (Int))) × List ((Int × Int × Int × Int))) × List ((Int × Int)) × Int) (List ((Int × Int)) × Int)) := fun s => iterA speedsSF_step (speedsSF_fuel s) s
def speedsSF_L : LoopC := ⟨speedsSF_vars, 4, .alt speedsSF_rv speedsSF⟩
noncomputable def speedsSF_key : Nat := key (loopAt Try.f77 2)
theorem speedsSF_stepok (x : speedsSF_vars.den) : stepOfA (mkEnv [(106, fitsS_con)] []) Try.f77.ntmps speedsSF_vars speedsSF_rv 4 (loopAt Try.f77 2) x = speedsSF_step x := by kernel_rfl
theorem speedsSF_ok : LoopOK Try.prog Try.f77.ntmps speedsSF_L (loopAt Try.f77 2)   := iterA_loop (n := Try.f77.ntmps) (vs := speedsSF_vars) (rv := speedsSF_rv) (out := 4) (body := loopAt Try.f77 2) (mkEnv_ok (cons := [(106, fitsS_con)]) ⟨fitsS_ok, trivial⟩ []) speedsSF_step speedsSF_fuel (by exact trivial) speedsSF_stepok

def speedsS : (List ((ByteArray × List (Int))) × List ((Int × Int × Int × Int))) × Int → Option (List ((Int × Int)) × Int) :=
fun x =>
  ob (rootS (x.1, x.2)) fun y =>
    br (!y) (some ([], (2 : Int)))
      (br
        (decide
          ((0 : Int) ≤ (↑(List.length x.fst.1) : Int) ∧
            (↑(List.length x.fst.1) : Int) = (↑(List.length x.fst.1) : Int) ∧
              (↑(List.length x.fst.1) : Int) ≤ (1048576 : Int)))
        (br
          (decide
            ((0 : Int) ≤ (↑(List.length x.fst.1) : Int) ∧
              (↑(List.length x.fst.1) : Int) = (↑(List.length x.fst.1) : Int) ∧
                (↑(List.length x.fst.1) : Int) ≤ (1048576 : Int)))
          (ob (idx (List.replicate (↑(List.length x.fst.1) : Int).toNat false) x.2) fun x_1 =>
            ob ((List.replicate (↑(List.length x.fst.1) : Int).toNat false).get?Internal x.2.toNat) fun x_2 =>
              ob (wholeS (1 : Int)) fun y =>
                ob (idx (List.replicate (↑(List.length x.fst.1) : Int).toNat ((0 : Int), (0 : Int))) x.2) fun x_3 =>
                  ob
                    ((List.replicate (↑(List.length x.fst.1) : Int).toNat ((0 : Int), (0 : Int))).get?Internal
                      x.2.toNat)
                    fun x_4 =>
                    ob
                      (speedsSL
                        (x.1, (List.replicate (↑(List.length x.fst.1) : Int).toNat false).set x.2.toNat true,
                          (List.replicate (↑(List.length x.fst.1) : Int).toNat ((0 : Int), (0 : Int))).set x.2.toNat
                            (y.1, y.2),
                          true))
                      fun r =>
                      el r
                        (fun r =>
                          ob (speedsSK (r.1, r.snd.1, r.snd.snd.1, (0 : Int))) fun r =>
                            el r
                              (fun r =>
                                ob (speedsSF (r.1, r.snd.snd.1, (0 : Int))) fun r =>
                                  el r (fun r => some (r.snd.1, (0 : Int))) fun r => some (r.1, r.2))
                              fun r => some (r.1, r.2))
                        fun r => some (r.1, r.2))
          none)
        none)
def speedsS_con : Con := ⟨[.ref (.pair (.slice (.pair (.str) (.slice (i64)))) (.slice (.pair (i64) (.pair (i64) (.pair (i64) (i64)))))), i64], [.row 72 (.pair (i64) (i64)), .d (i64)], speedsS⟩
theorem speedsS_run (x : Dens [.ref (.pair (.slice (.pair (.str) (.slice (i64)))) (.slice (.pair (i64) (.pair (i64) (.pair (i64) (i64)))))), i64]) : runFn (mkEnvM [(88, rootS_con), (104, wholeS_con), (106, fitsS_con)] [(105, roundS_con)] [(speedsSL_key, speedsSL_L), (speedsSK_key, speedsSK_L), (speedsSF_key, speedsSF_L)]) Try.f77 [.ref (.pair (.slice (.pair (.str) (.slice (i64)))) (.slice (.pair (i64) (.pair (i64) (.pair (i64) (i64)))))), i64] [.row 72 (.pair (i64) (i64)), .d (i64)] x = speedsS x := by kernel_rfl
theorem speedsS_ok : speedsS_con.ok Try.prog 77 := fn_ok (con := speedsS_con) (mkEnvM_ok (cons := [(88, rootS_con), (104, wholeS_con), (106, fitsS_con)]) (mcons := [(105, roundS_con)]) ⟨rootS_ok, wholeS_ok, fitsS_ok, trivial⟩ ⟨roundS_ok, trivial⟩ [(speedsSL_key, speedsSL_L), (speedsSK_key, speedsSK_L), (speedsSF_key, speedsSF_L)]) Try.func77 rfl (by kernel_rfl) (by exact ⟨speedsSL_ok, speedsSK_ok, speedsSF_ok, trivial⟩) (fun x y h => (speedsS_run x).trans h)

def speedsOS : (List ((ByteArray × List (Int))) × List ((Int × Int × Int × Int))) × Int → Option (List ((Int × Int)) × Int) :=
fun x =>
  ob (okWS (x.fst.1, x.fst.2)) fun y =>
    br (!y) (some ([], (1 : Int))) (ob (speedsS ((x.fst.1, x.fst.2), x.2)) fun y => some (y.1, y.2))
def speedsOS_con : Con := ⟨[.pair (.slice (.pair (.str) (.slice (i64)))) (.slice (.pair (i64) (.pair (i64) (.pair (i64) (i64))))), i64], [.row 72 (.pair (i64) (i64)), .d (i64)], speedsOS⟩
theorem speedsOS_run (x : Dens [.pair (.slice (.pair (.str) (.slice (i64)))) (.slice (.pair (i64) (.pair (i64) (.pair (i64) (i64))))), i64]) : runFn (mkEnv [(45, okWS_con), (77, speedsS_con)] []) Try.f33 [.pair (.slice (.pair (.str) (.slice (i64)))) (.slice (.pair (i64) (.pair (i64) (.pair (i64) (i64))))), i64] [.row 72 (.pair (i64) (i64)), .d (i64)] x = speedsOS x := by kernel_rfl
theorem speedsOS_ok : speedsOS_con.ok Try.prog 33 := fn_ok (con := speedsOS_con) (mkEnv_ok (cons := [(45, okWS_con), (77, speedsS_con)]) ⟨okWS_ok, speedsS_ok, trivial⟩ []) Try.func33 rfl (by kernel_rfl) (by exact trivial) (fun x y h => (speedsOS_run x).trans h)

def eqRatL1 : (Int × Int) × (Int × Int) → Option (Bool) :=
fun x => br (x.fst.1 != x.snd.1) (some false) (br (x.fst.2 != x.snd.2) (some false) (some true))
def eqRatL1_con : Con := ⟨[.pair (i64) (i64), .pair (i64) (i64)], [.d (.bool)], eqRatL1⟩
theorem eqRatL1_run (x : Dens [.pair (i64) (i64), .pair (i64) (i64)]) : runFn (mkEnv [] []) Try.f82 [.pair (i64) (i64), .pair (i64) (i64)] [.d (.bool)] x = eqRatL1 x := by kernel_rfl
theorem eqRatL1_ok : eqRatL1_con.ok Try.prog 82 := fn_ok (con := eqRatL1_con) (mkEnv_ok (cons := []) trivial []) Try.func82 rfl (by kernel_rfl) (by exact trivial) (fun x y h => (eqRatL1_run x).trans h)

def eqRatSL_vars : Vars := [(0, .val (.slice (.pair (i64) (i64)))), (1, .val (.slice (.pair (i64) (i64)))), (4, .val (.bool)), (5, .val (i64))]
def eqRatSL_step : List ((Int × Int)) × List ((Int × Int)) × Bool × Int → Option (LRes × (List ((Int × Int)) × List ((Int × Int)) × Bool × Int)) :=
fun x =>
  br (decide (x.snd.snd.2 < (↑x.1.length : Int)))
    (ob (idx x.1 x.snd.snd.2) fun y =>
      ob (idx x.snd.1 x.snd.snd.2) fun y_1 =>
        ob (eqRatL1 ((y.1, y.2), y_1.1, y_1.2)) fun y =>
          br (!y) (some (LRes.ret, x.1, x.snd.1, false, x.snd.snd.2))
            (some (LRes.next, x.1, x.snd.1, x.snd.snd.1, IntKind.i64.wrap (x.snd.snd.2 + (1 : Int)))))
    (some (LRes.out, x.1, x.snd.1, x.snd.snd.1, x.snd.snd.2))
def eqRatSL_fuel : List ((Int × Int)) × List ((Int × Int)) × Bool × Int → Nat := fun s => (s.1.length - s.2.2.2.toNat) + 1
def eqRatSL : List ((Int × Int)) × List ((Int × Int)) × Bool × Int → Option (Bool × (List ((Int × Int)) × List ((Int × Int)) × Bool × Int)) := fun s => iter eqRatSL_step (eqRatSL_fuel s) s
def eqRatSL_L : LoopC := ⟨eqRatSL_vars, 0, .two eqRatSL⟩
noncomputable def eqRatSL_key : Nat := key (loopAt Try.f35 0)
theorem eqRatSL_stepok (x : eqRatSL_vars.den) : stepOf (mkEnv [(82, eqRatL1_con)] []) Try.f35.ntmps eqRatSL_vars 0 (loopAt Try.f35 0) x = eqRatSL_step x := by kernel_rfl
theorem eqRatSL_ok : LoopOK Try.prog Try.f35.ntmps eqRatSL_L (loopAt Try.f35 0)   := iter_loop (n := Try.f35.ntmps) (vs := eqRatSL_vars) (out := 0) (body := loopAt Try.f35 0) (mkEnv_ok (cons := [(82, eqRatL1_con)]) ⟨eqRatL1_ok, trivial⟩ []) eqRatSL_step eqRatSL_fuel (by exact trivial) eqRatSL_stepok

def eqRatS : List ((Int × Int)) × List ((Int × Int)) → Option (Bool) :=
fun x =>
  br ((↑x.1.length : Int) != (↑x.2.length : Int)) (some false)
    (ob (eqRatSL (x.1, x.2, false, (0 : Int))) fun r => br r.1 (some true) (some r.snd.snd.snd.1))
def eqRatS_con : Con := ⟨[.slice (.pair (i64) (i64)), .slice (.pair (i64) (i64))], [.d (.bool)], eqRatS⟩
theorem eqRatS_run (x : Dens [.slice (.pair (i64) (i64)), .slice (.pair (i64) (i64))]) : runFn (mkEnv [] [(eqRatSL_key, eqRatSL_L)]) Try.f35 [.slice (.pair (i64) (i64)), .slice (.pair (i64) (i64))] [.d (.bool)] x = eqRatS x := by kernel_rfl
theorem eqRatS_ok : eqRatS_con.ok Try.prog 35 := fn_ok (con := eqRatS_con) (mkEnv_ok (cons := []) trivial [(eqRatSL_key, eqRatSL_L)]) Try.func35 rfl (by kernel_rfl) (by exact ⟨eqRatSL_ok, trivial⟩) (fun x y h => (eqRatS_run x).trans h)

def markRatL_vars : Vars := [(0, .row 2 72 (.pair (i64) (i64))), (1, .val (i64)), (5, .val (i64))]
def markRatL_step : List ((Int × Int)) × Int × Int → Option (LRes × (List ((Int × Int)) × Int × Int)) :=
fun x =>
  br (decide (x.snd.2 < (↑x.1.length : Int)))
    (ob (idx x.1 x.snd.2) fun x_1 =>
      ob (x.1.get?Internal (Int.toNat x.snd.2)) fun x_2 =>
        ob (idx (x.1.set (Int.toNat x.snd.2) (x.snd.1, x_2.2)) x.snd.2) fun x_3 =>
          ob ((x.1.set (Int.toNat x.snd.2) (x.snd.1, x_2.2)).get?Internal (Int.toNat x.snd.2)) fun x_4 =>
            some
              (LRes.next,
                (x.1.set (Int.toNat x.snd.2) (x.snd.1, x_2.2)).set (Int.toNat x.snd.2)
                  (x_4.1, IntKind.i64.wrap (x.snd.1 + (1 : Int))),
                IntKind.i64.wrap (IntKind.i64.wrap (x.snd.1 + (1 : Int)) + (1 : Int)),
                IntKind.i64.wrap (x.snd.2 + (1 : Int))))
    (some (LRes.out, x.1, x.snd.1, x.snd.2))
def markRatL_fuel : List ((Int × Int)) × Int × Int → Nat := fun s => (s.1.length - s.2.2.toNat) + 1
def markRatL : List ((Int × Int)) × Int × Int → Option (List ((Int × Int)) × Int × Int) := fun s => iterP markRatL_step (markRatL_fuel s) s
def markRatL_L : LoopC := ⟨markRatL_vars, 0, .plain markRatL⟩
noncomputable def markRatL_key : Nat := key (loopAt Try.f36 0)
theorem markRatL_stepok (x : markRatL_vars.den) : stepOf (mkEnv [] []) Try.f36.ntmps markRatL_vars 0 (loopAt Try.f36 0) x = markRatL_step x := by kernel_rfl
theorem markRatL_ok : LoopOK Try.prog Try.f36.ntmps markRatL_L (loopAt Try.f36 0)   := iterP_loop (n := Try.f36.ntmps) (vs := markRatL_vars) (out := 0) (body := loopAt Try.f36 0) (mkEnv_ok (cons := []) trivial []) markRatL_step markRatL_fuel (by exact trivial) markRatL_stepok

def markRat : List ((Int × Int)) × Int → Option ((Int) × (List ((Int × Int)) × Int)) :=
fun x => ob (markRatL (x.1, x.2, (0 : Int))) fun r => some (r.snd.1, r.1, x.2)
def markRat_con : MCon := ⟨[.v (.row 72 (.pair (i64) (i64))), .v (.d (i64))], [.d (i64)], markRat⟩
theorem markRat_run (x : ADens [.v (.row 72 (.pair (i64) (i64))), .v (.d (i64))]) : runFnM (mkEnv [] [(markRatL_key, markRatL_L)]) Try.f36 [.v (.row 72 (.pair (i64) (i64))), .v (.d (i64))] [.d (i64)] x = markRat x := by kernel_rfl
theorem markRat_ok : markRat_con.ok Try.prog 36 := fnM_ok (con := markRat_con) (mkEnv_ok (cons := []) trivial [(markRatL_key, markRatL_L)]) Try.func36 rfl (by kernel_rfl) (by exact ⟨markRatL_ok, trivial⟩) (fun x y h => (markRat_run x).trans h)

def heldRatL_vars : Vars := [(0, .val (.slice (.pair (i64) (i64)))), (1, .val (i64)), (4, .val (i64)), (5, .val (i64))]
def heldRatL_step : List ((Int × Int)) × Int × Int × Int → Option (LRes × (List ((Int × Int)) × Int × Int × Int)) :=
fun x =>
  br (decide (x.snd.snd.2 < (↑x.1.length : Int)))
    (ob (idx x.1 x.snd.snd.2) fun y =>
      br (y.1 != x.snd.1) (some (LRes.ret, x.1, x.snd.1, (-1 : Int), x.snd.snd.2))
        (ob (idx x.1 x.snd.snd.2) fun y =>
          br (y.2 != IntKind.i64.wrap (x.snd.1 + (1 : Int)))
            (some (LRes.ret, x.1, IntKind.i64.wrap (x.snd.1 + (1 : Int)), (-1 : Int), x.snd.snd.2))
            (some
              (LRes.next, x.1, IntKind.i64.wrap (IntKind.i64.wrap (x.snd.1 + (1 : Int)) + (1 : Int)), x.snd.snd.1,
                IntKind.i64.wrap (x.snd.snd.2 + (1 : Int))))))
    (some (LRes.out, x.1, x.snd.1, x.snd.snd.1, x.snd.snd.2))
def heldRatL_fuel : List ((Int × Int)) × Int × Int × Int → Nat := fun s => (s.1.length - s.2.2.2.toNat) + 1
def heldRatL : List ((Int × Int)) × Int × Int × Int → Option (Bool × (List ((Int × Int)) × Int × Int × Int)) := fun s => iter heldRatL_step (heldRatL_fuel s) s
def heldRatL_L : LoopC := ⟨heldRatL_vars, 0, .two heldRatL⟩
noncomputable def heldRatL_key : Nat := key (loopAt Try.f37 0)
theorem heldRatL_stepok (x : heldRatL_vars.den) : stepOf (mkEnv [] []) Try.f37.ntmps heldRatL_vars 0 (loopAt Try.f37 0) x = heldRatL_step x := by kernel_rfl
theorem heldRatL_ok : LoopOK Try.prog Try.f37.ntmps heldRatL_L (loopAt Try.f37 0)   := iter_loop (n := Try.f37.ntmps) (vs := heldRatL_vars) (out := 0) (body := loopAt Try.f37 0) (mkEnv_ok (cons := []) trivial []) heldRatL_step heldRatL_fuel (by exact trivial) heldRatL_stepok

def heldRat : List ((Int × Int)) × Int → Option (Int) :=
fun x => ob (heldRatL (x.1, x.2, (0 : Int), (0 : Int))) fun r => br r.1 (some r.snd.snd.1) (some r.snd.snd.snd.1)
def heldRat_con : Con := ⟨[.slice (.pair (i64) (i64)), i64], [.d (i64)], heldRat⟩
theorem heldRat_run (x : Dens [.slice (.pair (i64) (i64)), i64]) : runFn (mkEnv [] [(heldRatL_key, heldRatL_L)]) Try.f37 [.slice (.pair (i64) (i64)), i64] [.d (i64)] x = heldRat x := by kernel_rfl
theorem heldRat_ok : heldRat_con.ok Try.prog 37 := fn_ok (con := heldRat_con) (mkEnv_ok (cons := []) trivial [(heldRatL_key, heldRatL_L)]) Try.func37 rfl (by kernel_rfl) (by exact ⟨heldRatL_ok, trivial⟩) (fun x y h => (heldRat_run x).trans h)

def lawSpeeds : (List ((ByteArray × List (Int))) × List ((Int × Int × Int × Int))) × Int → Option (Bool) :=
fun x =>
  ob (szWorksL ((x.fst.1, x.fst.2), (1048576 : Int))) fun y =>
    br (decide (y < (0 : Int))) (some true)
      (ob (toWorksD (x.fst.1, x.fst.2)) fun y =>
        ob (speedsOS ((y.1, y.2), x.2)) fun y =>
          ob (toWorksD (x.fst.1, x.fst.2)) fun y_1 =>
            ob (speedsOI ((y_1.1, y_1.2), x.2)) fun y_2 =>
              ob (eqRatS (y_2.1, y.1)) fun y_3 =>
                br (!y_3) (some false)
                  (br (y_2.2 != y.2) (some false)
                    (ob (toWorksD (x.fst.1, x.fst.2)) fun y_4 =>
                      ob (eqWorksL ((y_1.1, y_1.2), y_4.1, y_4.2)) fun y_5 =>
                        br (!y_5) (some false)
                          (ob (markWorksD ((y_1.1, y_1.2), (1 : Int))) fun y_6 =>
                            br (decide (y_6.1 < (0 : Int))) (some false)
                              (ob (eqRatS (y_2.1, y.1)) fun y_7 =>
                                br (!y_7) (some false)
                                  (br (y_2.2 != y.2) (some false)
                                    (ob (markRat (y_2.1, (1 : Int))) fun y_8 =>
                                      ob (heldRat (y_8.snd.1, (1 : Int))) fun y_9 =>
                                        br (decide (y_9 < (0 : Int))) (some false)
                                          (br (y_9 != y_8.1) (some false)
                                            (ob (toWorksD (x.fst.1, x.fst.2)) fun y_10 =>
                                              ob (speedsOI ((y_10.1, y_10.2), x.2)) fun y_11 =>
                                                ob (eqRatS (y_11.1, y.1)) fun y_12 =>
                                                  br (!y_12) (some false)
                                                    (br (y_11.2 != y.2) (some false)
                                                      (ob (heldRat (y_8.snd.1, (1 : Int))) fun y =>
                                                        br (decide (y < (0 : Int))) (some false)
                                                          (br (y != y_8.1) (some false) (some true)))))))))))))
def lawSpeeds_con : Con := ⟨[.pair (.slice (.pair (.str) (.slice (i64)))) (.slice (.pair (i64) (.pair (i64) (.pair (i64) (i64))))), i64], [.d (.bool)], lawSpeeds⟩
theorem lawSpeeds_run (x : Dens [.pair (.slice (.pair (.str) (.slice (i64)))) (.slice (.pair (i64) (.pair (i64) (.pair (i64) (i64))))), i64]) : runFn (mkEnvM [(9, szWorksL_con), (11, toWorksD_con), (33, speedsOS_con), (34, speedsOI_con), (35, eqRatS_con), (14, eqWorksL_con), (37, heldRat_con)] [(15, markWorksD_con), (36, markRat_con)] []) Try.f7 [.pair (.slice (.pair (.str) (.slice (i64)))) (.slice (.pair (i64) (.pair (i64) (.pair (i64) (i64))))), i64] [.d (.bool)] x = lawSpeeds x := by kernel_rfl
theorem lawSpeeds_ok : lawSpeeds_con.ok Try.prog 7 := fn_ok (con := lawSpeeds_con) (mkEnvM_ok (cons := [(9, szWorksL_con), (11, toWorksD_con), (33, speedsOS_con), (34, speedsOI_con), (35, eqRatS_con), (14, eqWorksL_con), (37, heldRat_con)]) (mcons := [(15, markWorksD_con), (36, markRat_con)]) ⟨szWorksL_ok, toWorksD_ok, speedsOS_ok, speedsOI_ok, eqRatS_ok, eqWorksL_ok, heldRat_ok, trivial⟩ ⟨markWorksD_ok, markRat_ok, trivial⟩ []) Try.func7 rfl (by kernel_rfl) (by exact trivial) (fun x y h => (lawSpeeds_run x).trans h)

end
end Rx
end Go.Proofs.Ythehdbedojcpdaa
