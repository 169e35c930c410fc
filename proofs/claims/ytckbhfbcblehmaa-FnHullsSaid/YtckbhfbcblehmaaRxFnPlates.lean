/- What the functions of RxFnPlates come to, and their contracts. No conditions. -/
import Derived.Test.YtckbhfbcblehmaaRxEnv
import Derived.Test.YtckbhfbcblehmaaRxTurn
import Derived.Test.YtckbhfbcblehmaaRxDraw
namespace Go.Proofs.Ytckbhfbcblehmaa
namespace Rx
open Go

def f6sameL_vars : Vars := [(0, .val (.slice (i64))), (1, .val (.slice (i64))), (4, .val (.bool)), (5, .val (i64))]
def f6sameL_step : List (Int) × List (Int) × Bool × Int → Option (LRes × (List (Int) × List (Int) × Bool × Int)) :=
fun x =>
  br (decide (x.snd.snd.2 < (↑x.1.length : Int)))
    (ob (idx x.1 x.snd.snd.2) fun y =>
      ob (idx x.snd.1 x.snd.snd.2) fun y_1 =>
        br (y != y_1) (some (LRes.ret, x.1, x.snd.1, false, x.snd.snd.2))
          (some (LRes.next, x.1, x.snd.1, x.snd.snd.1, IntKind.i64.wrap (x.snd.snd.2 + (1 : Int)))))
    (some (LRes.out, x.1, x.snd.1, x.snd.snd.1, x.snd.snd.2))
def f6sameL_fuel : List (Int) × List (Int) × Bool × Int → Nat := fun s => (s.1.length - s.2.2.2.toNat) + 1
def f6sameL : List (Int) × List (Int) × Bool × Int → Option (Bool × (List (Int) × List (Int) × Bool × Int)) := fun s => iter f6sameL_step (f6sameL_fuel s) s
def f6sameL_L : LoopC := ⟨f6sameL_vars, 0, .two f6sameL⟩
noncomputable def f6sameL_key : Nat := key (loopAt Try.f23 0)
theorem f6sameL_stepok (x : f6sameL_vars.den) : stepOf (mkEnv [] []) Try.f23.ntmps f6sameL_vars 0 (loopAt Try.f23 0) x = f6sameL_step x := by kernel_rfl
theorem f6sameL_ok : LoopOK Try.prog Try.f23.ntmps f6sameL_L (loopAt Try.f23 0)   := iter_loop (n := Try.f23.ntmps) (vs := f6sameL_vars) (out := 0) (body := loopAt Try.f23 0) (mkEnv_ok (cons := []) trivial []) f6sameL_step f6sameL_fuel (by exact trivial) f6sameL_stepok

def f6same : List (Int) × List (Int) → Option (Bool) :=
fun x =>
  br ((↑x.1.length : Int) != (↑x.2.length : Int)) (some false)
    (ob (f6sameL (x.1, x.2, false, (0 : Int))) fun r => br r.1 (some true) (some r.snd.snd.snd.1))
def f6same_con : Con := ⟨[.slice (i64), .slice (i64)], [.d (.bool)], f6same⟩
theorem f6same_run (x : Dens [.slice (i64), .slice (i64)]) : runFn (mkEnv [] [(f6sameL_key, f6sameL_L)]) Try.f23 [.slice (i64), .slice (i64)] [.d (.bool)] x = f6same x := by kernel_rfl
theorem f6same_ok : f6same_con.ok Try.prog 23 := fn_ok (con := f6same_con) (mkEnv_ok (cons := []) trivial [(f6sameL_key, f6sameL_L)]) Try.func23 rfl (by kernel_rfl) (by exact ⟨f6sameL_ok, trivial⟩) (fun x y h => (f6same_run x).trans h)

def f6big : List (Int) → Option (Bool) :=
fun x => some (decide ((4096 : Int) < (↑x.length : Int)))
def f6big_con : Con := ⟨[.slice (.int .u8)], [.d (.bool)], f6big⟩
theorem f6big_run (x : Dens [.slice (.int .u8)]) : runFn (mkEnv [] []) Try.f13 [.slice (.int .u8)] [.d (.bool)] x = f6big x := by kernel_rfl
theorem f6big_ok : f6big_con.ok Try.prog 13 := fn_ok (con := f6big_con) (mkEnv_ok (cons := []) trivial []) Try.func13 rfl (by kernel_rfl) (by exact trivial) (fun x y h => (f6big_run x).trans h)

def fnPlates : List (Int) → Option (Bool) :=
fun x =>
  ob (f6big x) fun y =>
    br y (some true)
      (ob (drawTurnS x) fun y =>
        ob (outI (y.1, y.snd.1, y.snd.snd.1, y.snd.snd.snd.1, y.snd.snd.snd.2)) fun y_1 =>
          ob (outS (y.1, y.snd.1, y.snd.snd.1, y.snd.snd.snd.1, y.snd.snd.snd.2)) fun y_2 =>
            br (y_1.2 != y_2.2) (some false)
              (ob (f6same (y_1.1, y_2.1)) fun y_3 =>
                br (!y_3) (some false)
                  (ob (validPlateI (y.1, y.snd.1, y.snd.snd.1, y.snd.snd.snd.1, y.snd.snd.snd.2)) fun y_4 =>
                    br (!y_4 == (y_2.2 == (0 : Int))) (some false)
                      (ob (mirI (y.1, y.snd.1, y.snd.snd.1, y.snd.snd.snd.1, y.snd.snd.snd.2)) fun y_5 =>
                        ob (mirS (y.1, y.snd.1, y.snd.snd.1, y.snd.snd.snd.1, y.snd.snd.snd.2)) fun y_6 =>
                          ob (turnPI (y.1, y.snd.1, y.snd.snd.1, y.snd.snd.snd.1, y.snd.snd.snd.2)) fun y_7 =>
                            ob (turnPS (y.1, y.snd.1, y.snd.snd.1, y.snd.snd.snd.1, y.snd.snd.snd.2)) fun y_8 =>
                              br (y_5.2 != y_2.2) (some false)
                                (br (y_7.2 != y_2.2) (some false)
                                  (ob
                                    (sameS
                                      ((y_5.fst.1, y_5.fst.snd.1, y_5.fst.snd.snd.1, y_5.fst.snd.snd.snd.1,
                                          y_5.fst.snd.snd.snd.2),
                                        y_6.fst.1, y_6.fst.snd.1, y_6.fst.snd.snd.1, y_6.fst.snd.snd.snd.1,
                                        y_6.fst.snd.snd.snd.2))
                                    fun y_9 =>
                                    br (!y_9) (some false)
                                      (ob
                                        (sameS
                                          ((y_7.fst.1, y_7.fst.snd.1, y_7.fst.snd.snd.1, y_7.fst.snd.snd.snd.1,
                                              y_7.fst.snd.snd.snd.2),
                                            y_8.fst.1, y_8.fst.snd.1, y_8.fst.snd.snd.1, y_8.fst.snd.snd.snd.1,
                                            y_8.fst.snd.snd.snd.2))
                                        fun y_10 =>
                                        br (!y_10) (some false)
                                          (br (y_1.2 != (0 : Int)) (some true)
                                            (ob
                                              (mirI
                                                (y_5.fst.1, y_5.fst.snd.1, y_5.fst.snd.snd.1, y_5.fst.snd.snd.snd.1,
                                                  y_5.fst.snd.snd.snd.2))
                                              fun y_11 =>
                                              ob
                                                (turnPI
                                                  (y_7.fst.1, y_7.fst.snd.1, y_7.fst.snd.snd.1, y_7.fst.snd.snd.snd.1,
                                                    y_7.fst.snd.snd.snd.2))
                                                fun y_12 =>
                                                ob
                                                  (turnPI
                                                    (y_12.fst.1, y_12.fst.snd.1, y_12.fst.snd.snd.1,
                                                      y_12.fst.snd.snd.snd.1, y_12.fst.snd.snd.snd.2))
                                                  fun y_13 =>
                                                  ob
                                                    (turnPI
                                                      (y_13.fst.1, y_13.fst.snd.1, y_13.fst.snd.snd.1,
                                                        y_13.fst.snd.snd.snd.1, y_13.fst.snd.snd.snd.2))
                                                    fun y_14 =>
                                                    ob
                                                      (outI
                                                        (y_5.fst.1, y_5.fst.snd.1, y_5.fst.snd.snd.1,
                                                          y_5.fst.snd.snd.snd.1, y_5.fst.snd.snd.snd.2))
                                                      fun y_15 =>
                                                      ob
                                                        (outI
                                                          (y_7.fst.1, y_7.fst.snd.1, y_7.fst.snd.snd.1,
                                                            y_7.fst.snd.snd.snd.1, y_7.fst.snd.snd.snd.2))
                                                        fun y_16 =>
                                                        br (y_11.2 == (0 : Int))
                                                          (br (y_12.2 == (0 : Int))
                                                            (br (y_13.2 == (0 : Int))
                                                              (br (y_14.2 == (0 : Int))
                                                                (br (y_15.2 == (0 : Int))
                                                                  (br (y_16.2 == (0 : Int))
                                                                    (ob
                                                                      (sameS
                                                                        ((y_11.fst.1, y_11.fst.snd.1,
                                                                            y_11.fst.snd.snd.1, y_11.fst.snd.snd.snd.1,
                                                                            y_11.fst.snd.snd.snd.2),
                                                                          y.1, y.snd.1, y.snd.snd.1, y.snd.snd.snd.1,
                                                                          y.snd.snd.snd.2))
                                                                      fun y_17 =>
                                                                      br y_17
                                                                        (ob
                                                                          (sameS
                                                                            ((y_14.fst.1, y_14.fst.snd.1,
                                                                                y_14.fst.snd.snd.1,
                                                                                y_14.fst.snd.snd.snd.1,
                                                                                y_14.fst.snd.snd.snd.2),
                                                                              y.1, y.snd.1, y.snd.snd.1,
                                                                              y.snd.snd.snd.1, y.snd.snd.snd.2))
                                                                          fun y =>
                                                                          br y
                                                                            (ob (f6same (y_15.1, y_2.1)) fun y =>
                                                                              br y
                                                                                (ob (f6same (y_16.1, y_2.1)) fun y =>
                                                                                  some y)
                                                                                (some false))
                                                                            (some false))
                                                                        (some false))
                                                                    (some false))
                                                                  (some false))
                                                                (some false))
                                                              (some false))
                                                            (some false))
                                                          (some false))))))))))
def fnPlates_con : Con := ⟨[.slice (.int .u8)], [.d (.bool)], fnPlates⟩
theorem fnPlates_run (x : Dens [.slice (.int .u8)]) : runFn (mkEnv [(13, f6big_con), (20, drawTurnS_con), (21, outI_con), (22, outS_con), (23, f6same_con), (24, validPlateI_con), (25, mirI_con), (26, mirS_con), (27, turnPI_con), (28, turnPS_con), (29, sameS_con)] []) Try.f5 [.slice (.int .u8)] [.d (.bool)] x = fnPlates x := by kernel_rfl
theorem fnPlates_ok : fnPlates_con.ok Try.prog 5 := fn_ok (con := fnPlates_con) (mkEnv_ok (cons := [(13, f6big_con), (20, drawTurnS_con), (21, outI_con), (22, outS_con), (23, f6same_con), (24, validPlateI_con), (25, mirI_con), (26, mirS_con), (27, turnPI_con), (28, turnPS_con), (29, sameS_con)]) ⟨f6big_ok, drawTurnS_ok, outI_ok, outS_ok, f6same_ok, validPlateI_ok, mirI_ok, mirS_ok, turnPI_ok, turnPS_ok, sameS_ok, trivial⟩ []) Try.func5 rfl (by kernel_rfl) (by exact trivial) (fun x y h => (fnPlates_run x).trans h)

end Rx
end Go.Proofs.Ytckbhfbcblehmaa
