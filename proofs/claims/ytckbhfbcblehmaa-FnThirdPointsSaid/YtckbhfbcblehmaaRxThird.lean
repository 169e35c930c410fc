/- What the functions of RxThird come to, and their contracts. No conditions. -/
import Derived.Test.YtckbhfbcblehmaaRxEnv
import Derived.Test.YtckbhfbcblehmaaRxDraw
import Derived.Test.YtckbhfbcblehmaaRxClear
import Derived.Test.YtckbhfbcblehmaaRxTurn
import Derived.Test.YtckbhfbcblehmaaRxFnPlates
namespace Go.Proofs.Ytckbhfbcblehmaa
namespace Rx
open Go

noncomputable section
def validPointI : (Int × Int) → Option (Bool) :=
fun x =>
  ob (withinP (x.1, (0 : Int), (10000 : Int))) fun y =>
    br y (ob (withinP (x.2, (0 : Int), (10000 : Int))) fun y => some y) (some false)
def validPointI_con : Con := ⟨[.pair (i64) (i64)], [.d (.bool)], validPointI⟩
theorem validPointI_run (x : Dens [.pair (i64) (i64)]) : runFn (mkEnv [(56, withinP_con)] []) Try.f55 [.pair (i64) (i64)] [.d (.bool)] x = validPointI x := by kernel_rfl
theorem validPointI_ok : validPointI_con.ok Try.prog 55 := fn_ok (con := validPointI_con) (mkEnv_ok (cons := [(56, withinP_con)]) ⟨withinP_ok, trivial⟩ []) Try.func55 rfl (by kernel_rfl) (by exact trivial) (fun x y h => (validPointI_run x).trans h)

def floorDI : Int × Int → Option (Int) :=
fun x =>
  br (x.2 == (0 : Int)) none
    (br (x.2 == (0 : Int)) none
      (br (decide (x.1.tmod x.2 < (0 : Int))) (some (IntKind.i64.wrap (IntKind.i64.wrap (x.1.tdiv x.2) - (1 : Int))))
        (some (IntKind.i64.wrap (x.1.tdiv x.2)))))
def floorDI_con : Con := ⟨[i64, i64], [.d (i64)], floorDI⟩
theorem floorDI_run (x : Dens [i64, i64]) : runFn (mkEnv [] []) Try.f78 [i64, i64] [.d (i64)] x = floorDI x := by kernel_rfl
theorem floorDI_ok : floorDI_con.ok Try.prog 78 := fn_ok (con := floorDI_con) (mkEnv_ok (cons := []) trivial []) Try.func78 rfl (by kernel_rfl) (by exact trivial) (fun x y h => (floorDI_run x).trans h)

def nearDI : Int × Int → Option (Int) :=
fun x =>
  ob (floorDI (x.1, x.2)) fun y =>
    br
      (decide
        (IntKind.i64.wrap (x.2 - IntKind.i64.wrap (x.1 - IntKind.i64.wrap (y * x.2))) ≤
          IntKind.i64.wrap (x.1 - IntKind.i64.wrap (y * x.2))))
      (some (IntKind.i64.wrap (y + (1 : Int)))) (some y)
def nearDI_con : Con := ⟨[i64, i64], [.d (i64)], nearDI⟩
theorem nearDI_run (x : Dens [i64, i64]) : runFn (mkEnv [(78, floorDI_con)] []) Try.f58 [i64, i64] [.d (i64)] x = nearDI x := by kernel_rfl
theorem nearDI_ok : nearDI_con.ok Try.prog 58 := fn_ok (con := nearDI_con) (mkEnv_ok (cons := [(78, floorDI_con)]) ⟨floorDI_ok, trivial⟩ []) Try.func58 rfl (by kernel_rfl) (by exact trivial) (fun x y h => (nearDI_run x).trans h)

def thirdI : (Int × Int) × (Int × Int) × Int × Int × Bool → Option ((Int × Int) × Int) :=
fun x =>
  ob (validPointI (x.fst.1, x.fst.2)) fun y =>
    br (!y) (some (((0 : Int), (0 : Int)), (1 : Int)))
      (ob (validPointI (x.snd.fst.1, x.snd.fst.2)) fun y =>
        br (!y) (some (((0 : Int), (0 : Int)), (1 : Int)))
          (ob (withinP (x.snd.snd.1, (0 : Int), (10000 : Int))) fun y =>
            br (!y) (some (((0 : Int), (0 : Int)), (2 : Int)))
              (ob (withinP (x.snd.snd.snd.1, (0 : Int), (10000 : Int))) fun y =>
                br (!y) (some (((0 : Int), (0 : Int)), (2 : Int)))
                  (br (x.fst.1 == x.snd.fst.1 && x.fst.2 == x.snd.fst.2) (some (((0 : Int), (0 : Int)), (6 : Int)))
                    (br
                      (decide
                        (IntKind.i64.wrap
                            (IntKind.i64.wrap
                                (IntKind.i64.wrap
                                    (IntKind.i64.wrap
                                        ((4 : Int) *
                                          IntKind.i64.wrap
                                            (IntKind.i64.wrap
                                                (IntKind.i64.wrap (x.snd.fst.1 - x.fst.1) *
                                                  IntKind.i64.wrap (x.snd.fst.1 - x.fst.1)) +
                                              IntKind.i64.wrap
                                                (IntKind.i64.wrap (x.snd.fst.2 - x.fst.2) *
                                                  IntKind.i64.wrap (x.snd.fst.2 - x.fst.2)))) *
                                      x.snd.snd.1) *
                                  x.snd.snd.1) -
                              IntKind.i64.wrap
                                (IntKind.i64.wrap
                                    (IntKind.i64.wrap
                                        (IntKind.i64.wrap (x.snd.snd.1 * x.snd.snd.1) -
                                          IntKind.i64.wrap (x.snd.snd.snd.1 * x.snd.snd.snd.1)) +
                                      IntKind.i64.wrap
                                        (IntKind.i64.wrap
                                            (IntKind.i64.wrap (x.snd.fst.1 - x.fst.1) *
                                              IntKind.i64.wrap (x.snd.fst.1 - x.fst.1)) +
                                          IntKind.i64.wrap
                                            (IntKind.i64.wrap (x.snd.fst.2 - x.fst.2) *
                                              IntKind.i64.wrap (x.snd.fst.2 - x.fst.2)))) *
                                  IntKind.i64.wrap
                                    (IntKind.i64.wrap
                                        (IntKind.i64.wrap (x.snd.snd.1 * x.snd.snd.1) -
                                          IntKind.i64.wrap (x.snd.snd.snd.1 * x.snd.snd.snd.1)) +
                                      IntKind.i64.wrap
                                        (IntKind.i64.wrap
                                            (IntKind.i64.wrap (x.snd.fst.1 - x.fst.1) *
                                              IntKind.i64.wrap (x.snd.fst.1 - x.fst.1)) +
                                          IntKind.i64.wrap
                                            (IntKind.i64.wrap (x.snd.fst.2 - x.fst.2) *
                                              IntKind.i64.wrap (x.snd.fst.2 - x.fst.2)))))) <
                          (0 : Int)))
                      (some (((0 : Int), (0 : Int)), (3 : Int)))
                      (ob
                        (rootI
                          (IntKind.i64.wrap
                            (IntKind.i64.wrap
                                (IntKind.i64.wrap
                                    (IntKind.i64.wrap
                                        ((4 : Int) *
                                          IntKind.i64.wrap
                                            (IntKind.i64.wrap
                                                (IntKind.i64.wrap (x.snd.fst.1 - x.fst.1) *
                                                  IntKind.i64.wrap (x.snd.fst.1 - x.fst.1)) +
                                              IntKind.i64.wrap
                                                (IntKind.i64.wrap (x.snd.fst.2 - x.fst.2) *
                                                  IntKind.i64.wrap (x.snd.fst.2 - x.fst.2)))) *
                                      x.snd.snd.1) *
                                  x.snd.snd.1) -
                              IntKind.i64.wrap
                                (IntKind.i64.wrap
                                    (IntKind.i64.wrap
                                        (IntKind.i64.wrap (x.snd.snd.1 * x.snd.snd.1) -
                                          IntKind.i64.wrap (x.snd.snd.snd.1 * x.snd.snd.snd.1)) +
                                      IntKind.i64.wrap
                                        (IntKind.i64.wrap
                                            (IntKind.i64.wrap (x.snd.fst.1 - x.fst.1) *
                                              IntKind.i64.wrap (x.snd.fst.1 - x.fst.1)) +
                                          IntKind.i64.wrap
                                            (IntKind.i64.wrap (x.snd.fst.2 - x.fst.2) *
                                              IntKind.i64.wrap (x.snd.fst.2 - x.fst.2)))) *
                                  IntKind.i64.wrap
                                    (IntKind.i64.wrap
                                        (IntKind.i64.wrap (x.snd.snd.1 * x.snd.snd.1) -
                                          IntKind.i64.wrap (x.snd.snd.snd.1 * x.snd.snd.snd.1)) +
                                      IntKind.i64.wrap
                                        (IntKind.i64.wrap
                                            (IntKind.i64.wrap (x.snd.fst.1 - x.fst.1) *
                                              IntKind.i64.wrap (x.snd.fst.1 - x.fst.1)) +
                                          IntKind.i64.wrap
                                            (IntKind.i64.wrap (x.snd.fst.2 - x.fst.2) *
                                              IntKind.i64.wrap (x.snd.fst.2 - x.fst.2))))))))
                        fun y =>
                        br (!x.snd.snd.snd.2)
                          (ob
                            (nearDI
                              (IntKind.i64.wrap
                                  (IntKind.i64.wrap
                                      (IntKind.i64.wrap
                                          (IntKind.i64.wrap
                                              (IntKind.i64.wrap (x.snd.snd.1 * x.snd.snd.1) -
                                                IntKind.i64.wrap (x.snd.snd.snd.1 * x.snd.snd.snd.1)) +
                                            IntKind.i64.wrap
                                              (IntKind.i64.wrap
                                                  (IntKind.i64.wrap (x.snd.fst.1 - x.fst.1) *
                                                    IntKind.i64.wrap (x.snd.fst.1 - x.fst.1)) +
                                                IntKind.i64.wrap
                                                  (IntKind.i64.wrap (x.snd.fst.2 - x.fst.2) *
                                                    IntKind.i64.wrap (x.snd.fst.2 - x.fst.2)))) *
                                        IntKind.i64.wrap (x.snd.fst.1 - x.fst.1)) -
                                    IntKind.i64.wrap
                                      (IntKind.i64.wrap ((0 : Int) - y) * IntKind.i64.wrap (x.snd.fst.2 - x.fst.2))),
                                IntKind.i64.wrap
                                  ((2 : Int) *
                                    IntKind.i64.wrap
                                      (IntKind.i64.wrap
                                          (IntKind.i64.wrap (x.snd.fst.1 - x.fst.1) *
                                            IntKind.i64.wrap (x.snd.fst.1 - x.fst.1)) +
                                        IntKind.i64.wrap
                                          (IntKind.i64.wrap (x.snd.fst.2 - x.fst.2) *
                                            IntKind.i64.wrap (x.snd.fst.2 - x.fst.2))))))
                            fun y_1 =>
                            ob
                              (nearDI
                                (IntKind.i64.wrap
                                    (IntKind.i64.wrap
                                        (IntKind.i64.wrap
                                            (IntKind.i64.wrap
                                                (IntKind.i64.wrap (x.snd.snd.1 * x.snd.snd.1) -
                                                  IntKind.i64.wrap (x.snd.snd.snd.1 * x.snd.snd.snd.1)) +
                                              IntKind.i64.wrap
                                                (IntKind.i64.wrap
                                                    (IntKind.i64.wrap (x.snd.fst.1 - x.fst.1) *
                                                      IntKind.i64.wrap (x.snd.fst.1 - x.fst.1)) +
                                                  IntKind.i64.wrap
                                                    (IntKind.i64.wrap (x.snd.fst.2 - x.fst.2) *
                                                      IntKind.i64.wrap (x.snd.fst.2 - x.fst.2)))) *
                                          IntKind.i64.wrap (x.snd.fst.2 - x.fst.2)) +
                                      IntKind.i64.wrap
                                        (IntKind.i64.wrap ((0 : Int) - y) * IntKind.i64.wrap (x.snd.fst.1 - x.fst.1))),
                                  IntKind.i64.wrap
                                    ((2 : Int) *
                                      IntKind.i64.wrap
                                        (IntKind.i64.wrap
                                            (IntKind.i64.wrap (x.snd.fst.1 - x.fst.1) *
                                              IntKind.i64.wrap (x.snd.fst.1 - x.fst.1)) +
                                          IntKind.i64.wrap
                                            (IntKind.i64.wrap (x.snd.fst.2 - x.fst.2) *
                                              IntKind.i64.wrap (x.snd.fst.2 - x.fst.2))))))
                              fun y =>
                              ob (validPointI (IntKind.i64.wrap (x.fst.1 + y_1), IntKind.i64.wrap (x.fst.2 + y)))
                                fun y_2 =>
                                br (!y_2) (some (((0 : Int), (0 : Int)), (10 : Int)))
                                  (some
                                    ((IntKind.i64.wrap (x.fst.1 + y_1), IntKind.i64.wrap (x.fst.2 + y)), (0 : Int))))
                          (ob
                            (nearDI
                              (IntKind.i64.wrap
                                  (IntKind.i64.wrap
                                      (IntKind.i64.wrap
                                          (IntKind.i64.wrap
                                              (IntKind.i64.wrap (x.snd.snd.1 * x.snd.snd.1) -
                                                IntKind.i64.wrap (x.snd.snd.snd.1 * x.snd.snd.snd.1)) +
                                            IntKind.i64.wrap
                                              (IntKind.i64.wrap
                                                  (IntKind.i64.wrap (x.snd.fst.1 - x.fst.1) *
                                                    IntKind.i64.wrap (x.snd.fst.1 - x.fst.1)) +
                                                IntKind.i64.wrap
                                                  (IntKind.i64.wrap (x.snd.fst.2 - x.fst.2) *
                                                    IntKind.i64.wrap (x.snd.fst.2 - x.fst.2)))) *
                                        IntKind.i64.wrap (x.snd.fst.1 - x.fst.1)) -
                                    IntKind.i64.wrap (y * IntKind.i64.wrap (x.snd.fst.2 - x.fst.2))),
                                IntKind.i64.wrap
                                  ((2 : Int) *
                                    IntKind.i64.wrap
                                      (IntKind.i64.wrap
                                          (IntKind.i64.wrap (x.snd.fst.1 - x.fst.1) *
                                            IntKind.i64.wrap (x.snd.fst.1 - x.fst.1)) +
                                        IntKind.i64.wrap
                                          (IntKind.i64.wrap (x.snd.fst.2 - x.fst.2) *
                                            IntKind.i64.wrap (x.snd.fst.2 - x.fst.2))))))
                            fun y_1 =>
                            ob
                              (nearDI
                                (IntKind.i64.wrap
                                    (IntKind.i64.wrap
                                        (IntKind.i64.wrap
                                            (IntKind.i64.wrap
                                                (IntKind.i64.wrap (x.snd.snd.1 * x.snd.snd.1) -
                                                  IntKind.i64.wrap (x.snd.snd.snd.1 * x.snd.snd.snd.1)) +
                                              IntKind.i64.wrap
                                                (IntKind.i64.wrap
                                                    (IntKind.i64.wrap (x.snd.fst.1 - x.fst.1) *
                                                      IntKind.i64.wrap (x.snd.fst.1 - x.fst.1)) +
                                                  IntKind.i64.wrap
                                                    (IntKind.i64.wrap (x.snd.fst.2 - x.fst.2) *
                                                      IntKind.i64.wrap (x.snd.fst.2 - x.fst.2)))) *
                                          IntKind.i64.wrap (x.snd.fst.2 - x.fst.2)) +
                                      IntKind.i64.wrap (y * IntKind.i64.wrap (x.snd.fst.1 - x.fst.1))),
                                  IntKind.i64.wrap
                                    ((2 : Int) *
                                      IntKind.i64.wrap
                                        (IntKind.i64.wrap
                                            (IntKind.i64.wrap (x.snd.fst.1 - x.fst.1) *
                                              IntKind.i64.wrap (x.snd.fst.1 - x.fst.1)) +
                                          IntKind.i64.wrap
                                            (IntKind.i64.wrap (x.snd.fst.2 - x.fst.2) *
                                              IntKind.i64.wrap (x.snd.fst.2 - x.fst.2))))))
                              fun y =>
                              ob (validPointI (IntKind.i64.wrap (x.fst.1 + y_1), IntKind.i64.wrap (x.fst.2 + y)))
                                fun y_2 =>
                                br (!y_2) (some (((0 : Int), (0 : Int)), (10 : Int)))
                                  (some
                                    ((IntKind.i64.wrap (x.fst.1 + y_1), IntKind.i64.wrap (x.fst.2 + y)),
                                      (0 : Int))))))))))
def thirdI_con : Con := ⟨[.pair (i64) (i64), .pair (i64) (i64), i64, i64, .bool], [.d (.pair (i64) (i64)), .d (i64)], thirdI⟩
theorem thirdI_run (x : Dens [.pair (i64) (i64), .pair (i64) (i64), i64, i64, .bool]) : runFn (mkEnv [(55, validPointI_con), (56, withinP_con), (57, rootI_con), (58, nearDI_con)] []) Try.f15 [.pair (i64) (i64), .pair (i64) (i64), i64, i64, .bool] [.d (.pair (i64) (i64)), .d (i64)] x = thirdI x := by kernel_rfl
theorem thirdI_ok : thirdI_con.ok Try.prog 15 := fn_ok (con := thirdI_con) (mkEnv_ok (cons := [(55, validPointI_con), (56, withinP_con), (57, rootI_con), (58, nearDI_con)]) ⟨validPointI_ok, withinP_ok, rootI_ok, nearDI_ok, trivial⟩ []) Try.func15 rfl (by kernel_rfl) (by exact trivial) (fun x y h => (thirdI_run x).trans h)

def okPointS : (Int × Int) → Option (Bool) :=
fun x =>
  ob (inP (x.1, (0 : Int), (10000 : Int))) fun y =>
    br y (ob (inP (x.2, (0 : Int), (10000 : Int))) fun y => some y) (some false)
def okPointS_con : Con := ⟨[.pair (i64) (i64)], [.d (.bool)], okPointS⟩
theorem okPointS_run (x : Dens [.pair (i64) (i64)]) : runFn (mkEnv [(60, inP_con)] []) Try.f59 [.pair (i64) (i64)] [.d (.bool)] x = okPointS x := by kernel_rfl
theorem okPointS_ok : okPointS_con.ok Try.prog 59 := fn_ok (con := okPointS_con) (mkEnv_ok (cons := [(60, inP_con)]) ⟨inP_ok, trivial⟩ []) Try.func59 rfl (by kernel_rfl) (by exact trivial) (fun x y h => (okPointS_run x).trans h)

def downS : Int × Int → Option (Int) :=
fun x =>
  br (x.2 == (0 : Int)) none
    (br (x.2 == (0 : Int)) none
      (br (decide (x.1.tmod x.2 < (0 : Int))) (some (IntKind.i64.wrap (IntKind.i64.wrap (x.1.tdiv x.2) - (1 : Int))))
        (some (IntKind.i64.wrap (x.1.tdiv x.2)))))
def downS_con : Con := ⟨[i64, i64], [.d (i64)], downS⟩
theorem downS_run (x : Dens [i64, i64]) : runFn (mkEnv [] []) Try.f79 [i64, i64] [.d (i64)] x = downS x := by kernel_rfl
theorem downS_ok : downS_con.ok Try.prog 79 := fn_ok (con := downS_con) (mkEnv_ok (cons := []) trivial []) Try.func79 rfl (by kernel_rfl) (by exact trivial) (fun x y h => (downS_run x).trans h)

def nearDS : Int × Int → Option (Int) :=
fun x =>
  ob (downS (IntKind.i64.wrap (IntKind.i64.wrap ((2 : Int) * x.1) + x.2), IntKind.i64.wrap ((2 : Int) * x.2))) fun y =>
    some y
def nearDS_con : Con := ⟨[i64, i64], [.d (i64)], nearDS⟩
theorem nearDS_run (x : Dens [i64, i64]) : runFn (mkEnv [(79, downS_con)] []) Try.f61 [i64, i64] [.d (i64)] x = nearDS x := by kernel_rfl
theorem nearDS_ok : nearDS_con.ok Try.prog 61 := fn_ok (con := nearDS_con) (mkEnv_ok (cons := [(79, downS_con)]) ⟨downS_ok, trivial⟩ []) Try.func61 rfl (by kernel_rfl) (by exact trivial) (fun x y h => (nearDS_run x).trans h)

def thirdS : (Int × Int) × (Int × Int) × Int × Int × Bool → Option ((Int × Int) × Int) :=
fun x =>
  ob (okPointS (x.fst.1, x.fst.2)) fun y =>
    br (!y) (some (((0 : Int), (0 : Int)), (1 : Int)))
      (ob (okPointS (x.snd.fst.1, x.snd.fst.2)) fun y =>
        br (!y) (some (((0 : Int), (0 : Int)), (1 : Int)))
          (ob (inP (x.snd.snd.1, (0 : Int), (10000 : Int))) fun y =>
            br (!y) (some (((0 : Int), (0 : Int)), (2 : Int)))
              (ob (inP (x.snd.snd.snd.1, (0 : Int), (10000 : Int))) fun y =>
                br (!y) (some (((0 : Int), (0 : Int)), (2 : Int)))
                  (ob (sqS ((x.fst.1, x.fst.2), x.snd.fst.1, x.snd.fst.2)) fun y =>
                    br (y == (0 : Int)) (some (((0 : Int), (0 : Int)), (6 : Int)))
                      (br
                        (decide
                          (IntKind.i64.wrap
                              (IntKind.i64.wrap
                                  (IntKind.i64.wrap (IntKind.i64.wrap ((4 : Int) * y) * x.snd.snd.1) * x.snd.snd.1) -
                                IntKind.i64.wrap
                                  (IntKind.i64.wrap
                                      (IntKind.i64.wrap
                                          (IntKind.i64.wrap (x.snd.snd.1 * x.snd.snd.1) -
                                            IntKind.i64.wrap (x.snd.snd.snd.1 * x.snd.snd.snd.1)) +
                                        y) *
                                    IntKind.i64.wrap
                                      (IntKind.i64.wrap
                                          (IntKind.i64.wrap (x.snd.snd.1 * x.snd.snd.1) -
                                            IntKind.i64.wrap (x.snd.snd.snd.1 * x.snd.snd.snd.1)) +
                                        y))) <
                            (0 : Int)))
                        (some (((0 : Int), (0 : Int)), (3 : Int)))
                        (ob
                          (rootS
                            (IntKind.i64.wrap
                              (IntKind.i64.wrap
                                  (IntKind.i64.wrap (IntKind.i64.wrap ((4 : Int) * y) * x.snd.snd.1) * x.snd.snd.1) -
                                IntKind.i64.wrap
                                  (IntKind.i64.wrap
                                      (IntKind.i64.wrap
                                          (IntKind.i64.wrap (x.snd.snd.1 * x.snd.snd.1) -
                                            IntKind.i64.wrap (x.snd.snd.snd.1 * x.snd.snd.snd.1)) +
                                        y) *
                                    IntKind.i64.wrap
                                      (IntKind.i64.wrap
                                          (IntKind.i64.wrap (x.snd.snd.1 * x.snd.snd.1) -
                                            IntKind.i64.wrap (x.snd.snd.snd.1 * x.snd.snd.snd.1)) +
                                        y)))))
                          fun y_1 =>
                          br (!x.snd.snd.snd.2)
                            (ob
                              (nearDS
                                (IntKind.i64.wrap
                                    (IntKind.i64.wrap
                                        (IntKind.i64.wrap
                                            (IntKind.i64.wrap
                                                (IntKind.i64.wrap (x.snd.snd.1 * x.snd.snd.1) -
                                                  IntKind.i64.wrap (x.snd.snd.snd.1 * x.snd.snd.snd.1)) +
                                              y) *
                                          IntKind.i64.wrap (x.snd.fst.1 - x.fst.1)) -
                                      IntKind.i64.wrap
                                        (IntKind.i64.wrap ((0 : Int) - y_1) *
                                          IntKind.i64.wrap (x.snd.fst.2 - x.fst.2))),
                                  IntKind.i64.wrap ((2 : Int) * y)))
                              fun y_2 =>
                              ob
                                (nearDS
                                  (IntKind.i64.wrap
                                      (IntKind.i64.wrap
                                          (IntKind.i64.wrap
                                              (IntKind.i64.wrap
                                                  (IntKind.i64.wrap (x.snd.snd.1 * x.snd.snd.1) -
                                                    IntKind.i64.wrap (x.snd.snd.snd.1 * x.snd.snd.snd.1)) +
                                                y) *
                                            IntKind.i64.wrap (x.snd.fst.2 - x.fst.2)) +
                                        IntKind.i64.wrap
                                          (IntKind.i64.wrap ((0 : Int) - y_1) *
                                            IntKind.i64.wrap (x.snd.fst.1 - x.fst.1))),
                                    IntKind.i64.wrap ((2 : Int) * y)))
                                fun y =>
                                ob (okPointS (IntKind.i64.wrap (x.fst.1 + y_2), IntKind.i64.wrap (x.fst.2 + y)))
                                  fun y_3 =>
                                  br (!y_3) (some (((0 : Int), (0 : Int)), (10 : Int)))
                                    (some
                                      ((IntKind.i64.wrap (x.fst.1 + y_2), IntKind.i64.wrap (x.fst.2 + y)), (0 : Int))))
                            (ob
                              (nearDS
                                (IntKind.i64.wrap
                                    (IntKind.i64.wrap
                                        (IntKind.i64.wrap
                                            (IntKind.i64.wrap
                                                (IntKind.i64.wrap (x.snd.snd.1 * x.snd.snd.1) -
                                                  IntKind.i64.wrap (x.snd.snd.snd.1 * x.snd.snd.snd.1)) +
                                              y) *
                                          IntKind.i64.wrap (x.snd.fst.1 - x.fst.1)) -
                                      IntKind.i64.wrap (y_1 * IntKind.i64.wrap (x.snd.fst.2 - x.fst.2))),
                                  IntKind.i64.wrap ((2 : Int) * y)))
                              fun y_2 =>
                              ob
                                (nearDS
                                  (IntKind.i64.wrap
                                      (IntKind.i64.wrap
                                          (IntKind.i64.wrap
                                              (IntKind.i64.wrap
                                                  (IntKind.i64.wrap (x.snd.snd.1 * x.snd.snd.1) -
                                                    IntKind.i64.wrap (x.snd.snd.snd.1 * x.snd.snd.snd.1)) +
                                                y) *
                                            IntKind.i64.wrap (x.snd.fst.2 - x.fst.2)) +
                                        IntKind.i64.wrap (y_1 * IntKind.i64.wrap (x.snd.fst.1 - x.fst.1))),
                                    IntKind.i64.wrap ((2 : Int) * y)))
                                fun y =>
                                ob (okPointS (IntKind.i64.wrap (x.fst.1 + y_2), IntKind.i64.wrap (x.fst.2 + y)))
                                  fun y_3 =>
                                  br (!y_3) (some (((0 : Int), (0 : Int)), (10 : Int)))
                                    (some
                                      ((IntKind.i64.wrap (x.fst.1 + y_2), IntKind.i64.wrap (x.fst.2 + y)),
                                        (0 : Int))))))))))
def thirdS_con : Con := ⟨[.pair (i64) (i64), .pair (i64) (i64), i64, i64, .bool], [.d (.pair (i64) (i64)), .d (i64)], thirdS⟩
theorem thirdS_run (x : Dens [.pair (i64) (i64), .pair (i64) (i64), i64, i64, .bool]) : runFn (mkEnv [(59, okPointS_con), (60, inP_con), (52, sqS_con), (50, rootS_con), (61, nearDS_con)] []) Try.f16 [.pair (i64) (i64), .pair (i64) (i64), i64, i64, .bool] [.d (.pair (i64) (i64)), .d (i64)] x = thirdS x := by kernel_rfl
theorem thirdS_ok : thirdS_con.ok Try.prog 16 := fn_ok (con := thirdS_con) (mkEnv_ok (cons := [(59, okPointS_con), (60, inP_con), (52, sqS_con), (50, rootS_con), (61, nearDS_con)]) ⟨okPointS_ok, inP_ok, sqS_ok, rootS_ok, nearDS_ok, trivial⟩ []) Try.func16 rfl (by kernel_rfl) (by exact trivial) (fun x y h => (thirdS_run x).trans h)

def sqDistI : (Int × Int) × (Int × Int) → Option (Int × Int) :=
fun x =>
  ob (validPointI (x.fst.1, x.fst.2)) fun y =>
    br (!y) (some ((0 : Int), (1 : Int)))
      (ob (validPointI (x.snd.1, x.snd.2)) fun y =>
        br (!y) (some ((0 : Int), (1 : Int)))
          (ob (sqI ((x.fst.1, x.fst.2), x.snd.1, x.snd.2)) fun y => some (y, (0 : Int))))
def sqDistI_con : Con := ⟨[.pair (i64) (i64), .pair (i64) (i64)], [.d (i64), .d (i64)], sqDistI⟩
theorem sqDistI_run (x : Dens [.pair (i64) (i64), .pair (i64) (i64)]) : runFn (mkEnv [(55, validPointI_con), (62, sqI_con)] []) Try.f17 [.pair (i64) (i64), .pair (i64) (i64)] [.d (i64), .d (i64)] x = sqDistI x := by kernel_rfl
theorem sqDistI_ok : sqDistI_con.ok Try.prog 17 := fn_ok (con := sqDistI_con) (mkEnv_ok (cons := [(55, validPointI_con), (62, sqI_con)]) ⟨validPointI_ok, sqI_ok, trivial⟩ []) Try.func17 rfl (by kernel_rfl) (by exact trivial) (fun x y h => (sqDistI_run x).trans h)

def crossL : (Int × Int) × (Int × Int) × (Int × Int) → Option (Int) :=
fun x =>
  some
    (IntKind.i64.wrap
      (IntKind.i64.wrap (IntKind.i64.wrap (x.snd.fst.1 - x.fst.1) * IntKind.i64.wrap (x.snd.snd.2 - x.fst.2)) -
        IntKind.i64.wrap (IntKind.i64.wrap (x.snd.fst.2 - x.fst.2) * IntKind.i64.wrap (x.snd.snd.1 - x.fst.1))))
def crossL_con : Con := ⟨[.pair (i64) (i64), .pair (i64) (i64), .pair (i64) (i64)], [.d (i64)], crossL⟩
theorem crossL_run (x : Dens [.pair (i64) (i64), .pair (i64) (i64), .pair (i64) (i64)]) : runFn (mkEnv [] []) Try.f18 [.pair (i64) (i64), .pair (i64) (i64), .pair (i64) (i64)] [.d (i64)] x = crossL x := by kernel_rfl
theorem crossL_ok : crossL_con.ok Try.prog 18 := fn_ok (con := crossL_con) (mkEnv_ok (cons := []) trivial []) Try.func18 rfl (by kernel_rfl) (by exact trivial) (fun x y h => (crossL_run x).trans h)

def sizeL : Int → Option (Int) :=
fun x => br (decide (x < (0 : Int))) (some (IntKind.i64.wrap ((0 : Int) - x))) (some x)
def sizeL_con : Con := ⟨[i64], [.d (i64)], sizeL⟩
theorem sizeL_run (x : Dens [i64]) : runFn (mkEnv [] []) Try.f19 [i64] [.d (i64)] x = sizeL x := by kernel_rfl
theorem sizeL_ok : sizeL_con.ok Try.prog 19 := fn_ok (con := sizeL_con) (mkEnv_ok (cons := []) trivial []) Try.func19 rfl (by kernel_rfl) (by exact trivial) (fun x y h => (sizeL_run x).trans h)

def bentPointS : (List (Int) × Int × Int) → Option (((Int × Int)) × ((List (Int) × Int × Int))) :=
fun x =>
  ob (drawPointS ((x.1, x.snd.1, x.snd.2), (600 : Int), (600 : Int))) fun y =>
    ob (pickS ((y.snd.fst.1, y.snd.fst.snd.1, y.snd.fst.snd.2), (24 : Int))) fun y_1 =>
      br (y_1.1 == (0 : Int))
        (ob (amongS ((y_1.snd.fst.1, y_1.snd.fst.snd.1, y_1.snd.fst.snd.2), [(-1 : Int), (10000 : Int), (10001 : Int)]))
          fun y_2 => some ((y_2.1, y.fst.2), y_2.snd.fst.1, y_2.snd.fst.snd.1, y_2.snd.fst.snd.2))
        (br (y_1.1 == (1 : Int))
          (ob
            (amongS ((y_1.snd.fst.1, y_1.snd.fst.snd.1, y_1.snd.fst.snd.2), [(-1 : Int), (10000 : Int), (10001 : Int)]))
            fun y_2 => some ((y.fst.1, y_2.1), y_2.snd.fst.1, y_2.snd.fst.snd.1, y_2.snd.fst.snd.2))
          (some ((y.fst.1, y.fst.2), y_1.snd.fst.1, y_1.snd.fst.snd.1, y_1.snd.fst.snd.2)))
def bentPointS_con : MCon := ⟨[.box 96 (.pair (.slice (.int .u8)) (.pair (i64) (u64)))], [.d (.pair (i64) (i64))], bentPointS⟩
theorem bentPointS_run (x : ADens [.box 96 (.pair (.slice (.int .u8)) (.pair (i64) (u64)))]) : runFnM (mkEnvM [] [(49, drawPointS_con), (53, pickS_con), (54, amongS_con)] []) Try.f47 [.box 96 (.pair (.slice (.int .u8)) (.pair (i64) (u64)))] [.d (.pair (i64) (i64))] x = bentPointS x := by kernel_rfl
theorem bentPointS_ok : bentPointS_con.ok Try.prog 47 := fnM_ok (con := bentPointS_con) (mkEnvM_ok (cons := []) (mcons := [(49, drawPointS_con), (53, pickS_con), (54, amongS_con)]) trivial ⟨drawPointS_ok, pickS_ok, amongS_ok, trivial⟩ []) Try.func47 rfl (by kernel_rfl) (by exact trivial) (fun x y h => (bentPointS_run x).trans h)

def drawThirdS : List (Int) → Option ((Int × Int) × (Int × Int) × Int × Int × Bool) :=
fun x =>
  ob (fromS x) fun y =>
    ob (bentPointS (y.1, y.snd.1, y.snd.2)) fun y =>
      ob (bentPointS (y.snd.1, y.snd.snd.1, y.snd.snd.2)) fun y_1 =>
        ob (oneS ((y_1.snd.1, y_1.snd.snd.1, y_1.snd.snd.2), (12 : Int))) fun y_2 =>
          br y_2.1
            (ob (drawPointS ((y_2.snd.fst.1, y_2.snd.fst.snd.1, y_2.snd.fst.snd.2), (600 : Int), (600 : Int)))
              fun y_3 =>
              ob (sqS ((y.fst.1, y.fst.2), y_3.fst.1, y_3.fst.2)) fun y_4 =>
                ob (minP (y_4, (100000000 : Int))) fun y_5 =>
                  ob (rootS y_5) fun y_6 =>
                    ob (pickS ((y_3.snd.fst.1, y_3.snd.fst.snd.1, y_3.snd.fst.snd.2), (3 : Int))) fun y_7 =>
                      ob (sqS ((y.fst.1, y.fst.2), y_3.fst.1, y_3.fst.2)) fun y_8 =>
                        ob (minP (y_8, (100000000 : Int))) fun y_9 =>
                          ob (rootS y_9) fun y_10 =>
                            ob (pickS ((y_7.snd.fst.1, y_7.snd.fst.snd.1, y_7.snd.fst.snd.2), (3 : Int))) fun y_11 =>
                              ob (oneS ((y_11.snd.fst.1, y_11.snd.fst.snd.1, y_11.snd.fst.snd.2), (6 : Int)))
                                fun y_12 =>
                                br y_12.1
                                  (ob (pickS ((y_12.snd.fst.1, y_12.snd.fst.snd.1, y_12.snd.fst.snd.2), (400 : Int)))
                                    fun y_13 =>
                                    ob (oneS ((y_13.snd.fst.1, y_13.snd.fst.snd.1, y_13.snd.fst.snd.2), (20 : Int)))
                                      fun y_14 =>
                                      br y_14.1
                                        (ob
                                          (amongS
                                            ((y_14.snd.fst.1, y_14.snd.fst.snd.1, y_14.snd.fst.snd.2),
                                              [(-1 : Int), (0 : Int), (10000 : Int), (10001 : Int)]))
                                          fun y_15 =>
                                          ob
                                            (oneS ((y_15.snd.fst.1, y_15.snd.fst.snd.1, y_15.snd.fst.snd.2), (2 : Int)))
                                            fun y_16 =>
                                            some ((y.fst.1, y.fst.2), (y.fst.1, y.fst.2), y_13.1, y_15.1, y_16.1))
                                        (ob (oneS ((y_14.snd.fst.1, y_14.snd.fst.snd.1, y_14.snd.fst.snd.2), (2 : Int)))
                                          fun y_15 =>
                                          some
                                            ((y.fst.1, y.fst.2), (y.fst.1, y.fst.2), y_13.1,
                                              IntKind.i64.wrap (y_10 + y_11.1), y_15.1)))
                                  (ob (oneS ((y_12.snd.fst.1, y_12.snd.fst.snd.1, y_12.snd.fst.snd.2), (20 : Int)))
                                    fun y_13 =>
                                    br y_13.1
                                      (ob
                                        (amongS
                                          ((y_13.snd.fst.1, y_13.snd.fst.snd.1, y_13.snd.fst.snd.2),
                                            [(-1 : Int), (0 : Int), (10000 : Int), (10001 : Int)]))
                                        fun y_14 =>
                                        ob (oneS ((y_14.snd.fst.1, y_14.snd.fst.snd.1, y_14.snd.fst.snd.2), (2 : Int)))
                                          fun y_15 =>
                                          some
                                            ((y.fst.1, y.fst.2), (y.fst.1, y.fst.2), IntKind.i64.wrap (y_6 + y_7.1),
                                              y_14.1, y_15.1))
                                      (ob (oneS ((y_13.snd.fst.1, y_13.snd.fst.snd.1, y_13.snd.fst.snd.2), (2 : Int)))
                                        fun y_14 =>
                                        some
                                          ((y.fst.1, y.fst.2), (y.fst.1, y.fst.2), IntKind.i64.wrap (y_6 + y_7.1),
                                            IntKind.i64.wrap (y_10 + y_11.1), y_14.1))))
            (ob (drawPointS ((y_2.snd.fst.1, y_2.snd.fst.snd.1, y_2.snd.fst.snd.2), (600 : Int), (600 : Int)))
              fun y_3 =>
              ob (sqS ((y.fst.1, y.fst.2), y_3.fst.1, y_3.fst.2)) fun y_4 =>
                ob (minP (y_4, (100000000 : Int))) fun y_5 =>
                  ob (rootS y_5) fun y_6 =>
                    ob (pickS ((y_3.snd.fst.1, y_3.snd.fst.snd.1, y_3.snd.fst.snd.2), (3 : Int))) fun y_7 =>
                      ob (sqS ((y_1.fst.1, y_1.fst.2), y_3.fst.1, y_3.fst.2)) fun y_8 =>
                        ob (minP (y_8, (100000000 : Int))) fun y_9 =>
                          ob (rootS y_9) fun y_10 =>
                            ob (pickS ((y_7.snd.fst.1, y_7.snd.fst.snd.1, y_7.snd.fst.snd.2), (3 : Int))) fun y_11 =>
                              ob (oneS ((y_11.snd.fst.1, y_11.snd.fst.snd.1, y_11.snd.fst.snd.2), (6 : Int)))
                                fun y_12 =>
                                br y_12.1
                                  (ob (pickS ((y_12.snd.fst.1, y_12.snd.fst.snd.1, y_12.snd.fst.snd.2), (400 : Int)))
                                    fun y_13 =>
                                    ob (oneS ((y_13.snd.fst.1, y_13.snd.fst.snd.1, y_13.snd.fst.snd.2), (20 : Int)))
                                      fun y_14 =>
                                      br y_14.1
                                        (ob
                                          (amongS
                                            ((y_14.snd.fst.1, y_14.snd.fst.snd.1, y_14.snd.fst.snd.2),
                                              [(-1 : Int), (0 : Int), (10000 : Int), (10001 : Int)]))
                                          fun y_15 =>
                                          ob
                                            (oneS ((y_15.snd.fst.1, y_15.snd.fst.snd.1, y_15.snd.fst.snd.2), (2 : Int)))
                                            fun y_16 =>
                                            some ((y.fst.1, y.fst.2), (y_1.fst.1, y_1.fst.2), y_13.1, y_15.1, y_16.1))
                                        (ob (oneS ((y_14.snd.fst.1, y_14.snd.fst.snd.1, y_14.snd.fst.snd.2), (2 : Int)))
                                          fun y_15 =>
                                          some
                                            ((y.fst.1, y.fst.2), (y_1.fst.1, y_1.fst.2), y_13.1,
                                              IntKind.i64.wrap (y_10 + y_11.1), y_15.1)))
                                  (ob (oneS ((y_12.snd.fst.1, y_12.snd.fst.snd.1, y_12.snd.fst.snd.2), (20 : Int)))
                                    fun y_13 =>
                                    br y_13.1
                                      (ob
                                        (amongS
                                          ((y_13.snd.fst.1, y_13.snd.fst.snd.1, y_13.snd.fst.snd.2),
                                            [(-1 : Int), (0 : Int), (10000 : Int), (10001 : Int)]))
                                        fun y_14 =>
                                        ob (oneS ((y_14.snd.fst.1, y_14.snd.fst.snd.1, y_14.snd.fst.snd.2), (2 : Int)))
                                          fun y_15 =>
                                          some
                                            ((y.fst.1, y.fst.2), (y_1.fst.1, y_1.fst.2), IntKind.i64.wrap (y_6 + y_7.1),
                                              y_14.1, y_15.1))
                                      (ob (oneS ((y_13.snd.fst.1, y_13.snd.fst.snd.1, y_13.snd.fst.snd.2), (2 : Int)))
                                        fun y_14 =>
                                        some
                                          ((y.fst.1, y.fst.2), (y_1.fst.1, y_1.fst.2), IntKind.i64.wrap (y_6 + y_7.1),
                                            IntKind.i64.wrap (y_10 + y_11.1), y_14.1))))
def drawThirdS_con : Con := ⟨[.slice (.int .u8)], [.d (.pair (i64) (i64)), .d (.pair (i64) (i64)), .d (i64), .d (i64), .d (.bool)], drawThirdS⟩
theorem drawThirdS_run (x : Dens [.slice (.int .u8)]) : runFn (mkEnvM [(46, fromS_con), (51, minP_con), (52, sqS_con), (50, rootS_con)] [(47, bentPointS_con), (48, oneS_con), (49, drawPointS_con), (53, pickS_con), (54, amongS_con)] []) Try.f14 [.slice (.int .u8)] [.d (.pair (i64) (i64)), .d (.pair (i64) (i64)), .d (i64), .d (i64), .d (.bool)] x = drawThirdS x := by kernel_rfl
theorem drawThirdS_ok : drawThirdS_con.ok Try.prog 14 := fn_ok (con := drawThirdS_con) (mkEnvM_ok (cons := [(46, fromS_con), (51, minP_con), (52, sqS_con), (50, rootS_con)]) (mcons := [(47, bentPointS_con), (48, oneS_con), (49, drawPointS_con), (53, pickS_con), (54, amongS_con)]) ⟨fromS_ok, minP_ok, sqS_ok, rootS_ok, trivial⟩ ⟨bentPointS_ok, oneS_ok, drawPointS_ok, pickS_ok, amongS_ok, trivial⟩ []) Try.func14 rfl (by kernel_rfl) (by exact trivial) (fun x y h => (drawThirdS_run x).trans h)

def fnThird : List (Int) → Option (Bool) :=
fun x =>
  ob (f6big x) fun y =>
    br y (some true)
      (ob (drawThirdS x) fun y =>
        ob (thirdI ((y.fst.1, y.fst.2), (y.snd.fst.1, y.snd.fst.2), y.snd.snd.1, y.snd.snd.snd.1, y.snd.snd.snd.2))
          fun y_1 =>
          ob (thirdS ((y.fst.1, y.fst.2), (y.snd.fst.1, y.snd.fst.2), y.snd.snd.1, y.snd.snd.snd.1, y.snd.snd.snd.2))
            fun y_2 =>
            ob (thirdI ((y.snd.fst.1, y.snd.fst.2), (y.fst.1, y.fst.2), y.snd.snd.snd.1, y.snd.snd.1, !y.snd.snd.snd.2))
              fun y_3 =>
              br (y_1.2 != y_2.2) (some false)
                (br (!(y_1.fst.1 == y_2.fst.1 && y_1.fst.2 == y_2.fst.2)) (some false)
                  (br (y_3.2 != y_2.2) (some false)
                    (br (!(y_3.fst.1 == y_2.fst.1 && y_3.fst.2 == y_2.fst.2)) (some false)
                      (br (y_1.2 != (0 : Int)) (some true)
                        (ob (sqDistI ((y.fst.1, y.fst.2), y_1.fst.1, y_1.fst.2)) fun y_4 =>
                          ob (sqDistI ((y.snd.fst.1, y.snd.fst.2), y_1.fst.1, y_1.fst.2)) fun y_5 =>
                            ob (sqDistI ((y.fst.1, y.fst.2), y.snd.fst.1, y.snd.fst.2)) fun y_6 =>
                              ob (crossL ((y.fst.1, y.fst.2), (y.snd.fst.1, y.snd.fst.2), y_1.fst.1, y_1.fst.2))
                                fun y_7 =>
                                br (!y.snd.snd.snd.2)
                                  (br (y_4.2 == (0 : Int))
                                    (br (y_5.2 == (0 : Int))
                                      (br (y_6.2 == (0 : Int))
                                        (ob
                                          (sizeL
                                            (IntKind.i64.wrap (y_4.1 - IntKind.i64.wrap (y.snd.snd.1 * y.snd.snd.1))))
                                          fun y_8 =>
                                          br
                                            (decide
                                              (y_8 ≤
                                                IntKind.i64.wrap
                                                  (IntKind.i64.wrap ((3 : Int) * y.snd.snd.1) + (3 : Int))))
                                            (ob
                                              (sizeL
                                                (IntKind.i64.wrap
                                                  (y_5.1 - IntKind.i64.wrap (y.snd.snd.snd.1 * y.snd.snd.snd.1))))
                                              fun y_9 =>
                                              br
                                                (decide
                                                  (y_9 ≤
                                                    IntKind.i64.wrap
                                                      (IntKind.i64.wrap ((3 : Int) * y.snd.snd.snd.1) + (3 : Int))))
                                                (br (decide ((0 : Int) ≤ IntKind.i64.wrap ((0 : Int) - y_7)))
                                                  (some true)
                                                  (some
                                                    (decide
                                                      (IntKind.i64.wrap
                                                          (IntKind.i64.wrap ((0 : Int) - y_7) *
                                                            IntKind.i64.wrap ((0 : Int) - y_7)) ≤
                                                        IntKind.i64.wrap ((2 : Int) * y_6.1)))))
                                                (some false))
                                            (some false))
                                        (some false))
                                      (some false))
                                    (some false))
                                  (br (y_4.2 == (0 : Int))
                                    (br (y_5.2 == (0 : Int))
                                      (br (y_6.2 == (0 : Int))
                                        (ob
                                          (sizeL
                                            (IntKind.i64.wrap (y_4.1 - IntKind.i64.wrap (y.snd.snd.1 * y.snd.snd.1))))
                                          fun y_8 =>
                                          br
                                            (decide
                                              (y_8 ≤
                                                IntKind.i64.wrap
                                                  (IntKind.i64.wrap ((3 : Int) * y.snd.snd.1) + (3 : Int))))
                                            (ob
                                              (sizeL
                                                (IntKind.i64.wrap
                                                  (y_5.1 - IntKind.i64.wrap (y.snd.snd.snd.1 * y.snd.snd.snd.1))))
                                              fun y_9 =>
                                              br
                                                (decide
                                                  (y_9 ≤
                                                    IntKind.i64.wrap
                                                      (IntKind.i64.wrap ((3 : Int) * y.snd.snd.snd.1) + (3 : Int))))
                                                (br (decide ((0 : Int) ≤ y_7)) (some true)
                                                  (some
                                                    (decide
                                                      (IntKind.i64.wrap (y_7 * y_7) ≤
                                                        IntKind.i64.wrap ((2 : Int) * y_6.1)))))
                                                (some false))
                                            (some false))
                                        (some false))
                                      (some false))
                                    (some false))))))))
def fnThird_con : Con := ⟨[.slice (.int .u8)], [.d (.bool)], fnThird⟩
theorem fnThird_run (x : Dens [.slice (.int .u8)]) : runFn (mkEnv [(13, f6big_con), (14, drawThirdS_con), (15, thirdI_con), (16, thirdS_con), (17, sqDistI_con), (18, crossL_con), (19, sizeL_con)] []) Try.f4 [.slice (.int .u8)] [.d (.bool)] x = fnThird x := by kernel_rfl
theorem fnThird_ok : fnThird_con.ok Try.prog 4 := fn_ok (con := fnThird_con) (mkEnv_ok (cons := [(13, f6big_con), (14, drawThirdS_con), (15, thirdI_con), (16, thirdS_con), (17, sqDistI_con), (18, crossL_con), (19, sizeL_con)]) ⟨f6big_ok, drawThirdS_ok, thirdI_ok, thirdS_ok, sqDistI_ok, crossL_ok, sizeL_ok, trivial⟩ []) Try.func4 rfl (by kernel_rfl) (by exact trivial) (fun x y h => (fnThird_run x).trans h)

end
end Rx
end Go.Proofs.Ytckbhfbcblehmaa
