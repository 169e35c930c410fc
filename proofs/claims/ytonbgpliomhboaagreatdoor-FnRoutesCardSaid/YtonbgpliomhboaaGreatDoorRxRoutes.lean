/- What the functions of RxRoutes come to, and their contracts. No conditions. -/
import Derived.Test.YtonbgpliomhboaaGreatDoorRxEnv
import Derived.Test.YtonbgpliomhboaaGreatDoorRxFnSp
import Derived.Test.YtonbgpliomhboaaGreatDoorRxRouteLaw
import Derived.Test.YtonbgpliomhboaaGreatDoorRxReadW
import Derived.Test.YtonbgpliomhboaaGreatDoorRxSpeedsLaw
namespace Go.Proofs.YtonbgpliomhboaaGreatDoor
namespace Rx
open Go

noncomputable section
def trainRatioS : List ((Int × Int)) → Option ((Int × Int) × Int) :=
fun x =>
  ob (okTrainS x) fun y =>
    br (!y) (some (((0 : Int), (0 : Int)), (1 : Int)))
      (ob (trainRatS x) fun y => ob (codeS ((y.fst.1, y.fst.2), y.2)) fun y => some ((y.fst.1, y.fst.2), y.2))
def trainRatioS_con : Con := ⟨[.slice (.pair (i64) (i64))], [.d (.pair (i64) (i64)), .d (i64)], trainRatioS⟩
theorem trainRatioS_run (x : Dens [.slice (.pair (i64) (i64))]) : runFn (mkEnv [(39, okTrainS_con), (41, trainRatS_con), (40, codeS_con)] []) Tryz.f16 [.slice (.pair (i64) (i64))] [.d (.pair (i64) (i64)), .d (i64)] x = trainRatioS x := by kernel_rfl
theorem trainRatioS_ok : trainRatioS_con.ok Tryz.prog 16 := fn_ok (con := trainRatioS_con) (mkEnv_ok (cons := [(39, okTrainS_con), (41, trainRatS_con), (40, codeS_con)]) ⟨okTrainS_ok, trainRatS_ok, codeS_ok, trivial⟩ []) Tryz.func16 rfl (by kernel_rfl) (by exact trivial) (fun x y h => (trainRatioS_run x).trans h)

def fnRoutes : List (Int) × List (Int) → Option (Bool) :=
fun x =>
  ob (a2LongW (x.1, x.2)) fun y =>
    br y (some true)
      (ob (a2WorksS x.1) fun y =>
        ob (a2AtW (x.2, (0 : Int), (↑(List.length y.1) : Int))) fun y_1 =>
          ob (a2AtW (x.2, (1 : Int), (↑(List.length y.1) : Int))) fun y_2 =>
            ob (pathOI ((y.1, y.2), y_1, y_2)) fun y_3 =>
              ob (pathOI ((y.1, y.2), y_2, y_1)) fun y_4 =>
                br (y_3.2 != y_4.2) (some false)
                  (br ((↑(List.length y_3.1) : Int) != (↑(List.length y_4.1) : Int)) (some false)
                    (br (y_3.2 != (0 : Int)) (some (y_3.2 == (3 : Int)))
                      (ob (trainOI ((y.1, y.2), y_1, y_2)) fun y_5 =>
                        br (y_5.2 != (0 : Int))
                          (br (y_5.2 == (5 : Int)) (some (decide ((5 : Int) < (↑(List.length y_3.1) : Int))))
                            (some false))
                          (ob (speedsOS ((y.1, y.2), y_1)) fun y_6 =>
                            ob (trainRatioS y_5.1) fun y_7 =>
                              ob (wtI (y.1, y.2)) fun y_8 =>
                                ob (readWI y_8) fun y_9 =>
                                  br ((↑(List.length y_5.1) : Int) != (↑(List.length y_3.1) : Int)) (some false)
                                    (br (!y_9.2) (some false)
                                      (ob (sameWS ((y_9.fst.1, y_9.fst.2), y.1, y.2)) fun y =>
                                        br (!y) (some false)
                                          (br (y_6.2 != (0 : Int)) (some true)
                                            (br (y_7.2 != (0 : Int)) (some true)
                                              (ob (idx y_6.1 y_2) fun x =>
                                                ob (List.get?Internal y_6.1 (Int.toNat y_2)) fun x =>
                                                  some (y_7.fst.1 == x.1 && y_7.fst.2 == x.2)))))))))))
def fnRoutes_con : Con := ⟨[.slice (.int .u8), .slice (.int .u8)], [.d (.bool)], fnRoutes⟩
theorem fnRoutes_run (x : Dens [.slice (.int .u8), .slice (.int .u8)]) : runFn (mkEnv [(10, a2LongW_con), (11, a2WorksS_con), (12, a2AtW_con), (13, pathOI_con), (14, trainOI_con), (15, speedsOS_con), (16, trainRatioS_con), (17, wtI_con), (6, readWI_con), (18, sameWS_con)] []) Tryz.f4 [.slice (.int .u8), .slice (.int .u8)] [.d (.bool)] x = fnRoutes x := by kernel_rfl
theorem fnRoutes_ok : fnRoutes_con.ok Tryz.prog 4 := fn_ok (con := fnRoutes_con) (mkEnv_ok (cons := [(10, a2LongW_con), (11, a2WorksS_con), (12, a2AtW_con), (13, pathOI_con), (14, trainOI_con), (15, speedsOS_con), (16, trainRatioS_con), (17, wtI_con), (6, readWI_con), (18, sameWS_con)]) ⟨a2LongW_ok, a2WorksS_ok, a2AtW_ok, pathOI_ok, trainOI_ok, speedsOS_ok, trainRatioS_ok, wtI_ok, readWI_ok, sameWS_ok, trivial⟩ []) Tryz.func4 rfl (by kernel_rfl) (by exact trivial) (fun x y h => (fnRoutes_run x).trans h)

end
end Rx
end Go.Proofs.YtonbgpliomhboaaGreatDoor
