/- What the functions of RxClearEnd come to, and their contracts. No conditions. -/
import Derived.Test.YtblonadjjbmmnaaRxEnv
import Derived.Test.YtblonadjjbmmnaaRxClear
namespace Go.Proofs.Ytblonadjjbmmnaa
namespace Rx
open Go

noncomputable section
def betweenS : (Int × Int × Int × Int × List ((ByteArray × (Int × Int) × Int × Int))) × Int × Int → Option (Int × Int) :=
fun x =>
  ob (okPlateS (x.fst.1, x.fst.snd.1, x.fst.snd.snd.1, x.fst.snd.snd.snd.1, x.fst.snd.snd.snd.2)) fun y =>
    br (!y) (some ((0 : Int), (1 : Int)))
      (ob (inP (x.snd.1, (0 : Int), IntKind.i64.wrap ((↑(List.length x.fst.snd.snd.snd.2) : Int) - (1 : Int)))) fun y =>
        br (!y) (some ((0 : Int), (2 : Int)))
          (ob (inP (x.snd.2, (0 : Int), IntKind.i64.wrap ((↑(List.length x.fst.snd.snd.snd.2) : Int) - (1 : Int))))
            fun y =>
            br (!y) (some ((0 : Int), (2 : Int)))
              (br (x.snd.1 == x.snd.2) (some ((0 : Int), (2 : Int)))
                (ob
                  (clearS
                    ((x.fst.1, x.fst.snd.1, x.fst.snd.snd.1, x.fst.snd.snd.snd.1, x.fst.snd.snd.snd.2), x.snd.1,
                      x.snd.2))
                  fun y => some (y, (0 : Int))))))
def betweenS_con : Con := ⟨[.pair (i64) (.pair (i64) (.pair (i64) (.pair (i64) (.slice (.pair (.str) (.pair (.pair (i64) (i64)) (.pair (i64) (i64)))))))), i64, i64], [.d (i64), .d (i64)], betweenS⟩
theorem betweenS_run (x : Dens [.pair (i64) (.pair (i64) (.pair (i64) (.pair (i64) (.slice (.pair (.str) (.pair (.pair (i64) (i64)) (.pair (i64) (i64)))))))), i64, i64]) : runFn (mkEnv [(49, okPlateS_con), (65, inP_con), (66, clearS_con)] []) Try.f25 [.pair (i64) (.pair (i64) (.pair (i64) (.pair (i64) (.slice (.pair (.str) (.pair (.pair (i64) (i64)) (.pair (i64) (i64)))))))), i64, i64] [.d (i64), .d (i64)] x = betweenS x := by kernel_rfl
theorem betweenS_ok : betweenS_con.ok Try.prog 25 := fn_ok (con := betweenS_con) (mkEnv_ok (cons := [(49, okPlateS_con), (65, inP_con), (66, clearS_con)]) ⟨okPlateS_ok, inP_ok, clearS_ok, trivial⟩ []) Try.func25 rfl (by kernel_rfl) (by exact trivial) (fun x y h => (betweenS_run x).trans h)

def lawClear : (Int × Int × Int × Int × List ((ByteArray × (Int × Int) × Int × Int))) × Int × Int → Option (Bool) :=
fun x =>
  ob (szPlateL ((x.fst.1, x.fst.snd.1, x.fst.snd.snd.1, x.fst.snd.snd.snd.1, x.fst.snd.snd.snd.2), (1048576 : Int)))
    fun y =>
    br (decide (y < (0 : Int))) (some true)
      (ob (toPlateD (x.fst.1, x.fst.snd.1, x.fst.snd.snd.1, x.fst.snd.snd.snd.1, x.fst.snd.snd.snd.2)) fun y =>
        ob (betweenS ((y.1, y.snd.1, y.snd.snd.1, y.snd.snd.snd.1, y.snd.snd.snd.2), x.snd.1, x.snd.2)) fun y =>
          ob (toPlateD (x.fst.1, x.fst.snd.1, x.fst.snd.snd.1, x.fst.snd.snd.snd.1, x.fst.snd.snd.snd.2)) fun y_1 =>
            ob (betweenI ((y_1.1, y_1.snd.1, y_1.snd.snd.1, y_1.snd.snd.snd.1, y_1.snd.snd.snd.2), x.snd.1, x.snd.2))
              fun y_2 =>
              br (y_2.1 != y.1) (some false)
                (br (y_2.2 != y.2) (some false)
                  (ob (toPlateD (x.fst.1, x.fst.snd.1, x.fst.snd.snd.1, x.fst.snd.snd.snd.1, x.fst.snd.snd.snd.2))
                    fun y =>
                    ob
                      (eqPlateL
                        ((y_1.1, y_1.snd.1, y_1.snd.snd.1, y_1.snd.snd.snd.1, y_1.snd.snd.snd.2), y.1, y.snd.1,
                          y.snd.snd.1, y.snd.snd.snd.1, y.snd.snd.snd.2))
                      fun y => br (!y) (some false) (some true))))
def lawClear_con : Con := ⟨[.pair (i64) (.pair (i64) (.pair (i64) (.pair (i64) (.slice (.pair (.str) (.pair (.pair (i64) (i64)) (.pair (i64) (i64)))))))), i64, i64], [.d (.bool)], lawClear⟩
theorem lawClear_run (x : Dens [.pair (i64) (.pair (i64) (.pair (i64) (.pair (i64) (.slice (.pair (.str) (.pair (.pair (i64) (i64)) (.pair (i64) (i64)))))))), i64, i64]) : runFn (mkEnv [(13, szPlateL_con), (15, toPlateD_con), (25, betweenS_con), (26, betweenI_con), (17, eqPlateL_con)] []) Try.f6 [.pair (i64) (.pair (i64) (.pair (i64) (.pair (i64) (.slice (.pair (.str) (.pair (.pair (i64) (i64)) (.pair (i64) (i64)))))))), i64, i64] [.d (.bool)] x = lawClear x := by kernel_rfl
theorem lawClear_ok : lawClear_con.ok Try.prog 6 := fn_ok (con := lawClear_con) (mkEnv_ok (cons := [(13, szPlateL_con), (15, toPlateD_con), (25, betweenS_con), (26, betweenI_con), (17, eqPlateL_con)]) ⟨szPlateL_ok, toPlateD_ok, betweenS_ok, betweenI_ok, eqPlateL_ok, trivial⟩ []) Try.func6 rfl (by kernel_rfl) (by exact trivial) (fun x y h => (lawClear_run x).trans h)

end
end Rx
end Go.Proofs.Ytblonadjjbmmnaa
