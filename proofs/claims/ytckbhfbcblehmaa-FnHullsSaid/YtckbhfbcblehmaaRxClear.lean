/- What the functions of RxClear come to, and their contracts. No conditions. -/
import Derived.Test.YtckbhfbcblehmaaRxEnv
import Derived.Test.YtckbhfbcblehmaaRxSites
import Derived.Test.YtckbhfbcblehmaaRxRoot
namespace Go.Proofs.Ytckbhfbcblehmaa
namespace Rx
open Go

noncomputable section
def sqI : (Int × Int) × (Int × Int) → Option (Int) :=
fun x =>
  some
    (IntKind.i64.wrap
      (IntKind.i64.wrap (IntKind.i64.wrap (x.fst.1 - x.snd.1) * IntKind.i64.wrap (x.fst.1 - x.snd.1)) +
        IntKind.i64.wrap (IntKind.i64.wrap (x.fst.2 - x.snd.2) * IntKind.i64.wrap (x.fst.2 - x.snd.2))))
def sqI_con : Con := ⟨[.pair (i64) (i64), .pair (i64) (i64)], [.d (i64)], sqI⟩
theorem sqI_run (x : Dens [.pair (i64) (i64), .pair (i64) (i64)]) : runFn (mkEnv [] []) Try.f62 [.pair (i64) (i64), .pair (i64) (i64)] [.d (i64)] x = sqI x := by kernel_rfl
theorem sqI_ok : sqI_con.ok Try.prog 62 := fn_ok (con := sqI_con) (mkEnv_ok (cons := []) trivial []) Try.func62 rfl (by kernel_rfl) (by exact trivial) (fun x y h => (sqI_run x).trans h)

def clearI : (ByteArray × (Int × Int) × Int × Int) × (ByteArray × (Int × Int) × Int × Int) → Option (Int) :=
fun x =>
  ob (sqI ((x.fst.snd.fst.1, x.fst.snd.fst.2), x.snd.snd.fst.1, x.snd.snd.fst.2)) fun y =>
    ob (rootI y) fun y => some (IntKind.i64.wrap (IntKind.i64.wrap (y - x.fst.snd.snd.1) - x.snd.snd.snd.2))
def clearI_con : Con := ⟨[.pair (.str) (.pair (.pair (i64) (i64)) (.pair (i64) (i64))), .pair (.str) (.pair (.pair (i64) (i64)) (.pair (i64) (i64)))], [.d (i64)], clearI⟩
theorem clearI_run (x : Dens [.pair (.str) (.pair (.pair (i64) (i64)) (.pair (i64) (i64))), .pair (.str) (.pair (.pair (i64) (i64)) (.pair (i64) (i64)))]) : runFn (mkEnv [(62, sqI_con), (57, rootI_con)] []) Try.f69 [.pair (.str) (.pair (.pair (i64) (i64)) (.pair (i64) (i64))), .pair (.str) (.pair (.pair (i64) (i64)) (.pair (i64) (i64)))] [.d (i64)] x = clearI x := by kernel_rfl
theorem clearI_ok : clearI_con.ok Try.prog 69 := fn_ok (con := clearI_con) (mkEnv_ok (cons := [(62, sqI_con), (57, rootI_con)]) ⟨sqI_ok, rootI_ok, trivial⟩ []) Try.func69 rfl (by kernel_rfl) (by exact trivial) (fun x y h => (clearI_run x).trans h)

def betweenI : (Int × Int × Int × Int × List ((ByteArray × (Int × Int) × Int × Int))) × Int × Int → Option (Int × Int) :=
fun x =>
  ob (validPlateI (x.fst.1, x.fst.snd.1, x.fst.snd.snd.1, x.fst.snd.snd.snd.1, x.fst.snd.snd.snd.2)) fun y =>
    br (!y) (some ((0 : Int), (1 : Int)))
      (ob (withinP (x.snd.1, (0 : Int), IntKind.i64.wrap ((↑(List.length x.fst.snd.snd.snd.2) : Int) - (1 : Int))))
        fun y =>
        br (!y) (some ((0 : Int), (2 : Int)))
          (ob (withinP (x.snd.2, (0 : Int), IntKind.i64.wrap ((↑(List.length x.fst.snd.snd.snd.2) : Int) - (1 : Int))))
            fun y =>
            br (!y) (some ((0 : Int), (2 : Int)))
              (br (x.snd.1 == x.snd.2) (some ((0 : Int), (2 : Int)))
                (ob (idx x.fst.snd.snd.snd.2 x.snd.1) fun y =>
                  ob (idx x.fst.snd.snd.snd.2 x.snd.2) fun y_1 =>
                    ob
                      (clearI
                        ((y.1, (y.snd.fst.1, y.snd.fst.2), y.snd.snd.1, y.snd.snd.2), y_1.1,
                          (y_1.snd.fst.1, y_1.snd.fst.2), y_1.snd.snd.1, y_1.snd.snd.2))
                      fun y => some (y, (0 : Int))))))
def betweenI_con : Con := ⟨[.pair (i64) (.pair (i64) (.pair (i64) (.pair (i64) (.slice (.pair (.str) (.pair (.pair (i64) (i64)) (.pair (i64) (i64)))))))), i64, i64], [.d (i64), .d (i64)], betweenI⟩
theorem betweenI_run (x : Dens [.pair (i64) (.pair (i64) (.pair (i64) (.pair (i64) (.slice (.pair (.str) (.pair (.pair (i64) (i64)) (.pair (i64) (i64)))))))), i64, i64]) : runFn (mkEnv [(24, validPlateI_con), (56, withinP_con), (69, clearI_con)] []) Try.f34 [.pair (i64) (.pair (i64) (.pair (i64) (.pair (i64) (.slice (.pair (.str) (.pair (.pair (i64) (i64)) (.pair (i64) (i64)))))))), i64, i64] [.d (i64), .d (i64)] x = betweenI x := by kernel_rfl
theorem betweenI_ok : betweenI_con.ok Try.prog 34 := fn_ok (con := betweenI_con) (mkEnv_ok (cons := [(24, validPlateI_con), (56, withinP_con), (69, clearI_con)]) ⟨validPlateI_ok, withinP_ok, clearI_ok, trivial⟩ []) Try.func34 rfl (by kernel_rfl) (by exact trivial) (fun x y h => (betweenI_run x).trans h)

def sqS : (Int × Int) × (Int × Int) → Option (Int) :=
fun x =>
  some
    (IntKind.i64.wrap
      (IntKind.i64.wrap (IntKind.i64.wrap (x.fst.1 - x.snd.1) * IntKind.i64.wrap (x.fst.1 - x.snd.1)) +
        IntKind.i64.wrap (IntKind.i64.wrap (x.fst.2 - x.snd.2) * IntKind.i64.wrap (x.fst.2 - x.snd.2))))
def sqS_con : Con := ⟨[.pair (i64) (i64), .pair (i64) (i64)], [.d (i64)], sqS⟩
theorem sqS_run (x : Dens [.pair (i64) (i64), .pair (i64) (i64)]) : runFn (mkEnv [] []) Try.f52 [.pair (i64) (i64), .pair (i64) (i64)] [.d (i64)] x = sqS x := by kernel_rfl
theorem sqS_ok : sqS_con.ok Try.prog 52 := fn_ok (con := sqS_con) (mkEnv_ok (cons := []) trivial []) Try.func52 rfl (by kernel_rfl) (by exact trivial) (fun x y h => (sqS_run x).trans h)

def clearS : (Int × Int × Int × Int × List ((ByteArray × (Int × Int) × Int × Int))) × Int × Int → Option (Int) :=
fun x =>
  ob (idx x.fst.snd.snd.snd.2 x.snd.1) fun y =>
    ob (idx x.fst.snd.snd.snd.2 x.snd.2) fun y_1 =>
      ob (sqS ((y.snd.fst.1, y.snd.fst.2), y_1.snd.fst.1, y_1.snd.fst.2)) fun y =>
        ob (rootS y) fun y =>
          ob (idx x.fst.snd.snd.snd.2 x.snd.1) fun y_2 =>
            ob (idx x.fst.snd.snd.snd.2 x.snd.2) fun y_3 =>
              some (IntKind.i64.wrap (IntKind.i64.wrap (y - y_2.snd.snd.1) - y_3.snd.snd.2))
def clearS_con : Con := ⟨[.pair (i64) (.pair (i64) (.pair (i64) (.pair (i64) (.slice (.pair (.str) (.pair (.pair (i64) (i64)) (.pair (i64) (i64)))))))), i64, i64], [.d (i64)], clearS⟩
theorem clearS_run (x : Dens [.pair (i64) (.pair (i64) (.pair (i64) (.pair (i64) (.slice (.pair (.str) (.pair (.pair (i64) (i64)) (.pair (i64) (i64)))))))), i64, i64]) : runFn (mkEnv [(52, sqS_con), (50, rootS_con)] []) Try.f70 [.pair (i64) (.pair (i64) (.pair (i64) (.pair (i64) (.slice (.pair (.str) (.pair (.pair (i64) (i64)) (.pair (i64) (i64)))))))), i64, i64] [.d (i64)] x = clearS x := by kernel_rfl
theorem clearS_ok : clearS_con.ok Try.prog 70 := fn_ok (con := clearS_con) (mkEnv_ok (cons := [(52, sqS_con), (50, rootS_con)]) ⟨sqS_ok, rootS_ok, trivial⟩ []) Try.func70 rfl (by kernel_rfl) (by exact trivial) (fun x y h => (clearS_run x).trans h)

end
end Rx
end Go.Proofs.Ytckbhfbcblehmaa
