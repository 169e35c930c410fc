/- What the sum of ratios comes to. No conditions. -/
import Derived.Test.YtfapjkcmoefilaaDoorRxEnv
import Derived.Test.YtfapjkcmoefilaaDoorRxRatI
import Derived.Test.YtfapjkcmoefilaaDoorRxRatS
namespace Go.Proofs.YtfapjkcmoefilaaDoor
namespace Rx
open Go

def codeS : (Int × Int) × Bool → Option ((Int × Int) × Int) :=
fun x => br (!x.2) (some (((0 : Int), (0 : Int)), (2 : Int))) (some ((x.fst.1, x.fst.2), (0 : Int)))
def codeS_con : Con := ⟨[.pair (i64) (i64), .bool], [.d (.pair (i64) (i64)), .d (i64)], codeS⟩
theorem codeS_run (x : Dens [.pair (i64) (i64), .bool]) : runFn (mkEnv [] []) Tryd.f59 [.pair (i64) (i64), .bool] [.d (.pair (i64) (i64)), .d (i64)] x = codeS x := by kernel_rfl
theorem codeS_ok : codeS_con.ok Tryd.prog 59 := fn_ok (con := codeS_con) (mkEnv_ok (cons := []) trivial []) Tryd.func59 rfl (by kernel_rfl) (by exact trivial) (fun x y h => (codeS_run x).trans h)

def addRatI : (Int × Int) × (Int × Int) → Option ((Int × Int) × Int) :=
fun x =>
  ob (validRatI (x.fst.1, x.fst.2)) fun y =>
    br (!y) (some (((0 : Int), (0 : Int)), (1 : Int)))
      (ob (validRatI (x.snd.1, x.snd.2)) fun y =>
        br (!y) (some (((0 : Int), (0 : Int)), (1 : Int)))
          (ob
            (makeRatI
              (IntKind.i64.wrap (IntKind.i64.wrap (x.fst.1 * x.snd.2) + IntKind.i64.wrap (x.snd.1 * x.fst.2)),
                IntKind.i64.wrap (x.fst.2 * x.snd.2)))
            fun y => some ((y.fst.1, y.fst.2), y.2)))
def addRatI_con : Con := ⟨[.pair (i64) (i64), .pair (i64) (i64)], [.d (.pair (i64) (i64)), .d (i64)], addRatI⟩
theorem addRatI_run (x : Dens [.pair (i64) (i64), .pair (i64) (i64)]) : runFn (mkEnv [(53, validRatI_con), (54, makeRatI_con)] []) Tryd.f56 [.pair (i64) (i64), .pair (i64) (i64)] [.d (.pair (i64) (i64)), .d (i64)] x = addRatI x := by kernel_rfl
theorem addRatI_ok : addRatI_con.ok Tryd.prog 56 := fn_ok (con := addRatI_con) (mkEnv_ok (cons := [(53, validRatI_con), (54, makeRatI_con)]) ⟨validRatI_ok, makeRatI_ok, trivial⟩ []) Tryd.func56 rfl (by kernel_rfl) (by exact trivial) (fun x y h => (addRatI_run x).trans h)



def mulRatS : (Int × Int) × (Int × Int) → Option ((Int × Int) × Int) :=
fun x =>
  ob (okRatS (x.fst.1, x.fst.2)) fun y =>
    br (!y) (some (((0 : Int), (0 : Int)), (1 : Int)))
      (ob (okRatS (x.snd.1, x.snd.2)) fun y =>
        br (!y) (some (((0 : Int), (0 : Int)), (1 : Int)))
          (ob (mulS ((x.fst.1, x.fst.2), x.snd.1, x.snd.2)) fun y =>
            ob (codeS ((y.fst.1, y.fst.2), y.2)) fun y => some ((y.fst.1, y.fst.2), y.2)))
def mulRatS_con : Con := ⟨[.pair (i64) (i64), .pair (i64) (i64)], [.d (.pair (i64) (i64)), .d (i64)], mulRatS⟩
theorem mulRatS_run (x : Dens [.pair (i64) (i64), .pair (i64) (i64)]) : runFn (mkEnv [(58, okRatS_con), (60, mulS_con), (59, codeS_con)] []) Tryd.f21 [.pair (i64) (i64), .pair (i64) (i64)] [.d (.pair (i64) (i64)), .d (i64)] x = mulRatS x := by kernel_rfl
theorem mulRatS_ok : mulRatS_con.ok Tryd.prog 21 := fn_ok (con := mulRatS_con) (mkEnv_ok (cons := [(58, okRatS_con), (60, mulS_con), (59, codeS_con)]) ⟨okRatS_ok, mulS_ok, codeS_ok, trivial⟩ []) Tryd.func21 rfl (by kernel_rfl) (by exact trivial) (fun x y h => (mulRatS_run x).trans h)

end Rx
end Go.Proofs.YtfapjkcmoefilaaDoor
