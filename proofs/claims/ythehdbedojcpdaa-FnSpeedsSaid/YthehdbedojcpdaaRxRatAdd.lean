/- What the sum of ratios comes to. No conditions. -/
import Derived.Test.YthehdbedojcpdaaRxEnv
import Derived.Test.YthehdbedojcpdaaRxRatI
import Derived.Test.YthehdbedojcpdaaRxRatS
namespace Go.Proofs.Ythehdbedojcpdaa
namespace Rx
open Go

def codeS : (Int × Int) × Bool → Option ((Int × Int) × Int) :=
fun x => br (!x.2) (some (((0 : Int), (0 : Int)), (2 : Int))) (some ((x.fst.1, x.fst.2), (0 : Int)))
def codeS_con : Con := ⟨[.pair (i64) (i64), .bool], [.d (.pair (i64) (i64)), .d (i64)], codeS⟩
theorem codeS_run (x : Dens [.pair (i64) (i64), .bool]) : runFn (mkEnv [] []) Try.f86 [.pair (i64) (i64), .bool] [.d (.pair (i64) (i64)), .d (i64)] x = codeS x := by kernel_rfl
theorem codeS_ok : codeS_con.ok Try.prog 86 := fn_ok (con := codeS_con) (mkEnv_ok (cons := []) trivial []) Try.func86 rfl (by kernel_rfl) (by exact trivial) (fun x y h => (codeS_run x).trans h)




def mulRatS : (Int × Int) × (Int × Int) → Option ((Int × Int) × Int) :=
fun x =>
  ob (okRatS (x.fst.1, x.fst.2)) fun y =>
    br (!y) (some (((0 : Int), (0 : Int)), (1 : Int)))
      (ob (okRatS (x.snd.1, x.snd.2)) fun y =>
        br (!y) (some (((0 : Int), (0 : Int)), (1 : Int)))
          (ob (mulS ((x.fst.1, x.fst.2), x.snd.1, x.snd.2)) fun y =>
            ob (codeS ((y.fst.1, y.fst.2), y.2)) fun y => some ((y.fst.1, y.fst.2), y.2)))
def mulRatS_con : Con := ⟨[.pair (i64) (i64), .pair (i64) (i64)], [.d (.pair (i64) (i64)), .d (i64)], mulRatS⟩
theorem mulRatS_run (x : Dens [.pair (i64) (i64), .pair (i64) (i64)]) : runFn (mkEnv [(85, okRatS_con), (87, mulS_con), (86, codeS_con)] []) Try.f41 [.pair (i64) (i64), .pair (i64) (i64)] [.d (.pair (i64) (i64)), .d (i64)] x = mulRatS x := by kernel_rfl
theorem mulRatS_ok : mulRatS_con.ok Try.prog 41 := fn_ok (con := mulRatS_con) (mkEnv_ok (cons := [(85, okRatS_con), (87, mulS_con), (86, codeS_con)]) ⟨okRatS_ok, mulS_ok, codeS_ok, trivial⟩ []) Try.func41 rfl (by kernel_rfl) (by exact trivial) (fun x y h => (mulRatS_run x).trans h)

end Rx
end Go.Proofs.Ythehdbedojcpdaa
