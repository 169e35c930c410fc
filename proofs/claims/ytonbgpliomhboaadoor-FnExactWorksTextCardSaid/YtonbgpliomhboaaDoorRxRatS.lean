/- What the functions of RxRatS come to, and their contracts. No conditions. -/
import Derived.Test.YtonbgpliomhboaaDoorRxEnv
namespace Go.Proofs.YtonbgpliomhboaaDoor
namespace Rx
open Go

def inS : Int × Int × Int → Option (Bool) :=
fun x => br (decide (x.snd.1 ≤ x.1)) (some (decide (x.1 ≤ x.snd.2))) (some false)
def inS_con : Con := ⟨[i64, i64, i64], [.d (.bool)], inS⟩
theorem inS_run (x : Dens [i64, i64, i64]) : runFn (mkEnv [] []) Tryd.f51 [i64, i64, i64] [.d (.bool)] x = inS x := by kernel_rfl
theorem inS_ok : inS_con.ok Tryd.prog 51 := fn_ok (con := inS_con) (mkEnv_ok (cons := []) trivial []) Tryd.func51 rfl (by kernel_rfl) (by exact trivial) (fun x y h => (inS_run x).trans h)

def teethS : Int → Option (Bool) :=
fun x => ob (inS (x, (6 : Int), (240 : Int))) fun y => some y
def teethS_con : Con := ⟨[i64], [.d (.bool)], teethS⟩
theorem teethS_run (x : Dens [i64]) : runFn (mkEnv [(51, inS_con)] []) Tryd.f39 [i64] [.d (.bool)] x = teethS x := by kernel_rfl
theorem teethS_ok : teethS_con.ok Tryd.prog 39 := fn_ok (con := teethS_con) (mkEnv_ok (cons := [(51, inS_con)]) ⟨inS_ok, trivial⟩ []) Tryd.func39 rfl (by kernel_rfl) (by exact trivial) (fun x y h => (teethS_run x).trans h)












end Rx
end Go.Proofs.YtonbgpliomhboaaDoor
