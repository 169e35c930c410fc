/- What the functions of RxRatI come to, and their contracts. No conditions. -/
import Derived.Test.YtonbgpliomhboaaDoorRxEnv
namespace Go.Proofs.YtonbgpliomhboaaDoor
namespace Rx
open Go

def withinI : Int × Int × Int → Option (Bool) :=
fun x => br (decide (x.snd.1 ≤ x.1)) (some (decide (x.1 ≤ x.snd.2))) (some false)
def withinI_con : Con := ⟨[i64, i64, i64], [.d (.bool)], withinI⟩
theorem withinI_run (x : Dens [i64, i64, i64]) : runFn (mkEnv [] []) Tryd.f54 [i64, i64, i64] [.d (.bool)] x = withinI x := by kernel_rfl
theorem withinI_ok : withinI_con.ok Tryd.prog 54 := fn_ok (con := withinI_con) (mkEnv_ok (cons := []) trivial []) Tryd.func54 rfl (by kernel_rfl) (by exact trivial) (fun x y h => (withinI_run x).trans h)

def toothedI : Int → Option (Bool) :=
fun x => ob (withinI (x, (6 : Int), (240 : Int))) fun y => some y
def toothedI_con : Con := ⟨[i64], [.d (.bool)], toothedI⟩
theorem toothedI_run (x : Dens [i64]) : runFn (mkEnv [(54, withinI_con)] []) Tryd.f44 [i64] [.d (.bool)] x = toothedI x := by kernel_rfl
theorem toothedI_ok : toothedI_con.ok Tryd.prog 44 := fn_ok (con := toothedI_con) (mkEnv_ok (cons := [(54, withinI_con)]) ⟨withinI_ok, trivial⟩ []) Tryd.func44 rfl (by kernel_rfl) (by exact trivial) (fun x y h => (toothedI_run x).trans h)










end Rx
end Go.Proofs.YtonbgpliomhboaaDoor
