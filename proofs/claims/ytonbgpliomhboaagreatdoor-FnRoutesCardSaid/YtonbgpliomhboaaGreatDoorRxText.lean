/- What the functions of RxText come to, and their contracts. No conditions. -/
import Derived.Test.YtonbgpliomhboaaGreatDoorRxEnv
import Derived.Test.YtonbgpliomhboaaGreatDoorRxLib
import Derived.Test.YtonbgpliomhboaaGreatDoorRxOld
namespace Go.Proofs.YtonbgpliomhboaaGreatDoor
namespace Rx
open Go

noncomputable section
def decI : Int → Option (ByteArray) :=
fun x => ob (fmtX (x, (10 : Int))) fun y => some y
def decI_con : Con := ⟨[i64], [.d (.str)], decI⟩
theorem decI_run (x : Dens [i64]) : runFn (mkEnv [(80, fmtX_con)] []) Tryz.f43 [i64] [.d (.str)] x = decI x := by kernel_rfl
theorem decI_ok : decI_con.ok Tryz.prog 43 := fn_ok (con := decI_con) (mkEnv_ok (cons := [(80, fmtX_con)]) ⟨fmtX_ok, trivial⟩ []) Tryz.func43 rfl (by kernel_rfl) (by exact trivial) (fun x y h => (decI_run x).trans h)

end
end Rx
end Go.Proofs.YtonbgpliomhboaaGreatDoor
