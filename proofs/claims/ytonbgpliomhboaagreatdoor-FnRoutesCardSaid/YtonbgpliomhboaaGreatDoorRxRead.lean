/- What the functions of RxRead come to, and their contracts. No conditions. -/
import Derived.Test.YtonbgpliomhboaaGreatDoorRxEnv
import Derived.Test.YtonbgpliomhboaaGreatDoorRxDec
import Derived.Test.YtonbgpliomhboaaGreatDoorRxText
namespace Go.Proofs.YtonbgpliomhboaaGreatDoor
namespace Rx
open Go

noncomputable section
def wordsI : ByteArray → Option (List (ByteArray)) :=
fun x => ob (splitX (x, (⟨⟨[(32 : UInt8)]⟩⟩ : ByteArray))) fun y => some y
def wordsI_con : Con := ⟨[.str], [.row 9 (.str)], wordsI⟩
theorem wordsI_run (x : Dens [.str]) : runFn (mkEnv [(48, splitX_con)] []) Tryz.f22 [.str] [.row 9 (.str)] x = wordsI x := by kernel_rfl
theorem wordsI_ok : wordsI_con.ok Tryz.prog 22 := fn_ok (con := wordsI_con) (mkEnv_ok (cons := [(48, splitX_con)]) ⟨splitX_ok, trivial⟩ []) Tryz.func22 rfl (by kernel_rfl) (by exact trivial) (fun x y h => (wordsI_run x).trans h)

end
end Rx
end Go.Proofs.YtonbgpliomhboaaGreatDoor
