/- What the functions of RxText come to, and their contracts. No conditions. -/
import Derived.Test.YtonbgpliomhboaaGreatDoorRxEnv
import Derived.Test.YtonbgpliomhboaaGreatDoorRxLib
import Derived.Test.YtonbgpliomhboaaGreatDoorRxOld
namespace Go.Proofs.YtonbgpliomhboaaGreatDoor
namespace Rx
open Go

noncomputable section
def decI : Int → Option (ByteArray) :=
fun x => ob (fmtX (x, (10 : Int))) fun y => some y
def decI_con : Con := ⟨[i64], [.d (.str)], decI⟩
theorem decI_run (x : Dens [i64]) : runFn (mkEnv [(80, fmtX_con)] []) Tryz.f43 [i64] [.d (.str)] x = decI x := by kernel_rfl
theorem decI_ok : decI_con.ok Tryz.prog 43 := fn_ok (con := decI_con) (mkEnv_ok (cons := [(80, fmtX_con)]) ⟨fmtX_ok, trivial⟩ []) Tryz.func43 rfl (by kernel_rfl) (by exact trivial) (fun x y h => (decI_run x).trans h)

def decTL_vars : Vars := [(0, .val (i64)), (2, .val (.str)), (3, .row 0 5 (.int .u8)), (4, .val (i64))]
def decTL_step : Int × ByteArray × List (Int) × Int → Option (LRes × (Int × ByteArray × List (Int) × Int)) :=
fun x =>
  br (x.snd.snd.2 != (0 : Int))
    (br (decide (Int.tmod x.snd.snd.2 (10 : Int) < (0 : Int)))
      (br
        (decide
          ([IntKind.u8.wrap
                    (IntKind.i64.wrap
                      ((48 : Int) + IntKind.i64.wrap ((0 : Int) - Int.tmod x.snd.snd.2 (10 : Int))))].length +
              List.length x.snd.snd.1 ≤
            (4294967296 : Nat)))
        (some
          (LRes.next, x.1, x.snd.1,
            [IntKind.u8.wrap
                  (IntKind.i64.wrap ((48 : Int) + IntKind.i64.wrap ((0 : Int) - Int.tmod x.snd.snd.2 (10 : Int))))] ++
              x.snd.snd.1,
            IntKind.i64.wrap (Int.tdiv x.snd.snd.2 (10 : Int))))
        none)
      (br
        (decide
          ([IntKind.u8.wrap (IntKind.i64.wrap ((48 : Int) + Int.tmod x.snd.snd.2 (10 : Int)))].length +
              List.length x.snd.snd.1 ≤
            (4294967296 : Nat)))
        (some
          (LRes.next, x.1, x.snd.1,
            [IntKind.u8.wrap (IntKind.i64.wrap ((48 : Int) + Int.tmod x.snd.snd.2 (10 : Int)))] ++ x.snd.snd.1,
            IntKind.i64.wrap (Int.tdiv x.snd.snd.2 (10 : Int))))
        none))
    (some (LRes.out, x.1, x.snd.1, x.snd.snd.1, x.snd.snd.2))
def decTL_fuel : Int × ByteArray × List (Int) × Int → Nat := fun s => s.2.2.2.natAbs + 1
def decTL : Int × ByteArray × List (Int) × Int → Option (Int × ByteArray × List (Int) × Int) := fun s => iterP decTL_step (decTL_fuel s) s
def decTL_L : LoopC := ⟨decTL_vars, 0, .plain decTL⟩
noncomputable def decTL_key : Nat := key (loopAt Tryz.f104 0)
theorem decTL_stepok (x : decTL_vars.den) : stepOf (mkEnv [] []) Tryz.f104.ntmps decTL_vars 0 (loopAt Tryz.f104 0) x = decTL_step x := by kernel_rfl
theorem decTL_ok : LoopOK Tryz.prog Tryz.f104.ntmps decTL_L (loopAt Tryz.f104 0)   := iterP_loop (n := Tryz.f104.ntmps) (vs := decTL_vars) (out := 0) (body := loopAt Tryz.f104 0) (mkEnv_ok (cons := []) trivial []) decTL_step decTL_fuel (by exact trivial) decTL_stepok

def decT : Int → Option (ByteArray) :=
fun x =>
  ob (decTL (x, (⟨⟨[]⟩⟩ : ByteArray), [], x)) fun r =>
    br ((↑(List.length r.snd.snd.1) : Int) == (0 : Int)) (some (⟨⟨[(48 : UInt8)]⟩⟩ : ByteArray))
      (br (decide (r.1 < (0 : Int)))
        (br
          (decide
            ((⟨⟨[(45 : UInt8)]⟩⟩ : ByteArray).size + (bytesOf r.snd.snd.1).size ≤ (9223372036854775807 : Nat)))
          (some ((⟨⟨[(45 : UInt8)]⟩⟩ : ByteArray) ++ bytesOf r.snd.snd.1)) none)
        (some (bytesOf r.snd.snd.1)))
def decT_con : Con := ⟨[i64], [.d (.str)], decT⟩
theorem decT_run (x : Dens [i64]) : runFn (mkEnv [] [(decTL_key, decTL_L)]) Tryz.f104 [i64] [.d (.str)] x = decT x := by kernel_rfl
theorem decT_ok : decT_con.ok Tryz.prog 104 := fn_ok (con := decT_con) (mkEnv_ok (cons := []) trivial [(decTL_key, decTL_L)]) Tryz.func104 rfl (by kernel_rfl) (by exact ⟨decTL_ok, trivial⟩) (fun x y h => (decT_run x).trans h)

















end
end Rx
end Go.Proofs.YtonbgpliomhboaaGreatDoor
