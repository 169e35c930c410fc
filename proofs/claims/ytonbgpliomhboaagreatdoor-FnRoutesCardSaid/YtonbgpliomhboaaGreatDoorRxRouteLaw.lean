/- What the functions of RxRoute come to, and their contracts. No conditions. -/
import Derived.Test.YtonbgpliomhboaaGreatDoorRxEnv
import Derived.Test.YtonbgpliomhboaaGreatDoorRxPathEnd
namespace Go.Proofs.YtonbgpliomhboaaGreatDoor
namespace Rx
open Go

noncomputable section
def trainBI_vars : Vars := [(3, .box 0 25 (.pair (.slice (.pair (.str) (.slice (i64)))) (.slice (.pair (i64) (.pair (i64) (.pair (i64) (i64))))))), (10, .row 0 73 (.pair (i64) (i64))), (11, .val (i64)), (30, .row 0 2 (i64)), (31, .val (i64)), (32, .val (i64))]
def trainBI_step : (List ((ByteArray × List (Int))) × List ((Int × Int × Int × Int))) × List ((Int × Int)) × Int × List (Int) × Int × Int → Option (LRes × ((List ((ByteArray × List (Int))) × List ((Int × Int × Int × Int))) × List ((Int × Int)) × Int × List (Int) × Int × Int)) :=
fun x =>
  br (decide (x.snd.snd.snd.snd.2 < x.snd.snd.snd.snd.1))
    (ob (idx x.snd.snd.snd.1 x.snd.snd.snd.snd.2) fun x_1 =>
      ob (List.get?Internal x.snd.snd.snd.1 (Int.toNat x.snd.snd.snd.snd.2)) fun x_2 =>
        ob (idx x.fst.2 x_2) fun y =>
          ob (pairWI ((x.fst.1, x.fst.2), y.1, y.snd.1, y.snd.snd.1, y.snd.snd.2)) fun y_1 =>
            br (y.1 == x.snd.snd.1)
              (br (decide (List.length x.snd.1 + [(y_1.1, y_1.2)].length ≤ (4294967296 : Nat)))
                (some
                  (LRes.next, (x.fst.1, x.fst.2), x.snd.1 ++ [(y_1.1, y_1.2)], y.snd.snd.1, x.snd.snd.snd.1,
                    x.snd.snd.snd.snd.1, IntKind.i64.wrap (x.snd.snd.snd.snd.2 + (1 : Int))))
                none)
              (br (decide (List.length x.snd.1 + [(y_1.2, y_1.1)].length ≤ (4294967296 : Nat)))
                (some
                  (LRes.next, (x.fst.1, x.fst.2), x.snd.1 ++ [(y_1.2, y_1.1)], y.1, x.snd.snd.snd.1,
                    x.snd.snd.snd.snd.1, IntKind.i64.wrap (x.snd.snd.snd.snd.2 + (1 : Int))))
                none))
    (some
      (LRes.out, (x.fst.1, x.fst.2), x.snd.1, x.snd.snd.1, x.snd.snd.snd.1, x.snd.snd.snd.snd.1, x.snd.snd.snd.snd.2))
def trainBI_fuel : (List ((ByteArray × List (Int))) × List ((Int × Int × Int × Int))) × List ((Int × Int)) × Int × List (Int) × Int × Int → Nat := fun s => (s.2.2.2.2.1 - s.2.2.2.2.2).toNat + 1
def trainBI : (List ((ByteArray × List (Int))) × List ((Int × Int × Int × Int))) × List ((Int × Int)) × Int × List (Int) × Int × Int → Option ((List ((ByteArray × List (Int))) × List ((Int × Int × Int × Int))) × List ((Int × Int)) × Int × List (Int) × Int × Int) := fun s => iterP trainBI_step (trainBI_fuel s) s
def trainBI_L : LoopC := ⟨trainBI_vars, 0, .plain trainBI⟩
noncomputable def trainBI_key : Nat := key (loopAt Tryz.f14 0)
theorem trainBI_stepok (x : trainBI_vars.den) : stepOf (mkEnv [(36, pairWI_con)] []) Tryz.f14.ntmps trainBI_vars 0 (loopAt Tryz.f14 0) x = trainBI_step x := by kernel_rfl
theorem trainBI_ok : LoopOK Tryz.prog Tryz.f14.ntmps trainBI_L (loopAt Tryz.f14 0)   := iterP_loop (n := Tryz.f14.ntmps) (vs := trainBI_vars) (out := 0) (body := loopAt Tryz.f14 0) (mkEnv_ok (cons := [(36, pairWI_con)]) ⟨pairWI_ok, trivial⟩ []) trainBI_step trainBI_fuel (by exact trivial) trainBI_stepok

def trainOI : (List ((ByteArray × List (Int))) × List ((Int × Int × Int × Int))) × Int × Int → Option (List ((Int × Int)) × Int) :=
fun x =>
  ob (pathOI ((x.fst.1, x.fst.2), x.snd.1, x.snd.2)) fun y =>
    br (y.2 != (0 : Int)) (some ([], y.2))
      (br (decide ((5 : Int) < (↑(List.length y.1) : Int))) (some ([], (5 : Int)))
        (ob (trainBI ((x.fst.1, x.fst.2), [], x.snd.1, y.1, (↑(List.length y.1) : Int), (0 : Int))) fun r =>
          some (r.snd.1, (0 : Int))))
def trainOI_con : Con := ⟨[.pair (.slice (.pair (.str) (.slice (i64)))) (.slice (.pair (i64) (.pair (i64) (.pair (i64) (i64))))), i64, i64], [.row 73 (.pair (i64) (i64)), .d (i64)], trainOI⟩
theorem trainOI_run (x : Dens [.pair (.slice (.pair (.str) (.slice (i64)))) (.slice (.pair (i64) (.pair (i64) (.pair (i64) (i64))))), i64, i64]) : runFn (mkEnv [(13, pathOI_con)] [(trainBI_key, trainBI_L)]) Tryz.f14 [.pair (.slice (.pair (.str) (.slice (i64)))) (.slice (.pair (i64) (.pair (i64) (.pair (i64) (i64))))), i64, i64] [.row 73 (.pair (i64) (i64)), .d (i64)] x = trainOI x := by kernel_rfl
theorem trainOI_ok : trainOI_con.ok Tryz.prog 14 := fn_ok (con := trainOI_con) (mkEnv_ok (cons := [(13, pathOI_con)]) ⟨pathOI_ok, trivial⟩ [(trainBI_key, trainBI_L)]) Tryz.func14 rfl (by kernel_rfl) (by exact ⟨trainBI_ok, trivial⟩) (fun x y h => (trainOI_run x).trans h)

end
end Rx
end Go.Proofs.YtonbgpliomhboaaGreatDoor

namespace Go.Proofs.YtonbgpliomhboaaGreatDoor
namespace Rx
open Go

end Rx
end Go.Proofs.YtonbgpliomhboaaGreatDoor
