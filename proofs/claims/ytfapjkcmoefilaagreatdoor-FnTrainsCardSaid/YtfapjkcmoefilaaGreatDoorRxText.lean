/- What the functions of RxText come to, and their contracts. No conditions. -/
import Derived.Test.YtfapjkcmoefilaaGreatDoorRxEnv
import Derived.Test.YtfapjkcmoefilaaGreatDoorRxLib
import Derived.Test.YtfapjkcmoefilaaGreatDoorRxEpi
import Derived.Test.YtfapjkcmoefilaaGreatDoorRxTrain
namespace Go.Proofs.YtfapjkcmoefilaaGreatDoor
namespace Rx
open Go

noncomputable section
def decI : Int → Option (ByteArray) :=
fun x => ob (fmtX (x, (10 : Int))) fun y => some y
def decI_con : Con := ⟨[i64], [.d (.str)], decI⟩
theorem decI_run (x : Dens [i64]) : runFn (mkEnv [(97, fmtX_con)] []) Tryz.f54 [i64] [.d (.str)] x = decI x := by kernel_rfl
theorem decI_ok : decI_con.ok Tryz.prog 54 := fn_ok (con := decI_con) (mkEnv_ok (cons := [(97, fmtX_con)]) ⟨fmtX_ok, trivial⟩ []) Tryz.func54 rfl (by kernel_rfl) (by exact trivial) (fun x y h => (decI_run x).trans h)

def decTL_vars : Vars := [(0, .val (i64)), (2, .val (.str)), (3, .row 0 5 (.int .u8)), (4, .val (i64))]
def decTL_step : Int × ByteArray × List (Int) × Int → Option (LRes × (Int × ByteArray × List (Int) × Int)) :=
fun x =>
  br (x.snd.snd.2 != (0 : Int))
    (br (decide (Int.tmod x.snd.snd.2 (10 : Int) < (0 : Int)))
      (br
        (decide
          ([IntKind.u8.wrap
                    (IntKind.i64.wrap
                      ((48 : Int) + IntKind.i64.wrap ((0 : Int) - Int.tmod x.snd.snd.2 (10 : Int))))].length +
              List.length x.snd.snd.1 ≤
            (4294967296 : Nat)))
        (some
          (LRes.next, x.1, x.snd.1,
            [IntKind.u8.wrap
                  (IntKind.i64.wrap ((48 : Int) + IntKind.i64.wrap ((0 : Int) - Int.tmod x.snd.snd.2 (10 : Int))))] ++
              x.snd.snd.1,
            IntKind.i64.wrap (Int.tdiv x.snd.snd.2 (10 : Int))))
        none)
      (br
        (decide
          ([IntKind.u8.wrap (IntKind.i64.wrap ((48 : Int) + Int.tmod x.snd.snd.2 (10 : Int)))].length +
              List.length x.snd.snd.1 ≤
            (4294967296 : Nat)))
        (some
          (LRes.next, x.1, x.snd.1,
            [IntKind.u8.wrap (IntKind.i64.wrap ((48 : Int) + Int.tmod x.snd.snd.2 (10 : Int)))] ++ x.snd.snd.1,
            IntKind.i64.wrap (Int.tdiv x.snd.snd.2 (10 : Int))))
        none))
    (some (LRes.out, x.1, x.snd.1, x.snd.snd.1, x.snd.snd.2))
def decTL_fuel : Int × ByteArray × List (Int) × Int → Nat := fun s => s.2.2.2.natAbs + 1
def decTL : Int × ByteArray × List (Int) × Int → Option (Int × ByteArray × List (Int) × Int) := fun s => iterP decTL_step (decTL_fuel s) s
def decTL_L : LoopC := ⟨decTL_vars, 0, .plain decTL⟩
noncomputable def decTL_key : Nat := key (loopAt Tryz.f152 0)
theorem decTL_stepok (x : decTL_vars.den) : stepOf (mkEnv [] []) Tryz.f152.ntmps decTL_vars 0 (loopAt Tryz.f152 0) x = decTL_step x := by kernel_rfl
theorem decTL_ok : LoopOK Tryz.prog Tryz.f152.ntmps decTL_L (loopAt Tryz.f152 0)   := iterP_loop (n := Tryz.f152.ntmps) (vs := decTL_vars) (out := 0) (body := loopAt Tryz.f152 0) (mkEnv_ok (cons := []) trivial []) decTL_step decTL_fuel (by exact trivial) decTL_stepok

def decT : Int → Option (ByteArray) :=
fun x =>
  ob (decTL (x, (⟨⟨[]⟩⟩ : ByteArray), [], x)) fun r =>
    br ((↑(List.length r.snd.snd.1) : Int) == (0 : Int)) (some (⟨⟨[(48 : UInt8)]⟩⟩ : ByteArray))
      (br (decide (r.1 < (0 : Int)))
        (br
          (decide
            ((⟨⟨[(45 : UInt8)]⟩⟩ : ByteArray).size + (bytesOf r.snd.snd.1).size ≤ (9223372036854775807 : Nat)))
          (some ((⟨⟨[(45 : UInt8)]⟩⟩ : ByteArray) ++ bytesOf r.snd.snd.1)) none)
        (some (bytesOf r.snd.snd.1)))
def decT_con : Con := ⟨[i64], [.d (.str)], decT⟩
theorem decT_run (x : Dens [i64]) : runFn (mkEnv [] [(decTL_key, decTL_L)]) Tryz.f152 [i64] [.d (.str)] x = decT x := by kernel_rfl
theorem decT_ok : decT_con.ok Tryz.prog 152 := fn_ok (con := decT_con) (mkEnv_ok (cons := []) trivial [(decTL_key, decTL_L)]) Tryz.func152 rfl (by kernel_rfl) (by exact ⟨decTL_ok, trivial⟩) (fun x y h => (decT_run x).trans h)






def trainTextIL_vars : Vars := [(3, .row 0 9 (.str)), (12, .val (.slice (.pair (i64) (i64)))), (13, .val (i64)), (14, .val (i64))]
def trainTextIL_step : List (ByteArray) × List ((Int × Int)) × Int × Int → Option (LRes × (List (ByteArray) × List ((Int × Int)) × Int × Int)) :=
fun x =>
  br (decide (x.snd.snd.2 < x.snd.snd.1))
    (ob (idx x.snd.1 x.snd.snd.2) fun y =>
      ob (decI y.1) fun y_1 =>
        br (decide (ByteArray.size y_1 + (⟨⟨[(58 : UInt8)]⟩⟩ : ByteArray).size ≤ (9223372036854775807 : Nat)))
          (ob (decI y.2) fun y =>
            br
              (decide
                ((y_1 ++ (⟨⟨[(58 : UInt8)]⟩⟩ : ByteArray)).size + ByteArray.size y ≤
                  (9223372036854775807 : Nat)))
              (br
                (decide
                  (x.1.length + [y_1 ++ (⟨⟨[(58 : UInt8)]⟩⟩ : ByteArray) ++ y].length ≤ (4294967296 : Nat)))
                (some
                  (LRes.next, x.1 ++ [y_1 ++ (⟨⟨[(58 : UInt8)]⟩⟩ : ByteArray) ++ y], x.snd.1, x.snd.snd.1,
                    IntKind.i64.wrap (x.snd.snd.2 + (1 : Int))))
                none)
              none)
          none)
    (some (LRes.out, x.1, x.snd.1, x.snd.snd.1, x.snd.snd.2))
def trainTextIL_fuel : List (ByteArray) × List ((Int × Int)) × Int × Int → Nat := fun s => (s.2.2.1 - s.2.2.2).toNat + 1
def trainTextIL : List (ByteArray) × List ((Int × Int)) × Int × Int → Option (List (ByteArray) × List ((Int × Int)) × Int × Int) := fun s => iterP trainTextIL_step (trainTextIL_fuel s) s
def trainTextIL_L : LoopC := ⟨trainTextIL_vars, 0, .plain trainTextIL⟩
noncomputable def trainTextIL_key : Nat := key (loopAt Tryz.f18 0)
theorem trainTextIL_stepok (x : trainTextIL_vars.den) : stepOf (mkEnv [(54, decI_con)] []) Tryz.f18.ntmps trainTextIL_vars 0 (loopAt Tryz.f18 0) x = trainTextIL_step x := by kernel_rfl
theorem trainTextIL_ok : LoopOK Tryz.prog Tryz.f18.ntmps trainTextIL_L (loopAt Tryz.f18 0)   := iterP_loop (n := Tryz.f18.ntmps) (vs := trainTextIL_vars) (out := 0) (body := loopAt Tryz.f18 0) (mkEnv_ok (cons := [(54, decI_con)]) ⟨decI_ok, trivial⟩ []) trainTextIL_step trainTextIL_fuel (by exact trivial) trainTextIL_stepok

def trainTextI : List ((Int × Int)) → Option (ByteArray) :=
fun x =>
  ob (validTrainI x) fun y =>
    br (!y) (some (⟨⟨[]⟩⟩ : ByteArray))
      (br ((↑x.length : Int) == (0 : Int)) (some (⟨⟨[(45 : UInt8)]⟩⟩ : ByteArray))
        (ob (trainTextIL ([], x, (↑x.length : Int), (0 : Int))) fun r =>
          ob (joinX (r.1, (⟨⟨[(32 : UInt8)]⟩⟩ : ByteArray))) fun y => some y))
def trainTextI_con : Con := ⟨[.slice (.pair (i64) (i64))], [.d (.str)], trainTextI⟩
theorem trainTextI_run (x : Dens [.slice (.pair (i64) (i64))]) : runFn (mkEnv [(45, validTrainI_con), (55, joinX_con)] [(trainTextIL_key, trainTextIL_L)]) Tryz.f18 [.slice (.pair (i64) (i64))] [.d (.str)] x = trainTextI x := by kernel_rfl
theorem trainTextI_ok : trainTextI_con.ok Tryz.prog 18 := fn_ok (con := trainTextI_con) (mkEnv_ok (cons := [(45, validTrainI_con), (55, joinX_con)]) ⟨validTrainI_ok, joinX_ok, trivial⟩ [(trainTextIL_key, trainTextIL_L)]) Tryz.func18 rfl (by kernel_rfl) (by exact ⟨trainTextIL_ok, trivial⟩) (fun x y h => (trainTextI_run x).trans h)










end
end Rx
end Go.Proofs.YtfapjkcmoefilaaGreatDoor
