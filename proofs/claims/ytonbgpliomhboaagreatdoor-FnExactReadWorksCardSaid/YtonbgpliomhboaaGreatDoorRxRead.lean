/- What the functions of RxRead come to, and their contracts. No conditions. -/
import Derived.Test.YtonbgpliomhboaaGreatDoorRxEnv
import Derived.Test.YtonbgpliomhboaaGreatDoorRxDec
import Derived.Test.YtonbgpliomhboaaGreatDoorRxText
namespace Go.Proofs.YtonbgpliomhboaaGreatDoor
namespace Rx
open Go

noncomputable section
def wordsI : ByteArray → Option (List (ByteArray)) :=
fun x => ob (splitX (x, (⟨⟨[(32 : UInt8)]⟩⟩ : ByteArray))) fun y => some y
def wordsI_con : Con := ⟨[.str], [.row 9 (.str)], wordsI⟩
theorem wordsI_run (x : Dens [.str]) : runFn (mkEnv [(48, splitX_con)] []) Tryz.f22 [.str] [.row 9 (.str)] x = wordsI x := by kernel_rfl
theorem wordsI_ok : wordsI_con.ok Tryz.prog 22 := fn_ok (con := wordsI_con) (mkEnv_ok (cons := [(48, splitX_con)]) ⟨splitX_ok, trivial⟩ []) Tryz.func22 rfl (by kernel_rfl) (by exact trivial) (fun x y h => (wordsI_run x).trans h)

def splitSL_vars : Vars := [(0, .val (.str)), (1, .val (.int .u8)), (5, .row 0 9 (.str)), (6, .val (i64)), (7, .val (i64))]
def splitSL_step : ByteArray × Int × List (ByteArray) × Int × Int → Option (LRes × (ByteArray × Int × List (ByteArray) × Int × Int)) :=
fun x =>
  br (decide (x.snd.snd.snd.2 < (↑x.1.size : Int)))
    (ob (sidx x.1 x.snd.snd.snd.2) fun b =>
      br ((↑b.toNat : Int) == x.snd.1)
        (br
          (decide
            ((0 : Int) ≤ x.snd.snd.snd.1 ∧ x.snd.snd.snd.1 ≤ x.snd.snd.snd.2 ∧ x.snd.snd.snd.2 ≤ (↑x.1.size : Int)))
          (br
            (decide
              (List.length x.snd.snd.1 + [x.1.extract (Int.toNat x.snd.snd.snd.1) (Int.toNat x.snd.snd.snd.2)].length ≤
                (4294967296 : Nat)))
            (some
              (LRes.next, x.1, x.snd.1,
                x.snd.snd.1 ++ [x.1.extract (Int.toNat x.snd.snd.snd.1) (Int.toNat x.snd.snd.snd.2)],
                IntKind.i64.wrap (x.snd.snd.snd.2 + (1 : Int)), IntKind.i64.wrap (x.snd.snd.snd.2 + (1 : Int))))
            none)
          none)
        (some (LRes.next, x.1, x.snd.1, x.snd.snd.1, x.snd.snd.snd.1, IntKind.i64.wrap (x.snd.snd.snd.2 + (1 : Int)))))
    (some (LRes.out, x.1, x.snd.1, x.snd.snd.1, x.snd.snd.snd.1, x.snd.snd.snd.2))
def splitSL_fuel : ByteArray × Int × List (ByteArray) × Int × Int → Nat := fun s => (s.1.size - s.2.2.2.2.toNat) + 1
def splitSL : ByteArray × Int × List (ByteArray) × Int × Int → Option (ByteArray × Int × List (ByteArray) × Int × Int) := fun s => iterP splitSL_step (splitSL_fuel s) s
def splitSL_L : LoopC := ⟨splitSL_vars, 0, .plain splitSL⟩
noncomputable def splitSL_key : Nat := key (loopAt Tryz.f19 0)
theorem splitSL_stepok (x : splitSL_vars.den) : stepOf (mkEnv [] []) Tryz.f19.ntmps splitSL_vars 0 (loopAt Tryz.f19 0) x = splitSL_step x := by kernel_rfl
theorem splitSL_ok : LoopOK Tryz.prog Tryz.f19.ntmps splitSL_L (loopAt Tryz.f19 0)   := iterP_loop (n := Tryz.f19.ntmps) (vs := splitSL_vars) (out := 0) (body := loopAt Tryz.f19 0) (mkEnv_ok (cons := []) trivial []) splitSL_step splitSL_fuel (by exact trivial) splitSL_stepok

def splitS : ByteArray × Int → Option (List (ByteArray)) :=
fun x =>
  ob (splitSL (x.1, x.2, [], (0 : Int), (0 : Int))) fun r =>
    br
      (decide
        ((0 : Int) ≤ r.snd.snd.snd.1 ∧
          r.snd.snd.snd.1 ≤ (↑(ByteArray.size r.1) : Int) ∧
            (↑(ByteArray.size r.1) : Int) ≤ (↑(ByteArray.size r.1) : Int)))
      (br
        (decide
          (List.length r.snd.snd.1 +
              [ByteArray.extract r.1 (Int.toNat r.snd.snd.snd.1) (↑(ByteArray.size r.1) : Int).toNat].length ≤
            (4294967296 : Nat)))
        (some (r.snd.snd.1 ++ [ByteArray.extract r.1 (Int.toNat r.snd.snd.snd.1) (↑(ByteArray.size r.1) : Int).toNat]))
        none)
      none
def splitS_con : Con := ⟨[.str, .int .u8], [.row 9 (.str)], splitS⟩
theorem splitS_run (x : Dens [.str, .int .u8]) : runFn (mkEnv [] [(splitSL_key, splitSL_L)]) Tryz.f19 [.str, .int .u8] [.row 9 (.str)] x = splitS x := by kernel_rfl
theorem splitS_ok : splitS_con.ok Tryz.prog 19 := fn_ok (con := splitS_con) (mkEnv_ok (cons := []) trivial [(splitSL_key, splitSL_L)]) Tryz.func19 rfl (by kernel_rfl) (by exact ⟨splitSL_ok, trivial⟩) (fun x y h => (splitS_run x).trans h)

def digitNS : Int → Option (Bool) :=
fun x => br (decide ((48 : Int) ≤ x)) (some (decide (x ≤ (57 : Int)))) (some false)
def digitNS_con : Con := ⟨[.int .u8], [.d (.bool)], digitNS⟩
theorem digitNS_run (x : Dens [.int .u8]) : runFn (mkEnv [] []) Tryz.f103 [.int .u8] [.d (.bool)] x = digitNS x := by kernel_rfl
theorem digitNS_ok : digitNS_con.ok Tryz.prog 103 := fn_ok (con := digitNS_con) (mkEnv_ok (cons := []) trivial []) Tryz.func103 rfl (by kernel_rfl) (by exact trivial) (fun x y h => (digitNS_run x).trans h)

def numberSL_vars : Vars := [(0, .val (.str)), (2, .val (i64)), (3, .val (.bool)), (4, .val (.str)), (5, .val (i64)), (6, .val (i64))]
def numberSL_step : ByteArray × Int × Bool × ByteArray × Int × Int → Option (LRes × (ByteArray × Int × Bool × ByteArray × Int × Int)) :=
fun x =>
  br (decide (x.snd.snd.snd.snd.2 < (↑(ByteArray.size x.snd.snd.snd.1) : Int)))
    (ob (sidx x.snd.snd.snd.1 x.snd.snd.snd.snd.2) fun b =>
      ob (digitNS (↑b.toNat : Int)) fun y =>
        br (!y) (some (LRes.ret, x.1, (0 : Int), false, x.snd.snd.snd.1, x.snd.snd.snd.snd.1, x.snd.snd.snd.snd.2))
          (ob (sidx x.snd.snd.snd.1 x.snd.snd.snd.snd.2) fun b =>
            some
              (LRes.next, x.1, x.snd.1, x.snd.snd.1, x.snd.snd.snd.1,
                IntKind.i64.wrap
                  (IntKind.i64.wrap ((10 : Int) * x.snd.snd.snd.snd.1) +
                    IntKind.i64.wrap (IntKind.u8.wrap ((↑b.toNat : Int) - (48 : Int)))),
                IntKind.i64.wrap (x.snd.snd.snd.snd.2 + (1 : Int)))))
    (some (LRes.out, x.1, x.snd.1, x.snd.snd.1, x.snd.snd.snd.1, x.snd.snd.snd.snd.1, x.snd.snd.snd.snd.2))
def numberSL_fuel : ByteArray × Int × Bool × ByteArray × Int × Int → Nat := fun s => (s.2.2.2.1.size - s.2.2.2.2.2.toNat) + 1
def numberSL : ByteArray × Int × Bool × ByteArray × Int × Int → Option (Bool × (ByteArray × Int × Bool × ByteArray × Int × Int)) := fun s => iter numberSL_step (numberSL_fuel s) s
def numberSL_L : LoopC := ⟨numberSL_vars, 0, .two numberSL⟩
noncomputable def numberSL_key : Nat := key (loopAt Tryz.f81 0)
theorem numberSL_stepok (x : numberSL_vars.den) : stepOf (mkEnv [(103, digitNS_con)] []) Tryz.f81.ntmps numberSL_vars 0 (loopAt Tryz.f81 0) x = numberSL_step x := by kernel_rfl
theorem numberSL_ok : LoopOK Tryz.prog Tryz.f81.ntmps numberSL_L (loopAt Tryz.f81 0)   := iter_loop (n := Tryz.f81.ntmps) (vs := numberSL_vars) (out := 0) (body := loopAt Tryz.f81 0) (mkEnv_ok (cons := [(103, digitNS_con)]) ⟨digitNS_ok, trivial⟩ []) numberSL_step numberSL_fuel (by exact trivial) numberSL_stepok

def numberS : ByteArray → Option (Int × Bool) :=
fun x =>
  br (!x.toList == (⟨⟨[]⟩⟩ : ByteArray).toList)
    (ob (sidx x (0 : Int)) fun b =>
      br ((↑b.toNat : Int) == (45 : Int))
        (br (decide ((0 : Int) ≤ (1 : Int) ∧ (1 : Int) ≤ (↑x.size : Int) ∧ (↑x.size : Int) ≤ (↑x.size : Int)))
          (br (decide ((↑(x.extract (Int.toNat (1 : Int)) (↑x.size : Int).toNat).size : Int) < (1 : Int)))
            (some ((0 : Int), false))
            (br (decide ((18 : Int) < (↑(x.extract (Int.toNat (1 : Int)) (↑x.size : Int).toNat).size : Int)))
              (some ((0 : Int), false))
              (ob
                (numberSL
                  (x, (0 : Int), false, x.extract (Int.toNat (1 : Int)) (↑x.size : Int).toNat, (0 : Int), (0 : Int)))
                fun r =>
                br r.1
                  (br (decide ((↑(ByteArray.size r.snd.snd.snd.snd.1) : Int) < (↑(ByteArray.size r.snd.1) : Int)))
                    (ob (decT (IntKind.i64.wrap ((0 : Int) - r.snd.snd.snd.snd.snd.1))) fun y =>
                      br (!ByteArray.toList y == ByteArray.toList r.snd.1) (some ((0 : Int), false))
                        (some (IntKind.i64.wrap ((0 : Int) - r.snd.snd.snd.snd.snd.1), true)))
                    (ob (decT r.snd.snd.snd.snd.snd.1) fun y =>
                      br (!ByteArray.toList y == ByteArray.toList r.snd.1) (some ((0 : Int), false))
                        (some (r.snd.snd.snd.snd.snd.1, true))))
                  (some (r.snd.snd.1, r.snd.snd.snd.1)))))
          none)
        (br (decide ((↑x.size : Int) < (1 : Int))) (some ((0 : Int), false))
          (br (decide ((18 : Int) < (↑x.size : Int))) (some ((0 : Int), false))
            (ob (numberSL (x, (0 : Int), false, x, (0 : Int), (0 : Int))) fun r =>
              br r.1
                (br (decide ((↑(ByteArray.size r.snd.snd.snd.snd.1) : Int) < (↑(ByteArray.size r.snd.1) : Int)))
                  (ob (decT (IntKind.i64.wrap ((0 : Int) - r.snd.snd.snd.snd.snd.1))) fun y =>
                    br (!ByteArray.toList y == ByteArray.toList r.snd.1) (some ((0 : Int), false))
                      (some (IntKind.i64.wrap ((0 : Int) - r.snd.snd.snd.snd.snd.1), true)))
                  (ob (decT r.snd.snd.snd.snd.snd.1) fun y =>
                    br (!ByteArray.toList y == ByteArray.toList r.snd.1) (some ((0 : Int), false))
                      (some (r.snd.snd.snd.snd.snd.1, true))))
                (some (r.snd.snd.1, r.snd.snd.snd.1))))))
    (br (decide ((↑x.size : Int) < (1 : Int))) (some ((0 : Int), false))
      (br (decide ((18 : Int) < (↑x.size : Int))) (some ((0 : Int), false))
        (ob (numberSL (x, (0 : Int), false, x, (0 : Int), (0 : Int))) fun r =>
          br r.1
            (br (decide ((↑(ByteArray.size r.snd.snd.snd.snd.1) : Int) < (↑(ByteArray.size r.snd.1) : Int)))
              (ob (decT (IntKind.i64.wrap ((0 : Int) - r.snd.snd.snd.snd.snd.1))) fun y =>
                br (!ByteArray.toList y == ByteArray.toList r.snd.1) (some ((0 : Int), false))
                  (some (IntKind.i64.wrap ((0 : Int) - r.snd.snd.snd.snd.snd.1), true)))
              (ob (decT r.snd.snd.snd.snd.snd.1) fun y =>
                br (!ByteArray.toList y == ByteArray.toList r.snd.1) (some ((0 : Int), false))
                  (some (r.snd.snd.snd.snd.snd.1, true))))
            (some (r.snd.snd.1, r.snd.snd.snd.1)))))
def numberS_con : Con := ⟨[.str], [.d (i64), .d (.bool)], numberS⟩
theorem numberS_run (x : Dens [.str]) : runFn (mkEnv [(103, digitNS_con), (104, decT_con)] [(numberSL_key, numberSL_L)]) Tryz.f81 [.str] [.d (i64), .d (.bool)] x = numberS x := by kernel_rfl
theorem numberS_ok : numberS_con.ok Tryz.prog 81 := fn_ok (con := numberS_con) (mkEnv_ok (cons := [(103, digitNS_con), (104, decT_con)]) ⟨digitNS_ok, decT_ok, trivial⟩ [(numberSL_key, numberSL_L)]) Tryz.func81 rfl (by kernel_rfl) (by exact ⟨numberSL_ok, trivial⟩) (fun x y h => (numberS_run x).trans h)






end
end Rx
end Go.Proofs.YtonbgpliomhboaaGreatDoor
