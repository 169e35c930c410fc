/- What the functions of RxTrain come to, and their contracts. No conditions. -/
import Derived.Test.YtfapjkcmoefilaaGreatDoorRxEnv
import Derived.Test.YtfapjkcmoefilaaGreatDoorRxRatI
import Derived.Test.YtfapjkcmoefilaaGreatDoorRxRatS
import Derived.Test.YtfapjkcmoefilaaGreatDoorRxPairs
namespace Go.Proofs.YtfapjkcmoefilaaGreatDoor
namespace Rx
open Go










def validPairI : (Int × Int) → Option (Bool) :=
fun x => ob (toothedI x.1) fun y => br y (ob (toothedI x.2) fun y => some y) (some false)
def validPairI_con : Con := ⟨[.pair (i64) (i64)], [.d (.bool)], validPairI⟩
theorem validPairI_run (x : Dens [.pair (i64) (i64)]) : runFn (mkEnv [(122, toothedI_con)] []) Tryz.f91 [.pair (i64) (i64)] [.d (.bool)] x = validPairI x := by kernel_rfl
theorem validPairI_ok : validPairI_con.ok Tryz.prog 91 := fn_ok (con := validPairI_con) (mkEnv_ok (cons := [(122, toothedI_con)]) ⟨toothedI_ok, trivial⟩ []) Tryz.func91 rfl (by kernel_rfl) (by exact trivial) (fun x y h => (validPairI_run x).trans h)

def validTrainIL_vars : Vars := [(0, .val (.slice (.pair (i64) (i64)))), (2, .val (.bool)), (5, .val (.slice (.pair (i64) (i64)))), (6, .val (i64)), (7, .val (i64))]
def validTrainIL_step : List ((Int × Int)) × Bool × List ((Int × Int)) × Int × Int → Option (LRes × (List ((Int × Int)) × Bool × List ((Int × Int)) × Int × Int)) :=
fun x =>
  br (decide (x.snd.snd.snd.2 < x.snd.snd.snd.1))
    (ob (idx x.snd.snd.1 x.snd.snd.snd.2) fun y =>
      ob (validPairI (y.1, y.2)) fun y =>
        br (!y) (some (LRes.ret, x.1, false, x.snd.snd.1, x.snd.snd.snd.1, x.snd.snd.snd.2))
          (some
            (LRes.next, x.1, x.snd.1, x.snd.snd.1, x.snd.snd.snd.1, IntKind.i64.wrap (x.snd.snd.snd.2 + (1 : Int)))))
    (some (LRes.out, x.1, x.snd.1, x.snd.snd.1, x.snd.snd.snd.1, x.snd.snd.snd.2))
def validTrainIL_fuel : List ((Int × Int)) × Bool × List ((Int × Int)) × Int × Int → Nat := fun s => (s.2.2.2.1 - s.2.2.2.2).toNat + 1
def validTrainIL : List ((Int × Int)) × Bool × List ((Int × Int)) × Int × Int → Option (Bool × (List ((Int × Int)) × Bool × List ((Int × Int)) × Int × Int)) := fun s => iter validTrainIL_step (validTrainIL_fuel s) s
def validTrainIL_L : LoopC := ⟨validTrainIL_vars, 0, .two validTrainIL⟩
noncomputable def validTrainIL_key : Nat := key (loopAt Tryz.f45 0)
theorem validTrainIL_stepok (x : validTrainIL_vars.den) : stepOf (mkEnv [(91, validPairI_con)] []) Tryz.f45.ntmps validTrainIL_vars 0 (loopAt Tryz.f45 0) x = validTrainIL_step x := by kernel_rfl
theorem validTrainIL_ok : LoopOK Tryz.prog Tryz.f45.ntmps validTrainIL_L (loopAt Tryz.f45 0)   := iter_loop (n := Tryz.f45.ntmps) (vs := validTrainIL_vars) (out := 0) (body := loopAt Tryz.f45 0) (mkEnv_ok (cons := [(91, validPairI_con)]) ⟨validPairI_ok, trivial⟩ []) validTrainIL_step validTrainIL_fuel (by exact trivial) validTrainIL_stepok

def validTrainI : List ((Int × Int)) → Option (Bool) :=
fun x =>
  ob (validTrainIL (x, false, x, (↑x.length : Int), (0 : Int))) fun r =>
    br r.1 (some (decide ((↑(List.length r.snd.1) : Int) ≤ (5 : Int)))) (some r.snd.snd.1)
def validTrainI_con : Con := ⟨[.slice (.pair (i64) (i64))], [.d (.bool)], validTrainI⟩
theorem validTrainI_run (x : Dens [.slice (.pair (i64) (i64))]) : runFn (mkEnv [] [(validTrainIL_key, validTrainIL_L)]) Tryz.f45 [.slice (.pair (i64) (i64))] [.d (.bool)] x = validTrainI x := by kernel_rfl
theorem validTrainI_ok : validTrainI_con.ok Tryz.prog 45 := fn_ok (con := validTrainI_con) (mkEnv_ok (cons := []) trivial [(validTrainIL_key, validTrainIL_L)]) Tryz.func45 rfl (by kernel_rfl) (by exact ⟨validTrainIL_ok, trivial⟩) (fun x y h => (validTrainI_run x).trans h)

def okPairS : (Int × Int) → Option (Bool) :=
fun x => ob (teethS x.1) fun y => br y (ob (teethS x.2) fun y => some y) (some false)
def okPairS_con : Con := ⟨[.pair (i64) (i64)], [.d (.bool)], okPairS⟩
theorem okPairS_run (x : Dens [.pair (i64) (i64)]) : runFn (mkEnv [(144, teethS_con)] []) Tryz.f99 [.pair (i64) (i64)] [.d (.bool)] x = okPairS x := by kernel_rfl
theorem okPairS_ok : okPairS_con.ok Tryz.prog 99 := fn_ok (con := okPairS_con) (mkEnv_ok (cons := [(144, teethS_con)]) ⟨teethS_ok, trivial⟩ []) Tryz.func99 rfl (by kernel_rfl) (by exact trivial) (fun x y h => (okPairS_run x).trans h)

def okTrainSL_vars : Vars := [(0, .val (.slice (.pair (i64) (i64)))), (2, .val (.bool)), (3, .val (i64))]
def okTrainSL_step : List ((Int × Int)) × Bool × Int → Option (LRes × (List ((Int × Int)) × Bool × Int)) :=
fun x =>
  br (decide (x.snd.2 < (↑x.1.length : Int)))
    (ob (idx x.1 x.snd.2) fun y =>
      ob (okPairS (y.1, y.2)) fun y =>
        br (!y) (some (LRes.ret, x.1, false, x.snd.2))
          (some (LRes.next, x.1, x.snd.1, IntKind.i64.wrap (x.snd.2 + (1 : Int)))))
    (some (LRes.out, x.1, x.snd.1, x.snd.2))
def okTrainSL_fuel : List ((Int × Int)) × Bool × Int → Nat := fun s => (s.1.length - s.2.2.toNat) + 1
def okTrainSL : List ((Int × Int)) × Bool × Int → Option (Bool × (List ((Int × Int)) × Bool × Int)) := fun s => iter okTrainSL_step (okTrainSL_fuel s) s
def okTrainSL_L : LoopC := ⟨okTrainSL_vars, 0, .two okTrainSL⟩
noncomputable def okTrainSL_key : Nat := key (loopAt Tryz.f57 0)
theorem okTrainSL_stepok (x : okTrainSL_vars.den) : stepOf (mkEnv [(99, okPairS_con)] []) Tryz.f57.ntmps okTrainSL_vars 0 (loopAt Tryz.f57 0) x = okTrainSL_step x := by kernel_rfl
theorem okTrainSL_ok : LoopOK Tryz.prog Tryz.f57.ntmps okTrainSL_L (loopAt Tryz.f57 0)   := iter_loop (n := Tryz.f57.ntmps) (vs := okTrainSL_vars) (out := 0) (body := loopAt Tryz.f57 0) (mkEnv_ok (cons := [(99, okPairS_con)]) ⟨okPairS_ok, trivial⟩ []) okTrainSL_step okTrainSL_fuel (by exact trivial) okTrainSL_stepok

def okTrainS : List ((Int × Int)) → Option (Bool) :=
fun x =>
  ob (okTrainSL (x, false, (0 : Int))) fun r =>
    br r.1 (some (decide ((↑(List.length r.snd.1) : Int) ≤ (5 : Int)))) (some r.snd.snd.1)
def okTrainS_con : Con := ⟨[.slice (.pair (i64) (i64))], [.d (.bool)], okTrainS⟩
theorem okTrainS_run (x : Dens [.slice (.pair (i64) (i64))]) : runFn (mkEnv [] [(okTrainSL_key, okTrainSL_L)]) Tryz.f57 [.slice (.pair (i64) (i64))] [.d (.bool)] x = okTrainS x := by kernel_rfl
theorem okTrainS_ok : okTrainS_con.ok Tryz.prog 57 := fn_ok (con := okTrainS_con) (mkEnv_ok (cons := []) trivial [(okTrainSL_key, okTrainSL_L)]) Tryz.func57 rfl (by kernel_rfl) (by exact ⟨okTrainSL_ok, trivial⟩) (fun x y h => (okTrainS_run x).trans h)







def trainRatIL_vars : Vars := [(2, .box 0 36 (.pair (i64) (i64))), (3, .val (i64)), (4, .box 0 36 (.pair (i64) (i64))), (12, .val (.slice (.pair (i64) (i64)))), (13, .val (i64)), (14, .val (i64))]
def trainRatIL_step : (Int × Int) × Int × (Int × Int) × List ((Int × Int)) × Int × Int → Option (LRes × ((Int × Int) × Int × (Int × Int) × List ((Int × Int)) × Int × Int)) :=
fun x =>
  br (decide (x.snd.snd.snd.snd.2 < x.snd.snd.snd.snd.1))
    (ob (idx x.snd.snd.snd.1 x.snd.snd.snd.snd.2) fun y =>
      ob (makeRatI (IntKind.i64.wrap ((0 : Int) - y.1), y.2)) fun y =>
        ob (mulRatI ((x.snd.snd.fst.1, x.snd.snd.fst.2), y.fst.1, y.fst.2)) fun y =>
          br (y.2 != (0 : Int))
            (some
              (LRes.ret, ((0 : Int), (0 : Int)), y.2, (x.snd.snd.fst.1, x.snd.snd.fst.2), x.snd.snd.snd.1,
                x.snd.snd.snd.snd.1, x.snd.snd.snd.snd.2))
            (some
              (LRes.next, (x.fst.1, x.fst.2), x.snd.1, (y.fst.1, y.fst.2), x.snd.snd.snd.1, x.snd.snd.snd.snd.1,
                IntKind.i64.wrap (x.snd.snd.snd.snd.2 + (1 : Int)))))
    (some
      (LRes.out, (x.fst.1, x.fst.2), x.snd.1, (x.snd.snd.fst.1, x.snd.snd.fst.2), x.snd.snd.snd.1, x.snd.snd.snd.snd.1,
        x.snd.snd.snd.snd.2))
def trainRatIL_fuel : (Int × Int) × Int × (Int × Int) × List ((Int × Int)) × Int × Int → Nat := fun s => (s.2.2.2.2.1 - s.2.2.2.2.2).toNat + 1
def trainRatIL : (Int × Int) × Int × (Int × Int) × List ((Int × Int)) × Int × Int → Option (Bool × ((Int × Int) × Int × (Int × Int) × List ((Int × Int)) × Int × Int)) := fun s => iter trainRatIL_step (trainRatIL_fuel s) s
def trainRatIL_L : LoopC := ⟨trainRatIL_vars, 0, .two trainRatIL⟩
noncomputable def trainRatIL_key : Nat := key (loopAt Tryz.f46 0)
theorem trainRatIL_stepok (x : trainRatIL_vars.den) : stepOf (mkEnv [(92, makeRatI_con), (93, mulRatI_con)] []) Tryz.f46.ntmps trainRatIL_vars 0 (loopAt Tryz.f46 0) x = trainRatIL_step x := by kernel_rfl
theorem trainRatIL_ok : LoopOK Tryz.prog Tryz.f46.ntmps trainRatIL_L (loopAt Tryz.f46 0)   := iter_loop (n := Tryz.f46.ntmps) (vs := trainRatIL_vars) (out := 0) (body := loopAt Tryz.f46 0) (mkEnv_ok (cons := [(92, makeRatI_con), (93, mulRatI_con)]) ⟨makeRatI_ok, mulRatI_ok, trivial⟩ []) trainRatIL_step trainRatIL_fuel (by exact trivial) trainRatIL_stepok

def trainRatI : List ((Int × Int)) → Option ((Int × Int) × Int) :=
fun x =>
  ob (trainRatIL (((0 : Int), (0 : Int)), (0 : Int), ((1 : Int), (1 : Int)), x, (↑x.length : Int), (0 : Int))) fun r =>
    br r.1 (some ((r.snd.snd.snd.fst.1, r.snd.snd.snd.fst.2), (0 : Int)))
      (some ((r.snd.fst.1, r.snd.fst.2), r.snd.snd.1))
def trainRatI_con : Con := ⟨[.slice (.pair (i64) (i64))], [.d (.pair (i64) (i64)), .d (i64)], trainRatI⟩
theorem trainRatI_run (x : Dens [.slice (.pair (i64) (i64))]) : runFn (mkEnv [] [(trainRatIL_key, trainRatIL_L)]) Tryz.f46 [.slice (.pair (i64) (i64))] [.d (.pair (i64) (i64)), .d (i64)] x = trainRatI x := by kernel_rfl
theorem trainRatI_ok : trainRatI_con.ok Tryz.prog 46 := fn_ok (con := trainRatI_con) (mkEnv_ok (cons := []) trivial [(trainRatIL_key, trainRatIL_L)]) Tryz.func46 rfl (by kernel_rfl) (by exact ⟨trainRatIL_ok, trivial⟩) (fun x y h => (trainRatI_run x).trans h)



def trainRatSL_vars : Vars := [(0, .val (.slice (.pair (i64) (i64)))), (2, .box 0 36 (.pair (i64) (i64))), (3, .val (.bool)), (4, .box 0 36 (.pair (i64) (i64))), (5, .val (i64))]
def trainRatSL_step : List ((Int × Int)) × (Int × Int) × Bool × (Int × Int) × Int → Option (LRes × (List ((Int × Int)) × (Int × Int) × Bool × (Int × Int) × Int)) :=
fun x =>
  br (decide (x.snd.snd.snd.2 < (↑x.1.length : Int)))
    (ob (idx x.1 x.snd.snd.snd.2) fun y =>
      ob (idx x.1 x.snd.snd.snd.2) fun y_1 =>
        ob (mkS (IntKind.i64.wrap ((0 : Int) - y.1), y_1.2)) fun y =>
          ob (mulS ((x.snd.snd.snd.fst.1, x.snd.snd.snd.fst.2), y.fst.1, y.fst.2)) fun y =>
            br (!y.2)
              (some
                (LRes.ret, x.1, ((0 : Int), (0 : Int)), false, (x.snd.snd.snd.fst.1, x.snd.snd.snd.fst.2),
                  x.snd.snd.snd.2))
              (some
                (LRes.next, x.1, (x.snd.fst.1, x.snd.fst.2), x.snd.snd.1, (y.fst.1, y.fst.2),
                  IntKind.i64.wrap (x.snd.snd.snd.2 + (1 : Int)))))
    (some
      (LRes.out, x.1, (x.snd.fst.1, x.snd.fst.2), x.snd.snd.1, (x.snd.snd.snd.fst.1, x.snd.snd.snd.fst.2),
        x.snd.snd.snd.2))
def trainRatSL_fuel : List ((Int × Int)) × (Int × Int) × Bool × (Int × Int) × Int → Nat := fun s => (s.1.length - s.2.2.2.2.toNat) + 1
def trainRatSL : List ((Int × Int)) × (Int × Int) × Bool × (Int × Int) × Int → Option (Bool × (List ((Int × Int)) × (Int × Int) × Bool × (Int × Int) × Int)) := fun s => iter trainRatSL_step (trainRatSL_fuel s) s
def trainRatSL_L : LoopC := ⟨trainRatSL_vars, 0, .two trainRatSL⟩
noncomputable def trainRatSL_key : Nat := key (loopAt Tryz.f67 0)
theorem trainRatSL_stepok (x : trainRatSL_vars.den) : stepOf (mkEnv [(103, mkS_con), (60, mulS_con)] []) Tryz.f67.ntmps trainRatSL_vars 0 (loopAt Tryz.f67 0) x = trainRatSL_step x := by kernel_rfl
theorem trainRatSL_ok : LoopOK Tryz.prog Tryz.f67.ntmps trainRatSL_L (loopAt Tryz.f67 0)   := iter_loop (n := Tryz.f67.ntmps) (vs := trainRatSL_vars) (out := 0) (body := loopAt Tryz.f67 0) (mkEnv_ok (cons := [(103, mkS_con), (60, mulS_con)]) ⟨mkS_ok, mulS_ok, trivial⟩ []) trainRatSL_step trainRatSL_fuel (by exact trivial) trainRatSL_stepok

def trainRatS : List ((Int × Int)) → Option ((Int × Int) × Bool) :=
fun x =>
  ob (wholeS (1 : Int)) fun y =>
    ob (trainRatSL (x, ((0 : Int), (0 : Int)), false, (y.1, y.2), (0 : Int))) fun r =>
      br r.1 (some ((r.snd.snd.snd.snd.fst.1, r.snd.snd.snd.snd.fst.2), true))
        (some ((r.snd.snd.fst.1, r.snd.snd.fst.2), r.snd.snd.snd.1))
def trainRatS_con : Con := ⟨[.slice (.pair (i64) (i64))], [.d (.pair (i64) (i64)), .d (.bool)], trainRatS⟩
theorem trainRatS_run (x : Dens [.slice (.pair (i64) (i64))]) : runFn (mkEnv [(111, wholeS_con)] [(trainRatSL_key, trainRatSL_L)]) Tryz.f67 [.slice (.pair (i64) (i64))] [.d (.pair (i64) (i64)), .d (.bool)] x = trainRatS x := by kernel_rfl
theorem trainRatS_ok : trainRatS_con.ok Tryz.prog 67 := fn_ok (con := trainRatS_con) (mkEnv_ok (cons := [(111, wholeS_con)]) ⟨wholeS_ok, trivial⟩ [(trainRatSL_key, trainRatSL_L)]) Tryz.func67 rfl (by kernel_rfl) (by exact ⟨trainRatSL_ok, trivial⟩) (fun x y h => (trainRatS_run x).trans h)











end Rx
end Go.Proofs.YtfapjkcmoefilaaGreatDoor
