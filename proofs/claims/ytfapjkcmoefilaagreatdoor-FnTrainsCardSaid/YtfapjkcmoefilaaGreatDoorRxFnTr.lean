/- What the functions of RxFnTr come to, and their contracts. No conditions. -/
import Derived.Test.YtfapjkcmoefilaaGreatDoorRxEnv
import Derived.Test.YtfapjkcmoefilaaGreatDoorRxSrc
import Derived.Test.YtfapjkcmoefilaaGreatDoorRxReadT
import Derived.Test.YtfapjkcmoefilaaGreatDoorRxSortLaw
import Derived.Test.YtfapjkcmoefilaaGreatDoorRxTrain
import Derived.Test.YtfapjkcmoefilaaGreatDoorRxText
import Derived.Test.YtfapjkcmoefilaaGreatDoorRxRatAdd
namespace Go.Proofs.YtfapjkcmoefilaaGreatDoor
namespace Rx
open Go

noncomputable section
def drawTrL_vars : Vars := [(0, .box 2 131 (.pair (.slice (.int .u8)) (.pair (i64) (u64)))), (5, .row 0 88 (.pair (i64) (i64))), (6, .val (i64))]
def drawTrL_step : (List (Int) × Int × Int) × List ((Int × Int)) × Int → Option (LRes × ((List (Int) × Int × Int) × List ((Int × Int)) × Int)) :=
fun x =>
  br (decide ((0 : Int) < x.snd.2))
    (ob
      (amongS
        ((x.fst.1, x.fst.snd.1, x.fst.snd.2),
          [(64 : Int), (60 : Int), (96 : Int), (75 : Int), (80 : Int), (54 : Int), (7 : Int), (239 : Int)]))
      fun y =>
      ob
        (amongS
          ((y.snd.fst.1, y.snd.fst.snd.1, y.snd.fst.snd.2),
            [(8 : Int), (10 : Int), (12 : Int), (7 : Int), (6 : Int), (40 : Int), (96 : Int), (240 : Int)]))
        fun y_1 =>
        br (decide (List.length x.snd.1 + [(y.1, y_1.1)].length ≤ (4294967296 : Nat)))
          (some
            (LRes.next, (y_1.snd.fst.1, y_1.snd.fst.snd.1, y_1.snd.fst.snd.2), x.snd.1 ++ [(y.1, y_1.1)],
              IntKind.i64.wrap (x.snd.2 - (1 : Int))))
          none)
    (some (LRes.out, (x.fst.1, x.fst.snd.1, x.fst.snd.2), x.snd.1, x.snd.2))
def drawTrL_fuel : (List (Int) × Int × Int) × List ((Int × Int)) × Int → Nat := fun s => s.2.2.toNat + 1
def drawTrL : (List (Int) × Int × Int) × List ((Int × Int)) × Int → Option ((List (Int) × Int × Int) × List ((Int × Int)) × Int) := fun s => iterP drawTrL_step (drawTrL_fuel s) s
def drawTrL_L : LoopC := ⟨drawTrL_vars, 0, .plain drawTrL⟩
noncomputable def drawTrL_key : Nat := key (loopAt Tryz.f43 0)
theorem drawTrL_stepok (x : drawTrL_vars.den) : stepOf (mkEnvM [] [(90, amongS_con)] []) Tryz.f43.ntmps drawTrL_vars 0 (loopAt Tryz.f43 0) x = drawTrL_step x := by kernel_rfl
theorem drawTrL_ok : LoopOK Tryz.prog Tryz.f43.ntmps drawTrL_L (loopAt Tryz.f43 0)   := iterP_loop (n := Tryz.f43.ntmps) (vs := drawTrL_vars) (out := 0) (body := loopAt Tryz.f43 0) (mkEnvM_ok (cons := []) (mcons := [(90, amongS_con)]) trivial ⟨amongS_ok, trivial⟩ []) drawTrL_step drawTrL_fuel (by exact trivial) drawTrL_stepok

def drawTrS : (List (Int) × Int × Int) × Int → Option ((List ((Int × Int))) × ((List (Int) × Int × Int) × Int)) :=
fun x =>
  ob (pickS ((x.fst.1, x.fst.snd.1, x.fst.snd.2), IntKind.i64.wrap (x.2 + (1 : Int)))) fun y =>
    ob (drawTrL ((y.snd.fst.1, y.snd.fst.snd.1, y.snd.fst.snd.2), [], y.1)) fun r =>
      some (r.snd.1, (r.fst.1, r.fst.snd.1, r.fst.snd.2), x.2)
def drawTrS_con : MCon := ⟨[.box 131 (.pair (.slice (.int .u8)) (.pair (i64) (u64))), .v (.d (i64))], [.row 88 (.pair (i64) (i64))], drawTrS⟩
theorem drawTrS_run (x : ADens [.box 131 (.pair (.slice (.int .u8)) (.pair (i64) (u64))), .v (.d (i64))]) : runFnM (mkEnvM [] [(89, pickS_con), (90, amongS_con)] [(drawTrL_key, drawTrL_L)]) Tryz.f43 [.box 131 (.pair (.slice (.int .u8)) (.pair (i64) (u64))), .v (.d (i64))] [.row 88 (.pair (i64) (i64))] x = drawTrS x := by kernel_rfl
theorem drawTrS_ok : drawTrS_con.ok Tryz.prog 43 := fnM_ok (con := drawTrS_con) (mkEnvM_ok (cons := []) (mcons := [(89, pickS_con), (90, amongS_con)]) trivial ⟨pickS_ok, amongS_ok, trivial⟩ [(drawTrL_key, drawTrL_L)]) Tryz.func43 rfl (by kernel_rfl) (by exact ⟨drawTrL_ok, trivial⟩) (fun x y h => (drawTrS_run x).trans h)

def a2TrainS : List (Int) → Option (List ((Int × Int))) :=
fun x => ob (fromS x) fun y => ob (drawTrS ((y.1, y.snd.1, y.snd.2), (4 : Int))) fun y => some y.1
def a2TrainS_con : Con := ⟨[.slice (.int .u8)], [.row 88 (.pair (i64) (i64))], a2TrainS⟩
theorem a2TrainS_run (x : Dens [.slice (.int .u8)]) : runFn (mkEnvM [(44, fromS_con)] [(43, drawTrS_con)] []) Tryz.f12 [.slice (.int .u8)] [.row 88 (.pair (i64) (i64))] x = a2TrainS x := by kernel_rfl
theorem a2TrainS_ok : a2TrainS_con.ok Tryz.prog 12 := fn_ok (con := a2TrainS_con) (mkEnvM_ok (cons := [(44, fromS_con)]) (mcons := [(43, drawTrS_con)]) ⟨fromS_ok, trivial⟩ ⟨drawTrS_ok, trivial⟩ []) Tryz.func12 rfl (by kernel_rfl) (by exact trivial) (fun x y h => (a2TrainS_run x).trans h)

def a2LongT : List (Int) × List (Int) → Option (Bool) :=
fun x =>
  br (decide ((3000 : Int) < (↑x.1.length : Int))) (some true) (some (decide ((3000 : Int) < (↑x.2.length : Int))))
def a2LongT_con : Con := ⟨[.slice (.int .u8), .slice (.int .u8)], [.d (.bool)], a2LongT⟩
theorem a2LongT_run (x : Dens [.slice (.int .u8), .slice (.int .u8)]) : runFn (mkEnv [] []) Tryz.f11 [.slice (.int .u8), .slice (.int .u8)] [.d (.bool)] x = a2LongT x := by kernel_rfl
theorem a2LongT_ok : a2LongT_con.ok Tryz.prog 11 := fn_ok (con := a2LongT_con) (mkEnv_ok (cons := []) trivial []) Tryz.func11 rfl (by kernel_rfl) (by exact trivial) (fun x y h => (a2LongT_run x).trans h)

def drvL_vars : Vars := [(3, .row 0 2 (i64)), (6, .val (.slice (.pair (i64) (i64)))), (7, .val (i64)), (8, .val (i64))]
def drvL_step : List (Int) × List ((Int × Int)) × Int × Int → Option (LRes × (List (Int) × List ((Int × Int)) × Int × Int)) :=
fun x =>
  br (decide (x.snd.snd.2 < x.snd.snd.1))
    (ob (idx x.snd.1 x.snd.snd.2) fun y =>
      br (decide (x.1.length + [y.1].length ≤ (4294967296 : Nat)))
        (some (LRes.next, x.1 ++ [y.1], x.snd.1, x.snd.snd.1, IntKind.i64.wrap (x.snd.snd.2 + (1 : Int)))) none)
    (some (LRes.out, x.1, x.snd.1, x.snd.snd.1, x.snd.snd.2))
def drvL_fuel : List (Int) × List ((Int × Int)) × Int × Int → Nat := fun s => (s.2.2.1 - s.2.2.2).toNat + 1
def drvL : List (Int) × List ((Int × Int)) × Int × Int → Option (List (Int) × List ((Int × Int)) × Int × Int) := fun s => iterP drvL_step (drvL_fuel s) s
def drvL_L : LoopC := ⟨drvL_vars, 0, .plain drvL⟩
noncomputable def drvL_key : Nat := key (loopAt Tryz.f47 0)
theorem drvL_stepok (x : drvL_vars.den) : stepOf (mkEnv [] []) Tryz.f47.ntmps drvL_vars 0 (loopAt Tryz.f47 0) x = drvL_step x := by kernel_rfl
theorem drvL_ok : LoopOK Tryz.prog Tryz.f47.ntmps drvL_L (loopAt Tryz.f47 0)   := iterP_loop (n := Tryz.f47.ntmps) (vs := drvL_vars) (out := 0) (body := loopAt Tryz.f47 0) (mkEnv_ok (cons := []) trivial []) drvL_step drvL_fuel (by exact trivial) drvL_stepok

def drvI : List ((Int × Int)) → Option (List (Int)) :=
fun x => ob (drvL ([], x, (↑x.length : Int), (0 : Int))) fun r => some r.1
def drvI_con : Con := ⟨[.slice (.pair (i64) (i64))], [.row 2 (i64)], drvI⟩
theorem drvI_run (x : Dens [.slice (.pair (i64) (i64))]) : runFn (mkEnv [] [(drvL_key, drvL_L)]) Tryz.f47 [.slice (.pair (i64) (i64))] [.row 2 (i64)] x = drvI x := by kernel_rfl
theorem drvI_ok : drvI_con.ok Tryz.prog 47 := fn_ok (con := drvI_con) (mkEnv_ok (cons := []) trivial [(drvL_key, drvL_L)]) Tryz.func47 rfl (by kernel_rfl) (by exact ⟨drvL_ok, trivial⟩) (fun x y h => (drvI_run x).trans h)

def dvnL_vars : Vars := [(3, .row 0 2 (i64)), (6, .val (.slice (.pair (i64) (i64)))), (7, .val (i64)), (8, .val (i64))]
def dvnL_step : List (Int) × List ((Int × Int)) × Int × Int → Option (LRes × (List (Int) × List ((Int × Int)) × Int × Int)) :=
fun x =>
  br (decide (x.snd.snd.2 < x.snd.snd.1))
    (ob (idx x.snd.1 x.snd.snd.2) fun y =>
      br (decide (x.1.length + [y.2].length ≤ (4294967296 : Nat)))
        (some (LRes.next, x.1 ++ [y.2], x.snd.1, x.snd.snd.1, IntKind.i64.wrap (x.snd.snd.2 + (1 : Int)))) none)
    (some (LRes.out, x.1, x.snd.1, x.snd.snd.1, x.snd.snd.2))
def dvnL_fuel : List (Int) × List ((Int × Int)) × Int × Int → Nat := fun s => (s.2.2.1 - s.2.2.2).toNat + 1
def dvnL : List (Int) × List ((Int × Int)) × Int × Int → Option (List (Int) × List ((Int × Int)) × Int × Int) := fun s => iterP dvnL_step (dvnL_fuel s) s
def dvnL_L : LoopC := ⟨dvnL_vars, 0, .plain dvnL⟩
noncomputable def dvnL_key : Nat := key (loopAt Tryz.f48 0)
theorem dvnL_stepok (x : dvnL_vars.den) : stepOf (mkEnv [] []) Tryz.f48.ntmps dvnL_vars 0 (loopAt Tryz.f48 0) x = dvnL_step x := by kernel_rfl
theorem dvnL_ok : LoopOK Tryz.prog Tryz.f48.ntmps dvnL_L (loopAt Tryz.f48 0)   := iterP_loop (n := Tryz.f48.ntmps) (vs := dvnL_vars) (out := 0) (body := loopAt Tryz.f48 0) (mkEnv_ok (cons := []) trivial []) dvnL_step dvnL_fuel (by exact trivial) dvnL_stepok

def dvnI : List ((Int × Int)) → Option (List (Int)) :=
fun x => ob (dvnL ([], x, (↑x.length : Int), (0 : Int))) fun r => some r.1
def dvnI_con : Con := ⟨[.slice (.pair (i64) (i64))], [.row 2 (i64)], dvnI⟩
theorem dvnI_run (x : Dens [.slice (.pair (i64) (i64))]) : runFn (mkEnv [] [(dvnL_key, dvnL_L)]) Tryz.f48 [.slice (.pair (i64) (i64))] [.row 2 (i64)] x = dvnI x := by kernel_rfl
theorem dvnI_ok : dvnI_con.ok Tryz.prog 48 := fn_ok (con := dvnI_con) (mkEnv_ok (cons := []) trivial [(dvnL_key, dvnL_L)]) Tryz.func48 rfl (by kernel_rfl) (by exact ⟨dvnL_ok, trivial⟩) (fun x y h => (dvnI_run x).trans h)

def pairedL_vars : Vars := [(0, .val (.slice (i64))), (1, .val (.slice (i64))), (5, .row 0 88 (.pair (i64) (i64))), (8, .val (i64)), (9, .val (i64))]
def pairedL_step : List (Int) × List (Int) × List ((Int × Int)) × Int × Int → Option (LRes × (List (Int) × List (Int) × List ((Int × Int)) × Int × Int)) :=
fun x =>
  br (decide (x.snd.snd.snd.2 < x.snd.snd.snd.1))
    (ob (idx x.1 x.snd.snd.snd.2) fun y =>
      ob (idx x.snd.1 x.snd.snd.snd.2) fun y_1 =>
        br (decide (List.length x.snd.snd.1 + [(y, y_1)].length ≤ (4294967296 : Nat)))
          (some
            (LRes.next, x.1, x.snd.1, x.snd.snd.1 ++ [(y, y_1)], x.snd.snd.snd.1,
              IntKind.i64.wrap (x.snd.snd.snd.2 + (1 : Int))))
          none)
    (some (LRes.out, x.1, x.snd.1, x.snd.snd.1, x.snd.snd.snd.1, x.snd.snd.snd.2))
def pairedL_fuel : List (Int) × List (Int) × List ((Int × Int)) × Int × Int → Nat := fun s => (s.2.2.2.1 - s.2.2.2.2).toNat + 1
def pairedL : List (Int) × List (Int) × List ((Int × Int)) × Int × Int → Option (List (Int) × List (Int) × List ((Int × Int)) × Int × Int) := fun s => iterP pairedL_step (pairedL_fuel s) s
def pairedL_L : LoopC := ⟨pairedL_vars, 0, .plain pairedL⟩
noncomputable def pairedL_key : Nat := key (loopAt Tryz.f50 0)
theorem pairedL_stepok (x : pairedL_vars.den) : stepOf (mkEnv [] []) Tryz.f50.ntmps pairedL_vars 0 (loopAt Tryz.f50 0) x = pairedL_step x := by kernel_rfl
theorem pairedL_ok : LoopOK Tryz.prog Tryz.f50.ntmps pairedL_L (loopAt Tryz.f50 0)   := iterP_loop (n := Tryz.f50.ntmps) (vs := pairedL_vars) (out := 0) (body := loopAt Tryz.f50 0) (mkEnv_ok (cons := []) trivial []) pairedL_step pairedL_fuel (by exact trivial) pairedL_stepok

def pairedI : List (Int) × List (Int) → Option (List ((Int × Int))) :=
fun x => ob (pairedL (x.1, x.2, [], (↑x.1.length : Int), (0 : Int))) fun r => some r.snd.snd.1
def pairedI_con : Con := ⟨[.slice (i64), .slice (i64)], [.row 88 (.pair (i64) (i64))], pairedI⟩
theorem pairedI_run (x : Dens [.slice (i64), .slice (i64)]) : runFn (mkEnv [] [(pairedL_key, pairedL_L)]) Tryz.f50 [.slice (i64), .slice (i64)] [.row 88 (.pair (i64) (i64))] x = pairedI x := by kernel_rfl
theorem pairedI_ok : pairedI_con.ok Tryz.prog 50 := fn_ok (con := pairedI_con) (mkEnv_ok (cons := []) trivial [(pairedL_key, pairedL_L)]) Tryz.func50 rfl (by kernel_rfl) (by exact ⟨pairedL_ok, trivial⟩) (fun x y h => (pairedI_run x).trans h)

def teethTL_vars : Vars := [(2, .val (i64)), (3, .val (i64)), (6, .val (.slice (.pair (i64) (i64)))), (7, .val (i64)), (8, .val (i64))]
def teethTL_step : Int × Int × List ((Int × Int)) × Int × Int → Option (LRes × (Int × Int × List ((Int × Int)) × Int × Int)) :=
fun x =>
  br (decide (x.snd.snd.snd.2 < x.snd.snd.snd.1))
    (ob (idx x.snd.snd.1 x.snd.snd.snd.2) fun y =>
      some
        (LRes.next, x.1, IntKind.i64.wrap (x.snd.1 + IntKind.i64.wrap (y.1 + y.2)), x.snd.snd.1, x.snd.snd.snd.1,
          IntKind.i64.wrap (x.snd.snd.snd.2 + (1 : Int))))
    (some (LRes.out, x.1, x.snd.1, x.snd.snd.1, x.snd.snd.snd.1, x.snd.snd.snd.2))
def teethTL_fuel : Int × Int × List ((Int × Int)) × Int × Int → Nat := fun s => (s.2.2.2.1 - s.2.2.2.2).toNat + 1
def teethTL : Int × Int × List ((Int × Int)) × Int × Int → Option (Int × Int × List ((Int × Int)) × Int × Int) := fun s => iterP teethTL_step (teethTL_fuel s) s
def teethTL_L : LoopC := ⟨teethTL_vars, 0, .plain teethTL⟩
noncomputable def teethTL_key : Nat := key (loopAt Tryz.f52 0)
theorem teethTL_stepok (x : teethTL_vars.den) : stepOf (mkEnv [] []) Tryz.f52.ntmps teethTL_vars 0 (loopAt Tryz.f52 0) x = teethTL_step x := by kernel_rfl
theorem teethTL_ok : LoopOK Tryz.prog Tryz.f52.ntmps teethTL_L (loopAt Tryz.f52 0)   := iterP_loop (n := Tryz.f52.ntmps) (vs := teethTL_vars) (out := 0) (body := loopAt Tryz.f52 0) (mkEnv_ok (cons := []) trivial []) teethTL_step teethTL_fuel (by exact trivial) teethTL_stepok

def teethTI : List ((Int × Int)) → Option (Int) :=
fun x => ob (teethTL ((0 : Int), (0 : Int), x, (↑x.length : Int), (0 : Int))) fun r => some r.snd.1
def teethTI_con : Con := ⟨[.slice (.pair (i64) (i64))], [.d (i64)], teethTI⟩
theorem teethTI_run (x : Dens [.slice (.pair (i64) (i64))]) : runFn (mkEnv [] [(teethTL_key, teethTL_L)]) Tryz.f52 [.slice (.pair (i64) (i64))] [.d (i64)] x = teethTI x := by kernel_rfl
theorem teethTI_ok : teethTI_con.ok Tryz.prog 52 := fn_ok (con := teethTI_con) (mkEnv_ok (cons := []) trivial [(teethTL_key, teethTL_L)]) Tryz.func52 rfl (by kernel_rfl) (by exact ⟨teethTL_ok, trivial⟩) (fun x y h => (teethTI_run x).trans h)

def teethOfT : List ((Int × Int)) → Option (Int × Int) :=
fun x => ob (validTrainI x) fun y => br (!y) (some ((0 : Int), (1 : Int))) (ob (teethTI x) fun y => some (y, (0 : Int)))
def teethOfT_con : Con := ⟨[.slice (.pair (i64) (i64))], [.d (i64), .d (i64)], teethOfT⟩
theorem teethOfT_run (x : Dens [.slice (.pair (i64) (i64))]) : runFn (mkEnv [(45, validTrainI_con), (52, teethTI_con)] []) Tryz.f16 [.slice (.pair (i64) (i64))] [.d (i64), .d (i64)] x = teethOfT x := by kernel_rfl
theorem teethOfT_ok : teethOfT_con.ok Tryz.prog 16 := fn_ok (con := teethOfT_con) (mkEnv_ok (cons := [(45, validTrainI_con), (52, teethTI_con)]) ⟨validTrainI_ok, teethTI_ok, trivial⟩ []) Tryz.func16 rfl (by kernel_rfl) (by exact trivial) (fun x y h => (teethOfT_run x).trans h)

def revTrI : List ((Int × Int)) → Option (List ((Int × Int)) × Int) :=
fun x =>
  ob (validTrainI x) fun y =>
    br (!y) (some ([], (1 : Int)))
      (ob (drvI x) fun y =>
        ob (dvnI x) fun y_1 =>
          ob (revX y) fun y => ob (revX y_1) fun y_2 => ob (pairedI (y_2.2, y.2)) fun y => some (y, (0 : Int)))
def revTrI_con : Con := ⟨[.slice (.pair (i64) (i64))], [.row 88 (.pair (i64) (i64)), .d (i64)], revTrI⟩
theorem revTrI_run (x : Dens [.slice (.pair (i64) (i64))]) : runFn (mkEnvM [(45, validTrainI_con), (47, drvI_con), (48, dvnI_con), (50, pairedI_con)] [(49, revX_con)] []) Tryz.f14 [.slice (.pair (i64) (i64))] [.row 88 (.pair (i64) (i64)), .d (i64)] x = revTrI x := by kernel_rfl
theorem revTrI_ok : revTrI_con.ok Tryz.prog 14 := fn_ok (con := revTrI_con) (mkEnvM_ok (cons := [(45, validTrainI_con), (47, drvI_con), (48, dvnI_con), (50, pairedI_con)]) (mcons := [(49, revX_con)]) ⟨validTrainI_ok, drvI_ok, dvnI_ok, pairedI_ok, trivial⟩ ⟨revX_ok, trivial⟩ []) Tryz.func14 rfl (by kernel_rfl) (by exact trivial) (fun x y h => (revTrI_run x).trans h)

def canonI : List ((Int × Int)) → Option (List ((Int × Int)) × Int) :=
fun x =>
  ob (validTrainI x) fun y =>
    br (!y) (some ([], (1 : Int)))
      (ob (drvI x) fun y =>
        ob (dvnI x) fun y_1 =>
          ob (sortX y) fun y =>
            ob (revX y.2) fun y => ob (sortX y_1) fun y_2 => ob (pairedI (y.2, y_2.2)) fun y => some (y, (0 : Int)))
def canonI_con : Con := ⟨[.slice (.pair (i64) (i64))], [.row 88 (.pair (i64) (i64)), .d (i64)], canonI⟩
theorem canonI_run (x : Dens [.slice (.pair (i64) (i64))]) : runFn (mkEnvM [(45, validTrainI_con), (47, drvI_con), (48, dvnI_con), (50, pairedI_con)] [(51, sortX_con), (49, revX_con)] []) Tryz.f15 [.slice (.pair (i64) (i64))] [.row 88 (.pair (i64) (i64)), .d (i64)] x = canonI x := by kernel_rfl
theorem canonI_ok : canonI_con.ok Tryz.prog 15 := fn_ok (con := canonI_con) (mkEnvM_ok (cons := [(45, validTrainI_con), (47, drvI_con), (48, dvnI_con), (50, pairedI_con)]) (mcons := [(51, sortX_con), (49, revX_con)]) ⟨validTrainI_ok, drvI_ok, dvnI_ok, pairedI_ok, trivial⟩ ⟨sortX_ok, revX_ok, trivial⟩ []) Tryz.func15 rfl (by kernel_rfl) (by exact trivial) (fun x y h => (canonI_run x).trans h)

def trainRatioI : List ((Int × Int)) → Option ((Int × Int) × Int) :=
fun x =>
  ob (validTrainI x) fun y =>
    br (!y) (some (((0 : Int), (0 : Int)), (1 : Int))) (ob (trainRatI x) fun y => some ((y.fst.1, y.fst.2), y.2))
def trainRatioI_con : Con := ⟨[.slice (.pair (i64) (i64))], [.d (.pair (i64) (i64)), .d (i64)], trainRatioI⟩
theorem trainRatioI_run (x : Dens [.slice (.pair (i64) (i64))]) : runFn (mkEnv [(45, validTrainI_con), (46, trainRatI_con)] []) Tryz.f13 [.slice (.pair (i64) (i64))] [.d (.pair (i64) (i64)), .d (i64)] x = trainRatioI x := by kernel_rfl
theorem trainRatioI_ok : trainRatioI_con.ok Tryz.prog 13 := fn_ok (con := trainRatioI_con) (mkEnv_ok (cons := [(45, validTrainI_con), (46, trainRatI_con)]) ⟨validTrainI_ok, trainRatI_ok, trivial⟩ []) Tryz.func13 rfl (by kernel_rfl) (by exact trivial) (fun x y h => (trainRatioI_run x).trans h)

def sameTrL_vars : Vars := [(0, .val (.slice (.pair (i64) (i64)))), (1, .val (.slice (.pair (i64) (i64)))), (4, .val (.bool)), (5, .val (i64))]
def sameTrL_step : List ((Int × Int)) × List ((Int × Int)) × Bool × Int → Option (LRes × (List ((Int × Int)) × List ((Int × Int)) × Bool × Int)) :=
fun x =>
  br (decide (x.snd.snd.2 < (↑x.1.length : Int)))
    (ob (idx x.1 x.snd.snd.2) fun y =>
      ob (idx x.snd.1 x.snd.snd.2) fun y_1 =>
        br (!(y.1 == y_1.1 && y.2 == y_1.2)) (some (LRes.ret, x.1, x.snd.1, false, x.snd.snd.2))
          (some (LRes.next, x.1, x.snd.1, x.snd.snd.1, IntKind.i64.wrap (x.snd.snd.2 + (1 : Int)))))
    (some (LRes.out, x.1, x.snd.1, x.snd.snd.1, x.snd.snd.2))
def sameTrL_fuel : List ((Int × Int)) × List ((Int × Int)) × Bool × Int → Nat := fun s => (s.1.length - s.2.2.2.toNat) + 1
def sameTrL : List ((Int × Int)) × List ((Int × Int)) × Bool × Int → Option (Bool × (List ((Int × Int)) × List ((Int × Int)) × Bool × Int)) := fun s => iter sameTrL_step (sameTrL_fuel s) s
def sameTrL_L : LoopC := ⟨sameTrL_vars, 0, .two sameTrL⟩
noncomputable def sameTrL_key : Nat := key (loopAt Tryz.f56 0)
theorem sameTrL_stepok (x : sameTrL_vars.den) : stepOf (mkEnv [] []) Tryz.f56.ntmps sameTrL_vars 0 (loopAt Tryz.f56 0) x = sameTrL_step x := by kernel_rfl
theorem sameTrL_ok : LoopOK Tryz.prog Tryz.f56.ntmps sameTrL_L (loopAt Tryz.f56 0)   := iter_loop (n := Tryz.f56.ntmps) (vs := sameTrL_vars) (out := 0) (body := loopAt Tryz.f56 0) (mkEnv_ok (cons := []) trivial []) sameTrL_step sameTrL_fuel (by exact trivial) sameTrL_stepok

def sameTrS : List ((Int × Int)) × List ((Int × Int)) → Option (Bool) :=
fun x =>
  br ((↑x.1.length : Int) != (↑x.2.length : Int)) (some false)
    (ob (sameTrL (x.1, x.2, false, (0 : Int))) fun r => br r.1 (some true) (some r.snd.snd.snd.1))
def sameTrS_con : Con := ⟨[.slice (.pair (i64) (i64)), .slice (.pair (i64) (i64))], [.d (.bool)], sameTrS⟩
theorem sameTrS_run (x : Dens [.slice (.pair (i64) (i64)), .slice (.pair (i64) (i64))]) : runFn (mkEnv [] [(sameTrL_key, sameTrL_L)]) Tryz.f56 [.slice (.pair (i64) (i64)), .slice (.pair (i64) (i64))] [.d (.bool)] x = sameTrS x := by kernel_rfl
theorem sameTrS_ok : sameTrS_con.ok Tryz.prog 56 := fn_ok (con := sameTrS_con) (mkEnv_ok (cons := []) trivial [(sameTrL_key, sameTrL_L)]) Tryz.func56 rfl (by kernel_rfl) (by exact ⟨sameTrL_ok, trivial⟩) (fun x y h => (sameTrS_run x).trans h)

def sameTrainS : List ((Int × Int)) × List ((Int × Int)) → Option (Bool) :=
fun x => ob (sameTrS (x.1, x.2)) fun y => some y
def sameTrainS_con : Con := ⟨[.slice (.pair (i64) (i64)), .slice (.pair (i64) (i64))], [.d (.bool)], sameTrainS⟩
theorem sameTrainS_run (x : Dens [.slice (.pair (i64) (i64)), .slice (.pair (i64) (i64))]) : runFn (mkEnv [(56, sameTrS_con)] []) Tryz.f19 [.slice (.pair (i64) (i64)), .slice (.pair (i64) (i64))] [.d (.bool)] x = sameTrainS x := by kernel_rfl
theorem sameTrainS_ok : sameTrainS_con.ok Tryz.prog 19 := fn_ok (con := sameTrainS_con) (mkEnv_ok (cons := [(56, sameTrS_con)]) ⟨sameTrS_ok, trivial⟩ []) Tryz.func19 rfl (by kernel_rfl) (by exact trivial) (fun x y h => (sameTrainS_run x).trans h)

def validTrainS : List ((Int × Int)) → Option (Bool) :=
fun x => ob (okTrainS x) fun y => some y
def validTrainS_con : Con := ⟨[.slice (.pair (i64) (i64))], [.d (.bool)], validTrainS⟩
theorem validTrainS_run (x : Dens [.slice (.pair (i64) (i64))]) : runFn (mkEnv [(57, okTrainS_con)] []) Tryz.f20 [.slice (.pair (i64) (i64))] [.d (.bool)] x = validTrainS x := by kernel_rfl
theorem validTrainS_ok : validTrainS_con.ok Tryz.prog 20 := fn_ok (con := validTrainS_con) (mkEnv_ok (cons := [(57, okTrainS_con)]) ⟨okTrainS_ok, trivial⟩ []) Tryz.func20 rfl (by kernel_rfl) (by exact trivial) (fun x y h => (validTrainS_run x).trans h)

def fnTr : List (Int) → Option (Bool) :=
fun x =>
  ob (a2LongT (x, [])) fun y =>
    br y (some true)
      (ob (a2TrainS x) fun y =>
        ob (trainRatioI y) fun y_1 =>
          ob (revTrI y) fun y_2 =>
            ob (canonI y) fun y_3 =>
              ob (teethOfT y) fun y_4 =>
                ob (teethOfT y_3.1) fun y_5 =>
                  ob (trainTextI y) fun y_6 =>
                    ob (readTrainI y_6) fun y_7 =>
                      br (y_2.2 != (0 : Int)) (some false)
                        (br (y_3.2 != (0 : Int)) (some false)
                          (br (y_4.2 != (0 : Int)) (some false)
                            (br (y_5.2 != (0 : Int)) (some false)
                              (br (y_4.1 != y_5.1) (some false)
                                (br (!y_7.2) (some false)
                                  (ob (sameTrainS (y_7.1, y)) fun y_8 =>
                                    br (!y_8) (some false)
                                      (ob (validTrainS y_3.1) fun y_9 =>
                                        br (!y_9) (some false)
                                          (br ((↑(List.length y_3.1) : Int) != (↑(List.length y) : Int)) (some false)
                                            (br (y_1.2 != (0 : Int)) (some (y_1.2 == (2 : Int)))
                                              (ob (trainRatioI y_2.1) fun y =>
                                                ob (trainRatioI y_3.1) fun y_10 =>
                                                  br (y.2 == (0 : Int))
                                                    (ob (mulRatS ((y_1.fst.1, y_1.fst.2), y.fst.1, y.fst.2)) fun y =>
                                                      br (y.2 != (0 : Int)) (some false)
                                                        (br (!(y.fst.1 == (1 : Int) && y.fst.2 == (1 : Int)))
                                                          (some false)
                                                          (br (y_10.2 != (0 : Int)) (some true)
                                                            (some
                                                              (y_10.fst.1 == y_1.fst.1 && y_10.fst.2 == y_1.fst.2)))))
                                                    (br (y_10.2 != (0 : Int)) (some true)
                                                      (some
                                                        (y_10.fst.1 == y_1.fst.1 &&
                                                          y_10.fst.2 == y_1.fst.2))))))))))))))
def fnTr_con : Con := ⟨[.slice (.int .u8)], [.d (.bool)], fnTr⟩
theorem fnTr_run (x : Dens [.slice (.int .u8)]) : runFn (mkEnv [(11, a2LongT_con), (12, a2TrainS_con), (13, trainRatioI_con), (14, revTrI_con), (15, canonI_con), (16, teethOfT_con), (18, trainTextI_con), (17, readTrainI_con), (19, sameTrainS_con), (20, validTrainS_con), (21, mulRatS_con)] []) Tryz.f4 [.slice (.int .u8)] [.d (.bool)] x = fnTr x := by kernel_rfl
theorem fnTr_ok : fnTr_con.ok Tryz.prog 4 := fn_ok (con := fnTr_con) (mkEnv_ok (cons := [(11, a2LongT_con), (12, a2TrainS_con), (13, trainRatioI_con), (14, revTrI_con), (15, canonI_con), (16, teethOfT_con), (18, trainTextI_con), (17, readTrainI_con), (19, sameTrainS_con), (20, validTrainS_con), (21, mulRatS_con)]) ⟨a2LongT_ok, a2TrainS_ok, trainRatioI_ok, revTrI_ok, canonI_ok, teethOfT_ok, trainTextI_ok, readTrainI_ok, sameTrainS_ok, validTrainS_ok, mulRatS_ok, trivial⟩ []) Tryz.func4 rfl (by kernel_rfl) (by exact trivial) (fun x y h => (fnTr_run x).trans h)

end
end Rx
end Go.Proofs.YtfapjkcmoefilaaGreatDoor
