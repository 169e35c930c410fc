/- What the functions of RxComp come to, and their contracts. No conditions. -/
import Derived.Test.YthfgpnpoocepeaaGreatRxEnv
import Derived.Test.YthfgpnpoocepeaaGreatRxTrain
namespace Go.Proofs.YthfgpnpoocepeaaGreat
namespace Rx
open Go

def nanI : Int → Option (Bool) :=
fun x => some (x != x)
def nanI_con : Con := ⟨[i64], [.d (.bool)], nanI⟩
theorem nanI_run (x : Dens [i64]) : runFn (mkEnv [] []) Tryz.f98 [i64] [.d (.bool)] x = nanI x := by kernel_rfl
theorem nanI_ok : nanI_con.ok Tryz.prog 98 := fn_ok (con := nanI_con) (mkEnv_ok (cons := []) trivial []) Tryz.func98 rfl (by kernel_rfl) (by exact trivial) (fun x y h => (nanI_run x).trans h)

def cmpI : Int × Int → Option (Int) :=
fun x =>
  ob (nanI x.1) fun y =>
    ob (nanI x.2) fun y_1 =>
      br y (br y_1 (some (0 : Int)) (some (-1 : Int)))
        (br y_1 (some (1 : Int))
          (br (decide (x.1 < x.2)) (some (-1 : Int)) (br (decide (x.2 < x.1)) (some (1 : Int)) (some (0 : Int)))))
def cmpI_con : Con := ⟨[i64, i64], [.d (i64)], cmpI⟩
theorem cmpI_run (x : Dens [i64, i64]) : runFn (mkEnv [(98, nanI_con)] []) Tryz.f61 [i64, i64] [.d (i64)] x = cmpI x := by kernel_rfl
theorem cmpI_ok : cmpI_con.ok Tryz.prog 61 := fn_ok (con := cmpI_con) (mkEnv_ok (cons := [(98, nanI_con)]) ⟨nanI_ok, trivial⟩ []) Tryz.func61 rfl (by kernel_rfl) (by exact trivial) (fun x y h => (cmpI_run x).trans h)

def corIL_vars : Vars := [(2, .val (i64)), (3, .val (i64)), (6, .val (.slice (i64))), (7, .val (i64)), (8, .val (i64))]
def corIL_step : Int × Int × List (Int) × Int × Int → Option (LRes × (Int × Int × List (Int) × Int × Int)) :=
fun x =>
  br (decide (x.snd.snd.snd.2 < x.snd.snd.snd.1))
    (ob (idx x.snd.snd.1 x.snd.snd.snd.2) fun y =>
      br (y != x.snd.1) (some (LRes.ret, y, x.snd.1, x.snd.snd.1, x.snd.snd.snd.1, x.snd.snd.snd.2))
        (some (LRes.next, x.1, x.snd.1, x.snd.snd.1, x.snd.snd.snd.1, IntKind.i64.wrap (x.snd.snd.snd.2 + (1 : Int)))))
    (some (LRes.out, x.1, x.snd.1, x.snd.snd.1, x.snd.snd.snd.1, x.snd.snd.snd.2))
def corIL_fuel : Int × Int × List (Int) × Int × Int → Nat := fun s => (s.2.2.2.1 - s.2.2.2.2).toNat + 1
def corIL : Int × Int × List (Int) × Int × Int → Option (Bool × (Int × Int × List (Int) × Int × Int)) := fun s => iter corIL_step (corIL_fuel s) s
def corIL_L : LoopC := ⟨corIL_vars, 0, .two corIL⟩
noncomputable def corIL_key : Nat := key (loopAt Tryz.f65 0)
theorem corIL_stepok (x : corIL_vars.den) : stepOf (mkEnv [] []) Tryz.f65.ntmps corIL_vars 0 (loopAt Tryz.f65 0) x = corIL_step x := by kernel_rfl
theorem corIL_ok : LoopOK Tryz.prog Tryz.f65.ntmps corIL_L (loopAt Tryz.f65 0)   := iter_loop (n := Tryz.f65.ntmps) (vs := corIL_vars) (out := 0) (body := loopAt Tryz.f65 0) (mkEnv_ok (cons := []) trivial []) corIL_step corIL_fuel (by exact trivial) corIL_stepok

def corI : List (Int) → Option (Int) :=
fun x =>
  ob (corIL ((0 : Int), (0 : Int), x, (↑x.length : Int), (0 : Int))) fun r => br r.1 (some r.snd.snd.1) (some r.snd.1)
def corI_con : Con := ⟨[.slice (i64)], [.d (i64)], corI⟩
theorem corI_run (x : Dens [.slice (i64)]) : runFn (mkEnv [] [(corIL_key, corIL_L)]) Tryz.f65 [.slice (i64)] [.d (i64)] x = corI x := by kernel_rfl
theorem corI_ok : corI_con.ok Tryz.prog 65 := fn_ok (con := corI_con) (mkEnv_ok (cons := []) trivial [(corIL_key, corIL_L)]) Tryz.func65 rfl (by kernel_rfl) (by exact ⟨corIL_ok, trivial⟩) (fun x y h => (corI_run x).trans h)

def cmpPairI : (Int × Int) × (Int × Int) → Option (Int) :=
fun x => ob (cmpI (x.fst.1, x.snd.1)) fun y => ob (cmpI (x.fst.2, x.snd.2)) fun y_1 => ob (corI [y, y_1]) fun y => some y
def cmpPairI_con : Con := ⟨[.pair (i64) (i64), .pair (i64) (i64)], [.d (i64)], cmpPairI⟩
theorem cmpPairI_run (x : Dens [.pair (i64) (i64), .pair (i64) (i64)]) : runFn (mkEnv [(61, cmpI_con), (65, corI_con)] []) Tryz.f64 [.pair (i64) (i64), .pair (i64) (i64)] [.d (i64)] x = cmpPairI x := by kernel_rfl
theorem cmpPairI_ok : cmpPairI_con.ok Tryz.prog 64 := fn_ok (con := cmpPairI_con) (mkEnv_ok (cons := [(61, cmpI_con), (65, corI_con)]) ⟨cmpI_ok, corI_ok, trivial⟩ []) Tryz.func64 rfl (by kernel_rfl) (by exact trivial) (fun x y h => (cmpPairI_run x).trans h)

def cmpFuncL_vars : Vars := [(0, .val (.slice (.pair (i64) (i64)))), (1, .val (.slice (.pair (i64) (i64)))), (2, .val (.clo 64 (.unit))), (6, .val (i64)), (11, .val (.slice (.pair (i64) (i64)))), (12, .val (i64)), (13, .val (i64))]
def cmpFuncL_step : List ((Int × Int)) × List ((Int × Int)) × Unit × Int × List ((Int × Int)) × Int × Int → Option (LRes × (List ((Int × Int)) × List ((Int × Int)) × Unit × Int × List ((Int × Int)) × Int × Int)) :=
fun x =>
  br (decide (x.snd.snd.snd.snd.snd.2 < x.snd.snd.snd.snd.snd.1))
    (ob (idx x.snd.snd.snd.snd.1 x.snd.snd.snd.snd.snd.2) fun y =>
      br (decide ((↑(List.length x.snd.1) : Int) ≤ x.snd.snd.snd.snd.snd.2))
        (some
          (LRes.ret, x.1, x.snd.1, x.snd.snd.1, (1 : Int), x.snd.snd.snd.snd.1, x.snd.snd.snd.snd.snd.1,
            x.snd.snd.snd.snd.snd.2))
        (ob (idx x.snd.1 x.snd.snd.snd.snd.snd.2) fun y_1 =>
          ob (cmpPairI ((y.1, y.2), y_1.1, y_1.2)) fun y =>
            br (y != (0 : Int))
              (some
                (LRes.ret, x.1, x.snd.1, x.snd.snd.1, y, x.snd.snd.snd.snd.1, x.snd.snd.snd.snd.snd.1,
                  x.snd.snd.snd.snd.snd.2))
              (some
                (LRes.next, x.1, x.snd.1, x.snd.snd.1, x.snd.snd.snd.1, x.snd.snd.snd.snd.1, x.snd.snd.snd.snd.snd.1,
                  IntKind.i64.wrap (x.snd.snd.snd.snd.snd.2 + (1 : Int))))))
    (some
      (LRes.out, x.1, x.snd.1, x.snd.snd.1, x.snd.snd.snd.1, x.snd.snd.snd.snd.1, x.snd.snd.snd.snd.snd.1,
        x.snd.snd.snd.snd.snd.2))
def cmpFuncL_fuel : List ((Int × Int)) × List ((Int × Int)) × Unit × Int × List ((Int × Int)) × Int × Int → Nat := fun s => (s.2.2.2.2.2.1 - s.2.2.2.2.2.2).toNat + 1
def cmpFuncL : List ((Int × Int)) × List ((Int × Int)) × Unit × Int × List ((Int × Int)) × Int × Int → Option (Bool × (List ((Int × Int)) × List ((Int × Int)) × Unit × Int × List ((Int × Int)) × Int × Int)) := fun s => iter cmpFuncL_step (cmpFuncL_fuel s) s
def cmpFuncL_L : LoopC := ⟨cmpFuncL_vars, 0, .two cmpFuncL⟩
noncomputable def cmpFuncL_key : Nat := key (loopAt Tryz.f63 0)
theorem cmpFuncL_stepok (x : cmpFuncL_vars.den) : stepOf (mkEnv [(64, cmpPairI_con)] []) Tryz.f63.ntmps cmpFuncL_vars 0 (loopAt Tryz.f63 0) x = cmpFuncL_step x := by kernel_rfl
theorem cmpFuncL_ok : LoopOK Tryz.prog Tryz.f63.ntmps cmpFuncL_L (loopAt Tryz.f63 0)   := iter_loop (n := Tryz.f63.ntmps) (vs := cmpFuncL_vars) (out := 0) (body := loopAt Tryz.f63 0) (mkEnv_ok (cons := [(64, cmpPairI_con)]) ⟨cmpPairI_ok, trivial⟩ []) cmpFuncL_step cmpFuncL_fuel (by exact trivial) cmpFuncL_stepok

def cmpFunc : List ((Int × Int)) × List ((Int × Int)) × Unit → Option (Int) :=
fun x =>
  ob (cmpFuncL (x.1, x.snd.1, x.snd.2, (0 : Int), x.1, (↑x.1.length : Int), (0 : Int))) fun r =>
    br r.1
      (br (decide ((↑(List.length r.snd.1) : Int) < (↑(List.length r.snd.snd.1) : Int))) (some (-1 : Int))
        (some (0 : Int)))
      (some r.snd.snd.snd.snd.1)
def cmpFunc_con : Con := ⟨[.slice (.pair (i64) (i64)), .slice (.pair (i64) (i64)), .clo 64 (.unit)], [.d (i64)], cmpFunc⟩
theorem cmpFunc_run (x : Dens [.slice (.pair (i64) (i64)), .slice (.pair (i64) (i64)), .clo 64 (.unit)]) : runFn (mkEnv [] [(cmpFuncL_key, cmpFuncL_L)]) Tryz.f63 [.slice (.pair (i64) (i64)), .slice (.pair (i64) (i64)), .clo 64 (.unit)] [.d (i64)] x = cmpFunc x := by kernel_rfl
theorem cmpFunc_ok : cmpFunc_con.ok Tryz.prog 63 := fn_ok (con := cmpFunc_con) (mkEnv_ok (cons := []) trivial [(cmpFuncL_key, cmpFuncL_L)]) Tryz.func63 rfl (by kernel_rfl) (by exact ⟨cmpFuncL_ok, trivial⟩) (fun x y h => (cmpFunc_run x).trans h)

def teethIL_vars : Vars := [(2, .val (i64)), (3, .val (i64)), (6, .val (.slice (.pair (i64) (i64)))), (7, .val (i64)), (8, .val (i64))]
def teethIL_step : Int × Int × List ((Int × Int)) × Int × Int → Option (LRes × (Int × Int × List ((Int × Int)) × Int × Int)) :=
fun x =>
  br (decide (x.snd.snd.snd.2 < x.snd.snd.snd.1))
    (ob (idx x.snd.snd.1 x.snd.snd.snd.2) fun y =>
      some
        (LRes.next, x.1, IntKind.i64.wrap (x.snd.1 + IntKind.i64.wrap (y.1 + y.2)), x.snd.snd.1, x.snd.snd.snd.1,
          IntKind.i64.wrap (x.snd.snd.snd.2 + (1 : Int))))
    (some (LRes.out, x.1, x.snd.1, x.snd.snd.1, x.snd.snd.snd.1, x.snd.snd.snd.2))
def teethIL_fuel : Int × Int × List ((Int × Int)) × Int × Int → Nat := fun s => (s.2.2.2.1 - s.2.2.2.2).toNat + 1
def teethIL : Int × Int × List ((Int × Int)) × Int × Int → Option (Int × Int × List ((Int × Int)) × Int × Int) := fun s => iterP teethIL_step (teethIL_fuel s) s
def teethIL_L : LoopC := ⟨teethIL_vars, 0, .plain teethIL⟩
noncomputable def teethIL_key : Nat := key (loopAt Tryz.f62 0)
theorem teethIL_stepok (x : teethIL_vars.den) : stepOf (mkEnv [] []) Tryz.f62.ntmps teethIL_vars 0 (loopAt Tryz.f62 0) x = teethIL_step x := by kernel_rfl
theorem teethIL_ok : LoopOK Tryz.prog Tryz.f62.ntmps teethIL_L (loopAt Tryz.f62 0)   := iterP_loop (n := Tryz.f62.ntmps) (vs := teethIL_vars) (out := 0) (body := loopAt Tryz.f62 0) (mkEnv_ok (cons := []) trivial []) teethIL_step teethIL_fuel (by exact trivial) teethIL_stepok

def teethOfI : List ((Int × Int)) → Option (Int) :=
fun x => ob (teethIL ((0 : Int), (0 : Int), x, (↑x.length : Int), (0 : Int))) fun r => some r.snd.1
def teethOfI_con : Con := ⟨[.slice (.pair (i64) (i64))], [.d (i64)], teethOfI⟩
theorem teethOfI_run (x : Dens [.slice (.pair (i64) (i64))]) : runFn (mkEnv [] [(teethIL_key, teethIL_L)]) Tryz.f62 [.slice (.pair (i64) (i64))] [.d (i64)] x = teethOfI x := by kernel_rfl
theorem teethOfI_ok : teethOfI_con.ok Tryz.prog 62 := fn_ok (con := teethOfI_con) (mkEnv_ok (cons := []) trivial [(teethIL_key, teethIL_L)]) Tryz.func62 rfl (by kernel_rfl) (by exact ⟨teethIL_ok, trivial⟩) (fun x y h => (teethOfI_run x).trans h)

def cmpTrI : List ((Int × Int)) × List ((Int × Int)) → Option (Int) :=
fun x =>
  ob (teethOfI x.1) fun y =>
    ob (teethOfI x.2) fun y_1 =>
      ob (cmpI (y, y_1)) fun y => br (y != (0 : Int)) (some y) (ob (cmpFunc (x.1, x.2, PUnit.unit)) fun y => some y)
def cmpTrI_con : Con := ⟨[.slice (.pair (i64) (i64)), .slice (.pair (i64) (i64))], [.d (i64)], cmpTrI⟩
theorem cmpTrI_run (x : Dens [.slice (.pair (i64) (i64)), .slice (.pair (i64) (i64))]) : runFn (mkEnv [(62, teethOfI_con), (61, cmpI_con), (63, cmpFunc_con)] []) Tryz.f31 [.slice (.pair (i64) (i64)), .slice (.pair (i64) (i64))] [.d (i64)] x = cmpTrI x := by kernel_rfl
theorem cmpTrI_ok : cmpTrI_con.ok Tryz.prog 31 := fn_ok (con := cmpTrI_con) (mkEnv_ok (cons := [(62, teethOfI_con), (61, cmpI_con), (63, cmpFunc_con)]) ⟨teethOfI_ok, cmpI_ok, cmpFunc_ok, trivial⟩ []) Tryz.func31 rfl (by kernel_rfl) (by exact trivial) (fun x y h => (cmpTrI_run x).trans h)

def compI : List ((Int × Int)) × List ((Int × Int)) → Option (Int) :=
fun x =>
  ob (validTrainI x.1) fun y =>
    br (!y) (some (0 : Int))
      (ob (validTrainI x.2) fun y => br (!y) (some (0 : Int)) (ob (cmpTrI (x.1, x.2)) fun y => some y))
def compI_con : Con := ⟨[.slice (.pair (i64) (i64)), .slice (.pair (i64) (i64))], [.d (i64)], compI⟩
theorem compI_run (x : Dens [.slice (.pair (i64) (i64)), .slice (.pair (i64) (i64))]) : runFn (mkEnv [(39, validTrainI_con), (31, cmpTrI_con)] []) Tryz.f12 [.slice (.pair (i64) (i64)), .slice (.pair (i64) (i64))] [.d (i64)] x = compI x := by kernel_rfl
theorem compI_ok : compI_con.ok Tryz.prog 12 := fn_ok (con := compI_con) (mkEnv_ok (cons := [(39, validTrainI_con), (31, cmpTrI_con)]) ⟨validTrainI_ok, cmpTrI_ok, trivial⟩ []) Tryz.func12 rfl (by kernel_rfl) (by exact trivial) (fun x y h => (compI_run x).trans h)

def sumSL_vars : Vars := [(0, .val (.slice (.pair (i64) (i64)))), (3, .val (i64)), (4, .val (i64))]
def sumSL_step : List ((Int × Int)) × Int × Int → Option (LRes × (List ((Int × Int)) × Int × Int)) :=
fun x =>
  br (decide (x.snd.2 < (↑x.1.length : Int)))
    (ob (idx x.1 x.snd.2) fun y =>
      ob (idx x.1 x.snd.2) fun y_1 =>
        some
          (LRes.next, x.1, IntKind.i64.wrap (x.snd.1 + IntKind.i64.wrap (y.1 + y_1.2)),
            IntKind.i64.wrap (x.snd.2 + (1 : Int))))
    (some (LRes.out, x.1, x.snd.1, x.snd.2))
def sumSL_fuel : List ((Int × Int)) × Int × Int → Nat := fun s => (s.1.length - s.2.2.toNat) + 1
def sumSL : List ((Int × Int)) × Int × Int → Option (List ((Int × Int)) × Int × Int) := fun s => iterP sumSL_step (sumSL_fuel s) s
def sumSL_L : LoopC := ⟨sumSL_vars, 0, .plain sumSL⟩
noncomputable def sumSL_key : Nat := key (loopAt Tryz.f133 0)
theorem sumSL_stepok (x : sumSL_vars.den) : stepOf (mkEnv [] []) Tryz.f133.ntmps sumSL_vars 0 (loopAt Tryz.f133 0) x = sumSL_step x := by kernel_rfl
theorem sumSL_ok : LoopOK Tryz.prog Tryz.f133.ntmps sumSL_L (loopAt Tryz.f133 0)   := iterP_loop (n := Tryz.f133.ntmps) (vs := sumSL_vars) (out := 0) (body := loopAt Tryz.f133 0) (mkEnv_ok (cons := []) trivial []) sumSL_step sumSL_fuel (by exact trivial) sumSL_stepok

def sumS : List ((Int × Int)) → Option (Int) :=
fun x => ob (sumSL (x, (0 : Int), (0 : Int))) fun r => some r.snd.1
def sumS_con : Con := ⟨[.slice (.pair (i64) (i64))], [.d (i64)], sumS⟩
theorem sumS_run (x : Dens [.slice (.pair (i64) (i64))]) : runFn (mkEnv [] [(sumSL_key, sumSL_L)]) Tryz.f133 [.slice (.pair (i64) (i64))] [.d (i64)] x = sumS x := by kernel_rfl
theorem sumS_ok : sumS_con.ok Tryz.prog 133 := fn_ok (con := sumS_con) (mkEnv_ok (cons := []) trivial [(sumSL_key, sumSL_L)]) Tryz.func133 rfl (by kernel_rfl) (by exact ⟨sumSL_ok, trivial⟩) (fun x y h => (sumS_run x).trans h)

def cmpRatS : (Int × Int) × (Int × Int) → Option (Int) :=
fun x =>
  br (decide (IntKind.i64.wrap (x.fst.1 * x.snd.2) < IntKind.i64.wrap (x.snd.1 * x.fst.2))) (some (-1 : Int))
    (br (decide (IntKind.i64.wrap (x.snd.1 * x.fst.2) < IntKind.i64.wrap (x.fst.1 * x.snd.2))) (some (1 : Int))
      (some (0 : Int)))
def cmpRatS_con : Con := ⟨[.pair (i64) (i64), .pair (i64) (i64)], [.d (i64)], cmpRatS⟩
theorem cmpRatS_run (x : Dens [.pair (i64) (i64), .pair (i64) (i64)]) : runFn (mkEnv [] []) Tryz.f134 [.pair (i64) (i64), .pair (i64) (i64)] [.d (i64)] x = cmpRatS x := by kernel_rfl
theorem cmpRatS_ok : cmpRatS_con.ok Tryz.prog 134 := fn_ok (con := cmpRatS_con) (mkEnv_ok (cons := []) trivial []) Tryz.func134 rfl (by kernel_rfl) (by exact trivial) (fun x y h => (cmpRatS_run x).trans h)

def cmpSL0_vars : Vars := [(0, .val (.slice (.pair (i64) (i64)))), (1, .val (.slice (.pair (i64) (i64)))), (4, .val (i64)), (5, .row 0 2 (i64)), (6, .row 0 2 (i64)), (7, .val (i64))]
def cmpSL0_step : List ((Int × Int)) × List ((Int × Int)) × Int × List (Int) × List (Int) × Int → Option (LRes × (List ((Int × Int)) × List ((Int × Int)) × Int × List (Int) × List (Int) × Int)) :=
fun x =>
  br (decide (x.snd.snd.snd.snd.2 < (↑x.1.length : Int)))
    (ob (idx x.1 x.snd.snd.snd.snd.2) fun y =>
      ob (idx x.1 x.snd.snd.snd.snd.2) fun y_1 =>
        br (decide (List.length x.snd.snd.snd.1 + [y.1, y_1.2].length ≤ (4294967296 : Nat)))
          (some
            (LRes.next, x.1, x.snd.1, x.snd.snd.1, x.snd.snd.snd.1 ++ [y.1, y_1.2], x.snd.snd.snd.snd.1,
              IntKind.i64.wrap (x.snd.snd.snd.snd.2 + (1 : Int))))
          none)
    (some (LRes.out, x.1, x.snd.1, x.snd.snd.1, x.snd.snd.snd.1, x.snd.snd.snd.snd.1, x.snd.snd.snd.snd.2))
def cmpSL0_fuel : List ((Int × Int)) × List ((Int × Int)) × Int × List (Int) × List (Int) × Int → Nat := fun s => (s.1.length - s.2.2.2.2.2.toNat) + 1
def cmpSL0 : List ((Int × Int)) × List ((Int × Int)) × Int × List (Int) × List (Int) × Int → Option (List ((Int × Int)) × List ((Int × Int)) × Int × List (Int) × List (Int) × Int) := fun s => iterP cmpSL0_step (cmpSL0_fuel s) s
def cmpSL0_L : LoopC := ⟨cmpSL0_vars, 0, .plain cmpSL0⟩
noncomputable def cmpSL0_key : Nat := key (loopAt Tryz.f127 0)
theorem cmpSL0_stepok (x : cmpSL0_vars.den) : stepOf (mkEnv [] []) Tryz.f127.ntmps cmpSL0_vars 0 (loopAt Tryz.f127 0) x = cmpSL0_step x := by kernel_rfl
theorem cmpSL0_ok : LoopOK Tryz.prog Tryz.f127.ntmps cmpSL0_L (loopAt Tryz.f127 0)   := iterP_loop (n := Tryz.f127.ntmps) (vs := cmpSL0_vars) (out := 0) (body := loopAt Tryz.f127 0) (mkEnv_ok (cons := []) trivial []) cmpSL0_step cmpSL0_fuel (by exact trivial) cmpSL0_stepok

def cmpSL1_vars : Vars := [(1, .val (.slice (.pair (i64) (i64)))), (4, .val (i64)), (5, .row 0 2 (i64)), (6, .row 0 2 (i64)), (8, .val (i64))]
def cmpSL1_step : List ((Int × Int)) × Int × List (Int) × List (Int) × Int → Option (LRes × (List ((Int × Int)) × Int × List (Int) × List (Int) × Int)) :=
fun x =>
  br (decide (x.snd.snd.snd.2 < (↑x.1.length : Int)))
    (ob (idx x.1 x.snd.snd.snd.2) fun y =>
      ob (idx x.1 x.snd.snd.snd.2) fun y_1 =>
        br (decide (List.length x.snd.snd.snd.1 + [y.1, y_1.2].length ≤ (4294967296 : Nat)))
          (some
            (LRes.next, x.1, x.snd.1, x.snd.snd.1, x.snd.snd.snd.1 ++ [y.1, y_1.2],
              IntKind.i64.wrap (x.snd.snd.snd.2 + (1 : Int))))
          none)
    (some (LRes.out, x.1, x.snd.1, x.snd.snd.1, x.snd.snd.snd.1, x.snd.snd.snd.2))
def cmpSL1_fuel : List ((Int × Int)) × Int × List (Int) × List (Int) × Int → Nat := fun s => (s.1.length - s.2.2.2.2.toNat) + 1
def cmpSL1 : List ((Int × Int)) × Int × List (Int) × List (Int) × Int → Option (List ((Int × Int)) × Int × List (Int) × List (Int) × Int) := fun s => iterP cmpSL1_step (cmpSL1_fuel s) s
def cmpSL1_L : LoopC := ⟨cmpSL1_vars, 2, .plain cmpSL1⟩
noncomputable def cmpSL1_key : Nat := key (loopAt Tryz.f127 1)
theorem cmpSL1_stepok (x : cmpSL1_vars.den) : stepOf (mkEnv [] []) Tryz.f127.ntmps cmpSL1_vars 2 (loopAt Tryz.f127 1) x = cmpSL1_step x := by kernel_rfl
theorem cmpSL1_ok : LoopOK Tryz.prog Tryz.f127.ntmps cmpSL1_L (loopAt Tryz.f127 1)   := iterP_loop (n := Tryz.f127.ntmps) (vs := cmpSL1_vars) (out := 2) (body := loopAt Tryz.f127 1) (mkEnv_ok (cons := []) trivial []) cmpSL1_step cmpSL1_fuel (by exact trivial) cmpSL1_stepok

def cmpSL2_vars : Vars := [(4, .val (i64)), (5, .row 0 2 (i64)), (6, .row 0 2 (i64)), (9, .val (i64))]
def cmpSL2_step : Int × List (Int) × List (Int) × Int → Option (LRes × (Int × List (Int) × List (Int) × Int)) :=
fun x =>
  br (decide (x.snd.snd.2 < (↑(List.length x.snd.1) : Int)))
    (br (decide (x.snd.snd.2 < (↑(List.length x.snd.snd.1) : Int)))
      (ob (idx x.snd.1 x.snd.snd.2) fun x_1 =>
        ob (List.get?Internal x.snd.1 (Int.toNat x.snd.snd.2)) fun x_2 =>
          ob (idx x.snd.snd.1 x.snd.snd.2) fun x_3 =>
            ob (List.get?Internal x.snd.snd.1 (Int.toNat x.snd.snd.2)) fun x_4 =>
              br (decide (x_2 < x_4)) (some (LRes.ret, (-1 : Int), x.snd.1, x.snd.snd.1, x.snd.snd.2))
                (ob (idx x.snd.1 x.snd.snd.2) fun x_5 =>
                  ob (List.get?Internal x.snd.1 (Int.toNat x.snd.snd.2)) fun x_6 =>
                    ob (idx x.snd.snd.1 x.snd.snd.2) fun x_7 =>
                      ob (List.get?Internal x.snd.snd.1 (Int.toNat x.snd.snd.2)) fun x_8 =>
                        br (decide (x_8 < x_6)) (some (LRes.ret, (1 : Int), x.snd.1, x.snd.snd.1, x.snd.snd.2))
                          (some (LRes.next, x.1, x.snd.1, x.snd.snd.1, IntKind.i64.wrap (x.snd.snd.2 + (1 : Int))))))
      (some (LRes.out, x.1, x.snd.1, x.snd.snd.1, x.snd.snd.2)))
    (some (LRes.out, x.1, x.snd.1, x.snd.snd.1, x.snd.snd.2))
def cmpSL2_fuel : Int × List (Int) × List (Int) × Int → Nat := fun s => (s.2.1.length - s.2.2.2.toNat) + 1
def cmpSL2 : Int × List (Int) × List (Int) × Int → Option (Bool × (Int × List (Int) × List (Int) × Int)) := fun s => iter cmpSL2_step (cmpSL2_fuel s) s
def cmpSL2_L : LoopC := ⟨cmpSL2_vars, 4, .two cmpSL2⟩
noncomputable def cmpSL2_key : Nat := key (loopAt Tryz.f127 2)
theorem cmpSL2_stepok (x : cmpSL2_vars.den) : stepOf (mkEnv [] []) Tryz.f127.ntmps cmpSL2_vars 4 (loopAt Tryz.f127 2) x = cmpSL2_step x := by kernel_rfl
theorem cmpSL2_ok : LoopOK Tryz.prog Tryz.f127.ntmps cmpSL2_L (loopAt Tryz.f127 2)   := iter_loop (n := Tryz.f127.ntmps) (vs := cmpSL2_vars) (out := 4) (body := loopAt Tryz.f127 2) (mkEnv_ok (cons := []) trivial []) cmpSL2_step cmpSL2_fuel (by exact trivial) cmpSL2_stepok

def cmpTrS : List ((Int × Int)) × List ((Int × Int)) → Option (Int) :=
fun x =>
  ob (sumS x.1) fun y =>
    ob (sumS x.2) fun y_1 =>
      ob (cmpSL0 (x.1, x.2, (0 : Int), [y], [y_1], (0 : Int))) fun r =>
        ob (cmpSL1 (r.snd.1, r.snd.snd.1, r.snd.snd.snd.1, r.snd.snd.snd.snd.1, (0 : Int))) fun r =>
          ob (cmpSL2 (r.snd.1, r.snd.snd.1, r.snd.snd.snd.1, (0 : Int))) fun r =>
            br r.1
              (ob (wholeS (↑(List.length r.snd.snd.1) : Int)) fun y =>
                ob (wholeS (↑(List.length r.snd.snd.snd.1) : Int)) fun y_2 =>
                  ob (cmpRatS ((y.1, y.2), y_2.1, y_2.2)) fun y => some y)
              (some r.snd.1)
def cmpTrS_con : Con := ⟨[.slice (.pair (i64) (i64)), .slice (.pair (i64) (i64))], [.d (i64)], cmpTrS⟩
theorem cmpTrS_run (x : Dens [.slice (.pair (i64) (i64)), .slice (.pair (i64) (i64))]) : runFn (mkEnv [(133, sumS_con), (50, wholeS_con), (134, cmpRatS_con)] [(cmpSL0_key, cmpSL0_L), (cmpSL1_key, cmpSL1_L), (cmpSL2_key, cmpSL2_L)]) Tryz.f127 [.slice (.pair (i64) (i64)), .slice (.pair (i64) (i64))] [.d (i64)] x = cmpTrS x := by kernel_rfl
theorem cmpTrS_ok : cmpTrS_con.ok Tryz.prog 127 := fn_ok (con := cmpTrS_con) (mkEnv_ok (cons := [(133, sumS_con), (50, wholeS_con), (134, cmpRatS_con)]) ⟨sumS_ok, wholeS_ok, cmpRatS_ok, trivial⟩ [(cmpSL0_key, cmpSL0_L), (cmpSL1_key, cmpSL1_L), (cmpSL2_key, cmpSL2_L)]) Tryz.func127 rfl (by kernel_rfl) (by exact ⟨cmpSL0_ok, cmpSL1_ok, cmpSL2_ok, trivial⟩) (fun x y h => (cmpTrS_run x).trans h)



end Rx
end Go.Proofs.YthfgpnpoocepeaaGreat
