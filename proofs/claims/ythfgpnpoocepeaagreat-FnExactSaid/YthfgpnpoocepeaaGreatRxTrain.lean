/- What the functions of RxTrain come to, and their contracts. No conditions. -/
import Derived.Test.YthfgpnpoocepeaaGreatRxEnv
import Derived.Test.YthfgpnpoocepeaaGreatRxRatI
import Derived.Test.YthfgpnpoocepeaaGreatRxRatS
import Derived.Test.YthfgpnpoocepeaaGreatRxPairs
namespace Go.Proofs.YthfgpnpoocepeaaGreat
namespace Rx
open Go

def toLimL : (Int × Int × Int × Int × Int) → Option ((Int × Int × Int × Int × Int)) :=
fun x => some (x.1, x.snd.1, x.snd.snd.1, x.snd.snd.snd.1, x.snd.snd.snd.2)
def toLimL_con : Con := ⟨[.pair (i64) (.pair (i64) (.pair (i64) (.pair (i64) (i64))))], [.d (.pair (i64) (.pair (i64) (.pair (i64) (.pair (i64) (i64)))))], toLimL⟩
theorem toLimL_run (x : Dens [.pair (i64) (.pair (i64) (.pair (i64) (.pair (i64) (i64))))]) : runFn (mkEnv [] []) Tryz.f16 [.pair (i64) (.pair (i64) (.pair (i64) (.pair (i64) (i64))))] [.d (.pair (i64) (.pair (i64) (.pair (i64) (.pair (i64) (i64)))))] x = toLimL x := by kernel_rfl
theorem toLimL_ok : toLimL_con.ok Tryz.prog 16 := fn_ok (con := toLimL_con) (mkEnv_ok (cons := []) trivial []) Tryz.func16 rfl (by kernel_rfl) (by exact trivial) (fun x y h => (toLimL_run x).trans h)

def toRatLT : (Int × Int) → Option ((Int × Int)) :=
fun x => some (x.1, x.2)
def toRatLT_con : Con := ⟨[.pair (i64) (i64)], [.d (.pair (i64) (i64))], toRatLT⟩
theorem toRatLT_run (x : Dens [.pair (i64) (i64)]) : runFn (mkEnv [] []) Tryz.f15 [.pair (i64) (i64)] [.d (.pair (i64) (i64))] x = toRatLT x := by kernel_rfl
theorem toRatLT_ok : toRatLT_con.ok Tryz.prog 15 := fn_ok (con := toRatLT_con) (mkEnv_ok (cons := []) trivial []) Tryz.func15 rfl (by kernel_rfl) (by exact trivial) (fun x y h => (toRatLT_run x).trans h)

def eqRatLT : (Int × Int) × (Int × Int) → Option (Bool) :=
fun x => br (x.fst.1 != x.snd.1) (some false) (br (x.fst.2 != x.snd.2) (some false) (some true))
def eqRatLT_con : Con := ⟨[.pair (i64) (i64), .pair (i64) (i64)], [.d (.bool)], eqRatLT⟩
theorem eqRatLT_run (x : Dens [.pair (i64) (i64), .pair (i64) (i64)]) : runFn (mkEnv [] []) Tryz.f81 [.pair (i64) (i64), .pair (i64) (i64)] [.d (.bool)] x = eqRatLT x := by kernel_rfl
theorem eqRatLT_ok : eqRatLT_con.ok Tryz.prog 81 := fn_ok (con := eqRatLT_con) (mkEnv_ok (cons := []) trivial []) Tryz.func81 rfl (by kernel_rfl) (by exact trivial) (fun x y h => (eqRatLT_run x).trans h)

def spanI : Int × Int → Option (Bool) :=
fun x =>
  br (decide ((6 : Int) ≤ x.1))
    (br (decide (x.2 ≤ (120 : Int)))
      (br (decide (x.1 ≤ x.2)) (some (decide (x.2 ≤ IntKind.i64.wrap (x.1 + (30 : Int))))) (some false)) (some false))
    (some false)
def spanI_con : Con := ⟨[i64, i64], [.d (.bool)], spanI⟩
theorem spanI_run (x : Dens [i64, i64]) : runFn (mkEnv [] []) Tryz.f86 [i64, i64] [.d (.bool)] x = spanI x := by kernel_rfl
theorem spanI_ok : spanI_con.ok Tryz.prog 86 := fn_ok (con := spanI_con) (mkEnv_ok (cons := []) trivial []) Tryz.func86 rfl (by kernel_rfl) (by exact trivial) (fun x y h => (spanI_run x).trans h)

def validLimI : (Int × Int × Int × Int × Int) → Option (Bool) :=
fun x =>
  ob (spanI (x.1, x.snd.1)) fun y =>
    br y
      (ob (spanI (x.snd.snd.1, x.snd.snd.snd.1)) fun y =>
        br y (ob (withinI (x.snd.snd.snd.2, (1 : Int), (3 : Int))) fun y => some y) (some false))
      (some false)
def validLimI_con : Con := ⟨[.pair (i64) (.pair (i64) (.pair (i64) (.pair (i64) (i64))))], [.d (.bool)], validLimI⟩
theorem validLimI_run (x : Dens [.pair (i64) (.pair (i64) (.pair (i64) (.pair (i64) (i64))))]) : runFn (mkEnv [(86, spanI_con), (84, withinI_con)] []) Tryz.f54 [.pair (i64) (.pair (i64) (.pair (i64) (.pair (i64) (i64))))] [.d (.bool)] x = validLimI x := by kernel_rfl
theorem validLimI_ok : validLimI_con.ok Tryz.prog 54 := fn_ok (con := validLimI_con) (mkEnv_ok (cons := [(86, spanI_con), (84, withinI_con)]) ⟨spanI_ok, withinI_ok, trivial⟩ []) Tryz.func54 rfl (by kernel_rfl) (by exact trivial) (fun x y h => (validLimI_run x).trans h)

def rangeS : Int × Int → Option (Bool) :=
fun x =>
  br (decide ((6 : Int) ≤ x.1))
    (br (decide (x.2 ≤ (120 : Int))) (ob (inS (x.2, x.1, IntKind.i64.wrap (x.1 + (30 : Int)))) fun y => some y)
      (some false))
    (some false)
def rangeS_con : Con := ⟨[i64, i64], [.d (.bool)], rangeS⟩
theorem rangeS_run (x : Dens [i64, i64]) : runFn (mkEnv [(38, inS_con)] []) Tryz.f71 [i64, i64] [.d (.bool)] x = rangeS x := by kernel_rfl
theorem rangeS_ok : rangeS_con.ok Tryz.prog 71 := fn_ok (con := rangeS_con) (mkEnv_ok (cons := [(38, inS_con)]) ⟨inS_ok, trivial⟩ []) Tryz.func71 rfl (by kernel_rfl) (by exact trivial) (fun x y h => (rangeS_run x).trans h)

def okLimS : (Int × Int × Int × Int × Int) → Option (Bool) :=
fun x =>
  ob (rangeS (x.1, x.snd.1)) fun y =>
    br y
      (ob (rangeS (x.snd.snd.1, x.snd.snd.snd.1)) fun y =>
        br y (ob (inS (x.snd.snd.snd.2, (1 : Int), (3 : Int))) fun y => some y) (some false))
      (some false)
def okLimS_con : Con := ⟨[.ref (.pair (i64) (.pair (i64) (.pair (i64) (.pair (i64) (i64)))))], [.d (.bool)], okLimS⟩
theorem okLimS_run (x : Dens [.ref (.pair (i64) (.pair (i64) (.pair (i64) (.pair (i64) (i64)))))]) : runFn (mkEnv [(71, rangeS_con), (38, inS_con)] []) Tryz.f37 [.ref (.pair (i64) (.pair (i64) (.pair (i64) (.pair (i64) (i64)))))] [.d (.bool)] x = okLimS x := by kernel_rfl
theorem okLimS_ok : okLimS_con.ok Tryz.prog 37 := fn_ok (con := okLimS_con) (mkEnv_ok (cons := [(71, rangeS_con), (38, inS_con)]) ⟨rangeS_ok, inS_ok, trivial⟩ []) Tryz.func37 rfl (by kernel_rfl) (by exact trivial) (fun x y h => (okLimS_run x).trans h)



def validPairI : (Int × Int) → Option (Bool) :=
fun x => ob (toothedI x.1) fun y => br y (ob (toothedI x.2) fun y => some y) (some false)
def validPairI_con : Con := ⟨[.pair (i64) (i64)], [.d (.bool)], validPairI⟩
theorem validPairI_run (x : Dens [.pair (i64) (i64)]) : runFn (mkEnv [(102, toothedI_con)] []) Tryz.f72 [.pair (i64) (i64)] [.d (.bool)] x = validPairI x := by kernel_rfl
theorem validPairI_ok : validPairI_con.ok Tryz.prog 72 := fn_ok (con := validPairI_con) (mkEnv_ok (cons := [(102, toothedI_con)]) ⟨toothedI_ok, trivial⟩ []) Tryz.func72 rfl (by kernel_rfl) (by exact trivial) (fun x y h => (validPairI_run x).trans h)

def validTrainIL_vars : Vars := [(0, .val (.slice (.pair (i64) (i64)))), (2, .val (.bool)), (5, .val (.slice (.pair (i64) (i64)))), (6, .val (i64)), (7, .val (i64))]
def validTrainIL_step : List ((Int × Int)) × Bool × List ((Int × Int)) × Int × Int → Option (LRes × (List ((Int × Int)) × Bool × List ((Int × Int)) × Int × Int)) :=
fun x =>
  br (decide (x.snd.snd.snd.2 < x.snd.snd.snd.1))
    (ob (idx x.snd.snd.1 x.snd.snd.snd.2) fun y =>
      ob (validPairI (y.1, y.2)) fun y =>
        br (!y) (some (LRes.ret, x.1, false, x.snd.snd.1, x.snd.snd.snd.1, x.snd.snd.snd.2))
          (some
            (LRes.next, x.1, x.snd.1, x.snd.snd.1, x.snd.snd.snd.1, IntKind.i64.wrap (x.snd.snd.snd.2 + (1 : Int)))))
    (some (LRes.out, x.1, x.snd.1, x.snd.snd.1, x.snd.snd.snd.1, x.snd.snd.snd.2))
def validTrainIL_fuel : List ((Int × Int)) × Bool × List ((Int × Int)) × Int × Int → Nat := fun s => (s.2.2.2.1 - s.2.2.2.2).toNat + 1
def validTrainIL : List ((Int × Int)) × Bool × List ((Int × Int)) × Int × Int → Option (Bool × (List ((Int × Int)) × Bool × List ((Int × Int)) × Int × Int)) := fun s => iter validTrainIL_step (validTrainIL_fuel s) s
def validTrainIL_L : LoopC := ⟨validTrainIL_vars, 0, .two validTrainIL⟩
noncomputable def validTrainIL_key : Nat := key (loopAt Tryz.f39 0)
theorem validTrainIL_stepok (x : validTrainIL_vars.den) : stepOf (mkEnv [(72, validPairI_con)] []) Tryz.f39.ntmps validTrainIL_vars 0 (loopAt Tryz.f39 0) x = validTrainIL_step x := by kernel_rfl
theorem validTrainIL_ok : LoopOK Tryz.prog Tryz.f39.ntmps validTrainIL_L (loopAt Tryz.f39 0)   := iter_loop (n := Tryz.f39.ntmps) (vs := validTrainIL_vars) (out := 0) (body := loopAt Tryz.f39 0) (mkEnv_ok (cons := [(72, validPairI_con)]) ⟨validPairI_ok, trivial⟩ []) validTrainIL_step validTrainIL_fuel (by exact trivial) validTrainIL_stepok

def validTrainI : List ((Int × Int)) → Option (Bool) :=
fun x =>
  ob (validTrainIL (x, false, x, (↑x.length : Int), (0 : Int))) fun r =>
    br r.1 (some (decide ((↑(List.length r.snd.1) : Int) ≤ (5 : Int)))) (some r.snd.snd.1)
def validTrainI_con : Con := ⟨[.slice (.pair (i64) (i64))], [.d (.bool)], validTrainI⟩
theorem validTrainI_run (x : Dens [.slice (.pair (i64) (i64))]) : runFn (mkEnv [] [(validTrainIL_key, validTrainIL_L)]) Tryz.f39 [.slice (.pair (i64) (i64))] [.d (.bool)] x = validTrainI x := by kernel_rfl
theorem validTrainI_ok : validTrainI_con.ok Tryz.prog 39 := fn_ok (con := validTrainI_con) (mkEnv_ok (cons := []) trivial [(validTrainIL_key, validTrainIL_L)]) Tryz.func39 rfl (by kernel_rfl) (by exact ⟨validTrainIL_ok, trivial⟩) (fun x y h => (validTrainI_run x).trans h)

def okPairS : (Int × Int) → Option (Bool) :=
fun x => ob (teethS x.1) fun y => br y (ob (teethS x.2) fun y => some y) (some false)
def okPairS_con : Con := ⟨[.pair (i64) (i64)], [.d (.bool)], okPairS⟩
theorem okPairS_run (x : Dens [.pair (i64) (i64)]) : runFn (mkEnv [(99, teethS_con)] []) Tryz.f66 [.pair (i64) (i64)] [.d (.bool)] x = okPairS x := by kernel_rfl
theorem okPairS_ok : okPairS_con.ok Tryz.prog 66 := fn_ok (con := okPairS_con) (mkEnv_ok (cons := [(99, teethS_con)]) ⟨teethS_ok, trivial⟩ []) Tryz.func66 rfl (by kernel_rfl) (by exact trivial) (fun x y h => (okPairS_run x).trans h)

def okTrainSL_vars : Vars := [(0, .val (.slice (.pair (i64) (i64)))), (2, .val (.bool)), (3, .val (i64))]
def okTrainSL_step : List ((Int × Int)) × Bool × Int → Option (LRes × (List ((Int × Int)) × Bool × Int)) :=
fun x =>
  br (decide (x.snd.2 < (↑x.1.length : Int)))
    (ob (idx x.1 x.snd.2) fun y =>
      ob (okPairS (y.1, y.2)) fun y =>
        br (!y) (some (LRes.ret, x.1, false, x.snd.2))
          (some (LRes.next, x.1, x.snd.1, IntKind.i64.wrap (x.snd.2 + (1 : Int)))))
    (some (LRes.out, x.1, x.snd.1, x.snd.2))
def okTrainSL_fuel : List ((Int × Int)) × Bool × Int → Nat := fun s => (s.1.length - s.2.2.toNat) + 1
def okTrainSL : List ((Int × Int)) × Bool × Int → Option (Bool × (List ((Int × Int)) × Bool × Int)) := fun s => iter okTrainSL_step (okTrainSL_fuel s) s
def okTrainSL_L : LoopC := ⟨okTrainSL_vars, 0, .two okTrainSL⟩
noncomputable def okTrainSL_key : Nat := key (loopAt Tryz.f32 0)
theorem okTrainSL_stepok (x : okTrainSL_vars.den) : stepOf (mkEnv [(66, okPairS_con)] []) Tryz.f32.ntmps okTrainSL_vars 0 (loopAt Tryz.f32 0) x = okTrainSL_step x := by kernel_rfl
theorem okTrainSL_ok : LoopOK Tryz.prog Tryz.f32.ntmps okTrainSL_L (loopAt Tryz.f32 0)   := iter_loop (n := Tryz.f32.ntmps) (vs := okTrainSL_vars) (out := 0) (body := loopAt Tryz.f32 0) (mkEnv_ok (cons := [(66, okPairS_con)]) ⟨okPairS_ok, trivial⟩ []) okTrainSL_step okTrainSL_fuel (by exact trivial) okTrainSL_stepok

def okTrainS : List ((Int × Int)) → Option (Bool) :=
fun x =>
  ob (okTrainSL (x, false, (0 : Int))) fun r =>
    br r.1 (some (decide ((↑(List.length r.snd.1) : Int) ≤ (5 : Int)))) (some r.snd.snd.1)
def okTrainS_con : Con := ⟨[.slice (.pair (i64) (i64))], [.d (.bool)], okTrainS⟩
theorem okTrainS_run (x : Dens [.slice (.pair (i64) (i64))]) : runFn (mkEnv [] [(okTrainSL_key, okTrainSL_L)]) Tryz.f32 [.slice (.pair (i64) (i64))] [.d (.bool)] x = okTrainS x := by kernel_rfl
theorem okTrainS_ok : okTrainS_con.ok Tryz.prog 32 := fn_ok (con := okTrainS_con) (mkEnv_ok (cons := []) trivial [(okTrainSL_key, okTrainSL_L)]) Tryz.func32 rfl (by kernel_rfl) (by exact ⟨okTrainSL_ok, trivial⟩) (fun x y h => (okTrainS_run x).trans h)



def withinLimSL_vars : Vars := [(0, .val (.slice (.pair (i64) (i64)))), (3, .box 0 25 (.pair (i64) (.pair (i64) (.pair (i64) (.pair (i64) (i64)))))), (4, .val (.bool)), (5, .val (i64))]
def withinLimSL_step : List ((Int × Int)) × (Int × Int × Int × Int × Int) × Bool × Int → Option (LRes × (List ((Int × Int)) × (Int × Int × Int × Int × Int) × Bool × Int)) :=
fun x =>
  br (decide (x.snd.snd.2 < (↑x.1.length : Int)))
    (ob (idx x.1 x.snd.snd.2) fun y =>
      ob (inS (y.1, x.snd.fst.1, x.snd.fst.snd.1)) fun y =>
        br (!y)
          (some
            (LRes.ret, x.1,
              (x.snd.fst.1, x.snd.fst.snd.1, x.snd.fst.snd.snd.1, x.snd.fst.snd.snd.snd.1, x.snd.fst.snd.snd.snd.2),
              false, x.snd.snd.2))
          (ob (idx x.1 x.snd.snd.2) fun y =>
            ob (inS (y.2, x.snd.fst.snd.snd.1, x.snd.fst.snd.snd.snd.1)) fun y =>
              br (!y)
                (some
                  (LRes.ret, x.1,
                    (x.snd.fst.1, x.snd.fst.snd.1, x.snd.fst.snd.snd.1, x.snd.fst.snd.snd.snd.1,
                      x.snd.fst.snd.snd.snd.2),
                    false, x.snd.snd.2))
                (some
                  (LRes.next, x.1,
                    (x.snd.fst.1, x.snd.fst.snd.1, x.snd.fst.snd.snd.1, x.snd.fst.snd.snd.snd.1,
                      x.snd.fst.snd.snd.snd.2),
                    x.snd.snd.1, IntKind.i64.wrap (x.snd.snd.2 + (1 : Int))))))
    (some
      (LRes.out, x.1,
        (x.snd.fst.1, x.snd.fst.snd.1, x.snd.fst.snd.snd.1, x.snd.fst.snd.snd.snd.1, x.snd.fst.snd.snd.snd.2),
        x.snd.snd.1, x.snd.snd.2))
def withinLimSL_fuel : List ((Int × Int)) × (Int × Int × Int × Int × Int) × Bool × Int → Nat := fun s => (s.1.length - s.2.2.2.toNat) + 1
def withinLimSL : List ((Int × Int)) × (Int × Int × Int × Int × Int) × Bool × Int → Option (Bool × (List ((Int × Int)) × (Int × Int × Int × Int × Int) × Bool × Int)) := fun s => iter withinLimSL_step (withinLimSL_fuel s) s
def withinLimSL_L : LoopC := ⟨withinLimSL_vars, 0, .two withinLimSL⟩
noncomputable def withinLimSL_key : Nat := key (loopAt Tryz.f11 0)
theorem withinLimSL_stepok (x : withinLimSL_vars.den) : stepOf (mkEnv [(38, inS_con)] []) Tryz.f11.ntmps withinLimSL_vars 0 (loopAt Tryz.f11 0) x = withinLimSL_step x := by kernel_rfl
theorem withinLimSL_ok : LoopOK Tryz.prog Tryz.f11.ntmps withinLimSL_L (loopAt Tryz.f11 0)   := iter_loop (n := Tryz.f11.ntmps) (vs := withinLimSL_vars) (out := 0) (body := loopAt Tryz.f11 0) (mkEnv_ok (cons := [(38, inS_con)]) ⟨inS_ok, trivial⟩ []) withinLimSL_step withinLimSL_fuel (by exact trivial) withinLimSL_stepok

def withinLimS : List ((Int × Int)) × (Int × Int × Int × Int × Int) → Option (Bool) :=
fun x =>
  ob (okLimS (x.snd.1, x.snd.snd.1, x.snd.snd.snd.1, x.snd.snd.snd.snd.1, x.snd.snd.snd.snd.2)) fun y =>
    br (!y) (some false)
      (ob (okTrainS x.1) fun y =>
        br (!y) (some false)
          (br ((↑x.1.length : Int) != x.snd.snd.snd.snd.2) (some false)
            (ob
              (withinLimSL
                (x.1, (x.snd.1, x.snd.snd.1, x.snd.snd.snd.1, x.snd.snd.snd.snd.1, x.snd.snd.snd.snd.2), false,
                  (0 : Int)))
              fun r => br r.1 (some true) (some r.snd.snd.snd.1))))
def withinLimS_con : Con := ⟨[.slice (.pair (i64) (i64)), .pair (i64) (.pair (i64) (.pair (i64) (.pair (i64) (i64))))], [.d (.bool)], withinLimS⟩
theorem withinLimS_run (x : Dens [.slice (.pair (i64) (i64)), .pair (i64) (.pair (i64) (.pair (i64) (.pair (i64) (i64))))]) : runFn (mkEnv [(37, okLimS_con), (32, okTrainS_con)] [(withinLimSL_key, withinLimSL_L)]) Tryz.f11 [.slice (.pair (i64) (i64)), .pair (i64) (.pair (i64) (.pair (i64) (.pair (i64) (i64))))] [.d (.bool)] x = withinLimS x := by kernel_rfl
theorem withinLimS_ok : withinLimS_con.ok Tryz.prog 11 := fn_ok (con := withinLimS_con) (mkEnv_ok (cons := [(37, okLimS_con), (32, okTrainS_con)]) ⟨okLimS_ok, okTrainS_ok, trivial⟩ [(withinLimSL_key, withinLimSL_L)]) Tryz.func11 rfl (by kernel_rfl) (by exact ⟨withinLimSL_ok, trivial⟩) (fun x y h => (withinLimS_run x).trans h)


def absI : Int → Option (Int) :=
fun x => br (decide (x < (0 : Int))) (some (IntKind.i64.wrap ((0 : Int) - x))) (some x)
def absI_con : Con := ⟨[i64], [.d (i64)], absI⟩
theorem absI_run (x : Dens [i64]) : runFn (mkEnv [] []) Tryz.f78 [i64] [.d (i64)] x = absI x := by kernel_rfl
theorem absI_ok : absI_con.ok Tryz.prog 78 := fn_ok (con := absI_con) (mkEnv_ok (cons := []) trivial []) Tryz.func78 rfl (by kernel_rfl) (by exact trivial) (fun x y h => (absI_run x).trans h)

def trainRatIL_vars : Vars := [(2, .box 0 27 (.pair (i64) (i64))), (3, .val (i64)), (4, .box 0 27 (.pair (i64) (i64))), (12, .val (.slice (.pair (i64) (i64)))), (13, .val (i64)), (14, .val (i64))]
def trainRatIL_step : (Int × Int) × Int × (Int × Int) × List ((Int × Int)) × Int × Int → Option (LRes × ((Int × Int) × Int × (Int × Int) × List ((Int × Int)) × Int × Int)) :=
fun x =>
  br (decide (x.snd.snd.snd.snd.2 < x.snd.snd.snd.snd.1))
    (ob (idx x.snd.snd.snd.1 x.snd.snd.snd.snd.2) fun y =>
      ob (makeRatI (IntKind.i64.wrap ((0 : Int) - y.1), y.2)) fun y =>
        ob (mulRatI ((x.snd.snd.fst.1, x.snd.snd.fst.2), y.fst.1, y.fst.2)) fun y =>
          br (y.2 != (0 : Int))
            (some
              (LRes.ret, ((0 : Int), (0 : Int)), y.2, (x.snd.snd.fst.1, x.snd.snd.fst.2), x.snd.snd.snd.1,
                x.snd.snd.snd.snd.1, x.snd.snd.snd.snd.2))
            (some
              (LRes.next, (x.fst.1, x.fst.2), x.snd.1, (y.fst.1, y.fst.2), x.snd.snd.snd.1, x.snd.snd.snd.snd.1,
                IntKind.i64.wrap (x.snd.snd.snd.snd.2 + (1 : Int)))))
    (some
      (LRes.out, (x.fst.1, x.fst.2), x.snd.1, (x.snd.snd.fst.1, x.snd.snd.fst.2), x.snd.snd.snd.1, x.snd.snd.snd.snd.1,
        x.snd.snd.snd.snd.2))
def trainRatIL_fuel : (Int × Int) × Int × (Int × Int) × List ((Int × Int)) × Int × Int → Nat := fun s => (s.2.2.2.2.1 - s.2.2.2.2.2).toNat + 1
def trainRatIL : (Int × Int) × Int × (Int × Int) × List ((Int × Int)) × Int × Int → Option (Bool × ((Int × Int) × Int × (Int × Int) × List ((Int × Int)) × Int × Int)) := fun s => iter trainRatIL_step (trainRatIL_fuel s) s
def trainRatIL_L : LoopC := ⟨trainRatIL_vars, 0, .two trainRatIL⟩
noncomputable def trainRatIL_key : Nat := key (loopAt Tryz.f103 0)
theorem trainRatIL_stepok (x : trainRatIL_vars.den) : stepOf (mkEnv [(124, makeRatI_con), (125, mulRatI_con)] []) Tryz.f103.ntmps trainRatIL_vars 0 (loopAt Tryz.f103 0) x = trainRatIL_step x := by kernel_rfl
theorem trainRatIL_ok : LoopOK Tryz.prog Tryz.f103.ntmps trainRatIL_L (loopAt Tryz.f103 0)   := iter_loop (n := Tryz.f103.ntmps) (vs := trainRatIL_vars) (out := 0) (body := loopAt Tryz.f103 0) (mkEnv_ok (cons := [(124, makeRatI_con), (125, mulRatI_con)]) ⟨makeRatI_ok, mulRatI_ok, trivial⟩ []) trainRatIL_step trainRatIL_fuel (by exact trivial) trainRatIL_stepok

def trainRatI : List ((Int × Int)) → Option ((Int × Int) × Int) :=
fun x =>
  ob (trainRatIL (((0 : Int), (0 : Int)), (0 : Int), ((1 : Int), (1 : Int)), x, (↑x.length : Int), (0 : Int))) fun r =>
    br r.1 (some ((r.snd.snd.snd.fst.1, r.snd.snd.snd.fst.2), (0 : Int)))
      (some ((r.snd.fst.1, r.snd.fst.2), r.snd.snd.1))
def trainRatI_con : Con := ⟨[.slice (.pair (i64) (i64))], [.d (.pair (i64) (i64)), .d (i64)], trainRatI⟩
theorem trainRatI_run (x : Dens [.slice (.pair (i64) (i64))]) : runFn (mkEnv [] [(trainRatIL_key, trainRatIL_L)]) Tryz.f103 [.slice (.pair (i64) (i64))] [.d (.pair (i64) (i64)), .d (i64)] x = trainRatI x := by kernel_rfl
theorem trainRatI_ok : trainRatI_con.ok Tryz.prog 103 := fn_ok (con := trainRatI_con) (mkEnv_ok (cons := []) trivial [(trainRatIL_key, trainRatIL_L)]) Tryz.func103 rfl (by kernel_rfl) (by exact ⟨trainRatIL_ok, trivial⟩) (fun x y h => (trainRatI_run x).trans h)

def diffI : List ((Int × Int)) × (Int × Int) → Option ((Int × Int) × Int) :=
fun x =>
  ob (trainRatI x.1) fun y =>
    br (y.2 != (0 : Int)) (some (((0 : Int), (0 : Int)), y.2))
      (ob (absI y.fst.1) fun y_1 =>
        ob (subRatI ((y_1, y.fst.2), x.snd.1, x.snd.2)) fun y => some ((y.fst.1, y.fst.2), y.2))
def diffI_con : Con := ⟨[.slice (.pair (i64) (i64)), .pair (i64) (i64)], [.d (.pair (i64) (i64)), .d (i64)], diffI⟩
theorem diffI_run (x : Dens [.slice (.pair (i64) (i64)), .pair (i64) (i64)]) : runFn (mkEnv [(103, trainRatI_con), (78, absI_con), (104, subRatI_con)] []) Tryz.f77 [.slice (.pair (i64) (i64)), .pair (i64) (i64)] [.d (.pair (i64) (i64)), .d (i64)] x = diffI x := by kernel_rfl
theorem diffI_ok : diffI_con.ok Tryz.prog 77 := fn_ok (con := diffI_con) (mkEnv_ok (cons := [(103, trainRatI_con), (78, absI_con), (104, subRatI_con)]) ⟨trainRatI_ok, absI_ok, subRatI_ok, trivial⟩ []) Tryz.func77 rfl (by kernel_rfl) (by exact trivial) (fun x y h => (diffI_run x).trans h)

def errorI : List ((Int × Int)) × (Int × Int) → Option ((Int × Int) × Int) :=
fun x =>
  ob (validTrainI x.1) fun y =>
    br (!y) (some (((0 : Int), (0 : Int)), (1 : Int)))
      (ob (validRatI (x.snd.1, x.snd.2)) fun y =>
        br (!y) (some (((0 : Int), (0 : Int)), (1 : Int)))
          (ob (diffI (x.1, x.snd.1, x.snd.2)) fun y => ob (absI y.fst.1) fun y_1 => some ((y_1, y.fst.2), y.2)))
def errorI_con : Con := ⟨[.slice (.pair (i64) (i64)), .pair (i64) (i64)], [.d (.pair (i64) (i64)), .d (i64)], errorI⟩
theorem errorI_run (x : Dens [.slice (.pair (i64) (i64)), .pair (i64) (i64)]) : runFn (mkEnv [(39, validTrainI_con), (53, validRatI_con), (77, diffI_con), (78, absI_con)] []) Tryz.f41 [.slice (.pair (i64) (i64)), .pair (i64) (i64)] [.d (.pair (i64) (i64)), .d (i64)] x = errorI x := by kernel_rfl
theorem errorI_ok : errorI_con.ok Tryz.prog 41 := fn_ok (con := errorI_con) (mkEnv_ok (cons := [(39, validTrainI_con), (53, validRatI_con), (77, diffI_con), (78, absI_con)]) ⟨validTrainI_ok, validRatI_ok, diffI_ok, absI_ok, trivial⟩ []) Tryz.func41 rfl (by kernel_rfl) (by exact trivial) (fun x y h => (errorI_run x).trans h)

def trainRatSL_vars : Vars := [(0, .val (.slice (.pair (i64) (i64)))), (2, .box 0 27 (.pair (i64) (i64))), (3, .val (.bool)), (4, .box 0 27 (.pair (i64) (i64))), (5, .val (i64))]
def trainRatSL_step : List ((Int × Int)) × (Int × Int) × Bool × (Int × Int) × Int → Option (LRes × (List ((Int × Int)) × (Int × Int) × Bool × (Int × Int) × Int)) :=
fun x =>
  br (decide (x.snd.snd.snd.2 < (↑x.1.length : Int)))
    (ob (idx x.1 x.snd.snd.snd.2) fun y =>
      ob (idx x.1 x.snd.snd.snd.2) fun y_1 =>
        ob (mkS (IntKind.i64.wrap ((0 : Int) - y.1), y_1.2)) fun y =>
          ob (mulS ((x.snd.snd.snd.fst.1, x.snd.snd.snd.fst.2), y.fst.1, y.fst.2)) fun y =>
            br (!y.2)
              (some
                (LRes.ret, x.1, ((0 : Int), (0 : Int)), false, (x.snd.snd.snd.fst.1, x.snd.snd.snd.fst.2),
                  x.snd.snd.snd.2))
              (some
                (LRes.next, x.1, (x.snd.fst.1, x.snd.fst.2), x.snd.snd.1, (y.fst.1, y.fst.2),
                  IntKind.i64.wrap (x.snd.snd.snd.2 + (1 : Int)))))
    (some
      (LRes.out, x.1, (x.snd.fst.1, x.snd.fst.2), x.snd.snd.1, (x.snd.snd.snd.fst.1, x.snd.snd.snd.fst.2),
        x.snd.snd.snd.2))
def trainRatSL_fuel : List ((Int × Int)) × (Int × Int) × Bool × (Int × Int) × Int → Nat := fun s => (s.1.length - s.2.2.2.2.toNat) + 1
def trainRatSL : List ((Int × Int)) × (Int × Int) × Bool × (Int × Int) × Int → Option (Bool × (List ((Int × Int)) × (Int × Int) × Bool × (Int × Int) × Int)) := fun s => iter trainRatSL_step (trainRatSL_fuel s) s
def trainRatSL_L : LoopC := ⟨trainRatSL_vars, 0, .two trainRatSL⟩
noncomputable def trainRatSL_key : Nat := key (loopAt Tryz.f67 0)
theorem trainRatSL_stepok (x : trainRatSL_vars.den) : stepOf (mkEnv [(49, mkS_con), (100, mulS_con)] []) Tryz.f67.ntmps trainRatSL_vars 0 (loopAt Tryz.f67 0) x = trainRatSL_step x := by kernel_rfl
theorem trainRatSL_ok : LoopOK Tryz.prog Tryz.f67.ntmps trainRatSL_L (loopAt Tryz.f67 0)   := iter_loop (n := Tryz.f67.ntmps) (vs := trainRatSL_vars) (out := 0) (body := loopAt Tryz.f67 0) (mkEnv_ok (cons := [(49, mkS_con), (100, mulS_con)]) ⟨mkS_ok, mulS_ok, trivial⟩ []) trainRatSL_step trainRatSL_fuel (by exact trivial) trainRatSL_stepok

def trainRatS : List ((Int × Int)) → Option ((Int × Int) × Bool) :=
fun x =>
  ob (wholeS (1 : Int)) fun y =>
    ob (trainRatSL (x, ((0 : Int), (0 : Int)), false, (y.1, y.2), (0 : Int))) fun r =>
      br r.1 (some ((r.snd.snd.snd.snd.fst.1, r.snd.snd.snd.snd.fst.2), true))
        (some ((r.snd.snd.fst.1, r.snd.snd.fst.2), r.snd.snd.snd.1))
def trainRatS_con : Con := ⟨[.slice (.pair (i64) (i64))], [.d (.pair (i64) (i64)), .d (.bool)], trainRatS⟩
theorem trainRatS_run (x : Dens [.slice (.pair (i64) (i64))]) : runFn (mkEnv [(50, wholeS_con)] [(trainRatSL_key, trainRatSL_L)]) Tryz.f67 [.slice (.pair (i64) (i64))] [.d (.pair (i64) (i64)), .d (.bool)] x = trainRatS x := by kernel_rfl
theorem trainRatS_ok : trainRatS_con.ok Tryz.prog 67 := fn_ok (con := trainRatS_con) (mkEnv_ok (cons := [(50, wholeS_con)]) ⟨wholeS_ok, trivial⟩ [(trainRatSL_key, trainRatSL_L)]) Tryz.func67 rfl (by kernel_rfl) (by exact ⟨trainRatSL_ok, trivial⟩) (fun x y h => (trainRatS_run x).trans h)

def diffS : List ((Int × Int)) × (Int × Int) → Option ((Int × Int) × Bool) :=
fun x =>
  ob (trainRatS x.1) fun y =>
    br (!y.2) (some (((0 : Int), (0 : Int)), false))
      (ob (sizeS y.fst.1) fun y_1 =>
        ob (negS (x.snd.1, x.snd.2)) fun y_2 =>
          ob (addS ((y_1, y.fst.2), y_2.1, y_2.2)) fun y => some ((y.fst.1, y.fst.2), y.2))
def diffS_con : Con := ⟨[.slice (.pair (i64) (i64)), .pair (i64) (i64)], [.d (.pair (i64) (i64)), .d (.bool)], diffS⟩
theorem diffS_run (x : Dens [.slice (.pair (i64) (i64)), .pair (i64) (i64)]) : runFn (mkEnv [(67, trainRatS_con), (34, sizeS_con), (69, negS_con), (68, addS_con)] []) Tryz.f33 [.slice (.pair (i64) (i64)), .pair (i64) (i64)] [.d (.pair (i64) (i64)), .d (.bool)] x = diffS x := by kernel_rfl
theorem diffS_ok : diffS_con.ok Tryz.prog 33 := fn_ok (con := diffS_con) (mkEnv_ok (cons := [(67, trainRatS_con), (34, sizeS_con), (69, negS_con), (68, addS_con)]) ⟨trainRatS_ok, sizeS_ok, negS_ok, addS_ok, trivial⟩ []) Tryz.func33 rfl (by kernel_rfl) (by exact trivial) (fun x y h => (diffS_run x).trans h)

def errorS : List ((Int × Int)) × (Int × Int) → Option ((Int × Int) × Int) :=
fun x =>
  ob (okTrainS x.1) fun y =>
    br (!y) (some (((0 : Int), (0 : Int)), (1 : Int)))
      (ob (okRatS (x.snd.1, x.snd.2)) fun y =>
        br (!y) (some (((0 : Int), (0 : Int)), (1 : Int)))
          (ob (diffS (x.1, x.snd.1, x.snd.2)) fun y =>
            br (!y.2) (some (((0 : Int), (0 : Int)), (2 : Int)))
              (ob (sizeS y.fst.1) fun y_1 => some ((y_1, y.fst.2), (0 : Int)))))
def errorS_con : Con := ⟨[.slice (.pair (i64) (i64)), .pair (i64) (i64)], [.d (.pair (i64) (i64)), .d (i64)], errorS⟩
theorem errorS_run (x : Dens [.slice (.pair (i64) (i64)), .pair (i64) (i64)]) : runFn (mkEnv [(32, okTrainS_con), (24, okRatS_con), (33, diffS_con), (34, sizeS_con)] []) Tryz.f8 [.slice (.pair (i64) (i64)), .pair (i64) (i64)] [.d (.pair (i64) (i64)), .d (i64)] x = errorS x := by kernel_rfl
theorem errorS_ok : errorS_con.ok Tryz.prog 8 := fn_ok (con := errorS_con) (mkEnv_ok (cons := [(32, okTrainS_con), (24, okRatS_con), (33, diffS_con), (34, sizeS_con)]) ⟨okTrainS_ok, okRatS_ok, diffS_ok, sizeS_ok, trivial⟩ []) Tryz.func8 rfl (by kernel_rfl) (by exact trivial) (fun x y h => (errorS_run x).trans h)









end Rx
end Go.Proofs.YthfgpnpoocepeaaGreat
