/- What the functions of RxTrain come to, and their contracts. No conditions. -/
import Derived.Test.YtghglneafibliaaRxEnv
import Derived.Test.YtghglneafibliaaRxRatI
import Derived.Test.YtghglneafibliaaRxRatS
import Derived.Test.YtghglneafibliaaRxPairs
namespace Go.Proofs.Ytghglneafibliaa
namespace Rx
open Go

def toLimL : (Int × Int × Int × Int × Int) → Option ((Int × Int × Int × Int × Int)) :=
fun x => some (x.1, x.snd.1, x.snd.snd.1, x.snd.snd.snd.1, x.snd.snd.snd.2)
def toLimL_con : Con := ⟨[.pair (i64) (.pair (i64) (.pair (i64) (.pair (i64) (i64))))], [.d (.pair (i64) (.pair (i64) (.pair (i64) (.pair (i64) (i64)))))], toLimL⟩
theorem toLimL_run (x : Dens [.pair (i64) (.pair (i64) (.pair (i64) (.pair (i64) (i64))))]) : runFn (mkEnv [] []) Try.f12 [.pair (i64) (.pair (i64) (.pair (i64) (.pair (i64) (i64))))] [.d (.pair (i64) (.pair (i64) (.pair (i64) (.pair (i64) (i64)))))] x = toLimL x := by kernel_rfl
theorem toLimL_ok : toLimL_con.ok Try.prog 12 := fn_ok (con := toLimL_con) (mkEnv_ok (cons := []) trivial []) Try.func12 rfl (by kernel_rfl) (by exact trivial) (fun x y h => (toLimL_run x).trans h)

def toRatLT : (Int × Int) → Option ((Int × Int)) :=
fun x => some (x.1, x.2)
def toRatLT_con : Con := ⟨[.pair (i64) (i64)], [.d (.pair (i64) (i64))], toRatLT⟩
theorem toRatLT_run (x : Dens [.pair (i64) (i64)]) : runFn (mkEnv [] []) Try.f22 [.pair (i64) (i64)] [.d (.pair (i64) (i64))] x = toRatLT x := by kernel_rfl
theorem toRatLT_ok : toRatLT_con.ok Try.prog 22 := fn_ok (con := toRatLT_con) (mkEnv_ok (cons := []) trivial []) Try.func22 rfl (by kernel_rfl) (by exact trivial) (fun x y h => (toRatLT_run x).trans h)

def eqRatLT : (Int × Int) × (Int × Int) → Option (Bool) :=
fun x => br (x.fst.1 != x.snd.1) (some false) (br (x.fst.2 != x.snd.2) (some false) (some true))
def eqRatLT_con : Con := ⟨[.pair (i64) (i64), .pair (i64) (i64)], [.d (.bool)], eqRatLT⟩
theorem eqRatLT_run (x : Dens [.pair (i64) (i64), .pair (i64) (i64)]) : runFn (mkEnv [] []) Try.f24 [.pair (i64) (i64), .pair (i64) (i64)] [.d (.bool)] x = eqRatLT x := by kernel_rfl
theorem eqRatLT_ok : eqRatLT_con.ok Try.prog 24 := fn_ok (con := eqRatLT_con) (mkEnv_ok (cons := []) trivial []) Try.func24 rfl (by kernel_rfl) (by exact trivial) (fun x y h => (eqRatLT_run x).trans h)

def spanI : Int × Int → Option (Bool) :=
fun x =>
  br (decide ((6 : Int) ≤ x.1))
    (br (decide (x.2 ≤ (120 : Int)))
      (br (decide (x.1 ≤ x.2)) (some (decide (x.2 ≤ IntKind.i64.wrap (x.1 + (30 : Int))))) (some false)) (some false))
    (some false)
def spanI_con : Con := ⟨[i64, i64], [.d (.bool)], spanI⟩
theorem spanI_run (x : Dens [i64, i64]) : runFn (mkEnv [] []) Try.f44 [i64, i64] [.d (.bool)] x = spanI x := by kernel_rfl
theorem spanI_ok : spanI_con.ok Try.prog 44 := fn_ok (con := spanI_con) (mkEnv_ok (cons := []) trivial []) Try.func44 rfl (by kernel_rfl) (by exact trivial) (fun x y h => (spanI_run x).trans h)

def validLimI : (Int × Int × Int × Int × Int) → Option (Bool) :=
fun x =>
  ob (spanI (x.1, x.snd.1)) fun y =>
    br y
      (ob (spanI (x.snd.snd.1, x.snd.snd.snd.1)) fun y =>
        br y (ob (withinI (x.snd.snd.snd.2, (1 : Int), (3 : Int))) fun y => some y) (some false))
      (some false)
def validLimI_con : Con := ⟨[.pair (i64) (.pair (i64) (.pair (i64) (.pair (i64) (i64))))], [.d (.bool)], validLimI⟩
theorem validLimI_run (x : Dens [.pair (i64) (.pair (i64) (.pair (i64) (.pair (i64) (i64))))]) : runFn (mkEnv [(44, spanI_con), (45, withinI_con)] []) Try.f13 [.pair (i64) (.pair (i64) (.pair (i64) (.pair (i64) (i64))))] [.d (.bool)] x = validLimI x := by kernel_rfl
theorem validLimI_ok : validLimI_con.ok Try.prog 13 := fn_ok (con := validLimI_con) (mkEnv_ok (cons := [(44, spanI_con), (45, withinI_con)]) ⟨spanI_ok, withinI_ok, trivial⟩ []) Try.func13 rfl (by kernel_rfl) (by exact trivial) (fun x y h => (validLimI_run x).trans h)

def rangeS : Int × Int → Option (Bool) :=
fun x =>
  br (decide ((6 : Int) ≤ x.1))
    (br (decide (x.2 ≤ (120 : Int))) (ob (inS (x.2, x.1, IntKind.i64.wrap (x.1 + (30 : Int)))) fun y => some y)
      (some false))
    (some false)
def rangeS_con : Con := ⟨[i64, i64], [.d (.bool)], rangeS⟩
theorem rangeS_run (x : Dens [i64, i64]) : runFn (mkEnv [(47, inS_con)] []) Try.f80 [i64, i64] [.d (.bool)] x = rangeS x := by kernel_rfl
theorem rangeS_ok : rangeS_con.ok Try.prog 80 := fn_ok (con := rangeS_con) (mkEnv_ok (cons := [(47, inS_con)]) ⟨inS_ok, trivial⟩ []) Try.func80 rfl (by kernel_rfl) (by exact trivial) (fun x y h => (rangeS_run x).trans h)

def okLimS : (Int × Int × Int × Int × Int) → Option (Bool) :=
fun x =>
  ob (rangeS (x.1, x.snd.1)) fun y =>
    br y
      (ob (rangeS (x.snd.snd.1, x.snd.snd.snd.1)) fun y =>
        br y (ob (inS (x.snd.snd.snd.2, (1 : Int), (3 : Int))) fun y => some y) (some false))
      (some false)
def okLimS_con : Con := ⟨[.ref (.pair (i64) (.pair (i64) (.pair (i64) (.pair (i64) (i64)))))], [.d (.bool)], okLimS⟩
theorem okLimS_run (x : Dens [.ref (.pair (i64) (.pair (i64) (.pair (i64) (.pair (i64) (i64)))))]) : runFn (mkEnv [(80, rangeS_con), (47, inS_con)] []) Try.f43 [.ref (.pair (i64) (.pair (i64) (.pair (i64) (.pair (i64) (i64)))))] [.d (.bool)] x = okLimS x := by kernel_rfl
theorem okLimS_ok : okLimS_con.ok Try.prog 43 := fn_ok (con := okLimS_con) (mkEnv_ok (cons := [(80, rangeS_con), (47, inS_con)]) ⟨rangeS_ok, inS_ok, trivial⟩ []) Try.func43 rfl (by kernel_rfl) (by exact trivial) (fun x y h => (okLimS_run x).trans h)

def validLimS : (Int × Int × Int × Int × Int) → Option (Bool) :=
fun x => ob (okLimS (x.1, x.snd.1, x.snd.snd.1, x.snd.snd.snd.1, x.snd.snd.snd.2)) fun y => some y
def validLimS_con : Con := ⟨[.pair (i64) (.pair (i64) (.pair (i64) (.pair (i64) (i64))))], [.d (.bool)], validLimS⟩
theorem validLimS_run (x : Dens [.pair (i64) (.pair (i64) (.pair (i64) (.pair (i64) (i64))))]) : runFn (mkEnv [(43, okLimS_con)] []) Try.f11 [.pair (i64) (.pair (i64) (.pair (i64) (.pair (i64) (i64))))] [.d (.bool)] x = validLimS x := by kernel_rfl
theorem validLimS_ok : validLimS_con.ok Try.prog 11 := fn_ok (con := validLimS_con) (mkEnv_ok (cons := [(43, okLimS_con)]) ⟨okLimS_ok, trivial⟩ []) Try.func11 rfl (by kernel_rfl) (by exact trivial) (fun x y h => (validLimS_run x).trans h)

def lawLim : (Int × Int × Int × Int × Int) → Option (Bool) :=
fun x =>
  ob (toLimL (x.1, x.snd.1, x.snd.snd.1, x.snd.snd.snd.1, x.snd.snd.snd.2)) fun y =>
    ob (validLimS (y.1, y.snd.1, y.snd.snd.1, y.snd.snd.snd.1, y.snd.snd.snd.2)) fun y =>
      ob (toLimL (x.1, x.snd.1, x.snd.snd.1, x.snd.snd.snd.1, x.snd.snd.snd.2)) fun y_1 =>
        ob (validLimI (y_1.1, y_1.snd.1, y_1.snd.snd.1, y_1.snd.snd.snd.1, y_1.snd.snd.snd.2)) fun y_2 =>
          br (!y_2 == y) (some false) (some true)
def lawLim_con : Con := ⟨[.pair (i64) (.pair (i64) (.pair (i64) (.pair (i64) (i64))))], [.d (.bool)], lawLim⟩
theorem lawLim_run (x : Dens [.pair (i64) (.pair (i64) (.pair (i64) (.pair (i64) (i64))))]) : runFn (mkEnv [(12, toLimL_con), (11, validLimS_con), (13, validLimI_con)] []) Try.f3 [.pair (i64) (.pair (i64) (.pair (i64) (.pair (i64) (i64))))] [.d (.bool)] x = lawLim x := by kernel_rfl
theorem lawLim_ok : lawLim_con.ok Try.prog 3 := fn_ok (con := lawLim_con) (mkEnv_ok (cons := [(12, toLimL_con), (11, validLimS_con), (13, validLimI_con)]) ⟨toLimL_ok, validLimS_ok, validLimI_ok, trivial⟩ []) Try.func3 rfl (by kernel_rfl) (by exact trivial) (fun x y h => (lawLim_run x).trans h)

def validPairI : (Int × Int) → Option (Bool) :=
fun x => ob (toothedI x.1) fun y => br y (ob (toothedI x.2) fun y => some y) (some false)
def validPairI_con : Con := ⟨[.pair (i64) (i64)], [.d (.bool)], validPairI⟩
theorem validPairI_run (x : Dens [.pair (i64) (i64)]) : runFn (mkEnv [(121, toothedI_con)] []) Try.f82 [.pair (i64) (i64)] [.d (.bool)] x = validPairI x := by kernel_rfl
theorem validPairI_ok : validPairI_con.ok Try.prog 82 := fn_ok (con := validPairI_con) (mkEnv_ok (cons := [(121, toothedI_con)]) ⟨toothedI_ok, trivial⟩ []) Try.func82 rfl (by kernel_rfl) (by exact trivial) (fun x y h => (validPairI_run x).trans h)

def validTrainIL_vars : Vars := [(0, .val (.slice (.pair (i64) (i64)))), (2, .val (.bool)), (5, .val (.slice (.pair (i64) (i64)))), (6, .val (i64)), (7, .val (i64))]
def validTrainIL_step : List ((Int × Int)) × Bool × List ((Int × Int)) × Int × Int → Option (LRes × (List ((Int × Int)) × Bool × List ((Int × Int)) × Int × Int)) :=
fun x =>
  br (decide (x.snd.snd.snd.2 < x.snd.snd.snd.1))
    (ob (idx x.snd.snd.1 x.snd.snd.snd.2) fun y =>
      ob (validPairI (y.1, y.2)) fun y =>
        br (!y) (some (LRes.ret, x.1, false, x.snd.snd.1, x.snd.snd.snd.1, x.snd.snd.snd.2))
          (some
            (LRes.next, x.1, x.snd.1, x.snd.snd.1, x.snd.snd.snd.1, IntKind.i64.wrap (x.snd.snd.snd.2 + (1 : Int)))))
    (some (LRes.out, x.1, x.snd.1, x.snd.snd.1, x.snd.snd.snd.1, x.snd.snd.snd.2))
def validTrainIL_fuel : List ((Int × Int)) × Bool × List ((Int × Int)) × Int × Int → Nat := fun s => (s.2.2.2.1 - s.2.2.2.2).toNat + 1
def validTrainIL : List ((Int × Int)) × Bool × List ((Int × Int)) × Int × Int → Option (Bool × (List ((Int × Int)) × Bool × List ((Int × Int)) × Int × Int)) := fun s => iter validTrainIL_step (validTrainIL_fuel s) s
def validTrainIL_L : LoopC := ⟨validTrainIL_vars, 0, .two validTrainIL⟩
noncomputable def validTrainIL_key : Nat := key (loopAt Try.f49 0)
theorem validTrainIL_stepok (x : validTrainIL_vars.den) : stepOf (mkEnv [(82, validPairI_con)] []) Try.f49.ntmps validTrainIL_vars 0 (loopAt Try.f49 0) x = validTrainIL_step x := by kernel_rfl
theorem validTrainIL_ok : LoopOK Try.prog Try.f49.ntmps validTrainIL_L (loopAt Try.f49 0)   := iter_loop (n := Try.f49.ntmps) (vs := validTrainIL_vars) (out := 0) (body := loopAt Try.f49 0) (mkEnv_ok (cons := [(82, validPairI_con)]) ⟨validPairI_ok, trivial⟩ []) validTrainIL_step validTrainIL_fuel (by exact trivial) validTrainIL_stepok

def validTrainI : List ((Int × Int)) → Option (Bool) :=
fun x =>
  ob (validTrainIL (x, false, x, (↑x.length : Int), (0 : Int))) fun r =>
    br r.1 (some (decide ((↑(List.length r.snd.1) : Int) ≤ (5 : Int)))) (some r.snd.snd.1)
def validTrainI_con : Con := ⟨[.slice (.pair (i64) (i64))], [.d (.bool)], validTrainI⟩
theorem validTrainI_run (x : Dens [.slice (.pair (i64) (i64))]) : runFn (mkEnv [] [(validTrainIL_key, validTrainIL_L)]) Try.f49 [.slice (.pair (i64) (i64))] [.d (.bool)] x = validTrainI x := by kernel_rfl
theorem validTrainI_ok : validTrainI_con.ok Try.prog 49 := fn_ok (con := validTrainI_con) (mkEnv_ok (cons := []) trivial [(validTrainIL_key, validTrainIL_L)]) Try.func49 rfl (by kernel_rfl) (by exact ⟨validTrainIL_ok, trivial⟩) (fun x y h => (validTrainI_run x).trans h)

def okPairS : (Int × Int) → Option (Bool) :=
fun x => ob (teethS x.1) fun y => br y (ob (teethS x.2) fun y => some y) (some false)
def okPairS_con : Con := ⟨[.pair (i64) (i64)], [.d (.bool)], okPairS⟩
theorem okPairS_run (x : Dens [.pair (i64) (i64)]) : runFn (mkEnv [(120, teethS_con)] []) Try.f81 [.pair (i64) (i64)] [.d (.bool)] x = okPairS x := by kernel_rfl
theorem okPairS_ok : okPairS_con.ok Try.prog 81 := fn_ok (con := okPairS_con) (mkEnv_ok (cons := [(120, teethS_con)]) ⟨teethS_ok, trivial⟩ []) Try.func81 rfl (by kernel_rfl) (by exact trivial) (fun x y h => (okPairS_run x).trans h)

def okTrainSL_vars : Vars := [(0, .val (.slice (.pair (i64) (i64)))), (2, .val (.bool)), (3, .val (i64))]
def okTrainSL_step : List ((Int × Int)) × Bool × Int → Option (LRes × (List ((Int × Int)) × Bool × Int)) :=
fun x =>
  br (decide (x.snd.2 < (↑x.1.length : Int)))
    (ob (idx x.1 x.snd.2) fun y =>
      ob (okPairS (y.1, y.2)) fun y =>
        br (!y) (some (LRes.ret, x.1, false, x.snd.2))
          (some (LRes.next, x.1, x.snd.1, IntKind.i64.wrap (x.snd.2 + (1 : Int)))))
    (some (LRes.out, x.1, x.snd.1, x.snd.2))
def okTrainSL_fuel : List ((Int × Int)) × Bool × Int → Nat := fun s => (s.1.length - s.2.2.toNat) + 1
def okTrainSL : List ((Int × Int)) × Bool × Int → Option (Bool × (List ((Int × Int)) × Bool × Int)) := fun s => iter okTrainSL_step (okTrainSL_fuel s) s
def okTrainSL_L : LoopC := ⟨okTrainSL_vars, 0, .two okTrainSL⟩
noncomputable def okTrainSL_key : Nat := key (loopAt Try.f46 0)
theorem okTrainSL_stepok (x : okTrainSL_vars.den) : stepOf (mkEnv [(81, okPairS_con)] []) Try.f46.ntmps okTrainSL_vars 0 (loopAt Try.f46 0) x = okTrainSL_step x := by kernel_rfl
theorem okTrainSL_ok : LoopOK Try.prog Try.f46.ntmps okTrainSL_L (loopAt Try.f46 0)   := iter_loop (n := Try.f46.ntmps) (vs := okTrainSL_vars) (out := 0) (body := loopAt Try.f46 0) (mkEnv_ok (cons := [(81, okPairS_con)]) ⟨okPairS_ok, trivial⟩ []) okTrainSL_step okTrainSL_fuel (by exact trivial) okTrainSL_stepok

def okTrainS : List ((Int × Int)) → Option (Bool) :=
fun x =>
  ob (okTrainSL (x, false, (0 : Int))) fun r =>
    br r.1 (some (decide ((↑(List.length r.snd.1) : Int) ≤ (5 : Int)))) (some r.snd.snd.1)
def okTrainS_con : Con := ⟨[.slice (.pair (i64) (i64))], [.d (.bool)], okTrainS⟩
theorem okTrainS_run (x : Dens [.slice (.pair (i64) (i64))]) : runFn (mkEnv [] [(okTrainSL_key, okTrainSL_L)]) Try.f46 [.slice (.pair (i64) (i64))] [.d (.bool)] x = okTrainS x := by kernel_rfl
theorem okTrainS_ok : okTrainS_con.ok Try.prog 46 := fn_ok (con := okTrainS_con) (mkEnv_ok (cons := []) trivial [(okTrainSL_key, okTrainSL_L)]) Try.func46 rfl (by kernel_rfl) (by exact ⟨okTrainSL_ok, trivial⟩) (fun x y h => (okTrainS_run x).trans h)

def withinLimIL_vars : Vars := [(3, .box 0 25 (.pair (i64) (.pair (i64) (.pair (i64) (.pair (i64) (i64)))))), (4, .val (.bool)), (22, .val (.slice (.pair (i64) (i64)))), (23, .val (i64)), (24, .val (i64))]
def withinLimIL_step : (Int × Int × Int × Int × Int) × Bool × List ((Int × Int)) × Int × Int → Option (LRes × ((Int × Int × Int × Int × Int) × Bool × List ((Int × Int)) × Int × Int)) :=
fun x =>
  br (decide (x.snd.snd.snd.2 < x.snd.snd.snd.1))
    (ob (idx x.snd.snd.1 x.snd.snd.snd.2) fun y =>
      ob (withinI (y.1, x.fst.1, x.fst.snd.1)) fun y_1 =>
        br (!y_1)
          (some
            (LRes.ret, (x.fst.1, x.fst.snd.1, x.fst.snd.snd.1, x.fst.snd.snd.snd.1, x.fst.snd.snd.snd.2), false,
              x.snd.snd.1, x.snd.snd.snd.1, x.snd.snd.snd.2))
          (ob (withinI (y.2, x.fst.snd.snd.1, x.fst.snd.snd.snd.1)) fun y =>
            br (!y)
              (some
                (LRes.ret, (x.fst.1, x.fst.snd.1, x.fst.snd.snd.1, x.fst.snd.snd.snd.1, x.fst.snd.snd.snd.2), false,
                  x.snd.snd.1, x.snd.snd.snd.1, x.snd.snd.snd.2))
              (some
                (LRes.next, (x.fst.1, x.fst.snd.1, x.fst.snd.snd.1, x.fst.snd.snd.snd.1, x.fst.snd.snd.snd.2), x.snd.1,
                  x.snd.snd.1, x.snd.snd.snd.1, IntKind.i64.wrap (x.snd.snd.snd.2 + (1 : Int))))))
    (some
      (LRes.out, (x.fst.1, x.fst.snd.1, x.fst.snd.snd.1, x.fst.snd.snd.snd.1, x.fst.snd.snd.snd.2), x.snd.1,
        x.snd.snd.1, x.snd.snd.snd.1, x.snd.snd.snd.2))
def withinLimIL_fuel : (Int × Int × Int × Int × Int) × Bool × List ((Int × Int)) × Int × Int → Nat := fun s => (s.2.2.2.1 - s.2.2.2.2).toNat + 1
def withinLimIL : (Int × Int × Int × Int × Int) × Bool × List ((Int × Int)) × Int × Int → Option (Bool × ((Int × Int × Int × Int × Int) × Bool × List ((Int × Int)) × Int × Int)) := fun s => iter withinLimIL_step (withinLimIL_fuel s) s
def withinLimIL_L : LoopC := ⟨withinLimIL_vars, 0, .two withinLimIL⟩
noncomputable def withinLimIL_key : Nat := key (loopAt Try.f17 0)
theorem withinLimIL_stepok (x : withinLimIL_vars.den) : stepOf (mkEnv [(45, withinI_con)] []) Try.f17.ntmps withinLimIL_vars 0 (loopAt Try.f17 0) x = withinLimIL_step x := by kernel_rfl
theorem withinLimIL_ok : LoopOK Try.prog Try.f17.ntmps withinLimIL_L (loopAt Try.f17 0)   := iter_loop (n := Try.f17.ntmps) (vs := withinLimIL_vars) (out := 0) (body := loopAt Try.f17 0) (mkEnv_ok (cons := [(45, withinI_con)]) ⟨withinI_ok, trivial⟩ []) withinLimIL_step withinLimIL_fuel (by exact trivial) withinLimIL_stepok

def withinLimI : List ((Int × Int)) × (Int × Int × Int × Int × Int) → Option (Bool) :=
fun x =>
  ob (validLimI (x.snd.1, x.snd.snd.1, x.snd.snd.snd.1, x.snd.snd.snd.snd.1, x.snd.snd.snd.snd.2)) fun y =>
    br (!y) (some false)
      (ob (validTrainI x.1) fun y =>
        br (!y) (some false)
          (br ((↑x.1.length : Int) != x.snd.snd.snd.snd.2) (some false)
            (ob
              (withinLimIL
                ((x.snd.1, x.snd.snd.1, x.snd.snd.snd.1, x.snd.snd.snd.snd.1, x.snd.snd.snd.snd.2), false, x.1,
                  (↑x.1.length : Int), (0 : Int)))
              fun r => br r.1 (some true) (some r.snd.snd.1))))
def withinLimI_con : Con := ⟨[.slice (.pair (i64) (i64)), .pair (i64) (.pair (i64) (.pair (i64) (.pair (i64) (i64))))], [.d (.bool)], withinLimI⟩
theorem withinLimI_run (x : Dens [.slice (.pair (i64) (i64)), .pair (i64) (.pair (i64) (.pair (i64) (.pair (i64) (i64))))]) : runFn (mkEnv [(13, validLimI_con), (49, validTrainI_con)] [(withinLimIL_key, withinLimIL_L)]) Try.f17 [.slice (.pair (i64) (i64)), .pair (i64) (.pair (i64) (.pair (i64) (.pair (i64) (i64))))] [.d (.bool)] x = withinLimI x := by kernel_rfl
theorem withinLimI_ok : withinLimI_con.ok Try.prog 17 := fn_ok (con := withinLimI_con) (mkEnv_ok (cons := [(13, validLimI_con), (49, validTrainI_con)]) ⟨validLimI_ok, validTrainI_ok, trivial⟩ [(withinLimIL_key, withinLimIL_L)]) Try.func17 rfl (by kernel_rfl) (by exact ⟨withinLimIL_ok, trivial⟩) (fun x y h => (withinLimI_run x).trans h)

def withinLimSL_vars : Vars := [(0, .val (.slice (.pair (i64) (i64)))), (3, .box 0 25 (.pair (i64) (.pair (i64) (.pair (i64) (.pair (i64) (i64)))))), (4, .val (.bool)), (5, .val (i64))]
def withinLimSL_step : List ((Int × Int)) × (Int × Int × Int × Int × Int) × Bool × Int → Option (LRes × (List ((Int × Int)) × (Int × Int × Int × Int × Int) × Bool × Int)) :=
fun x =>
  br (decide (x.snd.snd.2 < (↑x.1.length : Int)))
    (ob (idx x.1 x.snd.snd.2) fun y =>
      ob (inS (y.1, x.snd.fst.1, x.snd.fst.snd.1)) fun y =>
        br (!y)
          (some
            (LRes.ret, x.1,
              (x.snd.fst.1, x.snd.fst.snd.1, x.snd.fst.snd.snd.1, x.snd.fst.snd.snd.snd.1, x.snd.fst.snd.snd.snd.2),
              false, x.snd.snd.2))
          (ob (idx x.1 x.snd.snd.2) fun y =>
            ob (inS (y.2, x.snd.fst.snd.snd.1, x.snd.fst.snd.snd.snd.1)) fun y =>
              br (!y)
                (some
                  (LRes.ret, x.1,
                    (x.snd.fst.1, x.snd.fst.snd.1, x.snd.fst.snd.snd.1, x.snd.fst.snd.snd.snd.1,
                      x.snd.fst.snd.snd.snd.2),
                    false, x.snd.snd.2))
                (some
                  (LRes.next, x.1,
                    (x.snd.fst.1, x.snd.fst.snd.1, x.snd.fst.snd.snd.1, x.snd.fst.snd.snd.snd.1,
                      x.snd.fst.snd.snd.snd.2),
                    x.snd.snd.1, IntKind.i64.wrap (x.snd.snd.2 + (1 : Int))))))
    (some
      (LRes.out, x.1,
        (x.snd.fst.1, x.snd.fst.snd.1, x.snd.fst.snd.snd.1, x.snd.fst.snd.snd.snd.1, x.snd.fst.snd.snd.snd.2),
        x.snd.snd.1, x.snd.snd.2))
def withinLimSL_fuel : List ((Int × Int)) × (Int × Int × Int × Int × Int) × Bool × Int → Nat := fun s => (s.1.length - s.2.2.2.toNat) + 1
def withinLimSL : List ((Int × Int)) × (Int × Int × Int × Int × Int) × Bool × Int → Option (Bool × (List ((Int × Int)) × (Int × Int × Int × Int × Int) × Bool × Int)) := fun s => iter withinLimSL_step (withinLimSL_fuel s) s
def withinLimSL_L : LoopC := ⟨withinLimSL_vars, 0, .two withinLimSL⟩
noncomputable def withinLimSL_key : Nat := key (loopAt Try.f15 0)
theorem withinLimSL_stepok (x : withinLimSL_vars.den) : stepOf (mkEnv [(47, inS_con)] []) Try.f15.ntmps withinLimSL_vars 0 (loopAt Try.f15 0) x = withinLimSL_step x := by kernel_rfl
theorem withinLimSL_ok : LoopOK Try.prog Try.f15.ntmps withinLimSL_L (loopAt Try.f15 0)   := iter_loop (n := Try.f15.ntmps) (vs := withinLimSL_vars) (out := 0) (body := loopAt Try.f15 0) (mkEnv_ok (cons := [(47, inS_con)]) ⟨inS_ok, trivial⟩ []) withinLimSL_step withinLimSL_fuel (by exact trivial) withinLimSL_stepok

def withinLimS : List ((Int × Int)) × (Int × Int × Int × Int × Int) → Option (Bool) :=
fun x =>
  ob (okLimS (x.snd.1, x.snd.snd.1, x.snd.snd.snd.1, x.snd.snd.snd.snd.1, x.snd.snd.snd.snd.2)) fun y =>
    br (!y) (some false)
      (ob (okTrainS x.1) fun y =>
        br (!y) (some false)
          (br ((↑x.1.length : Int) != x.snd.snd.snd.snd.2) (some false)
            (ob
              (withinLimSL
                (x.1, (x.snd.1, x.snd.snd.1, x.snd.snd.snd.1, x.snd.snd.snd.snd.1, x.snd.snd.snd.snd.2), false,
                  (0 : Int)))
              fun r => br r.1 (some true) (some r.snd.snd.snd.1))))
def withinLimS_con : Con := ⟨[.slice (.pair (i64) (i64)), .pair (i64) (.pair (i64) (.pair (i64) (.pair (i64) (i64))))], [.d (.bool)], withinLimS⟩
theorem withinLimS_run (x : Dens [.slice (.pair (i64) (i64)), .pair (i64) (.pair (i64) (.pair (i64) (.pair (i64) (i64))))]) : runFn (mkEnv [(43, okLimS_con), (46, okTrainS_con)] [(withinLimSL_key, withinLimSL_L)]) Try.f15 [.slice (.pair (i64) (i64)), .pair (i64) (.pair (i64) (.pair (i64) (.pair (i64) (i64))))] [.d (.bool)] x = withinLimS x := by kernel_rfl
theorem withinLimS_ok : withinLimS_con.ok Try.prog 15 := fn_ok (con := withinLimS_con) (mkEnv_ok (cons := [(43, okLimS_con), (46, okTrainS_con)]) ⟨okLimS_ok, okTrainS_ok, trivial⟩ [(withinLimSL_key, withinLimSL_L)]) Try.func15 rfl (by kernel_rfl) (by exact ⟨withinLimSL_ok, trivial⟩) (fun x y h => (withinLimS_run x).trans h)

def lawWithin : List ((Int × Int)) × (Int × Int × Int × Int × Int) → Option (Bool) :=
fun x =>
  ob (szPairS (x.1, (1048576 : Int))) fun y =>
    br (decide (y < (0 : Int))) (some true)
      (ob (toPairS x.1) fun y =>
        ob (toLimL (x.snd.1, x.snd.snd.1, x.snd.snd.snd.1, x.snd.snd.snd.snd.1, x.snd.snd.snd.snd.2)) fun y_1 =>
          ob (withinLimS (y, y_1.1, y_1.snd.1, y_1.snd.snd.1, y_1.snd.snd.snd.1, y_1.snd.snd.snd.2)) fun y =>
            ob (toPairS x.1) fun y_2 =>
              ob (toLimL (x.snd.1, x.snd.snd.1, x.snd.snd.snd.1, x.snd.snd.snd.snd.1, x.snd.snd.snd.snd.2)) fun y_3 =>
                ob (withinLimI (y_2, y_3.1, y_3.snd.1, y_3.snd.snd.1, y_3.snd.snd.snd.1, y_3.snd.snd.snd.2)) fun y_4 =>
                  br (!y_4 == y) (some false)
                    (ob (toPairS x.1) fun y => ob (eqPairS (y_2, y)) fun y => br (!y) (some false) (some true)))
def lawWithin_con : Con := ⟨[.slice (.pair (i64) (i64)), .pair (i64) (.pair (i64) (.pair (i64) (.pair (i64) (i64))))], [.d (.bool)], lawWithin⟩
theorem lawWithin_run (x : Dens [.slice (.pair (i64) (i64)), .pair (i64) (.pair (i64) (.pair (i64) (.pair (i64) (i64))))]) : runFn (mkEnv [(12, toLimL_con), (16, toPairS_con), (14, szPairS_con), (18, eqPairS_con), (15, withinLimS_con), (17, withinLimI_con)] []) Try.f4 [.slice (.pair (i64) (i64)), .pair (i64) (.pair (i64) (.pair (i64) (.pair (i64) (i64))))] [.d (.bool)] x = lawWithin x := by kernel_rfl
theorem lawWithin_ok : lawWithin_con.ok Try.prog 4 := fn_ok (con := lawWithin_con) (mkEnv_ok (cons := [(12, toLimL_con), (16, toPairS_con), (14, szPairS_con), (18, eqPairS_con), (15, withinLimS_con), (17, withinLimI_con)]) ⟨toLimL_ok, toPairS_ok, szPairS_ok, eqPairS_ok, withinLimS_ok, withinLimI_ok, trivial⟩ []) Try.func4 rfl (by kernel_rfl) (by exact trivial) (fun x y h => (lawWithin_run x).trans h)

def absI : Int → Option (Int) :=
fun x => br (decide (x < (0 : Int))) (some (IntKind.i64.wrap ((0 : Int) - x))) (some x)
def absI_con : Con := ⟨[i64], [.d (i64)], absI⟩
theorem absI_run (x : Dens [i64]) : runFn (mkEnv [] []) Try.f58 [i64] [.d (i64)] x = absI x := by kernel_rfl
theorem absI_ok : absI_con.ok Try.prog 58 := fn_ok (con := absI_con) (mkEnv_ok (cons := []) trivial []) Try.func58 rfl (by kernel_rfl) (by exact trivial) (fun x y h => (absI_run x).trans h)

def trainRatIL_vars : Vars := [(2, .box 0 39 (.pair (i64) (i64))), (3, .val (i64)), (4, .box 0 39 (.pair (i64) (i64))), (12, .val (.slice (.pair (i64) (i64)))), (13, .val (i64)), (14, .val (i64))]
def trainRatIL_step : (Int × Int) × Int × (Int × Int) × List ((Int × Int)) × Int × Int → Option (LRes × ((Int × Int) × Int × (Int × Int) × List ((Int × Int)) × Int × Int)) :=
fun x =>
  br (decide (x.snd.snd.snd.snd.2 < x.snd.snd.snd.snd.1))
    (ob (idx x.snd.snd.snd.1 x.snd.snd.snd.snd.2) fun y =>
      ob (makeRatI (IntKind.i64.wrap ((0 : Int) - y.1), y.2)) fun y =>
        ob (mulRatI ((x.snd.snd.fst.1, x.snd.snd.fst.2), y.fst.1, y.fst.2)) fun y =>
          br (y.2 != (0 : Int))
            (some
              (LRes.ret, ((0 : Int), (0 : Int)), y.2, (x.snd.snd.fst.1, x.snd.snd.fst.2), x.snd.snd.snd.1,
                x.snd.snd.snd.snd.1, x.snd.snd.snd.snd.2))
            (some
              (LRes.next, (x.fst.1, x.fst.2), x.snd.1, (y.fst.1, y.fst.2), x.snd.snd.snd.1, x.snd.snd.snd.snd.1,
                IntKind.i64.wrap (x.snd.snd.snd.snd.2 + (1 : Int)))))
    (some
      (LRes.out, (x.fst.1, x.fst.2), x.snd.1, (x.snd.snd.fst.1, x.snd.snd.fst.2), x.snd.snd.snd.1, x.snd.snd.snd.snd.1,
        x.snd.snd.snd.snd.2))
def trainRatIL_fuel : (Int × Int) × Int × (Int × Int) × List ((Int × Int)) × Int × Int → Nat := fun s => (s.2.2.2.2.1 - s.2.2.2.2.2).toNat + 1
def trainRatIL : (Int × Int) × Int × (Int × Int) × List ((Int × Int)) × Int × Int → Option (Bool × ((Int × Int) × Int × (Int × Int) × List ((Int × Int)) × Int × Int)) := fun s => iter trainRatIL_step (trainRatIL_fuel s) s
def trainRatIL_L : LoopC := ⟨trainRatIL_vars, 0, .two trainRatIL⟩
noncomputable def trainRatIL_key : Nat := key (loopAt Try.f94 0)
theorem trainRatIL_stepok (x : trainRatIL_vars.den) : stepOf (mkEnv [(98, makeRatI_con), (62, mulRatI_con)] []) Try.f94.ntmps trainRatIL_vars 0 (loopAt Try.f94 0) x = trainRatIL_step x := by kernel_rfl
theorem trainRatIL_ok : LoopOK Try.prog Try.f94.ntmps trainRatIL_L (loopAt Try.f94 0)   := iter_loop (n := Try.f94.ntmps) (vs := trainRatIL_vars) (out := 0) (body := loopAt Try.f94 0) (mkEnv_ok (cons := [(98, makeRatI_con), (62, mulRatI_con)]) ⟨makeRatI_ok, mulRatI_ok, trivial⟩ []) trainRatIL_step trainRatIL_fuel (by exact trivial) trainRatIL_stepok

def trainRatI : List ((Int × Int)) → Option ((Int × Int) × Int) :=
fun x =>
  ob (trainRatIL (((0 : Int), (0 : Int)), (0 : Int), ((1 : Int), (1 : Int)), x, (↑x.length : Int), (0 : Int))) fun r =>
    br r.1 (some ((r.snd.snd.snd.fst.1, r.snd.snd.snd.fst.2), (0 : Int)))
      (some ((r.snd.fst.1, r.snd.fst.2), r.snd.snd.1))
def trainRatI_con : Con := ⟨[.slice (.pair (i64) (i64))], [.d (.pair (i64) (i64)), .d (i64)], trainRatI⟩
theorem trainRatI_run (x : Dens [.slice (.pair (i64) (i64))]) : runFn (mkEnv [] [(trainRatIL_key, trainRatIL_L)]) Try.f94 [.slice (.pair (i64) (i64))] [.d (.pair (i64) (i64)), .d (i64)] x = trainRatI x := by kernel_rfl
theorem trainRatI_ok : trainRatI_con.ok Try.prog 94 := fn_ok (con := trainRatI_con) (mkEnv_ok (cons := []) trivial [(trainRatIL_key, trainRatIL_L)]) Try.func94 rfl (by kernel_rfl) (by exact ⟨trainRatIL_ok, trivial⟩) (fun x y h => (trainRatI_run x).trans h)

def diffI : List ((Int × Int)) × (Int × Int) → Option ((Int × Int) × Int) :=
fun x =>
  ob (trainRatI x.1) fun y =>
    br (y.2 != (0 : Int)) (some (((0 : Int), (0 : Int)), y.2))
      (ob (absI y.fst.1) fun y_1 =>
        ob (subRatI ((y_1, y.fst.2), x.snd.1, x.snd.2)) fun y => some ((y.fst.1, y.fst.2), y.2))
def diffI_con : Con := ⟨[.slice (.pair (i64) (i64)), .pair (i64) (i64)], [.d (.pair (i64) (i64)), .d (i64)], diffI⟩
theorem diffI_run (x : Dens [.slice (.pair (i64) (i64)), .pair (i64) (i64)]) : runFn (mkEnv [(94, trainRatI_con), (58, absI_con), (95, subRatI_con)] []) Try.f57 [.slice (.pair (i64) (i64)), .pair (i64) (i64)] [.d (.pair (i64) (i64)), .d (i64)] x = diffI x := by kernel_rfl
theorem diffI_ok : diffI_con.ok Try.prog 57 := fn_ok (con := diffI_con) (mkEnv_ok (cons := [(94, trainRatI_con), (58, absI_con), (95, subRatI_con)]) ⟨trainRatI_ok, absI_ok, subRatI_ok, trivial⟩ []) Try.func57 rfl (by kernel_rfl) (by exact trivial) (fun x y h => (diffI_run x).trans h)

def errorI : List ((Int × Int)) × (Int × Int) → Option ((Int × Int) × Int) :=
fun x =>
  ob (validTrainI x.1) fun y =>
    br (!y) (some (((0 : Int), (0 : Int)), (1 : Int)))
      (ob (validRatI (x.snd.1, x.snd.2)) fun y =>
        br (!y) (some (((0 : Int), (0 : Int)), (1 : Int)))
          (ob (diffI (x.1, x.snd.1, x.snd.2)) fun y => ob (absI y.fst.1) fun y_1 => some ((y_1, y.fst.2), y.2)))
def errorI_con : Con := ⟨[.slice (.pair (i64) (i64)), .pair (i64) (i64)], [.d (.pair (i64) (i64)), .d (i64)], errorI⟩
theorem errorI_run (x : Dens [.slice (.pair (i64) (i64)), .pair (i64) (i64)]) : runFn (mkEnv [(49, validTrainI_con), (56, validRatI_con), (57, diffI_con), (58, absI_con)] []) Try.f23 [.slice (.pair (i64) (i64)), .pair (i64) (i64)] [.d (.pair (i64) (i64)), .d (i64)] x = errorI x := by kernel_rfl
theorem errorI_ok : errorI_con.ok Try.prog 23 := fn_ok (con := errorI_con) (mkEnv_ok (cons := [(49, validTrainI_con), (56, validRatI_con), (57, diffI_con), (58, absI_con)]) ⟨validTrainI_ok, validRatI_ok, diffI_ok, absI_ok, trivial⟩ []) Try.func23 rfl (by kernel_rfl) (by exact trivial) (fun x y h => (errorI_run x).trans h)

def trainRatSL_vars : Vars := [(0, .val (.slice (.pair (i64) (i64)))), (2, .box 0 39 (.pair (i64) (i64))), (3, .val (.bool)), (4, .box 0 39 (.pair (i64) (i64))), (5, .val (i64))]
def trainRatSL_step : List ((Int × Int)) × (Int × Int) × Bool × (Int × Int) × Int → Option (LRes × (List ((Int × Int)) × (Int × Int) × Bool × (Int × Int) × Int)) :=
fun x =>
  br (decide (x.snd.snd.snd.2 < (↑x.1.length : Int)))
    (ob (idx x.1 x.snd.snd.snd.2) fun y =>
      ob (idx x.1 x.snd.snd.snd.2) fun y_1 =>
        ob (mkS (IntKind.i64.wrap ((0 : Int) - y.1), y_1.2)) fun y =>
          ob (mulS ((x.snd.snd.snd.fst.1, x.snd.snd.snd.fst.2), y.fst.1, y.fst.2)) fun y =>
            br (!y.2)
              (some
                (LRes.ret, x.1, ((0 : Int), (0 : Int)), false, (x.snd.snd.snd.fst.1, x.snd.snd.snd.fst.2),
                  x.snd.snd.snd.2))
              (some
                (LRes.next, x.1, (x.snd.fst.1, x.snd.fst.2), x.snd.snd.1, (y.fst.1, y.fst.2),
                  IntKind.i64.wrap (x.snd.snd.snd.2 + (1 : Int)))))
    (some
      (LRes.out, x.1, (x.snd.fst.1, x.snd.fst.2), x.snd.snd.1, (x.snd.snd.snd.fst.1, x.snd.snd.snd.fst.2),
        x.snd.snd.snd.2))
def trainRatSL_fuel : List ((Int × Int)) × (Int × Int) × Bool × (Int × Int) × Int → Nat := fun s => (s.1.length - s.2.2.2.2.toNat) + 1
def trainRatSL : List ((Int × Int)) × (Int × Int) × Bool × (Int × Int) × Int → Option (Bool × (List ((Int × Int)) × (Int × Int) × Bool × (Int × Int) × Int)) := fun s => iter trainRatSL_step (trainRatSL_fuel s) s
def trainRatSL_L : LoopC := ⟨trainRatSL_vars, 0, .two trainRatSL⟩
noncomputable def trainRatSL_key : Nat := key (loopAt Try.f90 0)
theorem trainRatSL_stepok (x : trainRatSL_vars.den) : stepOf (mkEnv [(96, mkS_con), (59, mulS_con)] []) Try.f90.ntmps trainRatSL_vars 0 (loopAt Try.f90 0) x = trainRatSL_step x := by kernel_rfl
theorem trainRatSL_ok : LoopOK Try.prog Try.f90.ntmps trainRatSL_L (loopAt Try.f90 0)   := iter_loop (n := Try.f90.ntmps) (vs := trainRatSL_vars) (out := 0) (body := loopAt Try.f90 0) (mkEnv_ok (cons := [(96, mkS_con), (59, mulS_con)]) ⟨mkS_ok, mulS_ok, trivial⟩ []) trainRatSL_step trainRatSL_fuel (by exact trivial) trainRatSL_stepok

def trainRatS : List ((Int × Int)) → Option ((Int × Int) × Bool) :=
fun x =>
  ob (wholeS (1 : Int)) fun y =>
    ob (trainRatSL (x, ((0 : Int), (0 : Int)), false, (y.1, y.2), (0 : Int))) fun r =>
      br r.1 (some ((r.snd.snd.snd.snd.fst.1, r.snd.snd.snd.snd.fst.2), true))
        (some ((r.snd.snd.fst.1, r.snd.snd.fst.2), r.snd.snd.snd.1))
def trainRatS_con : Con := ⟨[.slice (.pair (i64) (i64))], [.d (.pair (i64) (i64)), .d (.bool)], trainRatS⟩
theorem trainRatS_run (x : Dens [.slice (.pair (i64) (i64))]) : runFn (mkEnv [(60, wholeS_con)] [(trainRatSL_key, trainRatSL_L)]) Try.f90 [.slice (.pair (i64) (i64))] [.d (.pair (i64) (i64)), .d (.bool)] x = trainRatS x := by kernel_rfl
theorem trainRatS_ok : trainRatS_con.ok Try.prog 90 := fn_ok (con := trainRatS_con) (mkEnv_ok (cons := [(60, wholeS_con)]) ⟨wholeS_ok, trivial⟩ [(trainRatSL_key, trainRatSL_L)]) Try.func90 rfl (by kernel_rfl) (by exact ⟨trainRatSL_ok, trivial⟩) (fun x y h => (trainRatS_run x).trans h)

def diffS : List ((Int × Int)) × (Int × Int) → Option ((Int × Int) × Bool) :=
fun x =>
  ob (trainRatS x.1) fun y =>
    br (!y.2) (some (((0 : Int), (0 : Int)), false))
      (ob (sizeS y.fst.1) fun y_1 =>
        ob (negS (x.snd.1, x.snd.2)) fun y_2 =>
          ob (addS ((y_1, y.fst.2), y_2.1, y_2.2)) fun y => some ((y.fst.1, y.fst.2), y.2))
def diffS_con : Con := ⟨[.slice (.pair (i64) (i64)), .pair (i64) (i64)], [.d (.pair (i64) (i64)), .d (.bool)], diffS⟩
theorem diffS_run (x : Dens [.slice (.pair (i64) (i64)), .pair (i64) (i64)]) : runFn (mkEnv [(90, trainRatS_con), (55, sizeS_con), (92, negS_con), (91, addS_con)] []) Try.f54 [.slice (.pair (i64) (i64)), .pair (i64) (i64)] [.d (.pair (i64) (i64)), .d (.bool)] x = diffS x := by kernel_rfl
theorem diffS_ok : diffS_con.ok Try.prog 54 := fn_ok (con := diffS_con) (mkEnv_ok (cons := [(90, trainRatS_con), (55, sizeS_con), (92, negS_con), (91, addS_con)]) ⟨trainRatS_ok, sizeS_ok, negS_ok, addS_ok, trivial⟩ []) Try.func54 rfl (by kernel_rfl) (by exact trivial) (fun x y h => (diffS_run x).trans h)

def errorS : List ((Int × Int)) × (Int × Int) → Option ((Int × Int) × Int) :=
fun x =>
  ob (okTrainS x.1) fun y =>
    br (!y) (some (((0 : Int), (0 : Int)), (1 : Int)))
      (ob (okRatS (x.snd.1, x.snd.2)) fun y =>
        br (!y) (some (((0 : Int), (0 : Int)), (1 : Int)))
          (ob (diffS (x.1, x.snd.1, x.snd.2)) fun y =>
            br (!y.2) (some (((0 : Int), (0 : Int)), (2 : Int)))
              (ob (sizeS y.fst.1) fun y_1 => some ((y_1, y.fst.2), (0 : Int)))))
def errorS_con : Con := ⟨[.slice (.pair (i64) (i64)), .pair (i64) (i64)], [.d (.pair (i64) (i64)), .d (i64)], errorS⟩
theorem errorS_run (x : Dens [.slice (.pair (i64) (i64)), .pair (i64) (i64)]) : runFn (mkEnv [(46, okTrainS_con), (53, okRatS_con), (54, diffS_con), (55, sizeS_con)] []) Try.f21 [.slice (.pair (i64) (i64)), .pair (i64) (i64)] [.d (.pair (i64) (i64)), .d (i64)] x = errorS x := by kernel_rfl
theorem errorS_ok : errorS_con.ok Try.prog 21 := fn_ok (con := errorS_con) (mkEnv_ok (cons := [(46, okTrainS_con), (53, okRatS_con), (54, diffS_con), (55, sizeS_con)]) ⟨okTrainS_ok, okRatS_ok, diffS_ok, sizeS_ok, trivial⟩ []) Try.func21 rfl (by kernel_rfl) (by exact trivial) (fun x y h => (errorS_run x).trans h)

def lawError : List ((Int × Int)) × (Int × Int) → Option (Bool) :=
fun x =>
  ob (szPairS (x.1, (1048576 : Int))) fun y =>
    br (decide (y < (0 : Int))) (some true)
      (ob (toPairS x.1) fun y =>
        ob (toRatLT (x.snd.1, x.snd.2)) fun y_1 =>
          ob (errorS (y, y_1.1, y_1.2)) fun y =>
            ob (toPairS x.1) fun y_2 =>
              ob (toRatLT (x.snd.1, x.snd.2)) fun y_3 =>
                ob (errorI (y_2, y_3.1, y_3.2)) fun y_4 =>
                  ob (eqRatLT ((y_4.fst.1, y_4.fst.2), y.fst.1, y.fst.2)) fun y_5 =>
                    br (!y_5) (some false)
                      (br (y_4.2 != y.2) (some false)
                        (ob (toPairS x.1) fun y => ob (eqPairS (y_2, y)) fun y => br (!y) (some false) (some true))))
def lawError_con : Con := ⟨[.slice (.pair (i64) (i64)), .pair (i64) (i64)], [.d (.bool)], lawError⟩
theorem lawError_run (x : Dens [.slice (.pair (i64) (i64)), .pair (i64) (i64)]) : runFn (mkEnv [(22, toRatLT_con), (24, eqRatLT_con), (16, toPairS_con), (14, szPairS_con), (18, eqPairS_con), (21, errorS_con), (23, errorI_con)] []) Try.f6 [.slice (.pair (i64) (i64)), .pair (i64) (i64)] [.d (.bool)] x = lawError x := by kernel_rfl
theorem lawError_ok : lawError_con.ok Try.prog 6 := fn_ok (con := lawError_con) (mkEnv_ok (cons := [(22, toRatLT_con), (24, eqRatLT_con), (16, toPairS_con), (14, szPairS_con), (18, eqPairS_con), (21, errorS_con), (23, errorI_con)]) ⟨toRatLT_ok, eqRatLT_ok, toPairS_ok, szPairS_ok, eqPairS_ok, errorS_ok, errorI_ok, trivial⟩ []) Try.func6 rfl (by kernel_rfl) (by exact trivial) (fun x y h => (lawError_run x).trans h)

def floorI : Int × Int → Option (Int) :=
fun x =>
  br (x.2 == (0 : Int)) none
    (br (x.2 == (0 : Int)) none
      (br (decide (x.1.tmod x.2 < (0 : Int))) (some (IntKind.i64.wrap (IntKind.i64.wrap (x.1.tdiv x.2) - (1 : Int))))
        (some (IntKind.i64.wrap (x.1.tdiv x.2)))))
def floorI_con : Con := ⟨[i64, i64], [.d (i64)], floorI⟩
theorem floorI_run (x : Dens [i64, i64]) : runFn (mkEnv [] []) Try.f99 [i64, i64] [.d (i64)] x = floorI x := by kernel_rfl
theorem floorI_ok : floorI_con.ok Try.prog 99 := fn_ok (con := floorI_con) (mkEnv_ok (cons := []) trivial []) Try.func99 rfl (by kernel_rfl) (by exact trivial) (fun x y h => (floorI_run x).trans h)

def nearI : Int × Int → Option (Int) :=
fun x =>
  ob (floorI (x.1, x.2)) fun y =>
    br
      (decide
        (IntKind.i64.wrap (x.2 - IntKind.i64.wrap (x.1 - IntKind.i64.wrap (y * x.2))) ≤
          IntKind.i64.wrap (x.1 - IntKind.i64.wrap (y * x.2))))
      (some (IntKind.i64.wrap (y + (1 : Int)))) (some y)
def nearI_con : Con := ⟨[i64, i64], [.d (i64)], nearI⟩
theorem nearI_run (x : Dens [i64, i64]) : runFn (mkEnv [(99, floorI_con)] []) Try.f63 [i64, i64] [.d (i64)] x = nearI x := by kernel_rfl
theorem nearI_ok : nearI_con.ok Try.prog 63 := fn_ok (con := nearI_con) (mkEnv_ok (cons := [(99, floorI_con)]) ⟨floorI_ok, trivial⟩ []) Try.func63 rfl (by kernel_rfl) (by exact trivial) (fun x y h => (nearI_run x).trans h)

def driftI : List ((Int × Int)) × (Int × Int) × Int → Option (Int × Int) :=
fun x =>
  ob (validTrainI x.1) fun y =>
    br (!y) (some ((0 : Int), (1 : Int)))
      (ob (validRatI (x.snd.fst.1, x.snd.fst.2)) fun y =>
        br (!y) (some ((0 : Int), (1 : Int)))
          (ob (withinI (x.snd.2, (0 : Int), (1000000 : Int))) fun y =>
            br (!y) (some ((0 : Int), (2 : Int)))
              (ob (diffI (x.1, x.snd.fst.1, x.snd.fst.2)) fun y =>
                br (y.2 != (0 : Int)) (some ((0 : Int), y.2))
                  (ob (mulRatI ((y.fst.1, y.fst.2), x.snd.2, (1 : Int))) fun y =>
                    br (y.2 != (0 : Int)) (some ((0 : Int), y.2))
                      (ob (nearI (IntKind.i64.wrap (y.fst.1 * (1000000 : Int)), y.fst.2)) fun y =>
                        ob (withinI (y, (-1000000000 : Int), (1000000000 : Int))) fun y_1 =>
                          br (!y_1) (some ((0 : Int), (2 : Int))) (some (y, (0 : Int))))))))
def driftI_con : Con := ⟨[.slice (.pair (i64) (i64)), .pair (i64) (i64), i64], [.d (i64), .d (i64)], driftI⟩
theorem driftI_run (x : Dens [.slice (.pair (i64) (i64)), .pair (i64) (i64), i64]) : runFn (mkEnv [(49, validTrainI_con), (56, validRatI_con), (45, withinI_con), (57, diffI_con), (62, mulRatI_con), (63, nearI_con)] []) Try.f26 [.slice (.pair (i64) (i64)), .pair (i64) (i64), i64] [.d (i64), .d (i64)] x = driftI x := by kernel_rfl
theorem driftI_ok : driftI_con.ok Try.prog 26 := fn_ok (con := driftI_con) (mkEnv_ok (cons := [(49, validTrainI_con), (56, validRatI_con), (45, withinI_con), (57, diffI_con), (62, mulRatI_con), (63, nearI_con)]) ⟨validTrainI_ok, validRatI_ok, withinI_ok, diffI_ok, mulRatI_ok, nearI_ok, trivial⟩ []) Try.func26 rfl (by kernel_rfl) (by exact trivial) (fun x y h => (driftI_run x).trans h)

def downS : Int × Int → Option (Int) :=
fun x =>
  br (x.2 == (0 : Int)) none
    (br (x.2 == (0 : Int)) none
      (br (decide (x.1.tmod x.2 < (0 : Int))) (some (IntKind.i64.wrap (IntKind.i64.wrap (x.1.tdiv x.2) - (1 : Int))))
        (some (IntKind.i64.wrap (x.1.tdiv x.2)))))
def downS_con : Con := ⟨[i64, i64], [.d (i64)], downS⟩
theorem downS_run (x : Dens [i64, i64]) : runFn (mkEnv [] []) Try.f97 [i64, i64] [.d (i64)] x = downS x := by kernel_rfl
theorem downS_ok : downS_con.ok Try.prog 97 := fn_ok (con := downS_con) (mkEnv_ok (cons := []) trivial []) Try.func97 rfl (by kernel_rfl) (by exact trivial) (fun x y h => (downS_run x).trans h)

def nearS : Int × Int → Option (Int) :=
fun x =>
  ob (downS (IntKind.i64.wrap (IntKind.i64.wrap ((2 : Int) * x.1) + x.2), IntKind.i64.wrap ((2 : Int) * x.2))) fun y =>
    some y
def nearS_con : Con := ⟨[i64, i64], [.d (i64)], nearS⟩
theorem nearS_run (x : Dens [i64, i64]) : runFn (mkEnv [(97, downS_con)] []) Try.f61 [i64, i64] [.d (i64)] x = nearS x := by kernel_rfl
theorem nearS_ok : nearS_con.ok Try.prog 61 := fn_ok (con := nearS_con) (mkEnv_ok (cons := [(97, downS_con)]) ⟨downS_ok, trivial⟩ []) Try.func61 rfl (by kernel_rfl) (by exact trivial) (fun x y h => (nearS_run x).trans h)

def driftS : List ((Int × Int)) × (Int × Int) × Int → Option (Int × Int) :=
fun x =>
  ob (okTrainS x.1) fun y =>
    br (!y) (some ((0 : Int), (1 : Int)))
      (ob (okRatS (x.snd.fst.1, x.snd.fst.2)) fun y =>
        br (!y) (some ((0 : Int), (1 : Int)))
          (ob (diffS (x.1, x.snd.fst.1, x.snd.fst.2)) fun y =>
            ob (inS (x.snd.2, (0 : Int), (1000000 : Int))) fun y_1 =>
              br (!y_1) (some ((0 : Int), (2 : Int)))
                (br (!y.2) (some ((0 : Int), (2 : Int)))
                  (ob (wholeS x.snd.2) fun y_2 =>
                    ob (mulS ((y.fst.1, y.fst.2), y_2.1, y_2.2)) fun y =>
                      br (!y.2) (some ((0 : Int), (2 : Int)))
                        (ob (nearS (IntKind.i64.wrap (y.fst.1 * (1000000 : Int)), y.fst.2)) fun y =>
                          ob (inS (y, (-1000000000 : Int), (1000000000 : Int))) fun y_3 =>
                            br (!y_3) (some ((0 : Int), (2 : Int))) (some (y, (0 : Int))))))))
def driftS_con : Con := ⟨[.slice (.pair (i64) (i64)), .pair (i64) (i64), i64], [.d (i64), .d (i64)], driftS⟩
theorem driftS_run (x : Dens [.slice (.pair (i64) (i64)), .pair (i64) (i64), i64]) : runFn (mkEnv [(46, okTrainS_con), (53, okRatS_con), (54, diffS_con), (47, inS_con), (60, wholeS_con), (59, mulS_con), (61, nearS_con)] []) Try.f25 [.slice (.pair (i64) (i64)), .pair (i64) (i64), i64] [.d (i64), .d (i64)] x = driftS x := by kernel_rfl
theorem driftS_ok : driftS_con.ok Try.prog 25 := fn_ok (con := driftS_con) (mkEnv_ok (cons := [(46, okTrainS_con), (53, okRatS_con), (54, diffS_con), (47, inS_con), (60, wholeS_con), (59, mulS_con), (61, nearS_con)]) ⟨okTrainS_ok, okRatS_ok, diffS_ok, inS_ok, wholeS_ok, mulS_ok, nearS_ok, trivial⟩ []) Try.func25 rfl (by kernel_rfl) (by exact trivial) (fun x y h => (driftS_run x).trans h)

def lawDrift : List ((Int × Int)) × (Int × Int) × Int → Option (Bool) :=
fun x =>
  ob (szPairS (x.1, (1048576 : Int))) fun y =>
    br (decide (y < (0 : Int))) (some true)
      (ob (toPairS x.1) fun y =>
        ob (toRatLT (x.snd.fst.1, x.snd.fst.2)) fun y_1 =>
          ob (driftS (y, (y_1.1, y_1.2), x.snd.2)) fun y =>
            ob (toPairS x.1) fun y_2 =>
              ob (toRatLT (x.snd.fst.1, x.snd.fst.2)) fun y_3 =>
                ob (driftI (y_2, (y_3.1, y_3.2), x.snd.2)) fun y_4 =>
                  br (y_4.1 != y.1) (some false)
                    (br (y_4.2 != y.2) (some false)
                      (ob (toPairS x.1) fun y => ob (eqPairS (y_2, y)) fun y => br (!y) (some false) (some true))))
def lawDrift_con : Con := ⟨[.slice (.pair (i64) (i64)), .pair (i64) (i64), i64], [.d (.bool)], lawDrift⟩
theorem lawDrift_run (x : Dens [.slice (.pair (i64) (i64)), .pair (i64) (i64), i64]) : runFn (mkEnv [(22, toRatLT_con), (16, toPairS_con), (14, szPairS_con), (18, eqPairS_con), (25, driftS_con), (26, driftI_con)] []) Try.f7 [.slice (.pair (i64) (i64)), .pair (i64) (i64), i64] [.d (.bool)] x = lawDrift x := by kernel_rfl
theorem lawDrift_ok : lawDrift_con.ok Try.prog 7 := fn_ok (con := lawDrift_con) (mkEnv_ok (cons := [(22, toRatLT_con), (16, toPairS_con), (14, szPairS_con), (18, eqPairS_con), (25, driftS_con), (26, driftI_con)]) ⟨toRatLT_ok, toPairS_ok, szPairS_ok, eqPairS_ok, driftS_ok, driftI_ok, trivial⟩ []) Try.func7 rfl (by kernel_rfl) (by exact trivial) (fun x y h => (lawDrift_run x).trans h)

end Rx
end Go.Proofs.Ytghglneafibliaa
