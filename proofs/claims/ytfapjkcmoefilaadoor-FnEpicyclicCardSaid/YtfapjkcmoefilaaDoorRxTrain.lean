/- What the functions of RxTrain come to, and their contracts. No conditions. -/
import Derived.Test.YtfapjkcmoefilaaDoorRxEnv
import Derived.Test.YtfapjkcmoefilaaDoorRxRatI
import Derived.Test.YtfapjkcmoefilaaDoorRxRatS
import Derived.Test.YtfapjkcmoefilaaDoorRxPairs
namespace Go.Proofs.YtfapjkcmoefilaaDoor
namespace Rx
open Go


def toRatLT : (Int × Int) → Option ((Int × Int)) :=
fun x => some (x.1, x.2)
def toRatLT_con : Con := ⟨[.pair (i64) (i64)], [.d (.pair (i64) (i64))], toRatLT⟩
theorem toRatLT_run (x : Dens [.pair (i64) (i64)]) : runFn (mkEnv [] []) Tryd.f67 [.pair (i64) (i64)] [.d (.pair (i64) (i64))] x = toRatLT x := by kernel_rfl
theorem toRatLT_ok : toRatLT_con.ok Tryd.prog 67 := fn_ok (con := toRatLT_con) (mkEnv_ok (cons := []) trivial []) Tryd.func67 rfl (by kernel_rfl) (by exact trivial) (fun x y h => (toRatLT_run x).trans h)

def eqRatLT : (Int × Int) × (Int × Int) → Option (Bool) :=
fun x => br (x.fst.1 != x.snd.1) (some false) (br (x.fst.2 != x.snd.2) (some false) (some true))
def eqRatLT_con : Con := ⟨[.pair (i64) (i64), .pair (i64) (i64)], [.d (.bool)], eqRatLT⟩
theorem eqRatLT_run (x : Dens [.pair (i64) (i64), .pair (i64) (i64)]) : runFn (mkEnv [] []) Tryd.f71 [.pair (i64) (i64), .pair (i64) (i64)] [.d (.bool)] x = eqRatLT x := by kernel_rfl
theorem eqRatLT_ok : eqRatLT_con.ok Tryd.prog 71 := fn_ok (con := eqRatLT_con) (mkEnv_ok (cons := []) trivial []) Tryd.func71 rfl (by kernel_rfl) (by exact trivial) (fun x y h => (eqRatLT_run x).trans h)







def validPairI : (Int × Int) → Option (Bool) :=
fun x => ob (toothedI x.1) fun y => br y (ob (toothedI x.2) fun y => some y) (some false)
def validPairI_con : Con := ⟨[.pair (i64) (i64)], [.d (.bool)], validPairI⟩
theorem validPairI_run (x : Dens [.pair (i64) (i64)]) : runFn (mkEnv [(47, toothedI_con)] []) Tryd.f104 [.pair (i64) (i64)] [.d (.bool)] x = validPairI x := by kernel_rfl
theorem validPairI_ok : validPairI_con.ok Tryd.prog 104 := fn_ok (con := validPairI_con) (mkEnv_ok (cons := [(47, toothedI_con)]) ⟨toothedI_ok, trivial⟩ []) Tryd.func104 rfl (by kernel_rfl) (by exact trivial) (fun x y h => (validPairI_run x).trans h)

def validTrainIL_vars : Vars := [(0, .val (.slice (.pair (i64) (i64)))), (2, .val (.bool)), (5, .val (.slice (.pair (i64) (i64)))), (6, .val (i64)), (7, .val (i64))]
def validTrainIL_step : List ((Int × Int)) × Bool × List ((Int × Int)) × Int × Int → Option (LRes × (List ((Int × Int)) × Bool × List ((Int × Int)) × Int × Int)) :=
fun x =>
  br (decide (x.snd.snd.snd.2 < x.snd.snd.snd.1))
    (ob (idx x.snd.snd.1 x.snd.snd.snd.2) fun y =>
      ob (validPairI (y.1, y.2)) fun y =>
        br (!y) (some (LRes.ret, x.1, false, x.snd.snd.1, x.snd.snd.snd.1, x.snd.snd.snd.2))
          (some
            (LRes.next, x.1, x.snd.1, x.snd.snd.1, x.snd.snd.snd.1, IntKind.i64.wrap (x.snd.snd.snd.2 + (1 : Int)))))
    (some (LRes.out, x.1, x.snd.1, x.snd.snd.1, x.snd.snd.snd.1, x.snd.snd.snd.2))
def validTrainIL_fuel : List ((Int × Int)) × Bool × List ((Int × Int)) × Int × Int → Nat := fun s => (s.2.2.2.1 - s.2.2.2.2).toNat + 1
def validTrainIL : List ((Int × Int)) × Bool × List ((Int × Int)) × Int × Int → Option (Bool × (List ((Int × Int)) × Bool × List ((Int × Int)) × Int × Int)) := fun s => iter validTrainIL_step (validTrainIL_fuel s) s
def validTrainIL_L : LoopC := ⟨validTrainIL_vars, 0, .two validTrainIL⟩
noncomputable def validTrainIL_key : Nat := key (loopAt Tryd.f68 0)
theorem validTrainIL_stepok (x : validTrainIL_vars.den) : stepOf (mkEnv [(104, validPairI_con)] []) Tryd.f68.ntmps validTrainIL_vars 0 (loopAt Tryd.f68 0) x = validTrainIL_step x := by kernel_rfl
theorem validTrainIL_ok : LoopOK Tryd.prog Tryd.f68.ntmps validTrainIL_L (loopAt Tryd.f68 0)   := iter_loop (n := Tryd.f68.ntmps) (vs := validTrainIL_vars) (out := 0) (body := loopAt Tryd.f68 0) (mkEnv_ok (cons := [(104, validPairI_con)]) ⟨validPairI_ok, trivial⟩ []) validTrainIL_step validTrainIL_fuel (by exact trivial) validTrainIL_stepok

def validTrainI : List ((Int × Int)) → Option (Bool) :=
fun x =>
  ob (validTrainIL (x, false, x, (↑x.length : Int), (0 : Int))) fun r =>
    br r.1 (some (decide ((↑(List.length r.snd.1) : Int) ≤ (5 : Int)))) (some r.snd.snd.1)
def validTrainI_con : Con := ⟨[.slice (.pair (i64) (i64))], [.d (.bool)], validTrainI⟩
theorem validTrainI_run (x : Dens [.slice (.pair (i64) (i64))]) : runFn (mkEnv [] [(validTrainIL_key, validTrainIL_L)]) Tryd.f68 [.slice (.pair (i64) (i64))] [.d (.bool)] x = validTrainI x := by kernel_rfl
theorem validTrainI_ok : validTrainI_con.ok Tryd.prog 68 := fn_ok (con := validTrainI_con) (mkEnv_ok (cons := []) trivial [(validTrainIL_key, validTrainIL_L)]) Tryd.func68 rfl (by kernel_rfl) (by exact ⟨validTrainIL_ok, trivial⟩) (fun x y h => (validTrainI_run x).trans h)

def okPairS : (Int × Int) → Option (Bool) :=
fun x => ob (teethS x.1) fun y => br y (ob (teethS x.2) fun y => some y) (some false)
def okPairS_con : Con := ⟨[.pair (i64) (i64)], [.d (.bool)], okPairS⟩
theorem okPairS_run (x : Dens [.pair (i64) (i64)]) : runFn (mkEnv [(44, teethS_con)] []) Tryd.f102 [.pair (i64) (i64)] [.d (.bool)] x = okPairS x := by kernel_rfl
theorem okPairS_ok : okPairS_con.ok Tryd.prog 102 := fn_ok (con := okPairS_con) (mkEnv_ok (cons := [(44, teethS_con)]) ⟨teethS_ok, trivial⟩ []) Tryd.func102 rfl (by kernel_rfl) (by exact trivial) (fun x y h => (okPairS_run x).trans h)

def okTrainSL_vars : Vars := [(0, .val (.slice (.pair (i64) (i64)))), (2, .val (.bool)), (3, .val (i64))]
def okTrainSL_step : List ((Int × Int)) × Bool × Int → Option (LRes × (List ((Int × Int)) × Bool × Int)) :=
fun x =>
  br (decide (x.snd.2 < (↑x.1.length : Int)))
    (ob (idx x.1 x.snd.2) fun y =>
      ob (okPairS (y.1, y.2)) fun y =>
        br (!y) (some (LRes.ret, x.1, false, x.snd.2))
          (some (LRes.next, x.1, x.snd.1, IntKind.i64.wrap (x.snd.2 + (1 : Int)))))
    (some (LRes.out, x.1, x.snd.1, x.snd.2))
def okTrainSL_fuel : List ((Int × Int)) × Bool × Int → Nat := fun s => (s.1.length - s.2.2.toNat) + 1
def okTrainSL : List ((Int × Int)) × Bool × Int → Option (Bool × (List ((Int × Int)) × Bool × Int)) := fun s => iter okTrainSL_step (okTrainSL_fuel s) s
def okTrainSL_L : LoopC := ⟨okTrainSL_vars, 0, .two okTrainSL⟩
noncomputable def okTrainSL_key : Nat := key (loopAt Tryd.f63 0)
theorem okTrainSL_stepok (x : okTrainSL_vars.den) : stepOf (mkEnv [(102, okPairS_con)] []) Tryd.f63.ntmps okTrainSL_vars 0 (loopAt Tryd.f63 0) x = okTrainSL_step x := by kernel_rfl
theorem okTrainSL_ok : LoopOK Tryd.prog Tryd.f63.ntmps okTrainSL_L (loopAt Tryd.f63 0)   := iter_loop (n := Tryd.f63.ntmps) (vs := okTrainSL_vars) (out := 0) (body := loopAt Tryd.f63 0) (mkEnv_ok (cons := [(102, okPairS_con)]) ⟨okPairS_ok, trivial⟩ []) okTrainSL_step okTrainSL_fuel (by exact trivial) okTrainSL_stepok

def okTrainS : List ((Int × Int)) → Option (Bool) :=
fun x =>
  ob (okTrainSL (x, false, (0 : Int))) fun r =>
    br r.1 (some (decide ((↑(List.length r.snd.1) : Int) ≤ (5 : Int)))) (some r.snd.snd.1)
def okTrainS_con : Con := ⟨[.slice (.pair (i64) (i64))], [.d (.bool)], okTrainS⟩
theorem okTrainS_run (x : Dens [.slice (.pair (i64) (i64))]) : runFn (mkEnv [] [(okTrainSL_key, okTrainSL_L)]) Tryd.f63 [.slice (.pair (i64) (i64))] [.d (.bool)] x = okTrainS x := by kernel_rfl
theorem okTrainS_ok : okTrainS_con.ok Tryd.prog 63 := fn_ok (con := okTrainS_con) (mkEnv_ok (cons := []) trivial [(okTrainSL_key, okTrainSL_L)]) Tryd.func63 rfl (by kernel_rfl) (by exact ⟨okTrainSL_ok, trivial⟩) (fun x y h => (okTrainS_run x).trans h)























end Rx
end Go.Proofs.YtfapjkcmoefilaaDoor
