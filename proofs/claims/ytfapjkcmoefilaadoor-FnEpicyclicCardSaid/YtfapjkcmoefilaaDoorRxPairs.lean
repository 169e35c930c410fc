/- What the functions of RxPairs come to, and their contracts. No conditions. -/
import Derived.Test.YtfapjkcmoefilaaDoorRxEnv
namespace Go.Proofs.YtfapjkcmoefilaaDoor
namespace Rx
open Go

def toPairL : (Int × Int) → Option ((Int × Int)) :=
fun x => some (x.1, x.2)
def toPairL_con : Con := ⟨[.pair (i64) (i64)], [.d (.pair (i64) (i64))], toPairL⟩
theorem toPairL_run (x : Dens [.pair (i64) (i64)]) : runFn (mkEnv [] []) Tryd.f103 [.pair (i64) (i64)] [.d (.pair (i64) (i64))] x = toPairL x := by kernel_rfl
theorem toPairL_ok : toPairL_con.ok Tryd.prog 103 := fn_ok (con := toPairL_con) (mkEnv_ok (cons := []) trivial []) Tryd.func103 rfl (by kernel_rfl) (by exact trivial) (fun x y h => (toPairL_run x).trans h)

def toPairSL_vars : Vars := [(0, .val (.slice (.pair (i64) (i64)))), (3, .row 0 106 (.pair (i64) (i64))), (4, .val (i64))]
def toPairSL_step : List ((Int × Int)) × List ((Int × Int)) × Int → Option (LRes × (List ((Int × Int)) × List ((Int × Int)) × Int)) :=
fun x =>
  br (decide (x.snd.2 < (↑x.1.length : Int)))
    (ob (idx x.1 x.snd.2) fun y =>
      ob (toPairL (y.1, y.2)) fun y =>
        ob (idx x.snd.1 x.snd.2) fun x_1 =>
          ob (List.get?Internal x.snd.1 (Int.toNat x.snd.2)) fun x_2 =>
            some
              (LRes.next, x.1, List.set x.snd.1 (Int.toNat x.snd.2) (y.1, y.2), IntKind.i64.wrap (x.snd.2 + (1 : Int))))
    (some (LRes.out, x.1, x.snd.1, x.snd.2))
def toPairSL_fuel : List ((Int × Int)) × List ((Int × Int)) × Int → Nat := fun s => (s.1.length - s.2.2.toNat) + 1
def toPairSL : List ((Int × Int)) × List ((Int × Int)) × Int → Option (List ((Int × Int)) × List ((Int × Int)) × Int) := fun s => iterP toPairSL_step (toPairSL_fuel s) s
def toPairSL_L : LoopC := ⟨toPairSL_vars, 0, .plain toPairSL⟩
noncomputable def toPairSL_key : Nat := key (loopAt Tryd.f66 0)
theorem toPairSL_stepok (x : toPairSL_vars.den) : stepOf (mkEnv [(103, toPairL_con)] []) Tryd.f66.ntmps toPairSL_vars 0 (loopAt Tryd.f66 0) x = toPairSL_step x := by kernel_rfl
theorem toPairSL_ok : LoopOK Tryd.prog Tryd.f66.ntmps toPairSL_L (loopAt Tryd.f66 0)   := iterP_loop (n := Tryd.f66.ntmps) (vs := toPairSL_vars) (out := 0) (body := loopAt Tryd.f66 0) (mkEnv_ok (cons := [(103, toPairL_con)]) ⟨toPairL_ok, trivial⟩ []) toPairSL_step toPairSL_fuel (by exact trivial) toPairSL_stepok

def toPairS : List ((Int × Int)) → Option (List ((Int × Int))) :=
fun x =>
  br
    (decide
      ((0 : Int) ≤ (↑x.length : Int) ∧ (↑x.length : Int) = (↑x.length : Int) ∧ (↑x.length : Int) ≤ (1048576 : Int)))
    (ob (toPairSL (x, List.replicate (↑x.length : Int).toNat ((0 : Int), (0 : Int)), (0 : Int))) fun r => some r.snd.1)
    none
def toPairS_con : Con := ⟨[.slice (.pair (i64) (i64))], [.row 106 (.pair (i64) (i64))], toPairS⟩
theorem toPairS_run (x : Dens [.slice (.pair (i64) (i64))]) : runFn (mkEnv [] [(toPairSL_key, toPairSL_L)]) Tryd.f66 [.slice (.pair (i64) (i64))] [.row 106 (.pair (i64) (i64))] x = toPairS x := by kernel_rfl
theorem toPairS_ok : toPairS_con.ok Tryd.prog 66 := fn_ok (con := toPairS_con) (mkEnv_ok (cons := []) trivial [(toPairSL_key, toPairSL_L)]) Tryd.func66 rfl (by kernel_rfl) (by exact ⟨toPairSL_ok, trivial⟩) (fun x y h => (toPairS_run x).trans h)

def szPairS : List ((Int × Int)) × Int → Option (Int) :=
fun x =>
  br (decide (IntKind.i64.wrap (x.2 - (↑x.1.length : Int)) < (0 : Int))) (some (-1 : Int))
    (some (IntKind.i64.wrap (x.2 - (↑x.1.length : Int))))
def szPairS_con : Con := ⟨[.slice (.pair (i64) (i64)), i64], [.d (i64)], szPairS⟩
theorem szPairS_run (x : Dens [.slice (.pair (i64) (i64)), i64]) : runFn (mkEnv [] []) Tryd.f62 [.slice (.pair (i64) (i64)), i64] [.d (i64)] x = szPairS x := by kernel_rfl
theorem szPairS_ok : szPairS_con.ok Tryd.prog 62 := fn_ok (con := szPairS_con) (mkEnv_ok (cons := []) trivial []) Tryd.func62 rfl (by kernel_rfl) (by exact trivial) (fun x y h => (szPairS_run x).trans h)

def eqPairL : (Int × Int) × (Int × Int) → Option (Bool) :=
fun x => br (x.fst.1 != x.snd.1) (some false) (br (x.fst.2 != x.snd.2) (some false) (some true))
def eqPairL_con : Con := ⟨[.pair (i64) (i64), .pair (i64) (i64)], [.d (.bool)], eqPairL⟩
theorem eqPairL_run (x : Dens [.pair (i64) (i64), .pair (i64) (i64)]) : runFn (mkEnv [] []) Tryd.f74 [.pair (i64) (i64), .pair (i64) (i64)] [.d (.bool)] x = eqPairL x := by kernel_rfl
theorem eqPairL_ok : eqPairL_con.ok Tryd.prog 74 := fn_ok (con := eqPairL_con) (mkEnv_ok (cons := []) trivial []) Tryd.func74 rfl (by kernel_rfl) (by exact trivial) (fun x y h => (eqPairL_run x).trans h)

def eqPairSL_vars : Vars := [(0, .val (.slice (.pair (i64) (i64)))), (1, .val (.slice (.pair (i64) (i64)))), (4, .val (.bool)), (5, .val (i64))]
def eqPairSL_step : List ((Int × Int)) × List ((Int × Int)) × Bool × Int → Option (LRes × (List ((Int × Int)) × List ((Int × Int)) × Bool × Int)) :=
fun x =>
  br (decide (x.snd.snd.2 < (↑x.1.length : Int)))
    (ob (idx x.1 x.snd.snd.2) fun y =>
      ob (idx x.snd.1 x.snd.snd.2) fun y_1 =>
        ob (eqPairL ((y.1, y.2), y_1.1, y_1.2)) fun y =>
          br (!y) (some (LRes.ret, x.1, x.snd.1, false, x.snd.snd.2))
            (some (LRes.next, x.1, x.snd.1, x.snd.snd.1, IntKind.i64.wrap (x.snd.snd.2 + (1 : Int)))))
    (some (LRes.out, x.1, x.snd.1, x.snd.snd.1, x.snd.snd.2))
def eqPairSL_fuel : List ((Int × Int)) × List ((Int × Int)) × Bool × Int → Nat := fun s => (s.1.length - s.2.2.2.toNat) + 1
def eqPairSL : List ((Int × Int)) × List ((Int × Int)) × Bool × Int → Option (Bool × (List ((Int × Int)) × List ((Int × Int)) × Bool × Int)) := fun s => iter eqPairSL_step (eqPairSL_fuel s) s
def eqPairSL_L : LoopC := ⟨eqPairSL_vars, 0, .two eqPairSL⟩
noncomputable def eqPairSL_key : Nat := key (loopAt Tryd.f30 0)
theorem eqPairSL_stepok (x : eqPairSL_vars.den) : stepOf (mkEnv [(74, eqPairL_con)] []) Tryd.f30.ntmps eqPairSL_vars 0 (loopAt Tryd.f30 0) x = eqPairSL_step x := by kernel_rfl
theorem eqPairSL_ok : LoopOK Tryd.prog Tryd.f30.ntmps eqPairSL_L (loopAt Tryd.f30 0)   := iter_loop (n := Tryd.f30.ntmps) (vs := eqPairSL_vars) (out := 0) (body := loopAt Tryd.f30 0) (mkEnv_ok (cons := [(74, eqPairL_con)]) ⟨eqPairL_ok, trivial⟩ []) eqPairSL_step eqPairSL_fuel (by exact trivial) eqPairSL_stepok

def eqPairS : List ((Int × Int)) × List ((Int × Int)) → Option (Bool) :=
fun x =>
  br ((↑x.1.length : Int) != (↑x.2.length : Int)) (some false)
    (ob (eqPairSL (x.1, x.2, false, (0 : Int))) fun r => br r.1 (some true) (some r.snd.snd.snd.1))
def eqPairS_con : Con := ⟨[.slice (.pair (i64) (i64)), .slice (.pair (i64) (i64))], [.d (.bool)], eqPairS⟩
theorem eqPairS_run (x : Dens [.slice (.pair (i64) (i64)), .slice (.pair (i64) (i64))]) : runFn (mkEnv [] [(eqPairSL_key, eqPairSL_L)]) Tryd.f30 [.slice (.pair (i64) (i64)), .slice (.pair (i64) (i64))] [.d (.bool)] x = eqPairS x := by kernel_rfl
theorem eqPairS_ok : eqPairS_con.ok Tryd.prog 30 := fn_ok (con := eqPairS_con) (mkEnv_ok (cons := []) trivial [(eqPairSL_key, eqPairSL_L)]) Tryd.func30 rfl (by kernel_rfl) (by exact ⟨eqPairSL_ok, trivial⟩) (fun x y h => (eqPairS_run x).trans h)

end Rx
end Go.Proofs.YtfapjkcmoefilaaDoor
