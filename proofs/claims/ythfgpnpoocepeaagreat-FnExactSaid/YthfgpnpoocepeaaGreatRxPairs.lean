/- What the functions of RxPairs come to, and their contracts. No conditions. -/
import Derived.Test.YthfgpnpoocepeaaGreatRxEnv
namespace Go.Proofs.YthfgpnpoocepeaaGreat
namespace Rx
open Go





def eqPairL : (Int × Int) × (Int × Int) → Option (Bool) :=
fun x => br (x.fst.1 != x.snd.1) (some false) (br (x.fst.2 != x.snd.2) (some false) (some true))
def eqPairL_con : Con := ⟨[.pair (i64) (i64), .pair (i64) (i64)], [.d (.bool)], eqPairL⟩
theorem eqPairL_run (x : Dens [.pair (i64) (i64), .pair (i64) (i64)]) : runFn (mkEnv [] []) Tryz.f109 [.pair (i64) (i64), .pair (i64) (i64)] [.d (.bool)] x = eqPairL x := by kernel_rfl
theorem eqPairL_ok : eqPairL_con.ok Tryz.prog 109 := fn_ok (con := eqPairL_con) (mkEnv_ok (cons := []) trivial []) Tryz.func109 rfl (by kernel_rfl) (by exact trivial) (fun x y h => (eqPairL_run x).trans h)

def eqPairSL_vars : Vars := [(0, .val (.slice (.pair (i64) (i64)))), (1, .val (.slice (.pair (i64) (i64)))), (4, .val (.bool)), (5, .val (i64))]
def eqPairSL_step : List ((Int × Int)) × List ((Int × Int)) × Bool × Int → Option (LRes × (List ((Int × Int)) × List ((Int × Int)) × Bool × Int)) :=
fun x =>
  br (decide (x.snd.snd.2 < (↑x.1.length : Int)))
    (ob (idx x.1 x.snd.snd.2) fun y =>
      ob (idx x.snd.1 x.snd.snd.2) fun y_1 =>
        ob (eqPairL ((y.1, y.2), y_1.1, y_1.2)) fun y =>
          br (!y) (some (LRes.ret, x.1, x.snd.1, false, x.snd.snd.2))
            (some (LRes.next, x.1, x.snd.1, x.snd.snd.1, IntKind.i64.wrap (x.snd.snd.2 + (1 : Int)))))
    (some (LRes.out, x.1, x.snd.1, x.snd.snd.1, x.snd.snd.2))
def eqPairSL_fuel : List ((Int × Int)) × List ((Int × Int)) × Bool × Int → Nat := fun s => (s.1.length - s.2.2.2.toNat) + 1
def eqPairSL : List ((Int × Int)) × List ((Int × Int)) × Bool × Int → Option (Bool × (List ((Int × Int)) × List ((Int × Int)) × Bool × Int)) := fun s => iter eqPairSL_step (eqPairSL_fuel s) s
def eqPairSL_L : LoopC := ⟨eqPairSL_vars, 0, .two eqPairSL⟩
noncomputable def eqPairSL_key : Nat := key (loopAt Tryz.f80 0)
theorem eqPairSL_stepok (x : eqPairSL_vars.den) : stepOf (mkEnv [(109, eqPairL_con)] []) Tryz.f80.ntmps eqPairSL_vars 0 (loopAt Tryz.f80 0) x = eqPairSL_step x := by kernel_rfl
theorem eqPairSL_ok : LoopOK Tryz.prog Tryz.f80.ntmps eqPairSL_L (loopAt Tryz.f80 0)   := iter_loop (n := Tryz.f80.ntmps) (vs := eqPairSL_vars) (out := 0) (body := loopAt Tryz.f80 0) (mkEnv_ok (cons := [(109, eqPairL_con)]) ⟨eqPairL_ok, trivial⟩ []) eqPairSL_step eqPairSL_fuel (by exact trivial) eqPairSL_stepok

def eqPairS : List ((Int × Int)) × List ((Int × Int)) → Option (Bool) :=
fun x =>
  br ((↑x.1.length : Int) != (↑x.2.length : Int)) (some false)
    (ob (eqPairSL (x.1, x.2, false, (0 : Int))) fun r => br r.1 (some true) (some r.snd.snd.snd.1))
def eqPairS_con : Con := ⟨[.slice (.pair (i64) (i64)), .slice (.pair (i64) (i64))], [.d (.bool)], eqPairS⟩
theorem eqPairS_run (x : Dens [.slice (.pair (i64) (i64)), .slice (.pair (i64) (i64))]) : runFn (mkEnv [] [(eqPairSL_key, eqPairSL_L)]) Tryz.f80 [.slice (.pair (i64) (i64)), .slice (.pair (i64) (i64))] [.d (.bool)] x = eqPairS x := by kernel_rfl
theorem eqPairS_ok : eqPairS_con.ok Tryz.prog 80 := fn_ok (con := eqPairS_con) (mkEnv_ok (cons := []) trivial [(eqPairSL_key, eqPairSL_L)]) Tryz.func80 rfl (by kernel_rfl) (by exact ⟨eqPairSL_ok, trivial⟩) (fun x y h => (eqPairS_run x).trans h)

end Rx
end Go.Proofs.YthfgpnpoocepeaaGreat
