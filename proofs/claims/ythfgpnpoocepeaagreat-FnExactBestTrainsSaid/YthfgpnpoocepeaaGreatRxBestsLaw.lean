/- What the functions of RxBests come to, and their contracts. No conditions. -/
import Derived.Test.YthfgpnpoocepeaaGreatRxEnv
import Derived.Test.YthfgpnpoocepeaaGreatRxBest
import Derived.Test.YthfgpnpoocepeaaGreatRxSearchS
import Derived.Test.YthfgpnpoocepeaaGreatRxPMark
import Derived.Test.YthfgpnpoocepeaaGreatRxBestBoth
import Derived.Test.YthfgpnpoocepeaaGreatRxPMarkLaw
namespace Go.Proofs.YthfgpnpoocepeaaGreat
namespace Rx
open Go

noncomputable section
def bestsIL_vars : Vars := [(2, .box 0 27 (.pair (i64) (i64))), (3, .box 0 25 (.pair (i64) (.pair (i64) (.pair (i64) (.pair (i64) (i64)))))), (7, .deep 0 42 (.pair (.row 64 (.pair (i64) (i64))) (.d (.pair (i64) (i64))))), (8, .val (i64))]
def bestsIL_rv : Vars := [(4, .deep 0 42 (.pair (.row 64 (.pair (i64) (i64))) (.d (.pair (i64) (i64))))), (5, .val (i64))]
def bestsIL_step : (Int × Int) × (Int × Int × Int × Int × Int) × List ((List ((Int × Int)) × (Int × Int))) × Int → Option (LS ((Int × Int) × (Int × Int × Int × Int × Int) × List ((List ((Int × Int)) × (Int × Int))) × Int) (List ((List ((Int × Int)) × (Int × Int))) × Int)) :=
fun x =>
  br (decide (x.snd.snd.2 ≤ x.snd.fst.snd.snd.snd.2))
    (ob
      (bestTI
        ((x.fst.1, x.fst.2), x.snd.fst.1, x.snd.fst.snd.1, x.snd.fst.snd.snd.1, x.snd.fst.snd.snd.snd.1, x.snd.snd.2))
      fun y =>
      br (y.2 != (0 : Int)) (some (LS.ret ([], y.2)))
        (br (decide (List.length x.snd.snd.1 + [(y.fst.1, y.fst.snd.1, y.fst.snd.2)].length ≤ (4294967296 : Nat)))
          (some
            (LS.next
              ((x.fst.1, x.fst.2),
                (x.snd.fst.1, x.snd.fst.snd.1, x.snd.fst.snd.snd.1, x.snd.fst.snd.snd.snd.1, x.snd.fst.snd.snd.snd.2),
                x.snd.snd.1 ++ [(y.fst.1, y.fst.snd.1, y.fst.snd.2)], IntKind.i64.wrap (x.snd.snd.2 + (1 : Int)))))
          none))
    (some
      (LS.out
        ((x.fst.1, x.fst.2),
          (x.snd.fst.1, x.snd.fst.snd.1, x.snd.fst.snd.snd.1, x.snd.fst.snd.snd.snd.1, x.snd.fst.snd.snd.snd.2),
          x.snd.snd.1, x.snd.snd.2)))
def bestsIL_fuel : (Int × Int) × (Int × Int × Int × Int × Int) × List ((List ((Int × Int)) × (Int × Int))) × Int → Nat := fun s => (s.2.1.2.2.2.2 + 1 - s.2.2.2).toNat + 1
def bestsIL : (Int × Int) × (Int × Int × Int × Int × Int) × List ((List ((Int × Int)) × (Int × Int))) × Int → Option (Sum ((Int × Int) × (Int × Int × Int × Int × Int) × List ((List ((Int × Int)) × (Int × Int))) × Int) (List ((List ((Int × Int)) × (Int × Int))) × Int)) := fun s => iterA bestsIL_step (bestsIL_fuel s) s
def bestsIL_L : LoopC := ⟨bestsIL_vars, 0, .alt bestsIL_rv bestsIL⟩
noncomputable def bestsIL_key : Nat := key (loopAt Tryz.f17 0)
theorem bestsIL_stepok (x : bestsIL_vars.den) : stepOfA (deepE [(42, .pair (.row 64 (.pair (i64) (i64))) (.d (.pair (i64) (i64))))] (mkEnv [(13, bestTI_con)] [])) Tryz.f17.ntmps bestsIL_vars bestsIL_rv 0 (loopAt Tryz.f17 0) x = bestsIL_step x := by kernel_rfl
theorem bestsIL_ok : LoopOK Tryz.prog Tryz.f17.ntmps bestsIL_L (loopAt Tryz.f17 0)   := iterA_loop (n := Tryz.f17.ntmps) (vs := bestsIL_vars) (rv := bestsIL_rv) (out := 0) (body := loopAt Tryz.f17 0) (deepE_ok (d := [(42, .pair (.row 64 (.pair (i64) (i64))) (.d (.pair (i64) (i64))))]) (mkEnv_ok (cons := [(13, bestTI_con)]) ⟨bestTI_ok, trivial⟩ [])) bestsIL_step bestsIL_fuel (by exact trivial) bestsIL_stepok

def bestsI : (Int × Int) × (Int × Int × Int × Int × Int) → Option (List ((List ((Int × Int)) × (Int × Int))) × Int) :=
fun x =>
  ob (askI ((x.fst.1, x.fst.2), x.snd.1, x.snd.snd.1, x.snd.snd.snd.1, x.snd.snd.snd.snd.1, x.snd.snd.snd.snd.2))
    fun y =>
    br (y != (0 : Int)) (some ([], y))
      (ob
        (bestsIL
          ((x.fst.1, x.fst.2), (x.snd.1, x.snd.snd.1, x.snd.snd.snd.1, x.snd.snd.snd.snd.1, x.snd.snd.snd.snd.2), [],
            (1 : Int)))
        fun r => el r (fun r => some (r.snd.snd.1, (0 : Int))) fun r => some (r.1, r.2))
def bestsI_con : Con := ⟨[.pair (i64) (i64), .pair (i64) (.pair (i64) (.pair (i64) (.pair (i64) (i64))))], [.deep 42 (.pair (.row 64 (.pair (i64) (i64))) (.d (.pair (i64) (i64)))), .d (i64)], bestsI⟩
theorem bestsI_run (x : Dens [.pair (i64) (i64), .pair (i64) (.pair (i64) (.pair (i64) (.pair (i64) (i64))))]) : runFn (deepE [(42, .pair (.row 64 (.pair (i64) (i64))) (.d (.pair (i64) (i64))))] (mkEnv [(27, askI_con), (13, bestTI_con)] [(bestsIL_key, bestsIL_L)])) Tryz.f17 [.pair (i64) (i64), .pair (i64) (.pair (i64) (.pair (i64) (.pair (i64) (i64))))] [.deep 42 (.pair (.row 64 (.pair (i64) (i64))) (.d (.pair (i64) (i64)))), .d (i64)] x = bestsI x := by kernel_rfl
theorem bestsI_ok : bestsI_con.ok Tryz.prog 17 := fn_ok (con := bestsI_con) (deepE_ok (d := [(42, .pair (.row 64 (.pair (i64) (i64))) (.d (.pair (i64) (i64))))]) (mkEnv_ok (cons := [(27, askI_con), (13, bestTI_con)]) ⟨askI_ok, bestTI_ok, trivial⟩ [(bestsIL_key, bestsIL_L)])) Tryz.func17 rfl (by kernel_rfl) (by exact ⟨bestsIL_ok, trivial⟩) (fun x y h => (bestsI_run x).trans h)

end
end Rx
end Go.Proofs.YthfgpnpoocepeaaGreat

namespace Go.Proofs.YthfgpnpoocepeaaGreat
namespace Rx
open Go

noncomputable section
def bestsSL_vars : Vars := [(2, .box 0 27 (.pair (i64) (i64))), (3, .box 0 25 (.pair (i64) (.pair (i64) (.pair (i64) (.pair (i64) (i64)))))), (6, .row 0 42 (.pair (.slice (.pair (i64) (i64))) (.pair (i64) (i64)))), (7, .val (i64))]
def bestsSL_rv : Vars := [(4, .row 0 42 (.pair (.slice (.pair (i64) (i64))) (.pair (i64) (i64)))), (5, .val (i64))]
def bestsSL_step : (Int × Int) × (Int × Int × Int × Int × Int) × List ((List ((Int × Int)) × (Int × Int))) × Int → Option (LS ((Int × Int) × (Int × Int × Int × Int × Int) × List ((List ((Int × Int)) × (Int × Int))) × Int) (List ((List ((Int × Int)) × (Int × Int))) × Int)) :=
fun x =>
  br (decide (x.snd.snd.2 ≤ x.snd.fst.snd.snd.snd.2))
    (ob
      (findS
        ((x.fst.1, x.fst.2), x.snd.fst.1, x.snd.fst.snd.1, x.snd.fst.snd.snd.1, x.snd.fst.snd.snd.snd.1, x.snd.snd.2))
      fun y =>
      br (y.2 != (0 : Int)) (some (LS.ret ([], y.2)))
        (br (decide (List.length x.snd.snd.1 + [(y.fst.1, y.fst.snd.1, y.fst.snd.2)].length ≤ (4294967296 : Nat)))
          (some
            (LS.next
              ((x.fst.1, x.fst.2),
                (x.snd.fst.1, x.snd.fst.snd.1, x.snd.fst.snd.snd.1, x.snd.fst.snd.snd.snd.1, x.snd.fst.snd.snd.snd.2),
                x.snd.snd.1 ++ [(y.fst.1, y.fst.snd.1, y.fst.snd.2)], IntKind.i64.wrap (x.snd.snd.2 + (1 : Int)))))
          none))
    (some
      (LS.out
        ((x.fst.1, x.fst.2),
          (x.snd.fst.1, x.snd.fst.snd.1, x.snd.fst.snd.snd.1, x.snd.fst.snd.snd.snd.1, x.snd.fst.snd.snd.snd.2),
          x.snd.snd.1, x.snd.snd.2)))
def bestsSL_fuel : (Int × Int) × (Int × Int × Int × Int × Int) × List ((List ((Int × Int)) × (Int × Int))) × Int → Nat := fun s => (s.2.1.2.2.2.2 + 1 - s.2.2.2).toNat + 1
def bestsSL : (Int × Int) × (Int × Int × Int × Int × Int) × List ((List ((Int × Int)) × (Int × Int))) × Int → Option (Sum ((Int × Int) × (Int × Int × Int × Int × Int) × List ((List ((Int × Int)) × (Int × Int))) × Int) (List ((List ((Int × Int)) × (Int × Int))) × Int)) := fun s => iterA bestsSL_step (bestsSL_fuel s) s
def bestsSL_L : LoopC := ⟨bestsSL_vars, 0, .alt bestsSL_rv bestsSL⟩
noncomputable def bestsSL_key : Nat := key (loopAt Tryz.f14 0)
theorem bestsSL_stepok (x : bestsSL_vars.den) : stepOfA (mkEnv [(42, findS_con)] []) Tryz.f14.ntmps bestsSL_vars bestsSL_rv 0 (loopAt Tryz.f14 0) x = bestsSL_step x := by kernel_rfl
theorem bestsSL_ok : LoopOK Tryz.prog Tryz.f14.ntmps bestsSL_L (loopAt Tryz.f14 0)   := iterA_loop (n := Tryz.f14.ntmps) (vs := bestsSL_vars) (rv := bestsSL_rv) (out := 0) (body := loopAt Tryz.f14 0) (mkEnv_ok (cons := [(42, findS_con)]) ⟨findS_ok, trivial⟩ []) bestsSL_step bestsSL_fuel (by exact trivial) bestsSL_stepok

def bestsS : (Int × Int) × (Int × Int × Int × Int × Int) → Option (List ((List ((Int × Int)) × (Int × Int))) × Int) :=
fun x =>
  ob (okRatS (x.fst.1, x.fst.2)) fun y =>
    br (!y) (some ([], (1 : Int)))
      (ob (okLimS (x.snd.1, x.snd.snd.1, x.snd.snd.snd.1, x.snd.snd.snd.snd.1, x.snd.snd.snd.snd.2)) fun y =>
        br (!y) (some ([], (1 : Int)))
          (ob (askS (x.fst.1, x.fst.2)) fun y =>
            br (!y) (some ([], (2 : Int)))
              (ob
                (bestsSL
                  ((x.fst.1, x.fst.2),
                    (x.snd.1, x.snd.snd.1, x.snd.snd.snd.1, x.snd.snd.snd.snd.1, x.snd.snd.snd.snd.2), [], (1 : Int)))
                fun r => el r (fun r => some (r.snd.snd.1, (0 : Int))) fun r => some (r.1, r.2))))
def bestsS_con : Con := ⟨[.pair (i64) (i64), .pair (i64) (.pair (i64) (.pair (i64) (.pair (i64) (i64))))], [.row 42 (.pair (.slice (.pair (i64) (i64))) (.pair (i64) (i64))), .d (i64)], bestsS⟩
theorem bestsS_run (x : Dens [.pair (i64) (i64), .pair (i64) (.pair (i64) (.pair (i64) (.pair (i64) (i64))))]) : runFn (mkEnv [(24, okRatS_con), (37, okLimS_con), (25, askS_con), (42, findS_con)] [(bestsSL_key, bestsSL_L)]) Tryz.f14 [.pair (i64) (i64), .pair (i64) (.pair (i64) (.pair (i64) (.pair (i64) (i64))))] [.row 42 (.pair (.slice (.pair (i64) (i64))) (.pair (i64) (i64))), .d (i64)] x = bestsS x := by kernel_rfl
theorem bestsS_ok : bestsS_con.ok Tryz.prog 14 := fn_ok (con := bestsS_con) (mkEnv_ok (cons := [(24, okRatS_con), (37, okLimS_con), (25, askS_con), (42, findS_con)]) ⟨okRatS_ok, okLimS_ok, askS_ok, findS_ok, trivial⟩ [(bestsSL_key, bestsSL_L)]) Tryz.func14 rfl (by kernel_rfl) (by exact ⟨bestsSL_ok, trivial⟩) (fun x y h => (bestsS_run x).trans h)

end
end Rx
end Go.Proofs.YthfgpnpoocepeaaGreat

namespace Go.Proofs.YthfgpnpoocepeaaGreat
namespace Rx
open Go

noncomputable section
def eqFoundZ : (List ((Int × Int)) × (Int × Int)) × (List ((Int × Int)) × (Int × Int)) → Option (Bool) :=
fun x =>
  ob (eqPairS (x.fst.1, x.snd.1)) fun y =>
    br (!y) (some false)
      (ob (eqRatLT ((x.fst.snd.1, x.fst.snd.2), x.snd.snd.1, x.snd.snd.2)) fun y => br (!y) (some false) (some true))
def eqFoundZ_con : Con := ⟨[.pair (.slice (.pair (i64) (i64))) (.pair (i64) (i64)), .pair (.slice (.pair (i64) (i64))) (.pair (i64) (i64))], [.d (.bool)], eqFoundZ⟩
theorem eqFoundZ_run (x : Dens [.pair (.slice (.pair (i64) (i64))) (.pair (i64) (i64)), .pair (.slice (.pair (i64) (i64))) (.pair (i64) (i64))]) : runFn (mkEnv [(80, eqPairS_con), (81, eqRatLT_con)] []) Tryz.f43 [.pair (.slice (.pair (i64) (i64))) (.pair (i64) (i64)), .pair (.slice (.pair (i64) (i64))) (.pair (i64) (i64))] [.d (.bool)] x = eqFoundZ x := by kernel_rfl
theorem eqFoundZ_ok : eqFoundZ_con.ok Tryz.prog 43 := fn_ok (con := eqFoundZ_con) (mkEnv_ok (cons := [(80, eqPairS_con), (81, eqRatLT_con)]) ⟨eqPairS_ok, eqRatLT_ok, trivial⟩ []) Tryz.func43 rfl (by kernel_rfl) (by exact trivial) (fun x y h => (eqFoundZ_run x).trans h)

def eqFoundSL_vars : Vars := [(0, .val (.slice (.pair (.slice (.pair (i64) (i64))) (.pair (i64) (i64))))), (1, .val (.slice (.pair (.slice (.pair (i64) (i64))) (.pair (i64) (i64))))), (4, .val (.bool)), (5, .val (i64))]
def eqFoundSL_step : List ((List ((Int × Int)) × (Int × Int))) × List ((List ((Int × Int)) × (Int × Int))) × Bool × Int → Option (LRes × (List ((List ((Int × Int)) × (Int × Int))) × List ((List ((Int × Int)) × (Int × Int))) × Bool × Int)) :=
fun x =>
  br (decide (x.snd.snd.2 < (↑x.1.length : Int)))
    (ob (idx x.1 x.snd.snd.2) fun y =>
      ob (idx x.snd.1 x.snd.snd.2) fun y_1 =>
        ob (eqFoundZ ((y.1, y.snd.1, y.snd.2), y_1.1, y_1.snd.1, y_1.snd.2)) fun y =>
          br (!y) (some (LRes.ret, x.1, x.snd.1, false, x.snd.snd.2))
            (some (LRes.next, x.1, x.snd.1, x.snd.snd.1, IntKind.i64.wrap (x.snd.snd.2 + (1 : Int)))))
    (some (LRes.out, x.1, x.snd.1, x.snd.snd.1, x.snd.snd.2))
def eqFoundSL_fuel : List ((List ((Int × Int)) × (Int × Int))) × List ((List ((Int × Int)) × (Int × Int))) × Bool × Int → Nat := fun s => (s.1.length - s.2.2.2.toNat) + 1
def eqFoundSL : List ((List ((Int × Int)) × (Int × Int))) × List ((List ((Int × Int)) × (Int × Int))) × Bool × Int → Option (Bool × (List ((List ((Int × Int)) × (Int × Int))) × List ((List ((Int × Int)) × (Int × Int))) × Bool × Int)) := fun s => iter eqFoundSL_step (eqFoundSL_fuel s) s
def eqFoundSL_L : LoopC := ⟨eqFoundSL_vars, 0, .two eqFoundSL⟩
noncomputable def eqFoundSL_key : Nat := key (loopAt Tryz.f18 0)
theorem eqFoundSL_stepok (x : eqFoundSL_vars.den) : stepOf (mkEnv [(43, eqFoundZ_con)] []) Tryz.f18.ntmps eqFoundSL_vars 0 (loopAt Tryz.f18 0) x = eqFoundSL_step x := by kernel_rfl
theorem eqFoundSL_ok : LoopOK Tryz.prog Tryz.f18.ntmps eqFoundSL_L (loopAt Tryz.f18 0)   := iter_loop (n := Tryz.f18.ntmps) (vs := eqFoundSL_vars) (out := 0) (body := loopAt Tryz.f18 0) (mkEnv_ok (cons := [(43, eqFoundZ_con)]) ⟨eqFoundZ_ok, trivial⟩ []) eqFoundSL_step eqFoundSL_fuel (by exact trivial) eqFoundSL_stepok

def eqFoundSZ : List ((List ((Int × Int)) × (Int × Int))) × List ((List ((Int × Int)) × (Int × Int))) → Option (Bool) :=
fun x =>
  br ((↑x.1.length : Int) != (↑x.2.length : Int)) (some false)
    (ob (eqFoundSL (x.1, x.2, false, (0 : Int))) fun r => br r.1 (some true) (some r.snd.snd.snd.1))
def eqFoundSZ_con : Con := ⟨[.slice (.pair (.slice (.pair (i64) (i64))) (.pair (i64) (i64))), .slice (.pair (.slice (.pair (i64) (i64))) (.pair (i64) (i64)))], [.d (.bool)], eqFoundSZ⟩
theorem eqFoundSZ_run (x : Dens [.slice (.pair (.slice (.pair (i64) (i64))) (.pair (i64) (i64))), .slice (.pair (.slice (.pair (i64) (i64))) (.pair (i64) (i64)))]) : runFn (mkEnv [] [(eqFoundSL_key, eqFoundSL_L)]) Tryz.f18 [.slice (.pair (.slice (.pair (i64) (i64))) (.pair (i64) (i64))), .slice (.pair (.slice (.pair (i64) (i64))) (.pair (i64) (i64)))] [.d (.bool)] x = eqFoundSZ x := by kernel_rfl
theorem eqFoundSZ_ok : eqFoundSZ_con.ok Tryz.prog 18 := fn_ok (con := eqFoundSZ_con) (mkEnv_ok (cons := []) trivial [(eqFoundSL_key, eqFoundSL_L)]) Tryz.func18 rfl (by kernel_rfl) (by exact ⟨eqFoundSL_ok, trivial⟩) (fun x y h => (eqFoundSZ_run x).trans h)

def markFoundSL_vars : Vars := [(0, .deep 2 42 (.pair (.row 64 (.pair (i64) (i64))) (.d (.pair (i64) (i64))))), (1, .val (i64)), (5, .val (i64))]
def markFoundSL_step : List ((List ((Int × Int)) × (Int × Int))) × Int × Int → Option (LRes × (List ((List ((Int × Int)) × (Int × Int))) × Int × Int)) :=
fun x =>
  br (decide (x.snd.2 < (↑x.1.length : Int)))
    (ob (idx x.1 x.snd.2) fun x_1 =>
      ob (x.1.get?Internal (Int.toNat x.snd.2)) fun x_2 =>
        ob (markPairX (x_2.1, x.snd.1)) fun y =>
          ob (idx x.1 x.snd.2) fun x_3 =>
            br (decide (Int.toNat x.snd.2 = Int.toNat x.snd.2))
              (ob (idx x.1 x.snd.2) fun x_4 =>
                br (decide (Int.toNat x.snd.2 = Int.toNat x.snd.2))
                  (some
                    (LRes.next, x.1.set (Int.toNat x.snd.2) (y.snd.1, y.1, IntKind.i64.wrap (y.1 + (1 : Int))),
                      IntKind.i64.wrap (IntKind.i64.wrap (y.1 + (1 : Int)) + (1 : Int)),
                      IntKind.i64.wrap (x.snd.2 + (1 : Int))))
                  none)
              none)
    (some (LRes.out, x.1, x.snd.1, x.snd.2))
def markFoundSL_fuel : List ((List ((Int × Int)) × (Int × Int))) × Int × Int → Nat := fun s => (s.1.length - s.2.2.toNat) + 1
def markFoundSL : List ((List ((Int × Int)) × (Int × Int))) × Int × Int → Option (List ((List ((Int × Int)) × (Int × Int))) × Int × Int) := fun s => iterP markFoundSL_step (markFoundSL_fuel s) s
def markFoundSL_L : LoopC := ⟨markFoundSL_vars, 0, .plain markFoundSL⟩
noncomputable def markFoundSL_key : Nat := key (loopAt Tryz.f19 0)
theorem markFoundSL_stepok (x : markFoundSL_vars.den) : stepOf (deepE [(42, .pair (.row 64 (.pair (i64) (i64))) (.d (.pair (i64) (i64))))] (mkEnvM [] [(44, markPairX_con)] [])) Tryz.f19.ntmps markFoundSL_vars 0 (loopAt Tryz.f19 0) x = markFoundSL_step x := by kernel_rfl
theorem markFoundSL_ok : LoopOK Tryz.prog Tryz.f19.ntmps markFoundSL_L (loopAt Tryz.f19 0)   := iterP_loop (n := Tryz.f19.ntmps) (vs := markFoundSL_vars) (out := 0) (body := loopAt Tryz.f19 0) (deepE_ok (d := [(42, .pair (.row 64 (.pair (i64) (i64))) (.d (.pair (i64) (i64))))]) (mkEnvM_ok (cons := []) (mcons := [(44, markPairX_con)]) trivial ⟨markPairX_ok, trivial⟩ [])) markFoundSL_step markFoundSL_fuel (by exact trivial) markFoundSL_stepok

def markFoundZ : List ((List ((Int × Int)) × (Int × Int))) × Int → Option ((Int) × (List ((List ((Int × Int)) × (Int × Int))) × Int)) :=
fun x => ob (markFoundSL (x.1, x.2, (0 : Int))) fun r => some (r.snd.1, r.1, x.2)
def markFoundZ_con : MCon := ⟨[.v (.deep 42 (.pair (.row 64 (.pair (i64) (i64))) (.d (.pair (i64) (i64))))), .v (.d (i64))], [.d (i64)], markFoundZ⟩
theorem markFoundZ_run (x : ADens [.v (.deep 42 (.pair (.row 64 (.pair (i64) (i64))) (.d (.pair (i64) (i64))))), .v (.d (i64))]) : runFnM (deepE [(42, .pair (.row 64 (.pair (i64) (i64))) (.d (.pair (i64) (i64))))] (mkEnvM [] [(44, markPairX_con)] [(markFoundSL_key, markFoundSL_L)])) Tryz.f19 [.v (.deep 42 (.pair (.row 64 (.pair (i64) (i64))) (.d (.pair (i64) (i64))))), .v (.d (i64))] [.d (i64)] x = markFoundZ x := by kernel_rfl
theorem markFoundZ_ok : markFoundZ_con.ok Tryz.prog 19 := fnM_ok (con := markFoundZ_con) (deepE_ok (d := [(42, .pair (.row 64 (.pair (i64) (i64))) (.d (.pair (i64) (i64))))]) (mkEnvM_ok (cons := []) (mcons := [(44, markPairX_con)]) trivial ⟨markPairX_ok, trivial⟩ [(markFoundSL_key, markFoundSL_L)])) Tryz.func19 rfl (by kernel_rfl) (by exact ⟨markFoundSL_ok, trivial⟩) (fun x y h => (markFoundZ_run x).trans h)

def heldFoundSL_vars : Vars := [(0, .val (.slice (.pair (.slice (.pair (i64) (i64))) (.pair (i64) (i64))))), (1, .val (i64)), (4, .val (i64)), (5, .val (i64))]
def heldFoundSL_step : List ((List ((Int × Int)) × (Int × Int))) × Int × Int × Int → Option (LRes × (List ((List ((Int × Int)) × (Int × Int))) × Int × Int × Int)) :=
fun x =>
  br (decide (x.snd.snd.2 < (↑x.1.length : Int)))
    (ob (idx x.1 x.snd.snd.2) fun y =>
      ob (heldPairX (y.1, x.snd.1)) fun y =>
        br (decide (y < (0 : Int))) (some (LRes.ret, x.1, y, (-1 : Int), x.snd.snd.2))
          (ob (idx x.1 x.snd.snd.2) fun y_1 =>
            br (y_1.snd.1 != y) (some (LRes.ret, x.1, y, (-1 : Int), x.snd.snd.2))
              (ob (idx x.1 x.snd.snd.2) fun y_2 =>
                br (y_2.snd.2 != IntKind.i64.wrap (y + (1 : Int)))
                  (some (LRes.ret, x.1, IntKind.i64.wrap (y + (1 : Int)), (-1 : Int), x.snd.snd.2))
                  (some
                    (LRes.next, x.1, IntKind.i64.wrap (IntKind.i64.wrap (y + (1 : Int)) + (1 : Int)), x.snd.snd.1,
                      IntKind.i64.wrap (x.snd.snd.2 + (1 : Int)))))))
    (some (LRes.out, x.1, x.snd.1, x.snd.snd.1, x.snd.snd.2))
def heldFoundSL_fuel : List ((List ((Int × Int)) × (Int × Int))) × Int × Int × Int → Nat := fun s => (s.1.length - s.2.2.2.toNat) + 1
def heldFoundSL : List ((List ((Int × Int)) × (Int × Int))) × Int × Int × Int → Option (Bool × (List ((List ((Int × Int)) × (Int × Int))) × Int × Int × Int)) := fun s => iter heldFoundSL_step (heldFoundSL_fuel s) s
def heldFoundSL_L : LoopC := ⟨heldFoundSL_vars, 0, .two heldFoundSL⟩
noncomputable def heldFoundSL_key : Nat := key (loopAt Tryz.f20 0)
theorem heldFoundSL_stepok (x : heldFoundSL_vars.den) : stepOf (mkEnv [(45, heldPairX_con)] []) Tryz.f20.ntmps heldFoundSL_vars 0 (loopAt Tryz.f20 0) x = heldFoundSL_step x := by kernel_rfl
theorem heldFoundSL_ok : LoopOK Tryz.prog Tryz.f20.ntmps heldFoundSL_L (loopAt Tryz.f20 0)   := iter_loop (n := Tryz.f20.ntmps) (vs := heldFoundSL_vars) (out := 0) (body := loopAt Tryz.f20 0) (mkEnv_ok (cons := [(45, heldPairX_con)]) ⟨heldPairX_ok, trivial⟩ []) heldFoundSL_step heldFoundSL_fuel (by exact trivial) heldFoundSL_stepok

def heldFoundZ : List ((List ((Int × Int)) × (Int × Int))) × Int → Option (Int) :=
fun x => ob (heldFoundSL (x.1, x.2, (0 : Int), (0 : Int))) fun r => br r.1 (some r.snd.snd.1) (some r.snd.snd.snd.1)
def heldFoundZ_con : Con := ⟨[.slice (.pair (.slice (.pair (i64) (i64))) (.pair (i64) (i64))), i64], [.d (i64)], heldFoundZ⟩
theorem heldFoundZ_run (x : Dens [.slice (.pair (.slice (.pair (i64) (i64))) (.pair (i64) (i64))), i64]) : runFn (mkEnv [(45, heldPairX_con)] [(heldFoundSL_key, heldFoundSL_L)]) Tryz.f20 [.slice (.pair (.slice (.pair (i64) (i64))) (.pair (i64) (i64))), i64] [.d (i64)] x = heldFoundZ x := by kernel_rfl
theorem heldFoundZ_ok : heldFoundZ_con.ok Tryz.prog 20 := fn_ok (con := heldFoundZ_con) (mkEnv_ok (cons := [(45, heldPairX_con)]) ⟨heldPairX_ok, trivial⟩ [(heldFoundSL_key, heldFoundSL_L)]) Tryz.func20 rfl (by kernel_rfl) (by exact ⟨heldFoundSL_ok, trivial⟩) (fun x y h => (heldFoundZ_run x).trans h)

def lawBeTrs : (Int × Int) × (Int × Int × Int × Int × Int) → Option (Bool) :=
fun x =>
  ob (toRatLT (x.fst.1, x.fst.2)) fun y =>
    ob (toLimL (x.snd.1, x.snd.snd.1, x.snd.snd.snd.1, x.snd.snd.snd.snd.1, x.snd.snd.snd.snd.2)) fun y_1 =>
      ob (bestsS ((y.1, y.2), y_1.1, y_1.snd.1, y_1.snd.snd.1, y_1.snd.snd.snd.1, y_1.snd.snd.snd.2)) fun y =>
        ob (toRatLT (x.fst.1, x.fst.2)) fun y_2 =>
          ob (toLimL (x.snd.1, x.snd.snd.1, x.snd.snd.snd.1, x.snd.snd.snd.snd.1, x.snd.snd.snd.snd.2)) fun y_3 =>
            ob (bestsI ((y_2.1, y_2.2), y_3.1, y_3.snd.1, y_3.snd.snd.1, y_3.snd.snd.snd.1, y_3.snd.snd.snd.2))
              fun y_4 =>
              ob (eqFoundSZ (y_4.1, y.1)) fun y_5 =>
                br (!y_5) (some false)
                  (br (y_4.2 != y.2) (some false)
                    (ob (markFoundZ (y_4.1, (1 : Int))) fun y_6 =>
                      ob (heldFoundZ (y_6.snd.1, (1 : Int))) fun y_7 =>
                        br (decide (y_7 < (0 : Int))) (some false)
                          (br (y_7 != y_6.1) (some false)
                            (ob (toRatLT (x.fst.1, x.fst.2)) fun y_8 =>
                              ob
                                (toLimL
                                  (x.snd.1, x.snd.snd.1, x.snd.snd.snd.1, x.snd.snd.snd.snd.1, x.snd.snd.snd.snd.2))
                                fun y_9 =>
                                ob
                                  (bestsI
                                    ((y_8.1, y_8.2), y_9.1, y_9.snd.1, y_9.snd.snd.1, y_9.snd.snd.snd.1,
                                      y_9.snd.snd.snd.2))
                                  fun y_10 =>
                                  ob (eqFoundSZ (y_10.1, y.1)) fun y_11 =>
                                    br (!y_11) (some false)
                                      (br (y_10.2 != y.2) (some false)
                                        (ob (heldFoundZ (y_6.snd.1, (1 : Int))) fun y =>
                                          br (decide (y < (0 : Int))) (some false)
                                            (br (y != y_6.1) (some false) (some true))))))))
def lawBeTrs_con : Con := ⟨[.pair (i64) (i64), .pair (i64) (.pair (i64) (.pair (i64) (.pair (i64) (i64))))], [.d (.bool)], lawBeTrs⟩
theorem lawBeTrs_run (x : Dens [.pair (i64) (i64), .pair (i64) (.pair (i64) (.pair (i64) (.pair (i64) (i64))))]) : runFn (deepE [(42, .pair (.row 64 (.pair (i64) (i64))) (.d (.pair (i64) (i64))))] (mkEnvM [(15, toRatLT_con), (16, toLimL_con), (14, bestsS_con), (17, bestsI_con), (18, eqFoundSZ_con), (20, heldFoundZ_con)] [(19, markFoundZ_con)] [])) Tryz.f4 [.pair (i64) (i64), .pair (i64) (.pair (i64) (.pair (i64) (.pair (i64) (i64))))] [.d (.bool)] x = lawBeTrs x := by kernel_rfl
theorem lawBeTrs_ok : lawBeTrs_con.ok Tryz.prog 4 := fn_ok (con := lawBeTrs_con) (deepE_ok (d := [(42, .pair (.row 64 (.pair (i64) (i64))) (.d (.pair (i64) (i64))))]) (mkEnvM_ok (cons := [(15, toRatLT_con), (16, toLimL_con), (14, bestsS_con), (17, bestsI_con), (18, eqFoundSZ_con), (20, heldFoundZ_con)]) (mcons := [(19, markFoundZ_con)]) ⟨toRatLT_ok, toLimL_ok, bestsS_ok, bestsI_ok, eqFoundSZ_ok, heldFoundZ_ok, trivial⟩ ⟨markFoundZ_ok, trivial⟩ [])) Tryz.func4 rfl (by kernel_rfl) (by exact trivial) (fun x y h => (lawBeTrs_run x).trans h)

end
end Rx
end Go.Proofs.YthfgpnpoocepeaaGreat

namespace Go.Proofs.YthfgpnpoocepeaaGreat
namespace Rx
open Go

noncomputable section
section
variable {r : Int × Int} {x : Int × Int × Int × Int × Int}
theorem askI_asked (h : Asked r x) (hv : vR r = true) : askI (r, x) = some 0 := by
  obtain ⟨v, e, hl⟩ := validLim_eq x
  have hv2 : v = true := hl.2 h.lim
  subst hv2
  have hb : askB r = true := by
    unfold askB
    have := h.n1; have := h.n2; have := h.d2
    simp; omega
  rw [askI_eq r e]
  unfold codeA
  rw [hv, hb]
  rfl
theorem find_both (h : Asked r x) (hv : vR r = true) : ∃ (y : List (Int × Int) × Int × Int) (c : Int), bestTI (r, x) = some (y, c) ∧ findS (r, x) = some (y, c) ∧ y.1.length ≤ 3 := by
  obtain ⟨t, e1, i1⟩ := bestI_eq h
  obtain ⟨t', e2, i2⟩ := searchS_law h
  obtain rfl := best_one i1 i2
  have hl := best_len h.lim i1
  have := h.lim.stg
  obtain ⟨v, e3, e4⟩ := error_both (l := t) (by omega) r
  have eI : bestTI (r, x) = br (v.2 != 0) (some (([], 0, 0), v.2)) (some ((t, v.1.1, v.1.2), 0)) := by
    show ob (askI (r, x)) _ = _
    rw [askI_asked h hv, ob_s, br_f (by simp)]
    show ob (bestI (r, x)) _ = _
    rw [e1, ob_s]
    show ob (errorI (t, r)) _ = _
    rw [e3, ob_s]
  have eS : findS (r, x) = br (v.2 != 0) (some (([], 0, 0), v.2)) (some ((t, v.1.1, v.1.2), 0)) := by
    show ob (searchS (r, x)) _ = _
    rw [e2, ob_s]
    show ob (errorS (t, r)) _ = _
    rw [e4, ob_s]
  rw [eI, eS]
  cases v.2 != 0 with
  | true => exact ⟨_, _, rfl, rfl, by simp⟩
  | false => exact ⟨_, _, rfl, rfl, by show t.length ≤ 3; omega⟩
def xs (x : Int × Int × Int × Int × Int) (k : Nat) : Int × Int × Int × Int × Int := (x.1, x.2.1, x.2.2.1, x.2.2.2.1, (k : Int))
theorem xs_lim (hx : LimOk x) {k : Nat} (h1 : 1 ≤ k) (h2 : k ≤ stg x) : LimOk (xs x k) := by
  obtain ⟨hs, hs3, hs1⟩ := hx.stg
  exact ⟨hx.a1, hx.a2, hx.a3, hx.a4, hx.b1, hx.b2, hx.b3, hx.b4, by show 1 ≤ (k : Int); omega, by show (k : Int) ≤ 3; omega⟩
abbrev FoundsOk (L : List (List (Int × Int) × Int × Int)) : Prop := L.length ≤ 3 ∧ ∀ y ∈ L, y.1.length ≤ 3
theorem bestsL_both (h : Asked r x) (hv : vR r = true) :
    (∃ L k, bestsIL (r, x, [], 1) = some (.inl (r, x, L, k)) ∧ bestsSL (r, x, [], 1) = some (.inl (r, x, L, k)) ∧ FoundsOk L) ∨ ∃ p, bestsIL (r, x, [], 1) = some (.inr p) ∧ bestsSL (r, x, [], 1) = some (.inr p) ∧ p.1 = [] := by
  have hx := h.lim
  obtain ⟨hs, hs3, hs1⟩ := hx.stg
  have hi := iterA_sim (stepA := bestsIL_step) (stepB := bestsSL_step) (fun s s' => s = s' ∧ ∃ (k : Nat) (L : List (List (Int × Int) × Int × Int)), s = (r, x, L, ((k + 1 : Nat) : Int)) ∧ k ≤ stg x ∧ L.length = k ∧ ∀ y ∈ L, y.1.length ≤ 3)
    (fun s s' => s = s' ∧ ∃ (L : List (List (Int × Int) × Int × Int)) (k : Int), s = (r, x, L, k) ∧ FoundsOk L) (fun p p' => p = p' ∧ p.1 = []) (fun s => (s.2.1.2.2.2.2 + 1 - s.2.2.2).toNat) ?_
    (bestsIL_fuel (r, x, [], 1)) (bestsSL_fuel (r, x, [], 1)) (r, x, [], 1) (r, x, [], 1) ⟨rfl, 0, [], rfl, by omega, rfl, by simp⟩ (by show _ < _ + 1; omega) (by show _ < _ + 1; omega)
  · rcases hi with ⟨s, s', e1, e2, rfl, L, k, rfl, h1⟩ | ⟨p, p', e1, e2, rfl, h1⟩
    · exact .inl ⟨L, k, e1, e2, h1⟩
    · exact .inr ⟨p, e1, e2, h1⟩
  · rintro _ _ ⟨rfl, k, L, rfl, hk, hL, hok⟩
    by_cases hlt : k < stg x
    · have hA : Asked r (xs x (k + 1)) := ⟨xs_lim hx (by omega) (by omega), h.n1, h.n2, h.d1, h.d2⟩
      obtain ⟨y, c, e1, e2, hy⟩ := find_both hA hv
      have hlen : decide (List.length L + [(y.1, y.2.1, y.2.2)].length ≤ 4294967296) = true := by simp; omega
      have hgo : decide (((k + 1 : Nat) : Int) ≤ x.2.2.2.2) = true := by simp; omega
      have s1 : bestsIL_step (r, x, L, ((k + 1 : Nat) : Int)) = br (c != 0) (some (LS.ret ([], c))) (some (LS.next (r, x, L ++ [y], ((k + 1 + 1 : Nat) : Int)))) := by
        unfold bestsIL_step
        dsimp only
        rw [br_t hgo, show bestTI ((r.1, r.2), x.1, x.2.1, x.2.2.1, x.2.2.2.1, ((k + 1 : Nat) : Int)) = some (y, c) from e1, ob_s]
        dsimp only
        rw [br_t hlen, w64 (by omega) (by omega)]
        rfl
      have s2 : bestsSL_step (r, x, L, ((k + 1 : Nat) : Int)) = br (c != 0) (some (LS.ret ([], c))) (some (LS.next (r, x, L ++ [y], ((k + 1 + 1 : Nat) : Int)))) := by
        unfold bestsSL_step
        dsimp only
        rw [br_t hgo, show findS ((r.1, r.2), x.1, x.2.1, x.2.2.1, x.2.2.2.1, ((k + 1 : Nat) : Int)) = some (y, c) from e2, ob_s]
        dsimp only
        rw [br_t hlen, w64 (by omega) (by omega)]
        rfl
      by_cases hc : c = 0
      · rw [br_f (by simpa using hc)] at s1 s2
        refine .inl ⟨_, _, s1, s2, ⟨rfl, k + 1, _, rfl, by omega, by simp [hL], fun z hz => ?_⟩, ?_⟩
        · rcases List.mem_append.1 hz with hz | hz
          · exact hok z hz
          · rw [List.mem_singleton.1 hz]; exact hy
        · show (x.2.2.2.2 + 1 - ((k + 1 + 1 : Nat) : Int)).toNat < (x.2.2.2.2 + 1 - ((k + 1 : Nat) : Int)).toNat
          omega
      · rw [br_t (by simpa using hc)] at s1 s2
        exact .inr (.inr ⟨_, _, s1, s2, rfl, rfl⟩)
    · obtain rfl : k = stg x := by omega
      have hno : decide (((stg x + 1 : Nat) : Int) ≤ x.2.2.2.2) = false := by simp; omega
      refine .inr (.inl ⟨(r, x, L, ((stg x + 1 : Nat) : Int)), (r, x, L, ((stg x + 1 : Nat) : Int)), ?_, ?_, rfl, L, _, rfl, by omega, hok⟩)
      · unfold bestsIL_step
        dsimp only
        rw [br_f hno]
      · unfold bestsSL_step
        dsimp only
        rw [br_f hno]
theorem bests_both (r : Int × Int) (x : Int × Int × Int × Int × Int) : ∃ v : List (List (Int × Int) × Int × Int) × Int, bestsI (r, x) = some v ∧ bestsS (r, x) = some v ∧ FoundsOk v.1 := by
  obtain ⟨vl, el, hvl⟩ := validLim_eq x
  have ea := askI_eq r el
  have hS : bestsS (r, x) = br (!vR r) (some ([], 1)) (br (!vl) (some ([], 1)) (br (!askB r) (some ([], 2)) (ob (bestsSL (r, x, [], 1)) fun q => Rx.el q (fun q => some (q.2.2.1, 0)) fun q => some (q.1, q.2)))) := by
    show ob (okRatS r) _ = _
    rw [okRatS_eq, ob_s]
    show br _ _ (ob (okLimS x) _) = _
    rw [okLim_eq, el, ob_s]
    show br _ _ (br _ _ (ob (askS r) _)) = _
    rw [askS_eq, ob_s]
  have hI : codeA r vl ≠ 0 → bestsI (r, x) = some ([], codeA r vl) := fun h => by
    show ob (askI (r, x)) _ = _
    rw [ea, ob_s, br_t (by simpa using h)]
  rw [hS]
  unfold codeA at ea hI
  cases hv : vR r with
  | false =>
    rw [hv] at hI
    exact ⟨_, hI (by simp), rfl, by simp, by simp⟩
  | true =>
    rw [hv] at hI ea
    rw [Bool.not_true, br_f rfl]
    cases vl with
    | false => exact ⟨_, hI (by simp), rfl, by simp, by simp⟩
    | true =>
      rw [Bool.not_true, br_f rfl]
      cases hb : askB r with
      | false =>
        rw [hb] at hI
        exact ⟨_, hI (by simp), rfl, by simp, by simp⟩
      | true =>
        rw [hb] at ea
        rw [Bool.not_true, br_f rfl]
        have hx := hvl.1 rfl
        have hA : Asked r x := by
          have := vR_bd hv
          unfold askB at hb
          simp at hb
          exact ⟨hx, by omega, by omega, by omega, by omega⟩
        have hrun : bestsI (r, x) = ob (bestsIL (r, x, [], 1)) fun q => Rx.el q (fun q => some (q.2.2.1, 0)) fun q => some (q.1, q.2) := by
          show ob (askI (r, x)) _ = _
          rw [ea, ob_s, br_f (by simp)]
        rw [hrun]
        rcases bestsL_both hA hv with ⟨L, k, e1, e2, h1⟩ | ⟨p, e1, e2, h1⟩
        · rw [e1, e2]
          exact ⟨_, rfl, rfl, h1⟩
        · rw [e1, e2]
          exact ⟨_, rfl, rfl, by show p.1.length ≤ 3; rw [h1]; simp, by show ∀ y ∈ p.1, _; rw [h1]; simp⟩
end

/-! ### Marks -/
abbrev fFo : Int → (List (Int × Int) × Int × Int) → (List (Int × Int) × Int × Int) := fun k y => (scanL fPx gPx y.1 k, k + 2 * (y.1.length : Int), k + 2 * (y.1.length : Int) + 1)
abbrev gFo : Int → (List (Int × Int) × Int × Int) → Int := fun k y => k + 2 * (y.1.length : Int) + 2
theorem gFo_bd {l : List (List (Int × Int) × Int × Int)} (hs : ∀ a ∈ l, a.1.length ≤ 3) (k : Int) (y : List (Int × Int) × Int × Int) (hy : y ∈ l) : k ≤ gFo k y ∧ gFo k y ≤ k + 8 := by
  have := hs y hy
  show k ≤ k + 2 * (y.1.length : Int) + 2 ∧ k + 2 * (y.1.length : Int) + 2 ≤ _
  omega
theorem eqFoundZ_self (f : List (Int × Int) × Int × Int) (h : f.1.length ≤ 3) : eqFoundZ (f, f) = some true := by
  unfold eqFoundZ
  dsimp only
  rw [eqPairS_self (by omega), ob_s, br_f (c := !true) rfl, show eqRatLT ((f.2.1, f.2.2), f.2.1, f.2.2) = some true from eqRatLT_self f.2, ob_s, br_f (c := !true) rfl]
theorem eqFoundSZ_self {l : List (List (Int × Int) × Int × Int)} (h : FoundsOk l) : eqFoundSZ (l, l) = some true := by
  obtain ⟨hl, hs⟩ := h
  obtain ⟨i', h⟩ := eq_loop (l := l) (step := eqFoundSL_step) (by omega) (fun i b y h0 h1 hy => by
    have := hs y (idx_mem hy)
    unfold eqFoundSL_step
    dsimp only
    rw [br_t (by simpa using h1), hy, ob_s, ob_s, show eqFoundZ ((y.1, y.2.1, y.2.2), y.1, y.2.1, y.2.2) = some true from eqFoundZ_self y (by omega), ob_s, br_f (c := !true) rfl, w64 (by omega) (by omega)]) (fun i b h => by
    unfold eqFoundSL_step
    dsimp only
    rw [br_f (by simpa using h)]) false
  have h' : eqFoundSL (l, l, false, 0) = some (true, (l, l, false, i')) := h
  unfold eqFoundSZ
  dsimp only
  rw [br_f (by simp), h']
  rfl
theorem markFoundZ_eq {l : List (List (Int × Int) × Int × Int)} (h : FoundsOk l) : markFoundZ (l, 1) = some (scanK gFo l 1, scanL fFo gFo l 1, 1) := by
  obtain ⟨hl, hs⟩ := h
  have h := scan_loop (step := markFoundSL_step) (f := fFo) (g := gFo) (c := 8) (by omega) (l := l) (by omega) (k0 := 1) (by omega) (gFo_bd hs)
    (fun l' k i y hl' h0 h1 k0 k1 hm hy hy2 => by
      have := hs y hm
      unfold markFoundSL_step
      dsimp only
      rw [br_t (by simp; omega), hy, ob_s, gi, hy2, ob_s, markPairX_eq (by omega) ⟨by omega, by omega⟩, ob_s, ob_s, br_t (by simp), ob_s, br_t (by simp), scanK_Px]
      dsimp only
      rw [w64 (x := k + 2 * (y.1.length : Int) + 1) (by omega) (by omega), w64 (x := k + 2 * (y.1.length : Int) + 1 + 1) (by omega) (by omega), w64 (x := i + 1) (by omega) (by omega), show k + 2 * (y.1.length : Int) + 1 + 1 = k + 2 * (y.1.length : Int) + 2 by omega])
    (fun l' k i hl' hi => by
      unfold markFoundSL_step
      dsimp only
      rw [br_f (by simp; omega)]) (n := l.length - (0 : Int).toNat + 1) (by simp)
  have h' : markFoundSL (l, 1, 0) = some (scanL fFo gFo l 1, scanK gFo l 1, (l.length : Int)) := h
  unfold markFoundZ
  rw [h']; rfl
theorem heldFoundZ_eq {l : List (List (Int × Int) × Int × Int)} (h : FoundsOk l) : heldFoundZ (scanL fFo gFo l 1, 1) = some (scanK gFo l 1) := by
  obtain ⟨hl, hs⟩ := h
  have hlen := scanL_len fFo gFo l 1
  have h := scan_held (step := heldFoundSL_step) (f := fFo) (g := gFo) (c := 8) (by omega) (l := l) (by omega) (k0 := 1) (by omega) (gFo_bd hs)
    (fun k' r i y h0 h1 k0 k1 hm hy => by
      have := hs y hm
      unfold heldFoundSL_step
      dsimp only
      rw [br_t (by simp; omega), hy, ob_s, heldPairX_eq (by omega) ⟨by omega, by omega⟩, ob_s, scanK_Px, br_f (by simp; omega), ob_s, br_f (by simp), ob_s, w64 (x := k' + 2 * (y.1.length : Int) + 1) (by omega) (by omega), br_f (by simp), w64 (x := k' + 2 * (y.1.length : Int) + 1 + 1) (by omega) (by omega), w64 (x := i + 1) (by omega) (by omega), show k' + 2 * (y.1.length : Int) + 1 + 1 = k' + 2 * (y.1.length : Int) + 2 by omega])
    (fun k' r i hi => by
      unfold heldFoundSL_step
      dsimp only
      rw [br_f (by simp; omega)]) 0 (n := (scanL fFo gFo l 1).length - (0 : Int).toNat + 1) (by rw [hlen]; simp)
  have h' : heldFoundSL (scanL fFo gFo l 1, 1, 0, 0) = some (true, (scanL fFo gFo l 1, scanK gFo l 1, 0, (l.length : Int))) := h
  unfold heldFoundZ
  rw [h']; rfl
theorem lawBeTrs_holds (x : (Int × Int) × Int × Int × Int × Int × Int) : lawBeTrs x = some true := by
  obtain ⟨r, x⟩ := x
  obtain ⟨⟨l, c⟩, e1, e2, h3⟩ := bests_both r x
  have b1 := scanK_bd (g := gFo) (c := 8) (by omega) l 1 (gFo_bd h3.2)
  have ht : ∀ x, toRatLT x = some x := fun x => rfl
  have hm : ∀ x, toLimL x = some x := fun x => rfl
  unfold lawBeTrs
  dsimp only
  simp only [ht, hm, ob_s]
  rw [show bestsS ((r.1, r.2), x.1, x.2.1, x.2.2.1, x.2.2.2.1, x.2.2.2.2) = _ from e2, show bestsI ((r.1, r.2), x.1, x.2.1, x.2.2.1, x.2.2.2.1, x.2.2.2.2) = _ from e1]
  simp only [ob_s, eqFoundSZ_self h3, markFoundZ_eq h3, heldFoundZ_eq h3]
  rw [br_f (c := !true) rfl, br_f (by simp), br_f (by simp; omega), br_f (by simp), br_f (c := !true) rfl, br_f (by simp), br_f (by simp; omega), br_f (by simp)]
end
end Rx
end Go.Proofs.YthfgpnpoocepeaaGreat
