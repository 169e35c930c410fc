/- What the functions of RxSearch come to, and their contracts. No conditions. -/
import Derived.Test.YthfgpnpoocepeaaGreatRxEnv
import Derived.Test.YthfgpnpoocepeaaGreatRxSets
import Derived.Test.YthfgpnpoocepeaaGreatRxComp
import Derived.Test.YthfgpnpoocepeaaGreatRxRev
namespace Go.Proofs.YthfgpnpoocepeaaGreat
namespace Rx
open Go

noncomputable section
def pairdL_vars : Vars := [(0, .val (.slice (i64))), (1, .val (.slice (i64))), (5, .row 0 64 (.pair (i64) (i64))), (8, .val (i64)), (9, .val (i64))]
def pairdL_step : List (Int) × List (Int) × List ((Int × Int)) × Int × Int → Option (LRes × (List (Int) × List (Int) × List ((Int × Int)) × Int × Int)) :=
fun x =>
  br (decide (x.snd.snd.snd.2 < x.snd.snd.snd.1))
    (ob (idx x.1 x.snd.snd.snd.2) fun y =>
      ob (idx x.snd.1 x.snd.snd.snd.2) fun y_1 =>
        br (decide (List.length x.snd.snd.1 + [(y, y_1)].length ≤ (4294967296 : Nat)))
          (some
            (LRes.next, x.1, x.snd.1, x.snd.snd.1 ++ [(y, y_1)], x.snd.snd.snd.1,
              IntKind.i64.wrap (x.snd.snd.snd.2 + (1 : Int))))
          none)
    (some (LRes.out, x.1, x.snd.1, x.snd.snd.1, x.snd.snd.snd.1, x.snd.snd.snd.2))
def pairdL_fuel : List (Int) × List (Int) × List ((Int × Int)) × Int × Int → Nat := fun s => (s.2.2.2.1 - s.2.2.2.2).toNat + 1
def pairdL : List (Int) × List (Int) × List ((Int × Int)) × Int × Int → Option (List (Int) × List (Int) × List ((Int × Int)) × Int × Int) := fun s => iterP pairdL_step (pairdL_fuel s) s
def pairdL_L : LoopC := ⟨pairdL_vars, 0, .plain pairdL⟩
noncomputable def pairdL_key : Nat := key (loopAt Tryz.f58 0)
theorem pairdL_stepok (x : pairdL_vars.den) : stepOf (mkEnv [] []) Tryz.f58.ntmps pairdL_vars 0 (loopAt Tryz.f58 0) x = pairdL_step x := by kernel_rfl
theorem pairdL_ok : LoopOK Tryz.prog Tryz.f58.ntmps pairdL_L (loopAt Tryz.f58 0)   := iterP_loop (n := Tryz.f58.ntmps) (vs := pairdL_vars) (out := 0) (body := loopAt Tryz.f58 0) (mkEnv_ok (cons := []) trivial []) pairdL_step pairdL_fuel (by exact trivial) pairdL_stepok

def pairdI : List (Int) × List (Int) → Option (List ((Int × Int))) :=
fun x => ob (pairdL (x.1, x.2, [], (↑x.1.length : Int), (0 : Int))) fun r => some r.snd.snd.1
def pairdI_con : Con := ⟨[.slice (i64), .slice (i64)], [.row 64 (.pair (i64) (i64))], pairdI⟩
theorem pairdI_run (x : Dens [.slice (i64), .slice (i64)]) : runFn (mkEnv [] [(pairdL_key, pairdL_L)]) Tryz.f58 [.slice (i64), .slice (i64)] [.row 64 (.pair (i64) (i64))] x = pairdI x := by kernel_rfl
theorem pairdI_ok : pairdI_con.ok Tryz.prog 58 := fn_ok (con := pairdI_con) (mkEnv_ok (cons := []) trivial [(pairdL_key, pairdL_L)]) Tryz.func58 rfl (by kernel_rfl) (by exact ⟨pairdL_ok, trivial⟩) (fun x y h => (pairdI_run x).trans h)

def canonI6 : List (Int) × List (Int) → Option (List ((Int × Int))) :=
fun x => ob (cloneB x.1) fun y => ob (revX y) fun y => ob (pairdI (y.2, x.2)) fun y => some y
def canonI6_con : Con := ⟨[.slice (i64), .slice (i64)], [.row 64 (.pair (i64) (i64))], canonI6⟩
theorem canonI6_run (x : Dens [.slice (i64), .slice (i64)]) : runFn (mkEnvM [(55, cloneB_con), (58, pairdI_con)] [(57, revX_con)] []) Tryz.f29 [.slice (i64), .slice (i64)] [.row 64 (.pair (i64) (i64))] x = canonI6 x := by kernel_rfl
theorem canonI6_ok : canonI6_con.ok Tryz.prog 29 := fn_ok (con := canonI6_con) (mkEnvM_ok (cons := [(55, cloneB_con), (58, pairdI_con)]) (mcons := [(57, revX_con)]) ⟨cloneB_ok, pairdI_ok, trivial⟩ ⟨revX_ok, trivial⟩ []) Tryz.func29 rfl (by kernel_rfl) (by exact trivial) (fun x y h => (canonI6_run x).trans h)

def askI : (Int × Int) × (Int × Int × Int × Int × Int) → Option (Int) :=
fun x =>
  ob (validRatI (x.fst.1, x.fst.2)) fun y =>
    br (!y) (some (1 : Int))
      (ob (validLimI (x.snd.1, x.snd.snd.1, x.snd.snd.snd.1, x.snd.snd.snd.snd.1, x.snd.snd.snd.snd.2)) fun y =>
        br (!y) (some (1 : Int))
          (br (decide (x.fst.1 ≤ (0 : Int))) (some (2 : Int))
            (br (decide ((1000000 : Int) < x.fst.1)) (some (2 : Int))
              (br (decide ((1000000 : Int) < x.fst.2)) (some (2 : Int)) (some (0 : Int))))))
def askI_con : Con := ⟨[.pair (i64) (i64), .pair (i64) (.pair (i64) (.pair (i64) (.pair (i64) (i64))))], [.d (i64)], askI⟩
theorem askI_run (x : Dens [.pair (i64) (i64), .pair (i64) (.pair (i64) (.pair (i64) (.pair (i64) (i64))))]) : runFn (mkEnv [(53, validRatI_con), (54, validLimI_con)] []) Tryz.f27 [.pair (i64) (i64), .pair (i64) (.pair (i64) (.pair (i64) (.pair (i64) (i64))))] [.d (i64)] x = askI x := by kernel_rfl
theorem askI_ok : askI_con.ok Tryz.prog 27 := fn_ok (con := askI_con) (mkEnv_ok (cons := [(53, validRatI_con), (54, validLimI_con)]) ⟨validRatI_ok, validLimI_ok, trivial⟩ []) Tryz.func27 rfl (by kernel_rfl) (by exact trivial) (fun x y h => (askI_run x).trans h)

def exactL00_vars : Vars := [(2, .box 0 27 (.pair (i64) (i64))), (7, .boxR 0 69 (.pair (.row 2 (i64)) (.mp true 66 (.slice (i64))))), (8, .boxR 0 69 (.pair (.row 2 (i64)) (.mp true 66 (.slice (i64))))), (9, .deep 0 28 (.row 64 (.pair (i64) (i64)))), (11, .val (i64)), (13, .val (.slice (i64))), (37, .same 7 (.pair (.row 2 (i64)) (.mp true 66 (.slice (i64)))) 0), (38, .val (i64)), (39, .val (i64)), (54, .val (.slice (.slice (i64)))), (55, .val (i64)), (56, .val (i64)), (69, .val (.slice (.slice (i64)))), (70, .val (i64)), (71, .val (i64))]
def exactL00_rv : Vars := [(4, .deep 0 28 (.row 64 (.pair (i64) (i64)))), (5, .val (i64))]
def exactL00_step : (Int × Int) × (List (Int) × List (Int × List (List (Int)))) × (List (Int) × List (Int × List (List (Int)))) × List (List ((Int × Int))) × Int × List (Int) × Unit × Int × Int × List (List (Int)) × Int × Int × List (List (Int)) × Int × Int → Option (LS ((Int × Int) × (List (Int) × List (Int × List (List (Int)))) × (List (Int) × List (Int × List (List (Int)))) × List (List ((Int × Int))) × Int × List (Int) × Unit × Int × Int × List (List (Int)) × Int × Int × List (List (Int)) × Int × Int) (List (List ((Int × Int))) × Int)) :=
fun x =>
  br
    (decide
      (x.snd.snd.snd.snd.snd.snd.snd.snd.snd.snd.snd.snd.snd.2 <
        x.snd.snd.snd.snd.snd.snd.snd.snd.snd.snd.snd.snd.snd.1))
    (ob
      (idx x.snd.snd.snd.snd.snd.snd.snd.snd.snd.snd.snd.snd.1 x.snd.snd.snd.snd.snd.snd.snd.snd.snd.snd.snd.snd.snd.2)
      fun y =>
      br ((↑(List.length x.snd.snd.snd.1) : Int) == (40 : Int)) (some (LS.ret ([], (5 : Int))))
        (ob (canonI6 (x.snd.snd.snd.snd.snd.1, y)) fun y =>
          br (decide (List.length x.snd.snd.snd.1 + [y].length ≤ (4294967296 : Nat)))
            (some
              (LS.next
                ((x.fst.1, x.fst.2), (x.snd.fst.1, x.snd.fst.2), (x.snd.snd.fst.1, x.snd.snd.fst.2),
                  x.snd.snd.snd.1 ++ [y], x.snd.snd.snd.snd.1, x.snd.snd.snd.snd.snd.1, PUnit.unit,
                  x.snd.snd.snd.snd.snd.snd.snd.1, x.snd.snd.snd.snd.snd.snd.snd.snd.1,
                  x.snd.snd.snd.snd.snd.snd.snd.snd.snd.1, x.snd.snd.snd.snd.snd.snd.snd.snd.snd.snd.1,
                  x.snd.snd.snd.snd.snd.snd.snd.snd.snd.snd.snd.1, x.snd.snd.snd.snd.snd.snd.snd.snd.snd.snd.snd.snd.1,
                  x.snd.snd.snd.snd.snd.snd.snd.snd.snd.snd.snd.snd.snd.1,
                  IntKind.i64.wrap (x.snd.snd.snd.snd.snd.snd.snd.snd.snd.snd.snd.snd.snd.2 + (1 : Int)))))
            none))
    (some
      (LS.out
        ((x.fst.1, x.fst.2), (x.snd.fst.1, x.snd.fst.2), (x.snd.snd.fst.1, x.snd.snd.fst.2), x.snd.snd.snd.1,
          x.snd.snd.snd.snd.1, x.snd.snd.snd.snd.snd.1, PUnit.unit, x.snd.snd.snd.snd.snd.snd.snd.1,
          x.snd.snd.snd.snd.snd.snd.snd.snd.1, x.snd.snd.snd.snd.snd.snd.snd.snd.snd.1,
          x.snd.snd.snd.snd.snd.snd.snd.snd.snd.snd.1, x.snd.snd.snd.snd.snd.snd.snd.snd.snd.snd.snd.1,
          x.snd.snd.snd.snd.snd.snd.snd.snd.snd.snd.snd.snd.1, x.snd.snd.snd.snd.snd.snd.snd.snd.snd.snd.snd.snd.snd.1,
          x.snd.snd.snd.snd.snd.snd.snd.snd.snd.snd.snd.snd.snd.2)))
def exactL00_fuel : (Int × Int) × (List (Int) × List (Int × List (List (Int)))) × (List (Int) × List (Int × List (List (Int)))) × List (List ((Int × Int))) × Int × List (Int) × Unit × Int × Int × List (List (Int)) × Int × Int × List (List (Int)) × Int × Int → Nat := fun s => (s.2.2.2.2.2.2.2.2.2.2.2.2.2.1 - s.2.2.2.2.2.2.2.2.2.2.2.2.2.2).toNat + 1
def exactL00 : (Int × Int) × (List (Int) × List (Int × List (List (Int)))) × (List (Int) × List (Int × List (List (Int)))) × List (List ((Int × Int))) × Int × List (Int) × Unit × Int × Int × List (List (Int)) × Int × Int × List (List (Int)) × Int × Int → Option (Sum ((Int × Int) × (List (Int) × List (Int × List (List (Int)))) × (List (Int) × List (Int × List (List (Int)))) × List (List ((Int × Int))) × Int × List (Int) × Unit × Int × Int × List (List (Int)) × Int × Int × List (List (Int)) × Int × Int) (List (List ((Int × Int))) × Int)) := fun s => iterA exactL00_step (exactL00_fuel s) s
def exactL00_L : LoopC := ⟨exactL00_vars, 4, .alt exactL00_rv exactL00⟩
noncomputable def exactL00_key : Nat := key (loopIn (loopIn (loopAt Tryz.f7 0) 0) 0)
theorem exactL00_stepok (x : exactL00_vars.den) : stepOfA (deepE [(28, .row 64 (.pair (i64) (i64)))] (mkEnv [(29, canonI6_con)] [])) Tryz.f7.ntmps exactL00_vars exactL00_rv 4 (loopIn (loopIn (loopAt Tryz.f7 0) 0) 0) x = exactL00_step x := by kernel_rfl
theorem exactL00_ok : LoopOK Tryz.prog Tryz.f7.ntmps exactL00_L (loopIn (loopIn (loopAt Tryz.f7 0) 0) 0)   := iterA_loop (n := Tryz.f7.ntmps) (vs := exactL00_vars) (rv := exactL00_rv) (out := 4) (body := loopIn (loopIn (loopAt Tryz.f7 0) 0) 0) (deepE_ok (d := [(28, .row 64 (.pair (i64) (i64)))]) (mkEnv_ok (cons := [(29, canonI6_con)]) ⟨canonI6_ok, trivial⟩ [])) exactL00_step exactL00_fuel (by exact trivial) exactL00_stepok

def exactL0_vars : Vars := [(2, .box 0 27 (.pair (i64) (i64))), (7, .boxR 0 69 (.pair (.row 2 (i64)) (.mp true 66 (.slice (i64))))), (8, .boxR 0 69 (.pair (.row 2 (i64)) (.mp true 66 (.slice (i64))))), (9, .deep 0 28 (.row 64 (.pair (i64) (i64)))), (11, .val (i64)), (37, .same 7 (.pair (.row 2 (i64)) (.mp true 66 (.slice (i64)))) 0), (38, .val (i64)), (39, .val (i64)), (54, .val (.slice (.slice (i64)))), (55, .val (i64)), (56, .val (i64))]
def exactL0_rv : Vars := [(4, .deep 0 28 (.row 64 (.pair (i64) (i64)))), (5, .val (i64))]
def exactL0_step : (Int × Int) × (List (Int) × List (Int × List (List (Int)))) × (List (Int) × List (Int × List (List (Int)))) × List (List ((Int × Int))) × Int × Unit × Int × Int × List (List (Int)) × Int × Int → Option (LS ((Int × Int) × (List (Int) × List (Int × List (List (Int)))) × (List (Int) × List (Int × List (List (Int)))) × List (List ((Int × Int))) × Int × Unit × Int × Int × List (List (Int)) × Int × Int) (List (List ((Int × Int))) × Int)) :=
fun x =>
  br (decide (x.snd.snd.snd.snd.snd.snd.snd.snd.snd.2 < x.snd.snd.snd.snd.snd.snd.snd.snd.snd.1))
    (ob (idx x.snd.snd.snd.snd.snd.snd.snd.snd.1 x.snd.snd.snd.snd.snd.snd.snd.snd.snd.2) fun y =>
      br (x.fst.1 == (0 : Int)) none
        (ob
          (exactL00
            ((x.fst.1, x.fst.2), (x.snd.fst.1, x.snd.fst.2), (x.snd.snd.fst.1, x.snd.snd.fst.2), x.snd.snd.snd.1,
              x.snd.snd.snd.snd.1, y, PUnit.unit, x.snd.snd.snd.snd.snd.snd.1, x.snd.snd.snd.snd.snd.snd.snd.1,
              x.snd.snd.snd.snd.snd.snd.snd.snd.1, x.snd.snd.snd.snd.snd.snd.snd.snd.snd.1,
              x.snd.snd.snd.snd.snd.snd.snd.snd.snd.2,
              getM x.snd.snd.fst.2 (IntKind.i64.wrap ((IntKind.i64.wrap (x.snd.snd.snd.snd.1 * x.fst.2)).tdiv x.fst.1)),
              (↑(getM x.snd.snd.fst.2
                      (IntKind.i64.wrap ((IntKind.i64.wrap (x.snd.snd.snd.snd.1 * x.fst.2)).tdiv x.fst.1))).length :
                Int),
              (0 : Int)))
          fun r =>
          el r
            (fun r =>
              some
                (LS.next
                  ((r.fst.1, r.fst.2), (r.snd.fst.1, r.snd.fst.2), (r.snd.snd.fst.1, r.snd.snd.fst.2), r.snd.snd.snd.1,
                    r.snd.snd.snd.snd.1, PUnit.unit, r.snd.snd.snd.snd.snd.snd.snd.1,
                    r.snd.snd.snd.snd.snd.snd.snd.snd.1, r.snd.snd.snd.snd.snd.snd.snd.snd.snd.1,
                    r.snd.snd.snd.snd.snd.snd.snd.snd.snd.snd.1,
                    IntKind.i64.wrap (r.snd.snd.snd.snd.snd.snd.snd.snd.snd.snd.snd.1 + (1 : Int)))))
            fun r => some (LS.ret (r.1, r.2))))
    (some
      (LS.out
        ((x.fst.1, x.fst.2), (x.snd.fst.1, x.snd.fst.2), (x.snd.snd.fst.1, x.snd.snd.fst.2), x.snd.snd.snd.1,
          x.snd.snd.snd.snd.1, PUnit.unit, x.snd.snd.snd.snd.snd.snd.1, x.snd.snd.snd.snd.snd.snd.snd.1,
          x.snd.snd.snd.snd.snd.snd.snd.snd.1, x.snd.snd.snd.snd.snd.snd.snd.snd.snd.1,
          x.snd.snd.snd.snd.snd.snd.snd.snd.snd.2)))
def exactL0_fuel : (Int × Int) × (List (Int) × List (Int × List (List (Int)))) × (List (Int) × List (Int × List (List (Int)))) × List (List ((Int × Int))) × Int × Unit × Int × Int × List (List (Int)) × Int × Int → Nat := fun s => (s.2.2.2.2.2.2.2.2.2.1 - s.2.2.2.2.2.2.2.2.2.2).toNat + 1
def exactL0 : (Int × Int) × (List (Int) × List (Int × List (List (Int)))) × (List (Int) × List (Int × List (List (Int)))) × List (List ((Int × Int))) × Int × Unit × Int × Int × List (List (Int)) × Int × Int → Option (Sum ((Int × Int) × (List (Int) × List (Int × List (List (Int)))) × (List (Int) × List (Int × List (List (Int)))) × List (List ((Int × Int))) × Int × Unit × Int × Int × List (List (Int)) × Int × Int) (List (List ((Int × Int))) × Int)) := fun s => iterA exactL0_step (exactL0_fuel s) s
def exactL0_L : LoopC := ⟨exactL0_vars, 2, .alt exactL0_rv exactL0⟩
noncomputable def exactL0_key : Nat := key (loopIn (loopAt Tryz.f7 0) 0)
theorem exactL0_stepok (x : exactL0_vars.den) : stepOfA (deepE [(28, .row 64 (.pair (i64) (i64)))] (mkEnv [] [(exactL00_key, exactL00_L)])) Tryz.f7.ntmps exactL0_vars exactL0_rv 2 (loopIn (loopAt Tryz.f7 0) 0) x = exactL0_step x := by kernel_rfl
theorem exactL0_ok : LoopOK Tryz.prog Tryz.f7.ntmps exactL0_L (loopIn (loopAt Tryz.f7 0) 0)   := iterA_loop (n := Tryz.f7.ntmps) (vs := exactL0_vars) (rv := exactL0_rv) (out := 2) (body := loopIn (loopAt Tryz.f7 0) 0) (deepE_ok (d := [(28, .row 64 (.pair (i64) (i64)))]) (mkEnv_ok (cons := []) trivial [(exactL00_key, exactL00_L)])) exactL0_step exactL0_fuel (by exact ⟨exactL00_ok, trivial⟩) exactL0_stepok

def exactL_vars : Vars := [(2, .box 0 27 (.pair (i64) (i64))), (7, .boxR 0 69 (.pair (.row 2 (i64)) (.mp true 66 (.slice (i64))))), (8, .boxR 0 69 (.pair (.row 2 (i64)) (.mp true 66 (.slice (i64))))), (9, .deep 0 28 (.row 64 (.pair (i64) (i64)))), (37, .same 7 (.pair (.row 2 (i64)) (.mp true 66 (.slice (i64)))) 0), (38, .val (i64)), (39, .val (i64))]
def exactL_rv : Vars := [(4, .deep 0 28 (.row 64 (.pair (i64) (i64)))), (5, .val (i64))]
def exactL_step : (Int × Int) × (List (Int) × List (Int × List (List (Int)))) × (List (Int) × List (Int × List (List (Int)))) × List (List ((Int × Int))) × Unit × Int × Int → Option (LS ((Int × Int) × (List (Int) × List (Int × List (List (Int)))) × (List (Int) × List (Int × List (List (Int)))) × List (List ((Int × Int))) × Unit × Int × Int) (List (List ((Int × Int))) × Int)) :=
fun x =>
  br (decide (x.snd.snd.snd.snd.snd.2 < x.snd.snd.snd.snd.snd.1))
    (ob (idx x.snd.fst.1 x.snd.snd.snd.snd.snd.2) fun x_1 =>
      ob (List.get?Internal x.snd.fst.1 (Int.toNat x.snd.snd.snd.snd.snd.2)) fun x_2 =>
        br (x.fst.1 == (0 : Int)) none
          (br ((IntKind.i64.wrap (x_2 * x.fst.2)).tmod x.fst.1 != (0 : Int))
            (some
              (LS.next
                ((x.fst.1, x.fst.2), (x.snd.fst.1, x.snd.fst.2), (x.snd.snd.fst.1, x.snd.snd.fst.2), x.snd.snd.snd.1,
                  PUnit.unit, x.snd.snd.snd.snd.snd.1, IntKind.i64.wrap (x.snd.snd.snd.snd.snd.2 + (1 : Int)))))
            (ob
              (exactL0
                ((x.fst.1, x.fst.2), (x.snd.fst.1, x.snd.fst.2), (x.snd.snd.fst.1, x.snd.snd.fst.2), x.snd.snd.snd.1,
                  x_2, PUnit.unit, x.snd.snd.snd.snd.snd.1, x.snd.snd.snd.snd.snd.2, getM x.snd.fst.2 x_2,
                  (↑(getM x.snd.fst.2 x_2).length : Int), (0 : Int)))
              fun r =>
              el r
                (fun r =>
                  some
                    (LS.next
                      ((r.fst.1, r.fst.2), (r.snd.fst.1, r.snd.fst.2), (r.snd.snd.fst.1, r.snd.snd.fst.2),
                        r.snd.snd.snd.1, PUnit.unit, r.snd.snd.snd.snd.snd.snd.1,
                        IntKind.i64.wrap (r.snd.snd.snd.snd.snd.snd.snd.1 + (1 : Int)))))
                fun r => some (LS.ret (r.1, r.2)))))
    (some
      (LS.out
        ((x.fst.1, x.fst.2), (x.snd.fst.1, x.snd.fst.2), (x.snd.snd.fst.1, x.snd.snd.fst.2), x.snd.snd.snd.1,
          PUnit.unit, x.snd.snd.snd.snd.snd.1, x.snd.snd.snd.snd.snd.2)))
def exactL_fuel : (Int × Int) × (List (Int) × List (Int × List (List (Int)))) × (List (Int) × List (Int × List (List (Int)))) × List (List ((Int × Int))) × Unit × Int × Int → Nat := fun s => (s.2.2.2.2.2.1 - s.2.2.2.2.2.2).toNat + 1
def exactL : (Int × Int) × (List (Int) × List (Int × List (List (Int)))) × (List (Int) × List (Int × List (List (Int)))) × List (List ((Int × Int))) × Unit × Int × Int → Option (Sum ((Int × Int) × (List (Int) × List (Int × List (List (Int)))) × (List (Int) × List (Int × List (List (Int)))) × List (List ((Int × Int))) × Unit × Int × Int) (List (List ((Int × Int))) × Int)) := fun s => iterA exactL_step (exactL_fuel s) s
def exactL_L : LoopC := ⟨exactL_vars, 0, .alt exactL_rv exactL⟩
noncomputable def exactL_key : Nat := key (loopAt Tryz.f7 0)
theorem exactL_stepok (x : exactL_vars.den) : stepOfA (deepE [(28, .row 64 (.pair (i64) (i64)))] (mkEnv [] [(exactL0_key, exactL0_L)])) Tryz.f7.ntmps exactL_vars exactL_rv 0 (loopAt Tryz.f7 0) x = exactL_step x := by kernel_rfl
theorem exactL_ok : LoopOK Tryz.prog Tryz.f7.ntmps exactL_L (loopAt Tryz.f7 0)   := iterA_loop (n := Tryz.f7.ntmps) (vs := exactL_vars) (rv := exactL_rv) (out := 0) (body := loopAt Tryz.f7 0) (deepE_ok (d := [(28, .row 64 (.pair (i64) (i64)))]) (mkEnv_ok (cons := []) trivial [(exactL0_key, exactL0_L)])) exactL_step exactL_fuel (by exact ⟨exactL0_ok, trivial⟩) exactL_stepok

def exactI : (Int × Int) × (Int × Int × Int × Int × Int) → Option (List (List ((Int × Int))) × Int) :=
fun x =>
  ob (askI ((x.fst.1, x.fst.2), x.snd.1, x.snd.snd.1, x.snd.snd.snd.1, x.snd.snd.snd.snd.1, x.snd.snd.snd.snd.2))
    fun y =>
    br (y != (0 : Int)) (some ([], y))
      (ob (setsI (x.snd.1, x.snd.snd.1, x.snd.snd.snd.snd.2)) fun y =>
        ob (setsI (x.snd.snd.snd.1, x.snd.snd.snd.snd.1, x.snd.snd.snd.snd.2)) fun y_1 =>
          ob
            (exactL
              ((x.fst.1, x.fst.2), (y.1, y.2), (y_1.1, y_1.2), [], PUnit.unit, (↑(List.length y.1) : Int), (0 : Int)))
            fun r =>
            el r (fun r => ob (sortTr (r.snd.snd.snd.1, PUnit.unit)) fun y => some (y.snd.1, (0 : Int))) fun r =>
              some (r.1, r.2))
def exactI_con : Con := ⟨[.pair (i64) (i64), .pair (i64) (.pair (i64) (.pair (i64) (.pair (i64) (i64))))], [.deep 28 (.row 64 (.pair (i64) (i64))), .d (i64)], exactI⟩
theorem exactI_run (x : Dens [.pair (i64) (i64), .pair (i64) (.pair (i64) (.pair (i64) (.pair (i64) (i64))))]) : runFn (deepE [(28, .row 64 (.pair (i64) (i64)))] (mkEnvM [(27, askI_con), (28, setsI_con)] [(30, sortTr_con)] [(exactL_key, exactL_L)])) Tryz.f7 [.pair (i64) (i64), .pair (i64) (.pair (i64) (.pair (i64) (.pair (i64) (i64))))] [.deep 28 (.row 64 (.pair (i64) (i64))), .d (i64)] x = exactI x := by kernel_rfl
theorem exactI_ok : exactI_con.ok Tryz.prog 7 := fn_ok (con := exactI_con) (deepE_ok (d := [(28, .row 64 (.pair (i64) (i64)))]) (mkEnvM_ok (cons := [(27, askI_con), (28, setsI_con)]) (mcons := [(30, sortTr_con)]) ⟨askI_ok, setsI_ok, trivial⟩ ⟨sortTr_ok, trivial⟩ [(exactL_key, exactL_L)])) Tryz.func7 rfl (by kernel_rfl) (by exact ⟨exactL_ok, trivial⟩) (fun x y h => (exactI_run x).trans h)

end
end Rx
end Go.Proofs.YthfgpnpoocepeaaGreat
