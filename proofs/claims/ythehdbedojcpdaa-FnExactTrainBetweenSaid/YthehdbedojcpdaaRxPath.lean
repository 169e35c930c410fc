/- What the functions of RxPath come to, and their contracts. No conditions. -/
import Derived.Test.YthehdbedojcpdaaRxEnv
import Derived.Test.YthehdbedojcpdaaRxDeepW
namespace Go.Proofs.Ythehdbedojcpdaa
namespace Rx
open Go

noncomputable section
def stepIA_vars : Vars := [(1, .val (i64)), (2, .box 0 33 (.pair (.slice (.pair (.str) (.slice (i64)))) (.slice (.pair (i64) (.pair (i64) (.pair (i64) (i64))))))), (5, .row 0 2 (i64)), (17, .val (i64)), (18, .val (i64))]
def stepIA_step : Int × (List ((ByteArray × List (Int))) × List ((Int × Int × Int × Int))) × List (Int) × Int × Int → Option (LRes × (Int × (List ((ByteArray × List (Int))) × List ((Int × Int × Int × Int))) × List (Int) × Int × Int)) :=
fun x =>
  br (decide (x.snd.snd.snd.2 < x.snd.snd.snd.1))
    (ob (idx x.snd.snd.1 x.snd.snd.snd.2) fun x_1 =>
      ob (List.get?Internal x.snd.snd.1 (Int.toNat x.snd.snd.snd.2)) fun x_2 =>
        some
          (LRes.next, x.1, (x.snd.fst.1, x.snd.fst.2), List.set x.snd.snd.1 (Int.toNat x.snd.snd.snd.2) (-1 : Int),
            x.snd.snd.snd.1, IntKind.i64.wrap (x.snd.snd.snd.2 + (1 : Int))))
    (some (LRes.out, x.1, (x.snd.fst.1, x.snd.fst.2), x.snd.snd.1, x.snd.snd.snd.1, x.snd.snd.snd.2))
def stepIA_fuel : Int × (List ((ByteArray × List (Int))) × List ((Int × Int × Int × Int))) × List (Int) × Int × Int → Nat := fun s => (s.2.2.2.1 - s.2.2.2.2).toNat + 1
def stepIA : Int × (List ((ByteArray × List (Int))) × List ((Int × Int × Int × Int))) × List (Int) × Int × Int → Option (Int × (List ((ByteArray × List (Int))) × List ((Int × Int × Int × Int))) × List (Int) × Int × Int) := fun s => iterP stepIA_step (stepIA_fuel s) s
def stepIA_L : LoopC := ⟨stepIA_vars, 0, .plain stepIA⟩
noncomputable def stepIA_key : Nat := key (loopAt Try.f51 0)
theorem stepIA_stepok (x : stepIA_vars.den) : stepOf (mkEnv [] []) Try.f51.ntmps stepIA_vars 0 (loopAt Try.f51 0) x = stepIA_step x := by kernel_rfl
theorem stepIA_ok : LoopOK Try.prog Try.f51.ntmps stepIA_L (loopAt Try.f51 0)   := iterP_loop (n := Try.f51.ntmps) (vs := stepIA_vars) (out := 0) (body := loopAt Try.f51 0) (mkEnv_ok (cons := []) trivial []) stepIA_step stepIA_fuel (by exact trivial) stepIA_stepok

def stepIS_vars : Vars := [(1, .val (i64)), (2, .box 0 33 (.pair (.slice (.pair (.str) (.slice (i64)))) (.slice (.pair (i64) (.pair (i64) (.pair (i64) (i64))))))), (5, .row 0 2 (i64)), (7, .obj (.que 2 (i64))), (36, .val (.slice (.pair (i64) (.pair (i64) (.pair (i64) (i64)))))), (37, .val (i64)), (38, .val (i64)), (52, .row 0 123 (.pair (i64) (i64))), (53, .val (i64)), (54, .val (i64))]
def stepIS_step : Int × (List ((ByteArray × List (Int))) × List ((Int × Int × Int × Int))) × List (Int) × List (Int) × List ((Int × Int × Int × Int)) × Int × Int × List ((Int × Int)) × Int × Int → Option (LRes × (Int × (List ((ByteArray × List (Int))) × List ((Int × Int × Int × Int))) × List (Int) × List (Int) × List ((Int × Int × Int × Int)) × Int × Int × List ((Int × Int)) × Int × Int)) :=
fun x =>
  br (decide (x.snd.snd.snd.snd.snd.snd.snd.snd.2 < x.snd.snd.snd.snd.snd.snd.snd.snd.1))
    (ob (idx x.snd.snd.snd.snd.snd.snd.snd.1 x.snd.snd.snd.snd.snd.snd.snd.snd.2) fun x_1 =>
      ob (List.get?Internal x.snd.snd.snd.snd.snd.snd.snd.1 (Int.toNat x.snd.snd.snd.snd.snd.snd.snd.snd.2)) fun x_2 =>
        ob (idx x.snd.snd.snd.1 (0 : Int)) fun x_3 =>
          ob (List.get?Internal x.snd.snd.snd.1 (Int.toNat (0 : Int))) fun x_4 =>
            br (x_2.1 == x_4)
              (ob (idx x.snd.snd.1 x_2.2) fun x_5 =>
                ob (List.get?Internal x.snd.snd.1 (Int.toNat x_2.2)) fun x_6 =>
                  br (decide (x_6 < (0 : Int)))
                    (ob (idx x.snd.snd.1 x_2.1) fun x_7 =>
                      ob (List.get?Internal x.snd.snd.1 (Int.toNat x_2.1)) fun x_8 =>
                        ob (idx x.snd.snd.1 x_2.2) fun x_9 =>
                          ob (List.get?Internal x.snd.snd.1 (Int.toNat x_2.2)) fun x_10 =>
                            br (decide (List.length x.snd.snd.snd.1 + [x_2.2].length ≤ (4294967296 : Nat)))
                              (some
                                (LRes.next, x.1, (x.snd.fst.1, x.snd.fst.2),
                                  List.set x.snd.snd.1 (Int.toNat x_2.2) (IntKind.i64.wrap (x_8 + (1 : Int))),
                                  x.snd.snd.snd.1 ++ [x_2.2], x.snd.snd.snd.snd.1, x.snd.snd.snd.snd.snd.1,
                                  x.snd.snd.snd.snd.snd.snd.1, x.snd.snd.snd.snd.snd.snd.snd.1,
                                  x.snd.snd.snd.snd.snd.snd.snd.snd.1,
                                  IntKind.i64.wrap (x.snd.snd.snd.snd.snd.snd.snd.snd.2 + (1 : Int))))
                              none)
                    (some
                      (LRes.next, x.1, (x.snd.fst.1, x.snd.fst.2), x.snd.snd.1, x.snd.snd.snd.1, x.snd.snd.snd.snd.1,
                        x.snd.snd.snd.snd.snd.1, x.snd.snd.snd.snd.snd.snd.1, x.snd.snd.snd.snd.snd.snd.snd.1,
                        x.snd.snd.snd.snd.snd.snd.snd.snd.1,
                        IntKind.i64.wrap (x.snd.snd.snd.snd.snd.snd.snd.snd.2 + (1 : Int)))))
              (some
                (LRes.next, x.1, (x.snd.fst.1, x.snd.fst.2), x.snd.snd.1, x.snd.snd.snd.1, x.snd.snd.snd.snd.1,
                  x.snd.snd.snd.snd.snd.1, x.snd.snd.snd.snd.snd.snd.1, x.snd.snd.snd.snd.snd.snd.snd.1,
                  x.snd.snd.snd.snd.snd.snd.snd.snd.1,
                  IntKind.i64.wrap (x.snd.snd.snd.snd.snd.snd.snd.snd.2 + (1 : Int)))))
    (some
      (LRes.out, x.1, (x.snd.fst.1, x.snd.fst.2), x.snd.snd.1, x.snd.snd.snd.1, x.snd.snd.snd.snd.1,
        x.snd.snd.snd.snd.snd.1, x.snd.snd.snd.snd.snd.snd.1, x.snd.snd.snd.snd.snd.snd.snd.1,
        x.snd.snd.snd.snd.snd.snd.snd.snd.1, x.snd.snd.snd.snd.snd.snd.snd.snd.2))
def stepIS_fuel : Int × (List ((ByteArray × List (Int))) × List ((Int × Int × Int × Int))) × List (Int) × List (Int) × List ((Int × Int × Int × Int)) × Int × Int × List ((Int × Int)) × Int × Int → Nat := fun s => (s.2.2.2.2.2.2.2.2.1 - s.2.2.2.2.2.2.2.2.2).toNat + 1
def stepIS : Int × (List ((ByteArray × List (Int))) × List ((Int × Int × Int × Int))) × List (Int) × List (Int) × List ((Int × Int × Int × Int)) × Int × Int × List ((Int × Int)) × Int × Int → Option (Int × (List ((ByteArray × List (Int))) × List ((Int × Int × Int × Int))) × List (Int) × List (Int) × List ((Int × Int × Int × Int)) × Int × Int × List ((Int × Int)) × Int × Int) := fun s => iterP stepIS_step (stepIS_fuel s) s
def stepIS_L : LoopC := ⟨stepIS_vars, 6, .plain stepIS⟩
noncomputable def stepIS_key : Nat := key (loopIn (loopIn (loopAt Try.f51 1) 0) 0)
theorem stepIS_stepok (x : stepIS_vars.den) : stepOf (mkEnv [] []) Try.f51.ntmps stepIS_vars 6 (loopIn (loopIn (loopAt Try.f51 1) 0) 0) x = stepIS_step x := by kernel_rfl
theorem stepIS_ok : LoopOK Try.prog Try.f51.ntmps stepIS_L (loopIn (loopIn (loopAt Try.f51 1) 0) 0)   := iterP_loop (n := Try.f51.ntmps) (vs := stepIS_vars) (out := 6) (body := loopIn (loopIn (loopAt Try.f51 1) 0) 0) (mkEnv_ok (cons := []) trivial []) stepIS_step stepIS_fuel (by exact trivial) stepIS_stepok

def stepIM_vars : Vars := [(1, .val (i64)), (2, .box 0 33 (.pair (.slice (.pair (.str) (.slice (i64)))) (.slice (.pair (i64) (.pair (i64) (.pair (i64) (i64))))))), (5, .row 0 2 (i64)), (7, .obj (.que 2 (i64))), (36, .val (.slice (.pair (i64) (.pair (i64) (.pair (i64) (i64)))))), (37, .val (i64)), (38, .val (i64))]
def stepIM_step : Int × (List ((ByteArray × List (Int))) × List ((Int × Int × Int × Int))) × List (Int) × List (Int) × List ((Int × Int × Int × Int)) × Int × Int → Option (LRes × (Int × (List ((ByteArray × List (Int))) × List ((Int × Int × Int × Int))) × List (Int) × List (Int) × List ((Int × Int × Int × Int)) × Int × Int)) :=
fun x =>
  br (decide (x.snd.snd.snd.snd.snd.2 < x.snd.snd.snd.snd.snd.1))
    (ob (idx x.snd.snd.snd.snd.1 x.snd.snd.snd.snd.snd.2) fun y =>
      ob
        (stepIS
          (x.1, (x.snd.fst.1, x.snd.fst.2), x.snd.snd.1, x.snd.snd.snd.1, x.snd.snd.snd.snd.1, x.snd.snd.snd.snd.snd.1,
            x.snd.snd.snd.snd.snd.2, [(y.1, y.snd.snd.1), (y.snd.snd.1, y.1)],
            (↑[(y.1, y.snd.snd.1), (y.snd.snd.1, y.1)].length : Int), (0 : Int)))
        fun r =>
        some
          (LRes.next, r.1, (r.snd.fst.1, r.snd.fst.2), r.snd.snd.1, r.snd.snd.snd.1, r.snd.snd.snd.snd.1,
            r.snd.snd.snd.snd.snd.1, IntKind.i64.wrap (r.snd.snd.snd.snd.snd.snd.1 + (1 : Int))))
    (some
      (LRes.out, x.1, (x.snd.fst.1, x.snd.fst.2), x.snd.snd.1, x.snd.snd.snd.1, x.snd.snd.snd.snd.1,
        x.snd.snd.snd.snd.snd.1, x.snd.snd.snd.snd.snd.2))
def stepIM_fuel : Int × (List ((ByteArray × List (Int))) × List ((Int × Int × Int × Int))) × List (Int) × List (Int) × List ((Int × Int × Int × Int)) × Int × Int → Nat := fun s => (s.2.2.2.2.2.1 - s.2.2.2.2.2.2).toNat + 1
def stepIM : Int × (List ((ByteArray × List (Int))) × List ((Int × Int × Int × Int))) × List (Int) × List (Int) × List ((Int × Int × Int × Int)) × Int × Int → Option (Int × (List ((ByteArray × List (Int))) × List ((Int × Int × Int × Int))) × List (Int) × List (Int) × List ((Int × Int × Int × Int)) × Int × Int) := fun s => iterP stepIM_step (stepIM_fuel s) s
def stepIM_L : LoopC := ⟨stepIM_vars, 4, .plain stepIM⟩
noncomputable def stepIM_key : Nat := key (loopIn (loopAt Try.f51 1) 0)
theorem stepIM_stepok (x : stepIM_vars.den) : stepOf (mkEnv [] [(stepIS_key, stepIS_L)]) Try.f51.ntmps stepIM_vars 4 (loopIn (loopAt Try.f51 1) 0) x = stepIM_step x := by kernel_rfl
theorem stepIM_ok : LoopOK Try.prog Try.f51.ntmps stepIM_L (loopIn (loopAt Try.f51 1) 0)   := iterP_loop (n := Try.f51.ntmps) (vs := stepIM_vars) (out := 4) (body := loopIn (loopAt Try.f51 1) 0) (mkEnv_ok (cons := []) trivial [(stepIS_key, stepIS_L)]) stepIM_step stepIM_fuel (by exact ⟨stepIS_ok, trivial⟩) stepIM_stepok

def stepIQ_vars : Vars := [(1, .val (i64)), (2, .box 0 33 (.pair (.slice (.pair (.str) (.slice (i64)))) (.slice (.pair (i64) (.pair (i64) (.pair (i64) (i64))))))), (5, .row 0 2 (i64)), (7, .obj (.que 2 (i64)))]
def stepIQ_step : Int × (List ((ByteArray × List (Int))) × List ((Int × Int × Int × Int))) × List (Int) × List (Int) → Option (LRes × (Int × (List ((ByteArray × List (Int))) × List ((Int × Int × Int × Int))) × List (Int) × List (Int))) :=
fun x =>
  br (decide ((0 : Int) < (↑(List.length x.snd.snd.2) : Int)))
    (ob
      (stepIM
        (x.1, (x.snd.fst.1, x.snd.fst.2), x.snd.snd.1, x.snd.snd.2, x.snd.fst.2, (↑(List.length x.snd.fst.2) : Int),
          (0 : Int)))
      fun r =>
      br (decide ((0 : Int) ≤ (1 : Int) ∧ (1 : Int) ≤ (↑(List.length r.snd.snd.snd.1) : Int)))
        (some
          (LRes.next, r.1, (r.snd.fst.1, r.snd.fst.2), r.snd.snd.1, List.drop (Int.toNat (1 : Int)) r.snd.snd.snd.1))
        none)
    (some (LRes.out, x.1, (x.snd.fst.1, x.snd.fst.2), x.snd.snd.1, x.snd.snd.2))
def stepIQ_fuel : Int × (List ((ByteArray × List (Int))) × List ((Int × Int × Int × Int))) × List (Int) × List (Int) → Nat := fun s => s.2.1.1.length + 2
def stepIQ : Int × (List ((ByteArray × List (Int))) × List ((Int × Int × Int × Int))) × List (Int) × List (Int) → Option (Int × (List ((ByteArray × List (Int))) × List ((Int × Int × Int × Int))) × List (Int) × List (Int)) := fun s => iterP stepIQ_step (stepIQ_fuel s) s
def stepIQ_L : LoopC := ⟨stepIQ_vars, 2, .plain stepIQ⟩
noncomputable def stepIQ_key : Nat := key (loopAt Try.f51 1)
theorem stepIQ_stepok (x : stepIQ_vars.den) : stepOf (mkEnv [] [(stepIM_key, stepIM_L)]) Try.f51.ntmps stepIQ_vars 2 (loopAt Try.f51 1) x = stepIQ_step x := by kernel_rfl
theorem stepIQ_ok : LoopOK Try.prog Try.f51.ntmps stepIQ_L (loopAt Try.f51 1)   := iterP_loop (n := Try.f51.ntmps) (vs := stepIQ_vars) (out := 2) (body := loopAt Try.f51 1) (mkEnv_ok (cons := []) trivial [(stepIM_key, stepIM_L)]) stepIQ_step stepIQ_fuel (by exact ⟨stepIM_ok, trivial⟩) stepIQ_stepok

def stepsI : (List ((ByteArray × List (Int))) × List ((Int × Int × Int × Int))) × Int → Option (List (Int)) :=
fun x =>
  br
    (decide
      ((0 : Int) ≤ (↑(List.length x.fst.1) : Int) ∧
        (↑(List.length x.fst.1) : Int) = (↑(List.length x.fst.1) : Int) ∧
          (↑(List.length x.fst.1) : Int) ≤ (1048576 : Int)))
    (ob
      (stepIA
        (x.2, (x.fst.1, x.fst.2), List.replicate (↑(List.length x.fst.1) : Int).toNat (0 : Int),
          (↑(List.replicate (↑(List.length x.fst.1) : Int).toNat (0 : Int)).length : Int), (0 : Int)))
      fun r =>
      ob (idx r.snd.snd.1 r.1) fun x =>
        ob (List.get?Internal r.snd.snd.1 (Int.toNat r.1)) fun x =>
          ob (stepIQ (r.1, (r.snd.fst.1, r.snd.fst.2), List.set r.snd.snd.1 (Int.toNat r.1) (0 : Int), [r.1])) fun r =>
            some r.snd.snd.1)
    none
def stepsI_con : Con := ⟨[.pair (.slice (.pair (.str) (.slice (i64)))) (.slice (.pair (i64) (.pair (i64) (.pair (i64) (i64))))), i64], [.row 2 (i64)], stepsI⟩
theorem stepsI_run (x : Dens [.pair (.slice (.pair (.str) (.slice (i64)))) (.slice (.pair (i64) (.pair (i64) (.pair (i64) (i64))))), i64]) : runFn (mkEnv [] [(stepIA_key, stepIA_L), (stepIQ_key, stepIQ_L)]) Try.f51 [.pair (.slice (.pair (.str) (.slice (i64)))) (.slice (.pair (i64) (.pair (i64) (.pair (i64) (i64))))), i64] [.row 2 (i64)] x = stepsI x := by kernel_rfl
theorem stepsI_ok : stepsI_con.ok Try.prog 51 := fn_ok (con := stepsI_con) (mkEnv_ok (cons := []) trivial [(stepIA_key, stepIA_L), (stepIQ_key, stepIQ_L)]) Try.func51 rfl (by kernel_rfl) (by exact ⟨stepIA_ok, stepIQ_ok, trivial⟩) (fun x y h => (stepsI_run x).trans h)

def stepSA_vars : Vars := [(0, .val (.ref (.pair (.slice (.pair (.str) (.slice (i64)))) (.slice (.pair (i64) (.pair (i64) (.pair (i64) (i64)))))))), (1, .val (i64)), (5, .row 0 2 (i64)), (14, .val (i64)), (15, .val (i64))]
def stepSA_step : (List ((ByteArray × List (Int))) × List ((Int × Int × Int × Int))) × Int × List (Int) × Int × Int → Option (LRes × ((List ((ByteArray × List (Int))) × List ((Int × Int × Int × Int))) × Int × List (Int) × Int × Int)) :=
fun x =>
  br (decide (x.snd.snd.snd.2 < x.snd.snd.snd.1))
    (br (decide (List.length x.snd.snd.1 + [(-1 : Int)].length ≤ (4294967296 : Nat)))
      (some
        (LRes.next, x.1, x.snd.1, x.snd.snd.1 ++ [(-1 : Int)], x.snd.snd.snd.1,
          IntKind.i64.wrap (x.snd.snd.snd.2 + (1 : Int))))
      none)
    (some (LRes.out, x.1, x.snd.1, x.snd.snd.1, x.snd.snd.snd.1, x.snd.snd.snd.2))
def stepSA_fuel : (List ((ByteArray × List (Int))) × List ((Int × Int × Int × Int))) × Int × List (Int) × Int × Int → Nat := fun s => (s.2.2.2.1 - s.2.2.2.2).toNat + 1
def stepSA : (List ((ByteArray × List (Int))) × List ((Int × Int × Int × Int))) × Int × List (Int) × Int × Int → Option ((List ((ByteArray × List (Int))) × List ((Int × Int × Int × Int))) × Int × List (Int) × Int × Int) := fun s => iterP stepSA_step (stepSA_fuel s) s
def stepSA_L : LoopC := ⟨stepSA_vars, 0, .plain stepSA⟩
noncomputable def stepSA_key : Nat := key (loopAt Try.f89 0)
theorem stepSA_stepok (x : stepSA_vars.den) : stepOf (mkEnv [] []) Try.f89.ntmps stepSA_vars 0 (loopAt Try.f89 0) x = stepSA_step x := by kernel_rfl
theorem stepSA_ok : LoopOK Try.prog Try.f89.ntmps stepSA_L (loopAt Try.f89 0)   := iterP_loop (n := Try.f89.ntmps) (vs := stepSA_vars) (out := 0) (body := loopAt Try.f89 0) (mkEnv_ok (cons := []) trivial []) stepSA_step stepSA_fuel (by exact trivial) stepSA_stepok

def stepSM_vars : Vars := [(0, .val (.ref (.pair (.slice (.pair (.str) (.slice (i64)))) (.slice (.pair (i64) (.pair (i64) (.pair (i64) (i64)))))))), (5, .row 0 2 (i64)), (6, .val (i64)), (7, .val (i64))]
def stepSM_step : (List ((ByteArray × List (Int))) × List ((Int × Int × Int × Int))) × List (Int) × Int × Int → Option (LRes × ((List ((ByteArray × List (Int))) × List ((Int × Int × Int × Int))) × List (Int) × Int × Int)) :=
fun x =>
  br (decide (x.snd.snd.2 < (↑(List.length x.fst.2) : Int)))
    (ob (idx x.fst.2 x.snd.snd.2) fun y =>
      ob (idx x.snd.1 y.1) fun x_1 =>
        ob (List.get?Internal x.snd.1 (Int.toNat y.1)) fun x_2 =>
          br (x_2 == x.snd.snd.1)
            (ob (idx x.snd.1 y.snd.snd.1) fun x_3 =>
              ob (List.get?Internal x.snd.1 (Int.toNat y.snd.snd.1)) fun x_4 =>
                br (decide (x_4 < (0 : Int)))
                  (ob (idx x.snd.1 y.snd.snd.1) fun x_5 =>
                    ob (List.get?Internal x.snd.1 (Int.toNat y.snd.snd.1)) fun x_6 =>
                      ob
                        (idx (List.set x.snd.1 (Int.toNat y.snd.snd.1) (IntKind.i64.wrap (x.snd.snd.1 + (1 : Int))))
                          y.snd.snd.1)
                        fun x_7 =>
                        ob
                          ((List.set x.snd.1 (Int.toNat y.snd.snd.1)
                                (IntKind.i64.wrap (x.snd.snd.1 + (1 : Int)))).get?Internal
                            (Int.toNat y.snd.snd.1))
                          fun x_8 =>
                          br (x_8 == x.snd.snd.1)
                            (ob
                              (idx
                                (List.set x.snd.1 (Int.toNat y.snd.snd.1) (IntKind.i64.wrap (x.snd.snd.1 + (1 : Int))))
                                y.1)
                              fun x_9 =>
                              ob
                                ((List.set x.snd.1 (Int.toNat y.snd.snd.1)
                                      (IntKind.i64.wrap (x.snd.snd.1 + (1 : Int)))).get?Internal
                                  (Int.toNat y.1))
                                fun x_10 =>
                                br (decide (x_10 < (0 : Int)))
                                  (ob
                                    (idx
                                      (List.set x.snd.1 (Int.toNat y.snd.snd.1)
                                        (IntKind.i64.wrap (x.snd.snd.1 + (1 : Int))))
                                      y.1)
                                    fun x_11 =>
                                    ob
                                      ((List.set x.snd.1 (Int.toNat y.snd.snd.1)
                                            (IntKind.i64.wrap (x.snd.snd.1 + (1 : Int)))).get?Internal
                                        (Int.toNat y.1))
                                      fun x_12 =>
                                      some
                                        (LRes.next, x.1,
                                          (List.set x.snd.1 (Int.toNat y.snd.snd.1)
                                                (IntKind.i64.wrap (x.snd.snd.1 + (1 : Int)))).set
                                            (Int.toNat y.1) (IntKind.i64.wrap (x.snd.snd.1 + (1 : Int))),
                                          x.snd.snd.1, IntKind.i64.wrap (x.snd.snd.2 + (1 : Int))))
                                  (some
                                    (LRes.next, x.1,
                                      List.set x.snd.1 (Int.toNat y.snd.snd.1)
                                        (IntKind.i64.wrap (x.snd.snd.1 + (1 : Int))),
                                      x.snd.snd.1, IntKind.i64.wrap (x.snd.snd.2 + (1 : Int)))))
                            (some
                              (LRes.next, x.1,
                                List.set x.snd.1 (Int.toNat y.snd.snd.1) (IntKind.i64.wrap (x.snd.snd.1 + (1 : Int))),
                                x.snd.snd.1, IntKind.i64.wrap (x.snd.snd.2 + (1 : Int)))))
                  (ob (idx x.snd.1 y.snd.snd.1) fun x_5 =>
                    ob (List.get?Internal x.snd.1 (Int.toNat y.snd.snd.1)) fun x_6 =>
                      br (x_6 == x.snd.snd.1)
                        (ob (idx x.snd.1 y.1) fun x_7 =>
                          ob (List.get?Internal x.snd.1 (Int.toNat y.1)) fun x_8 =>
                            br (decide (x_8 < (0 : Int)))
                              (ob (idx x.snd.1 y.1) fun x_9 =>
                                ob (List.get?Internal x.snd.1 (Int.toNat y.1)) fun x_10 =>
                                  some
                                    (LRes.next, x.1,
                                      List.set x.snd.1 (Int.toNat y.1) (IntKind.i64.wrap (x.snd.snd.1 + (1 : Int))),
                                      x.snd.snd.1, IntKind.i64.wrap (x.snd.snd.2 + (1 : Int))))
                              (some (LRes.next, x.1, x.snd.1, x.snd.snd.1, IntKind.i64.wrap (x.snd.snd.2 + (1 : Int)))))
                        (some (LRes.next, x.1, x.snd.1, x.snd.snd.1, IntKind.i64.wrap (x.snd.snd.2 + (1 : Int))))))
            (ob (idx x.snd.1 y.snd.snd.1) fun x_3 =>
              ob (List.get?Internal x.snd.1 (Int.toNat y.snd.snd.1)) fun x_4 =>
                br (x_4 == x.snd.snd.1)
                  (ob (idx x.snd.1 y.1) fun x_5 =>
                    ob (List.get?Internal x.snd.1 (Int.toNat y.1)) fun x_6 =>
                      br (decide (x_6 < (0 : Int)))
                        (ob (idx x.snd.1 y.1) fun x_7 =>
                          ob (List.get?Internal x.snd.1 (Int.toNat y.1)) fun x_8 =>
                            some
                              (LRes.next, x.1,
                                List.set x.snd.1 (Int.toNat y.1) (IntKind.i64.wrap (x.snd.snd.1 + (1 : Int))),
                                x.snd.snd.1, IntKind.i64.wrap (x.snd.snd.2 + (1 : Int))))
                        (some (LRes.next, x.1, x.snd.1, x.snd.snd.1, IntKind.i64.wrap (x.snd.snd.2 + (1 : Int)))))
                  (some (LRes.next, x.1, x.snd.1, x.snd.snd.1, IntKind.i64.wrap (x.snd.snd.2 + (1 : Int))))))
    (some (LRes.out, x.1, x.snd.1, x.snd.snd.1, x.snd.snd.2))
def stepSM_fuel : (List ((ByteArray × List (Int))) × List ((Int × Int × Int × Int))) × List (Int) × Int × Int → Nat := fun s => (s.1.2.length - s.2.2.2.toNat) + 1
def stepSM : (List ((ByteArray × List (Int))) × List ((Int × Int × Int × Int))) × List (Int) × Int × Int → Option ((List ((ByteArray × List (Int))) × List ((Int × Int × Int × Int))) × List (Int) × Int × Int) := fun s => iterP stepSM_step (stepSM_fuel s) s
def stepSM_L : LoopC := ⟨stepSM_vars, 4, .plain stepSM⟩
noncomputable def stepSM_key : Nat := key (loopIn (loopAt Try.f89 1) 0)
theorem stepSM_stepok (x : stepSM_vars.den) : stepOf (mkEnv [] []) Try.f89.ntmps stepSM_vars 4 (loopIn (loopAt Try.f89 1) 0) x = stepSM_step x := by kernel_rfl
theorem stepSM_ok : LoopOK Try.prog Try.f89.ntmps stepSM_L (loopIn (loopAt Try.f89 1) 0)   := iterP_loop (n := Try.f89.ntmps) (vs := stepSM_vars) (out := 4) (body := loopIn (loopAt Try.f89 1) 0) (mkEnv_ok (cons := []) trivial []) stepSM_step stepSM_fuel (by exact trivial) stepSM_stepok

def stepSF_vars : Vars := [(0, .val (.ref (.pair (.slice (.pair (.str) (.slice (i64)))) (.slice (.pair (i64) (.pair (i64) (.pair (i64) (i64)))))))), (5, .row 0 2 (i64)), (6, .val (i64))]
def stepSF_step : (List ((ByteArray × List (Int))) × List ((Int × Int × Int × Int))) × List (Int) × Int → Option (LRes × ((List ((ByteArray × List (Int))) × List ((Int × Int × Int × Int))) × List (Int) × Int)) :=
fun x =>
  br (decide (x.snd.2 < (↑(List.length x.fst.1) : Int)))
    (ob (stepSM (x.1, x.snd.1, x.snd.2, (0 : Int))) fun r =>
      some (LRes.next, r.1, r.snd.1, IntKind.i64.wrap (r.snd.snd.1 + (1 : Int))))
    (some (LRes.out, x.1, x.snd.1, x.snd.2))
def stepSF_fuel : (List ((ByteArray × List (Int))) × List ((Int × Int × Int × Int))) × List (Int) × Int → Nat := fun s => (s.1.1.length - s.2.2.toNat) + 1
def stepSF : (List ((ByteArray × List (Int))) × List ((Int × Int × Int × Int))) × List (Int) × Int → Option ((List ((ByteArray × List (Int))) × List ((Int × Int × Int × Int))) × List (Int) × Int) := fun s => iterP stepSF_step (stepSF_fuel s) s
def stepSF_L : LoopC := ⟨stepSF_vars, 2, .plain stepSF⟩
noncomputable def stepSF_key : Nat := key (loopAt Try.f89 1)
theorem stepSF_stepok (x : stepSF_vars.den) : stepOf (mkEnv [] [(stepSM_key, stepSM_L)]) Try.f89.ntmps stepSF_vars 2 (loopAt Try.f89 1) x = stepSF_step x := by kernel_rfl
theorem stepSF_ok : LoopOK Try.prog Try.f89.ntmps stepSF_L (loopAt Try.f89 1)   := iterP_loop (n := Try.f89.ntmps) (vs := stepSF_vars) (out := 2) (body := loopAt Try.f89 1) (mkEnv_ok (cons := []) trivial [(stepSM_key, stepSM_L)]) stepSF_step stepSF_fuel (by exact ⟨stepSM_ok, trivial⟩) stepSF_stepok

def stepsS : (List ((ByteArray × List (Int))) × List ((Int × Int × Int × Int))) × Int → Option (List (Int)) :=
fun x =>
  ob (stepSA (x.1, x.2, [], (↑(List.length x.fst.1) : Int), (0 : Int))) fun r =>
    ob (idx r.snd.snd.1 r.snd.1) fun x =>
      ob (List.get?Internal r.snd.snd.1 (Int.toNat r.snd.1)) fun x =>
        ob (stepSF (r.1, List.set r.snd.snd.1 (Int.toNat r.snd.1) (0 : Int), (0 : Int))) fun r => some r.snd.1
def stepsS_con : Con := ⟨[.ref (.pair (.slice (.pair (.str) (.slice (i64)))) (.slice (.pair (i64) (.pair (i64) (.pair (i64) (i64)))))), i64], [.row 2 (i64)], stepsS⟩
theorem stepsS_run (x : Dens [.ref (.pair (.slice (.pair (.str) (.slice (i64)))) (.slice (.pair (i64) (.pair (i64) (.pair (i64) (i64)))))), i64]) : runFn (mkEnv [] [(stepSA_key, stepSA_L), (stepSF_key, stepSF_L)]) Try.f89 [.ref (.pair (.slice (.pair (.str) (.slice (i64)))) (.slice (.pair (i64) (.pair (i64) (.pair (i64) (i64)))))), i64] [.row 2 (i64)] x = stepsS x := by kernel_rfl
theorem stepsS_ok : stepsS_con.ok Try.prog 89 := fn_ok (con := stepsS_con) (mkEnv_ok (cons := []) trivial [(stepSA_key, stepSA_L), (stepSF_key, stepSF_L)]) Try.func89 rfl (by kernel_rfl) (by exact ⟨stepSA_ok, stepSF_ok, trivial⟩) (fun x y h => (stepsS_run x).trans h)

def pathIN_vars : Vars := [(2, .val (i64)), (3, .box 0 33 (.pair (.slice (.pair (.str) (.slice (i64)))) (.slice (.pair (i64) (.pair (i64) (.pair (i64) (i64))))))), (9, .row 0 2 (i64)), (10, .row 0 2 (i64)), (11, .val (i64)), (45, .val (.slice (.pair (i64) (.pair (i64) (.pair (i64) (i64)))))), (46, .val (i64)), (47, .val (i64))]
def pathIN_step : Int × (List ((ByteArray × List (Int))) × List ((Int × Int × Int × Int))) × List (Int) × List (Int) × Int × List ((Int × Int × Int × Int)) × Int × Int → Option (LRes × (Int × (List ((ByteArray × List (Int))) × List ((Int × Int × Int × Int))) × List (Int) × List (Int) × Int × List ((Int × Int × Int × Int)) × Int × Int)) :=
fun x =>
  br (decide (x.snd.snd.snd.snd.snd.snd.2 < x.snd.snd.snd.snd.snd.snd.1))
    (ob (idx x.snd.snd.snd.snd.snd.1 x.snd.snd.snd.snd.snd.snd.2) fun y =>
      br (y.snd.snd.1 == x.snd.snd.snd.snd.1)
        (br (y.1 == x.snd.snd.snd.snd.1)
          (ob (idx x.snd.snd.1 y.1) fun x_1 =>
            ob (List.get?Internal x.snd.snd.1 (Int.toNat y.1)) fun x_2 =>
              ob (idx x.snd.snd.1 x.snd.snd.snd.snd.1) fun x_3 =>
                ob (List.get?Internal x.snd.snd.1 (Int.toNat x.snd.snd.snd.snd.1)) fun x_4 =>
                  br (x_2 == IntKind.i64.wrap (x_4 - (1 : Int)))
                    (br
                      (decide (List.length x.snd.snd.snd.1 + [x.snd.snd.snd.snd.snd.snd.2].length ≤ (4294967296 : Nat)))
                      (some
                        (LRes.out, x.1, (x.snd.fst.1, x.snd.fst.2), x.snd.snd.1,
                          x.snd.snd.snd.1 ++ [x.snd.snd.snd.snd.snd.snd.2], y.1, x.snd.snd.snd.snd.snd.1,
                          x.snd.snd.snd.snd.snd.snd.1, x.snd.snd.snd.snd.snd.snd.2))
                      none)
                    (some
                      (LRes.next, x.1, (x.snd.fst.1, x.snd.fst.2), x.snd.snd.1, x.snd.snd.snd.1, x.snd.snd.snd.snd.1,
                        x.snd.snd.snd.snd.snd.1, x.snd.snd.snd.snd.snd.snd.1,
                        IntKind.i64.wrap (x.snd.snd.snd.snd.snd.snd.2 + (1 : Int)))))
          (br (y.snd.snd.1 == x.snd.snd.snd.snd.1)
            (ob (idx x.snd.snd.1 y.1) fun x_1 =>
              ob (List.get?Internal x.snd.snd.1 (Int.toNat y.1)) fun x_2 =>
                ob (idx x.snd.snd.1 x.snd.snd.snd.snd.1) fun x_3 =>
                  ob (List.get?Internal x.snd.snd.1 (Int.toNat x.snd.snd.snd.snd.1)) fun x_4 =>
                    br (x_2 == IntKind.i64.wrap (x_4 - (1 : Int)))
                      (br
                        (decide
                          (List.length x.snd.snd.snd.1 + [x.snd.snd.snd.snd.snd.snd.2].length ≤ (4294967296 : Nat)))
                        (some
                          (LRes.out, x.1, (x.snd.fst.1, x.snd.fst.2), x.snd.snd.1,
                            x.snd.snd.snd.1 ++ [x.snd.snd.snd.snd.snd.snd.2], y.1, x.snd.snd.snd.snd.snd.1,
                            x.snd.snd.snd.snd.snd.snd.1, x.snd.snd.snd.snd.snd.snd.2))
                        none)
                      (some
                        (LRes.next, x.1, (x.snd.fst.1, x.snd.fst.2), x.snd.snd.1, x.snd.snd.snd.1, x.snd.snd.snd.snd.1,
                          x.snd.snd.snd.snd.snd.1, x.snd.snd.snd.snd.snd.snd.1,
                          IntKind.i64.wrap (x.snd.snd.snd.snd.snd.snd.2 + (1 : Int)))))
            (some
              (LRes.next, x.1, (x.snd.fst.1, x.snd.fst.2), x.snd.snd.1, x.snd.snd.snd.1, x.snd.snd.snd.snd.1,
                x.snd.snd.snd.snd.snd.1, x.snd.snd.snd.snd.snd.snd.1,
                IntKind.i64.wrap (x.snd.snd.snd.snd.snd.snd.2 + (1 : Int))))))
        (br (y.1 == x.snd.snd.snd.snd.1)
          (ob (idx x.snd.snd.1 y.snd.snd.1) fun x_1 =>
            ob (List.get?Internal x.snd.snd.1 (Int.toNat y.snd.snd.1)) fun x_2 =>
              ob (idx x.snd.snd.1 x.snd.snd.snd.snd.1) fun x_3 =>
                ob (List.get?Internal x.snd.snd.1 (Int.toNat x.snd.snd.snd.snd.1)) fun x_4 =>
                  br (x_2 == IntKind.i64.wrap (x_4 - (1 : Int)))
                    (br
                      (decide (List.length x.snd.snd.snd.1 + [x.snd.snd.snd.snd.snd.snd.2].length ≤ (4294967296 : Nat)))
                      (some
                        (LRes.out, x.1, (x.snd.fst.1, x.snd.fst.2), x.snd.snd.1,
                          x.snd.snd.snd.1 ++ [x.snd.snd.snd.snd.snd.snd.2], y.snd.snd.1, x.snd.snd.snd.snd.snd.1,
                          x.snd.snd.snd.snd.snd.snd.1, x.snd.snd.snd.snd.snd.snd.2))
                      none)
                    (some
                      (LRes.next, x.1, (x.snd.fst.1, x.snd.fst.2), x.snd.snd.1, x.snd.snd.snd.1, x.snd.snd.snd.snd.1,
                        x.snd.snd.snd.snd.snd.1, x.snd.snd.snd.snd.snd.snd.1,
                        IntKind.i64.wrap (x.snd.snd.snd.snd.snd.snd.2 + (1 : Int)))))
          (br (y.snd.snd.1 == x.snd.snd.snd.snd.1)
            (ob (idx x.snd.snd.1 y.snd.snd.1) fun x_1 =>
              ob (List.get?Internal x.snd.snd.1 (Int.toNat y.snd.snd.1)) fun x_2 =>
                ob (idx x.snd.snd.1 x.snd.snd.snd.snd.1) fun x_3 =>
                  ob (List.get?Internal x.snd.snd.1 (Int.toNat x.snd.snd.snd.snd.1)) fun x_4 =>
                    br (x_2 == IntKind.i64.wrap (x_4 - (1 : Int)))
                      (br
                        (decide
                          (List.length x.snd.snd.snd.1 + [x.snd.snd.snd.snd.snd.snd.2].length ≤ (4294967296 : Nat)))
                        (some
                          (LRes.out, x.1, (x.snd.fst.1, x.snd.fst.2), x.snd.snd.1,
                            x.snd.snd.snd.1 ++ [x.snd.snd.snd.snd.snd.snd.2], y.snd.snd.1, x.snd.snd.snd.snd.snd.1,
                            x.snd.snd.snd.snd.snd.snd.1, x.snd.snd.snd.snd.snd.snd.2))
                        none)
                      (some
                        (LRes.next, x.1, (x.snd.fst.1, x.snd.fst.2), x.snd.snd.1, x.snd.snd.snd.1, x.snd.snd.snd.snd.1,
                          x.snd.snd.snd.snd.snd.1, x.snd.snd.snd.snd.snd.snd.1,
                          IntKind.i64.wrap (x.snd.snd.snd.snd.snd.snd.2 + (1 : Int)))))
            (some
              (LRes.next, x.1, (x.snd.fst.1, x.snd.fst.2), x.snd.snd.1, x.snd.snd.snd.1, x.snd.snd.snd.snd.1,
                x.snd.snd.snd.snd.snd.1, x.snd.snd.snd.snd.snd.snd.1,
                IntKind.i64.wrap (x.snd.snd.snd.snd.snd.snd.2 + (1 : Int)))))))
    (some
      (LRes.out, x.1, (x.snd.fst.1, x.snd.fst.2), x.snd.snd.1, x.snd.snd.snd.1, x.snd.snd.snd.snd.1,
        x.snd.snd.snd.snd.snd.1, x.snd.snd.snd.snd.snd.snd.1, x.snd.snd.snd.snd.snd.snd.2))
def pathIN_fuel : Int × (List ((ByteArray × List (Int))) × List ((Int × Int × Int × Int))) × List (Int) × List (Int) × Int × List ((Int × Int × Int × Int)) × Int × Int → Nat := fun s => (s.2.2.2.2.2.2.1 - s.2.2.2.2.2.2.2).toNat + 1
def pathIN : Int × (List ((ByteArray × List (Int))) × List ((Int × Int × Int × Int))) × List (Int) × List (Int) × Int × List ((Int × Int × Int × Int)) × Int × Int → Option (Int × (List ((ByteArray × List (Int))) × List ((Int × Int × Int × Int))) × List (Int) × List (Int) × Int × List ((Int × Int × Int × Int)) × Int × Int) := fun s => iterP pathIN_step (pathIN_fuel s) s
def pathIN_L : LoopC := ⟨pathIN_vars, 2, .plain pathIN⟩
noncomputable def pathIN_key : Nat := key (loopIn (loopAt Try.f12 0) 0)
theorem pathIN_stepok (x : pathIN_vars.den) : stepOf (mkEnv [] []) Try.f12.ntmps pathIN_vars 2 (loopIn (loopAt Try.f12 0) 0) x = pathIN_step x := by kernel_rfl
theorem pathIN_ok : LoopOK Try.prog Try.f12.ntmps pathIN_L (loopIn (loopAt Try.f12 0) 0)   := iterP_loop (n := Try.f12.ntmps) (vs := pathIN_vars) (out := 2) (body := loopIn (loopAt Try.f12 0) 0) (mkEnv_ok (cons := []) trivial []) pathIN_step pathIN_fuel (by exact trivial) pathIN_stepok

def pathIL_vars : Vars := [(2, .val (i64)), (3, .box 0 33 (.pair (.slice (.pair (.str) (.slice (i64)))) (.slice (.pair (i64) (.pair (i64) (.pair (i64) (i64))))))), (9, .row 0 2 (i64)), (10, .row 0 2 (i64)), (11, .val (i64))]
def pathIL_step : Int × (List ((ByteArray × List (Int))) × List ((Int × Int × Int × Int))) × List (Int) × List (Int) × Int → Option (LRes × (Int × (List ((ByteArray × List (Int))) × List ((Int × Int × Int × Int))) × List (Int) × List (Int) × Int)) :=
fun x =>
  br (x.snd.snd.snd.2 != x.1)
    (ob
      (pathIN
        (x.1, (x.snd.fst.1, x.snd.fst.2), x.snd.snd.1, x.snd.snd.snd.1, x.snd.snd.snd.2, x.snd.fst.2,
          (↑(List.length x.snd.fst.2) : Int), (0 : Int)))
      fun r => some (LRes.next, r.1, (r.snd.fst.1, r.snd.fst.2), r.snd.snd.1, r.snd.snd.snd.1, r.snd.snd.snd.snd.1))
    (some (LRes.out, x.1, (x.snd.fst.1, x.snd.fst.2), x.snd.snd.1, x.snd.snd.snd.1, x.snd.snd.snd.2))
def pathIL_fuel : Int × (List ((ByteArray × List (Int))) × List ((Int × Int × Int × Int))) × List (Int) × List (Int) × Int → Nat := fun s => s.2.1.1.length + 2
def pathIL : Int × (List ((ByteArray × List (Int))) × List ((Int × Int × Int × Int))) × List (Int) × List (Int) × Int → Option (Int × (List ((ByteArray × List (Int))) × List ((Int × Int × Int × Int))) × List (Int) × List (Int) × Int) := fun s => iterP pathIL_step (pathIL_fuel s) s
def pathIL_L : LoopC := ⟨pathIL_vars, 0, .plain pathIL⟩
noncomputable def pathIL_key : Nat := key (loopAt Try.f12 0)
theorem pathIL_stepok (x : pathIL_vars.den) : stepOf (mkEnv [] [(pathIN_key, pathIN_L)]) Try.f12.ntmps pathIL_vars 0 (loopAt Try.f12 0) x = pathIL_step x := by kernel_rfl
theorem pathIL_ok : LoopOK Try.prog Try.f12.ntmps pathIL_L (loopAt Try.f12 0)   := iterP_loop (n := Try.f12.ntmps) (vs := pathIL_vars) (out := 0) (body := loopAt Try.f12 0) (mkEnv_ok (cons := []) trivial [(pathIN_key, pathIN_L)]) pathIL_step pathIL_fuel (by exact ⟨pathIN_ok, trivial⟩) pathIL_stepok

def pathOI : (List ((ByteArray × List (Int))) × List ((Int × Int × Int × Int))) × Int × Int → Option (List (Int) × Int) :=
fun x =>
  ob (validWI (x.fst.1, x.fst.2)) fun y =>
    br (!y) (some ([], (1 : Int)))
      (ob (withinP (x.snd.1, (0 : Int), IntKind.i64.wrap ((↑(List.length x.fst.1) : Int) - (1 : Int)))) fun y =>
        br (!y) (some ([], (2 : Int)))
          (ob (withinP (x.snd.2, (0 : Int), IntKind.i64.wrap ((↑(List.length x.fst.1) : Int) - (1 : Int)))) fun y =>
            br (!y) (some ([], (2 : Int)))
              (ob (stepsI ((x.fst.1, x.fst.2), x.snd.2)) fun y =>
                ob (idx y x.snd.1) fun x_1 =>
                  ob (List.get?Internal y (Int.toNat x.snd.1)) fun x_2 =>
                    br (decide (x_2 < (0 : Int))) (some ([], (3 : Int)))
                      (ob (pathIL (x.snd.2, (x.fst.1, x.fst.2), y, [], x.snd.1)) fun r =>
                        some (r.snd.snd.snd.1, (0 : Int))))))
def pathOI_con : Con := ⟨[.pair (.slice (.pair (.str) (.slice (i64)))) (.slice (.pair (i64) (.pair (i64) (.pair (i64) (i64))))), i64, i64], [.row 2 (i64), .d (i64)], pathOI⟩
theorem pathOI_run (x : Dens [.pair (.slice (.pair (.str) (.slice (i64)))) (.slice (.pair (i64) (.pair (i64) (.pair (i64) (i64))))), i64, i64]) : runFn (mkEnv [(49, validWI_con), (50, withinP_con), (51, stepsI_con)] [(pathIL_key, pathIL_L)]) Try.f12 [.pair (.slice (.pair (.str) (.slice (i64)))) (.slice (.pair (i64) (.pair (i64) (.pair (i64) (i64))))), i64, i64] [.row 2 (i64), .d (i64)] x = pathOI x := by kernel_rfl
theorem pathOI_ok : pathOI_con.ok Try.prog 12 := fn_ok (con := pathOI_con) (mkEnv_ok (cons := [(49, validWI_con), (50, withinP_con), (51, stepsI_con)]) ⟨validWI_ok, withinP_ok, stepsI_ok, trivial⟩ [(pathIL_key, pathIL_L)]) Try.func12 rfl (by kernel_rfl) (by exact ⟨pathIL_ok, trivial⟩) (fun x y h => (pathOI_run x).trans h)

def rootW : (List ((ByteArray × List (Int))) × List ((Int × Int × Int × Int))) × Int → Option (Bool) :=
fun x => ob (inP (x.2, (0 : Int), IntKind.i64.wrap ((↑(List.length x.fst.1) : Int) - (1 : Int)))) fun y => some y
def rootW_con : Con := ⟨[.ref (.pair (.slice (.pair (.str) (.slice (i64)))) (.slice (.pair (i64) (.pair (i64) (.pair (i64) (i64)))))), i64], [.d (.bool)], rootW⟩
theorem rootW_run (x : Dens [.ref (.pair (.slice (.pair (.str) (.slice (i64)))) (.slice (.pair (i64) (.pair (i64) (.pair (i64) (i64)))))), i64]) : runFn (mkEnv [(114, inP_con)] []) Try.f88 [.ref (.pair (.slice (.pair (.str) (.slice (i64)))) (.slice (.pair (i64) (.pair (i64) (.pair (i64) (i64)))))), i64] [.d (.bool)] x = rootW x := by kernel_rfl
theorem rootW_ok : rootW_con.ok Try.prog 88 := fn_ok (con := rootW_con) (mkEnv_ok (cons := [(114, inP_con)]) ⟨inP_ok, trivial⟩ []) Try.func88 rfl (by kernel_rfl) (by exact trivial) (fun x y h => (rootW_run x).trans h)

def pathSN_vars : Vars := [(0, .val (.ref (.pair (.slice (.pair (.str) (.slice (i64)))) (.slice (.pair (i64) (.pair (i64) (.pair (i64) (i64)))))))), (2, .val (i64)), (9, .row 0 2 (i64)), (10, .row 0 44 (.pair (i64) (.pair (i64) (.pair (i64) (i64))))), (11, .row 0 2 (i64)), (12, .val (i64)), (13, .val (i64))]
def pathSN_step : (List ((ByteArray × List (Int))) × List ((Int × Int × Int × Int))) × Int × List (Int) × List ((Int × Int × Int × Int)) × List (Int) × Int × Int → Option (LRes × ((List ((ByteArray × List (Int))) × List ((Int × Int × Int × Int))) × Int × List (Int) × List ((Int × Int × Int × Int)) × List (Int) × Int × Int)) :=
fun x =>
  br (decide (x.snd.snd.snd.snd.snd.2 < (↑(List.length x.fst.2) : Int)))
    (ob (idx x.fst.2 x.snd.snd.snd.snd.snd.2) fun y =>
      br (y.snd.snd.1 == x.snd.snd.snd.snd.snd.1)
        (br (y.snd.snd.1 == x.snd.snd.snd.snd.snd.1)
          (ob (idx x.snd.snd.1 y.1) fun x_1 =>
            ob (List.get?Internal x.snd.snd.1 (Int.toNat y.1)) fun x_2 =>
              ob (idx x.snd.snd.1 x.snd.snd.snd.snd.snd.1) fun x_3 =>
                ob (List.get?Internal x.snd.snd.1 (Int.toNat x.snd.snd.snd.snd.snd.1)) fun x_4 =>
                  br (x_2 == IntKind.i64.wrap (x_4 - (1 : Int)))
                    (br
                      (decide
                        (List.length x.snd.snd.snd.1 + [(y.snd.snd.1, y.snd.snd.2, y.1, y.snd.1)].length ≤
                          (4294967296 : Nat)))
                      (br
                        (decide
                          (List.length x.snd.snd.snd.snd.1 + [x.snd.snd.snd.snd.snd.2].length ≤ (4294967296 : Nat)))
                        (some
                          (LRes.out, x.1, x.snd.1, x.snd.snd.1,
                            x.snd.snd.snd.1 ++ [(y.snd.snd.1, y.snd.snd.2, y.1, y.snd.1)],
                            x.snd.snd.snd.snd.1 ++ [x.snd.snd.snd.snd.snd.2], y.1, x.snd.snd.snd.snd.snd.2))
                        none)
                      none)
                    (some
                      (LRes.next, x.1, x.snd.1, x.snd.snd.1, x.snd.snd.snd.1, x.snd.snd.snd.snd.1,
                        x.snd.snd.snd.snd.snd.1, IntKind.i64.wrap (x.snd.snd.snd.snd.snd.2 + (1 : Int)))))
          (some
            (LRes.next, x.1, x.snd.1, x.snd.snd.1, x.snd.snd.snd.1, x.snd.snd.snd.snd.1, x.snd.snd.snd.snd.snd.1,
              IntKind.i64.wrap (x.snd.snd.snd.snd.snd.2 + (1 : Int)))))
        (br (y.1 == x.snd.snd.snd.snd.snd.1)
          (ob (idx x.snd.snd.1 y.snd.snd.1) fun x_1 =>
            ob (List.get?Internal x.snd.snd.1 (Int.toNat y.snd.snd.1)) fun x_2 =>
              ob (idx x.snd.snd.1 x.snd.snd.snd.snd.snd.1) fun x_3 =>
                ob (List.get?Internal x.snd.snd.1 (Int.toNat x.snd.snd.snd.snd.snd.1)) fun x_4 =>
                  br (x_2 == IntKind.i64.wrap (x_4 - (1 : Int)))
                    (br
                      (decide
                        (List.length x.snd.snd.snd.1 + [(y.1, y.snd.1, y.snd.snd.1, y.snd.snd.2)].length ≤
                          (4294967296 : Nat)))
                      (br
                        (decide
                          (List.length x.snd.snd.snd.snd.1 + [x.snd.snd.snd.snd.snd.2].length ≤ (4294967296 : Nat)))
                        (some
                          (LRes.out, x.1, x.snd.1, x.snd.snd.1,
                            x.snd.snd.snd.1 ++ [(y.1, y.snd.1, y.snd.snd.1, y.snd.snd.2)],
                            x.snd.snd.snd.snd.1 ++ [x.snd.snd.snd.snd.snd.2], y.snd.snd.1, x.snd.snd.snd.snd.snd.2))
                        none)
                      none)
                    (some
                      (LRes.next, x.1, x.snd.1, x.snd.snd.1, x.snd.snd.snd.1, x.snd.snd.snd.snd.1,
                        x.snd.snd.snd.snd.snd.1, IntKind.i64.wrap (x.snd.snd.snd.snd.snd.2 + (1 : Int)))))
          (some
            (LRes.next, x.1, x.snd.1, x.snd.snd.1, x.snd.snd.snd.1, x.snd.snd.snd.snd.1, x.snd.snd.snd.snd.snd.1,
              IntKind.i64.wrap (x.snd.snd.snd.snd.snd.2 + (1 : Int))))))
    (some
      (LRes.out, x.1, x.snd.1, x.snd.snd.1, x.snd.snd.snd.1, x.snd.snd.snd.snd.1, x.snd.snd.snd.snd.snd.1,
        x.snd.snd.snd.snd.snd.2))
def pathSN_fuel : (List ((ByteArray × List (Int))) × List ((Int × Int × Int × Int))) × Int × List (Int) × List ((Int × Int × Int × Int)) × List (Int) × Int × Int → Nat := fun s => (s.1.2.length - s.2.2.2.2.2.2.toNat) + 1
def pathSN : (List ((ByteArray × List (Int))) × List ((Int × Int × Int × Int))) × Int × List (Int) × List ((Int × Int × Int × Int)) × List (Int) × Int × Int → Option ((List ((ByteArray × List (Int))) × List ((Int × Int × Int × Int))) × Int × List (Int) × List ((Int × Int × Int × Int)) × List (Int) × Int × Int) := fun s => iterP pathSN_step (pathSN_fuel s) s
def pathSN_L : LoopC := ⟨pathSN_vars, 2, .plain pathSN⟩
noncomputable def pathSN_key : Nat := key (loopIn (loopAt Try.f46 0) 0)
theorem pathSN_stepok (x : pathSN_vars.den) : stepOf (mkEnv [] []) Try.f46.ntmps pathSN_vars 2 (loopIn (loopAt Try.f46 0) 0) x = pathSN_step x := by kernel_rfl
theorem pathSN_ok : LoopOK Try.prog Try.f46.ntmps pathSN_L (loopIn (loopAt Try.f46 0) 0)   := iterP_loop (n := Try.f46.ntmps) (vs := pathSN_vars) (out := 2) (body := loopIn (loopAt Try.f46 0) 0) (mkEnv_ok (cons := []) trivial []) pathSN_step pathSN_fuel (by exact trivial) pathSN_stepok

def pathSL_vars : Vars := [(0, .val (.ref (.pair (.slice (.pair (.str) (.slice (i64)))) (.slice (.pair (i64) (.pair (i64) (.pair (i64) (i64)))))))), (2, .val (i64)), (9, .row 0 2 (i64)), (10, .row 0 44 (.pair (i64) (.pair (i64) (.pair (i64) (i64))))), (11, .row 0 2 (i64)), (12, .val (i64))]
def pathSL_step : (List ((ByteArray × List (Int))) × List ((Int × Int × Int × Int))) × Int × List (Int) × List ((Int × Int × Int × Int)) × List (Int) × Int → Option (LRes × ((List ((ByteArray × List (Int))) × List ((Int × Int × Int × Int))) × Int × List (Int) × List ((Int × Int × Int × Int)) × List (Int) × Int)) :=
fun x =>
  br (x.snd.snd.snd.snd.2 != x.snd.1)
    (ob (pathSN (x.1, x.snd.1, x.snd.snd.1, x.snd.snd.snd.1, x.snd.snd.snd.snd.1, x.snd.snd.snd.snd.2, (0 : Int)))
      fun r =>
      some (LRes.next, r.1, r.snd.1, r.snd.snd.1, r.snd.snd.snd.1, r.snd.snd.snd.snd.1, r.snd.snd.snd.snd.snd.1))
    (some (LRes.out, x.1, x.snd.1, x.snd.snd.1, x.snd.snd.snd.1, x.snd.snd.snd.snd.1, x.snd.snd.snd.snd.2))
def pathSL_fuel : (List ((ByteArray × List (Int))) × List ((Int × Int × Int × Int))) × Int × List (Int) × List ((Int × Int × Int × Int)) × List (Int) × Int → Nat := fun s => s.1.1.length + 2
def pathSL : (List ((ByteArray × List (Int))) × List ((Int × Int × Int × Int))) × Int × List (Int) × List ((Int × Int × Int × Int)) × List (Int) × Int → Option ((List ((ByteArray × List (Int))) × List ((Int × Int × Int × Int))) × Int × List (Int) × List ((Int × Int × Int × Int)) × List (Int) × Int) := fun s => iterP pathSL_step (pathSL_fuel s) s
def pathSL_L : LoopC := ⟨pathSL_vars, 0, .plain pathSL⟩
noncomputable def pathSL_key : Nat := key (loopAt Try.f46 0)
theorem pathSL_stepok (x : pathSL_vars.den) : stepOf (mkEnv [] [(pathSN_key, pathSN_L)]) Try.f46.ntmps pathSL_vars 0 (loopAt Try.f46 0) x = pathSL_step x := by kernel_rfl
theorem pathSL_ok : LoopOK Try.prog Try.f46.ntmps pathSL_L (loopAt Try.f46 0)   := iterP_loop (n := Try.f46.ntmps) (vs := pathSL_vars) (out := 0) (body := loopAt Try.f46 0) (mkEnv_ok (cons := []) trivial [(pathSN_key, pathSN_L)]) pathSL_step pathSL_fuel (by exact ⟨pathSN_ok, trivial⟩) pathSL_stepok

def pathS : (List ((ByteArray × List (Int))) × List ((Int × Int × Int × Int))) × Int × Int → Option (List ((Int × Int × Int × Int)) × List (Int) × Int) :=
fun x =>
  ob (rootW (x.1, x.snd.1)) fun y =>
    br (!y) (some ([], [], (2 : Int)))
      (ob (rootW (x.1, x.snd.2)) fun y =>
        br (!y) (some ([], [], (2 : Int)))
          (ob (stepsS (x.1, x.snd.2)) fun y =>
            ob (idx y x.snd.1) fun x_1 =>
              ob (List.get?Internal y (Int.toNat x.snd.1)) fun x_2 =>
                br (decide (x_2 < (0 : Int))) (some ([], [], (3 : Int)))
                  (ob (pathSL (x.1, x.snd.2, y, [], [], x.snd.1)) fun r =>
                    some (r.snd.snd.snd.1, r.snd.snd.snd.snd.1, (0 : Int)))))
def pathS_con : Con := ⟨[.ref (.pair (.slice (.pair (.str) (.slice (i64)))) (.slice (.pair (i64) (.pair (i64) (.pair (i64) (i64)))))), i64, i64], [.row 44 (.pair (i64) (.pair (i64) (.pair (i64) (i64)))), .row 2 (i64), .d (i64)], pathS⟩
theorem pathS_run (x : Dens [.ref (.pair (.slice (.pair (.str) (.slice (i64)))) (.slice (.pair (i64) (.pair (i64) (.pair (i64) (i64)))))), i64, i64]) : runFn (mkEnv [(88, rootW_con), (89, stepsS_con)] [(pathSL_key, pathSL_L)]) Try.f46 [.ref (.pair (.slice (.pair (.str) (.slice (i64)))) (.slice (.pair (i64) (.pair (i64) (.pair (i64) (i64)))))), i64, i64] [.row 44 (.pair (i64) (.pair (i64) (.pair (i64) (i64)))), .row 2 (i64), .d (i64)] x = pathS x := by kernel_rfl
theorem pathS_ok : pathS_con.ok Try.prog 46 := fn_ok (con := pathS_con) (mkEnv_ok (cons := [(88, rootW_con), (89, stepsS_con)]) ⟨rootW_ok, stepsS_ok, trivial⟩ [(pathSL_key, pathSL_L)]) Try.func46 rfl (by kernel_rfl) (by exact ⟨pathSL_ok, trivial⟩) (fun x y h => (pathS_run x).trans h)

def pathOS : (List ((ByteArray × List (Int))) × List ((Int × Int × Int × Int))) × Int × Int → Option (List (Int) × Int) :=
fun x =>
  ob (okWS (x.fst.1, x.fst.2)) fun y =>
    br (!y) (some ([], (1 : Int))) (ob (pathS ((x.fst.1, x.fst.2), x.snd.1, x.snd.2)) fun y => some (y.snd.1, y.snd.2))
def pathOS_con : Con := ⟨[.pair (.slice (.pair (.str) (.slice (i64)))) (.slice (.pair (i64) (.pair (i64) (.pair (i64) (i64))))), i64, i64], [.row 2 (i64), .d (i64)], pathOS⟩
theorem pathOS_run (x : Dens [.pair (.slice (.pair (.str) (.slice (i64)))) (.slice (.pair (i64) (.pair (i64) (.pair (i64) (i64))))), i64, i64]) : runFn (mkEnv [(45, okWS_con), (46, pathS_con)] []) Try.f10 [.pair (.slice (.pair (.str) (.slice (i64)))) (.slice (.pair (i64) (.pair (i64) (.pair (i64) (i64))))), i64, i64] [.row 2 (i64), .d (i64)] x = pathOS x := by kernel_rfl
theorem pathOS_ok : pathOS_con.ok Try.prog 10 := fn_ok (con := pathOS_con) (mkEnv_ok (cons := [(45, okWS_con), (46, pathS_con)]) ⟨okWS_ok, pathS_ok, trivial⟩ []) Try.func10 rfl (by kernel_rfl) (by exact trivial) (fun x y h => (pathOS_run x).trans h)

def lawPath : (List ((ByteArray × List (Int))) × List ((Int × Int × Int × Int))) × Int × Int → Option (Bool) :=
fun x =>
  ob (szWorksL ((x.fst.1, x.fst.2), (1048576 : Int))) fun y =>
    br (decide (y < (0 : Int))) (some true)
      (ob (toWorksD (x.fst.1, x.fst.2)) fun y =>
        ob (pathOS ((y.1, y.2), x.snd.1, x.snd.2)) fun y =>
          ob (toWorksD (x.fst.1, x.fst.2)) fun y_1 =>
            ob (pathOI ((y_1.1, y_1.2), x.snd.1, x.snd.2)) fun y_2 =>
              ob (eqIntW (y_2.1, y.1)) fun y_3 =>
                br (!y_3) (some false)
                  (br (y_2.2 != y.2) (some false)
                    (ob (toWorksD (x.fst.1, x.fst.2)) fun y_4 =>
                      ob (eqWorksL ((y_1.1, y_1.2), y_4.1, y_4.2)) fun y_5 =>
                        br (!y_5) (some false)
                          (ob (markWorksD ((y_1.1, y_1.2), (1 : Int))) fun y_6 =>
                            br (decide (y_6.1 < (0 : Int))) (some false)
                              (ob (eqIntW (y_2.1, y.1)) fun y_7 =>
                                br (!y_7) (some false)
                                  (br (y_2.2 != y.2) (some false)
                                    (ob (markIntD (y_2.1, (1 : Int))) fun y_8 =>
                                      ob (heldIntD (y_8.snd.1, (1 : Int))) fun y_9 =>
                                        br (decide (y_9 < (0 : Int))) (some false)
                                          (br (y_9 != y_8.1) (some false)
                                            (ob (toWorksD (x.fst.1, x.fst.2)) fun y_10 =>
                                              ob (pathOI ((y_10.1, y_10.2), x.snd.1, x.snd.2)) fun y_11 =>
                                                ob (eqIntW (y_11.1, y.1)) fun y_12 =>
                                                  br (!y_12) (some false)
                                                    (br (y_11.2 != y.2) (some false)
                                                      (ob (heldIntD (y_8.snd.1, (1 : Int))) fun y =>
                                                        br (decide (y < (0 : Int))) (some false)
                                                          (br (y != y_8.1) (some false) (some true)))))))))))))
def lawPath_con : Con := ⟨[.pair (.slice (.pair (.str) (.slice (i64)))) (.slice (.pair (i64) (.pair (i64) (.pair (i64) (i64))))), i64, i64], [.d (.bool)], lawPath⟩
theorem lawPath_run (x : Dens [.pair (.slice (.pair (.str) (.slice (i64)))) (.slice (.pair (i64) (.pair (i64) (.pair (i64) (i64))))), i64, i64]) : runFn (mkEnvM [(9, szWorksL_con), (11, toWorksD_con), (10, pathOS_con), (12, pathOI_con), (13, eqIntW_con), (14, eqWorksL_con), (17, heldIntD_con)] [(15, markWorksD_con), (16, markIntD_con)] []) Try.f3 [.pair (.slice (.pair (.str) (.slice (i64)))) (.slice (.pair (i64) (.pair (i64) (.pair (i64) (i64))))), i64, i64] [.d (.bool)] x = lawPath x := by kernel_rfl
theorem lawPath_ok : lawPath_con.ok Try.prog 3 := fn_ok (con := lawPath_con) (mkEnvM_ok (cons := [(9, szWorksL_con), (11, toWorksD_con), (10, pathOS_con), (12, pathOI_con), (13, eqIntW_con), (14, eqWorksL_con), (17, heldIntD_con)]) (mcons := [(15, markWorksD_con), (16, markIntD_con)]) ⟨szWorksL_ok, toWorksD_ok, pathOS_ok, pathOI_ok, eqIntW_ok, eqWorksL_ok, heldIntD_ok, trivial⟩ ⟨markWorksD_ok, markIntD_ok, trivial⟩ []) Try.func3 rfl (by kernel_rfl) (by exact trivial) (fun x y h => (lawPath_run x).trans h)

end
end Rx
end Go.Proofs.Ythehdbedojcpdaa
