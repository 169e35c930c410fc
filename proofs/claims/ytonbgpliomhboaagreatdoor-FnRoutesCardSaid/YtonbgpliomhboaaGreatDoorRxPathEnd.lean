/- What the functions of RxPath come to, and their contracts. No conditions. -/
import Derived.Test.YtonbgpliomhboaaGreatDoorRxEnv
import Derived.Test.YtonbgpliomhboaaGreatDoorRxDeepWLaw
import Derived.Test.YtonbgpliomhboaaGreatDoorRxMeshLaw
namespace Go.Proofs.YtonbgpliomhboaaGreatDoor
namespace Rx
open Go

noncomputable section
def stepIA_vars : Vars := [(1, .val (i64)), (2, .box 0 25 (.pair (.slice (.pair (.str) (.slice (i64)))) (.slice (.pair (i64) (.pair (i64) (.pair (i64) (i64))))))), (5, .row 0 2 (i64)), (17, .val (i64)), (18, .val (i64))]
def stepIA_step : Int × (List ((ByteArray × List (Int))) × List ((Int × Int × Int × Int))) × List (Int) × Int × Int → Option (LRes × (Int × (List ((ByteArray × List (Int))) × List ((Int × Int × Int × Int))) × List (Int) × Int × Int)) :=
fun x =>
  br (decide (x.snd.snd.snd.2 < x.snd.snd.snd.1))
    (ob (idx x.snd.snd.1 x.snd.snd.snd.2) fun x_1 =>
      ob (List.get?Internal x.snd.snd.1 (Int.toNat x.snd.snd.snd.2)) fun x_2 =>
        some
          (LRes.next, x.1, (x.snd.fst.1, x.snd.fst.2), List.set x.snd.snd.1 (Int.toNat x.snd.snd.snd.2) (-1 : Int),
            x.snd.snd.snd.1, IntKind.i64.wrap (x.snd.snd.snd.2 + (1 : Int))))
    (some (LRes.out, x.1, (x.snd.fst.1, x.snd.fst.2), x.snd.snd.1, x.snd.snd.snd.1, x.snd.snd.snd.2))
def stepIA_fuel : Int × (List ((ByteArray × List (Int))) × List ((Int × Int × Int × Int))) × List (Int) × Int × Int → Nat := fun s => (s.2.2.2.1 - s.2.2.2.2).toNat + 1
def stepIA : Int × (List ((ByteArray × List (Int))) × List ((Int × Int × Int × Int))) × List (Int) × Int × Int → Option (Int × (List ((ByteArray × List (Int))) × List ((Int × Int × Int × Int))) × List (Int) × Int × Int) := fun s => iterP stepIA_step (stepIA_fuel s) s
def stepIA_L : LoopC := ⟨stepIA_vars, 0, .plain stepIA⟩
noncomputable def stepIA_key : Nat := key (loopAt Tryz.f35 0)
theorem stepIA_stepok (x : stepIA_vars.den) : stepOf (mkEnv [] []) Tryz.f35.ntmps stepIA_vars 0 (loopAt Tryz.f35 0) x = stepIA_step x := by kernel_rfl
theorem stepIA_ok : LoopOK Tryz.prog Tryz.f35.ntmps stepIA_L (loopAt Tryz.f35 0)   := iterP_loop (n := Tryz.f35.ntmps) (vs := stepIA_vars) (out := 0) (body := loopAt Tryz.f35 0) (mkEnv_ok (cons := []) trivial []) stepIA_step stepIA_fuel (by exact trivial) stepIA_stepok

def stepIS_vars : Vars := [(1, .val (i64)), (2, .box 0 25 (.pair (.slice (.pair (.str) (.slice (i64)))) (.slice (.pair (i64) (.pair (i64) (.pair (i64) (i64))))))), (5, .row 0 2 (i64)), (7, .obj (.que 2 (i64))), (36, .val (.slice (.pair (i64) (.pair (i64) (.pair (i64) (i64)))))), (37, .val (i64)), (38, .val (i64)), (52, .row 0 115 (.pair (i64) (i64))), (53, .val (i64)), (54, .val (i64))]
def stepIS_step : Int × (List ((ByteArray × List (Int))) × List ((Int × Int × Int × Int))) × List (Int) × List (Int) × List ((Int × Int × Int × Int)) × Int × Int × List ((Int × Int)) × Int × Int → Option (LRes × (Int × (List ((ByteArray × List (Int))) × List ((Int × Int × Int × Int))) × List (Int) × List (Int) × List ((Int × Int × Int × Int)) × Int × Int × List ((Int × Int)) × Int × Int)) :=
fun x =>
  br (decide (x.snd.snd.snd.snd.snd.snd.snd.snd.2 < x.snd.snd.snd.snd.snd.snd.snd.snd.1))
    (ob (idx x.snd.snd.snd.snd.snd.snd.snd.1 x.snd.snd.snd.snd.snd.snd.snd.snd.2) fun x_1 =>
      ob (List.get?Internal x.snd.snd.snd.snd.snd.snd.snd.1 (Int.toNat x.snd.snd.snd.snd.snd.snd.snd.snd.2)) fun x_2 =>
        ob (idx x.snd.snd.snd.1 (0 : Int)) fun x_3 =>
          ob (List.get?Internal x.snd.snd.snd.1 (Int.toNat (0 : Int))) fun x_4 =>
            br (x_2.1 == x_4)
              (ob (idx x.snd.snd.1 x_2.2) fun x_5 =>
                ob (List.get?Internal x.snd.snd.1 (Int.toNat x_2.2)) fun x_6 =>
                  br (decide (x_6 < (0 : Int)))
                    (ob (idx x.snd.snd.1 x_2.1) fun x_7 =>
                      ob (List.get?Internal x.snd.snd.1 (Int.toNat x_2.1)) fun x_8 =>
                        ob (idx x.snd.snd.1 x_2.2) fun x_9 =>
                          ob (List.get?Internal x.snd.snd.1 (Int.toNat x_2.2)) fun x_10 =>
                            br (decide (List.length x.snd.snd.snd.1 + [x_2.2].length ≤ (4294967296 : Nat)))
                              (some
                                (LRes.next, x.1, (x.snd.fst.1, x.snd.fst.2),
                                  List.set x.snd.snd.1 (Int.toNat x_2.2) (IntKind.i64.wrap (x_8 + (1 : Int))),
                                  x.snd.snd.snd.1 ++ [x_2.2], x.snd.snd.snd.snd.1, x.snd.snd.snd.snd.snd.1,
                                  x.snd.snd.snd.snd.snd.snd.1, x.snd.snd.snd.snd.snd.snd.snd.1,
                                  x.snd.snd.snd.snd.snd.snd.snd.snd.1,
                                  IntKind.i64.wrap (x.snd.snd.snd.snd.snd.snd.snd.snd.2 + (1 : Int))))
                              none)
                    (some
                      (LRes.next, x.1, (x.snd.fst.1, x.snd.fst.2), x.snd.snd.1, x.snd.snd.snd.1, x.snd.snd.snd.snd.1,
                        x.snd.snd.snd.snd.snd.1, x.snd.snd.snd.snd.snd.snd.1, x.snd.snd.snd.snd.snd.snd.snd.1,
                        x.snd.snd.snd.snd.snd.snd.snd.snd.1,
                        IntKind.i64.wrap (x.snd.snd.snd.snd.snd.snd.snd.snd.2 + (1 : Int)))))
              (some
                (LRes.next, x.1, (x.snd.fst.1, x.snd.fst.2), x.snd.snd.1, x.snd.snd.snd.1, x.snd.snd.snd.snd.1,
                  x.snd.snd.snd.snd.snd.1, x.snd.snd.snd.snd.snd.snd.1, x.snd.snd.snd.snd.snd.snd.snd.1,
                  x.snd.snd.snd.snd.snd.snd.snd.snd.1,
                  IntKind.i64.wrap (x.snd.snd.snd.snd.snd.snd.snd.snd.2 + (1 : Int)))))
    (some
      (LRes.out, x.1, (x.snd.fst.1, x.snd.fst.2), x.snd.snd.1, x.snd.snd.snd.1, x.snd.snd.snd.snd.1,
        x.snd.snd.snd.snd.snd.1, x.snd.snd.snd.snd.snd.snd.1, x.snd.snd.snd.snd.snd.snd.snd.1,
        x.snd.snd.snd.snd.snd.snd.snd.snd.1, x.snd.snd.snd.snd.snd.snd.snd.snd.2))
def stepIS_fuel : Int × (List ((ByteArray × List (Int))) × List ((Int × Int × Int × Int))) × List (Int) × List (Int) × List ((Int × Int × Int × Int)) × Int × Int × List ((Int × Int)) × Int × Int → Nat := fun s => (s.2.2.2.2.2.2.2.2.1 - s.2.2.2.2.2.2.2.2.2).toNat + 1
def stepIS : Int × (List ((ByteArray × List (Int))) × List ((Int × Int × Int × Int))) × List (Int) × List (Int) × List ((Int × Int × Int × Int)) × Int × Int × List ((Int × Int)) × Int × Int → Option (Int × (List ((ByteArray × List (Int))) × List ((Int × Int × Int × Int))) × List (Int) × List (Int) × List ((Int × Int × Int × Int)) × Int × Int × List ((Int × Int)) × Int × Int) := fun s => iterP stepIS_step (stepIS_fuel s) s
def stepIS_L : LoopC := ⟨stepIS_vars, 6, .plain stepIS⟩
noncomputable def stepIS_key : Nat := key (loopIn (loopIn (loopAt Tryz.f35 1) 0) 0)
theorem stepIS_stepok (x : stepIS_vars.den) : stepOf (mkEnv [] []) Tryz.f35.ntmps stepIS_vars 6 (loopIn (loopIn (loopAt Tryz.f35 1) 0) 0) x = stepIS_step x := by kernel_rfl
theorem stepIS_ok : LoopOK Tryz.prog Tryz.f35.ntmps stepIS_L (loopIn (loopIn (loopAt Tryz.f35 1) 0) 0)   := iterP_loop (n := Tryz.f35.ntmps) (vs := stepIS_vars) (out := 6) (body := loopIn (loopIn (loopAt Tryz.f35 1) 0) 0) (mkEnv_ok (cons := []) trivial []) stepIS_step stepIS_fuel (by exact trivial) stepIS_stepok

def stepIM_vars : Vars := [(1, .val (i64)), (2, .box 0 25 (.pair (.slice (.pair (.str) (.slice (i64)))) (.slice (.pair (i64) (.pair (i64) (.pair (i64) (i64))))))), (5, .row 0 2 (i64)), (7, .obj (.que 2 (i64))), (36, .val (.slice (.pair (i64) (.pair (i64) (.pair (i64) (i64)))))), (37, .val (i64)), (38, .val (i64))]
def stepIM_step : Int × (List ((ByteArray × List (Int))) × List ((Int × Int × Int × Int))) × List (Int) × List (Int) × List ((Int × Int × Int × Int)) × Int × Int → Option (LRes × (Int × (List ((ByteArray × List (Int))) × List ((Int × Int × Int × Int))) × List (Int) × List (Int) × List ((Int × Int × Int × Int)) × Int × Int)) :=
fun x =>
  br (decide (x.snd.snd.snd.snd.snd.2 < x.snd.snd.snd.snd.snd.1))
    (ob (idx x.snd.snd.snd.snd.1 x.snd.snd.snd.snd.snd.2) fun y =>
      ob
        (stepIS
          (x.1, (x.snd.fst.1, x.snd.fst.2), x.snd.snd.1, x.snd.snd.snd.1, x.snd.snd.snd.snd.1, x.snd.snd.snd.snd.snd.1,
            x.snd.snd.snd.snd.snd.2, [(y.1, y.snd.snd.1), (y.snd.snd.1, y.1)],
            (↑[(y.1, y.snd.snd.1), (y.snd.snd.1, y.1)].length : Int), (0 : Int)))
        fun r =>
        some
          (LRes.next, r.1, (r.snd.fst.1, r.snd.fst.2), r.snd.snd.1, r.snd.snd.snd.1, r.snd.snd.snd.snd.1,
            r.snd.snd.snd.snd.snd.1, IntKind.i64.wrap (r.snd.snd.snd.snd.snd.snd.1 + (1 : Int))))
    (some
      (LRes.out, x.1, (x.snd.fst.1, x.snd.fst.2), x.snd.snd.1, x.snd.snd.snd.1, x.snd.snd.snd.snd.1,
        x.snd.snd.snd.snd.snd.1, x.snd.snd.snd.snd.snd.2))
def stepIM_fuel : Int × (List ((ByteArray × List (Int))) × List ((Int × Int × Int × Int))) × List (Int) × List (Int) × List ((Int × Int × Int × Int)) × Int × Int → Nat := fun s => (s.2.2.2.2.2.1 - s.2.2.2.2.2.2).toNat + 1
def stepIM : Int × (List ((ByteArray × List (Int))) × List ((Int × Int × Int × Int))) × List (Int) × List (Int) × List ((Int × Int × Int × Int)) × Int × Int → Option (Int × (List ((ByteArray × List (Int))) × List ((Int × Int × Int × Int))) × List (Int) × List (Int) × List ((Int × Int × Int × Int)) × Int × Int) := fun s => iterP stepIM_step (stepIM_fuel s) s
def stepIM_L : LoopC := ⟨stepIM_vars, 4, .plain stepIM⟩
noncomputable def stepIM_key : Nat := key (loopIn (loopAt Tryz.f35 1) 0)
theorem stepIM_stepok (x : stepIM_vars.den) : stepOf (mkEnv [] [(stepIS_key, stepIS_L)]) Tryz.f35.ntmps stepIM_vars 4 (loopIn (loopAt Tryz.f35 1) 0) x = stepIM_step x := by kernel_rfl
theorem stepIM_ok : LoopOK Tryz.prog Tryz.f35.ntmps stepIM_L (loopIn (loopAt Tryz.f35 1) 0)   := iterP_loop (n := Tryz.f35.ntmps) (vs := stepIM_vars) (out := 4) (body := loopIn (loopAt Tryz.f35 1) 0) (mkEnv_ok (cons := []) trivial [(stepIS_key, stepIS_L)]) stepIM_step stepIM_fuel (by exact ⟨stepIS_ok, trivial⟩) stepIM_stepok

def stepIQ_vars : Vars := [(1, .val (i64)), (2, .box 0 25 (.pair (.slice (.pair (.str) (.slice (i64)))) (.slice (.pair (i64) (.pair (i64) (.pair (i64) (i64))))))), (5, .row 0 2 (i64)), (7, .obj (.que 2 (i64)))]
def stepIQ_step : Int × (List ((ByteArray × List (Int))) × List ((Int × Int × Int × Int))) × List (Int) × List (Int) → Option (LRes × (Int × (List ((ByteArray × List (Int))) × List ((Int × Int × Int × Int))) × List (Int) × List (Int))) :=
fun x =>
  br (decide ((0 : Int) < (↑(List.length x.snd.snd.2) : Int)))
    (ob
      (stepIM
        (x.1, (x.snd.fst.1, x.snd.fst.2), x.snd.snd.1, x.snd.snd.2, x.snd.fst.2, (↑(List.length x.snd.fst.2) : Int),
          (0 : Int)))
      fun r =>
      br (decide ((0 : Int) ≤ (1 : Int) ∧ (1 : Int) ≤ (↑(List.length r.snd.snd.snd.1) : Int)))
        (some
          (LRes.next, r.1, (r.snd.fst.1, r.snd.fst.2), r.snd.snd.1, List.drop (Int.toNat (1 : Int)) r.snd.snd.snd.1))
        none)
    (some (LRes.out, x.1, (x.snd.fst.1, x.snd.fst.2), x.snd.snd.1, x.snd.snd.2))
def stepIQ_fuel : Int × (List ((ByteArray × List (Int))) × List ((Int × Int × Int × Int))) × List (Int) × List (Int) → Nat := fun s => s.2.1.1.length + 2
def stepIQ : Int × (List ((ByteArray × List (Int))) × List ((Int × Int × Int × Int))) × List (Int) × List (Int) → Option (Int × (List ((ByteArray × List (Int))) × List ((Int × Int × Int × Int))) × List (Int) × List (Int)) := fun s => iterP stepIQ_step (stepIQ_fuel s) s
def stepIQ_L : LoopC := ⟨stepIQ_vars, 2, .plain stepIQ⟩
noncomputable def stepIQ_key : Nat := key (loopAt Tryz.f35 1)
theorem stepIQ_stepok (x : stepIQ_vars.den) : stepOf (mkEnv [] [(stepIM_key, stepIM_L)]) Tryz.f35.ntmps stepIQ_vars 2 (loopAt Tryz.f35 1) x = stepIQ_step x := by kernel_rfl
theorem stepIQ_ok : LoopOK Tryz.prog Tryz.f35.ntmps stepIQ_L (loopAt Tryz.f35 1)   := iterP_loop (n := Tryz.f35.ntmps) (vs := stepIQ_vars) (out := 2) (body := loopAt Tryz.f35 1) (mkEnv_ok (cons := []) trivial [(stepIM_key, stepIM_L)]) stepIQ_step stepIQ_fuel (by exact ⟨stepIM_ok, trivial⟩) stepIQ_stepok

def stepsI : (List ((ByteArray × List (Int))) × List ((Int × Int × Int × Int))) × Int → Option (List (Int)) :=
fun x =>
  br
    (decide
      ((0 : Int) ≤ (↑(List.length x.fst.1) : Int) ∧
        (↑(List.length x.fst.1) : Int) = (↑(List.length x.fst.1) : Int) ∧
          (↑(List.length x.fst.1) : Int) ≤ (1048576 : Int)))
    (ob
      (stepIA
        (x.2, (x.fst.1, x.fst.2), List.replicate (↑(List.length x.fst.1) : Int).toNat (0 : Int),
          (↑(List.replicate (↑(List.length x.fst.1) : Int).toNat (0 : Int)).length : Int), (0 : Int)))
      fun r =>
      ob (idx r.snd.snd.1 r.1) fun x =>
        ob (List.get?Internal r.snd.snd.1 (Int.toNat r.1)) fun x =>
          ob (stepIQ (r.1, (r.snd.fst.1, r.snd.fst.2), List.set r.snd.snd.1 (Int.toNat r.1) (0 : Int), [r.1])) fun r =>
            some r.snd.snd.1)
    none
def stepsI_con : Con := ⟨[.pair (.slice (.pair (.str) (.slice (i64)))) (.slice (.pair (i64) (.pair (i64) (.pair (i64) (i64))))), i64], [.row 2 (i64)], stepsI⟩
theorem stepsI_run (x : Dens [.pair (.slice (.pair (.str) (.slice (i64)))) (.slice (.pair (i64) (.pair (i64) (.pair (i64) (i64))))), i64]) : runFn (mkEnv [] [(stepIA_key, stepIA_L), (stepIQ_key, stepIQ_L)]) Tryz.f35 [.pair (.slice (.pair (.str) (.slice (i64)))) (.slice (.pair (i64) (.pair (i64) (.pair (i64) (i64))))), i64] [.row 2 (i64)] x = stepsI x := by kernel_rfl
theorem stepsI_ok : stepsI_con.ok Tryz.prog 35 := fn_ok (con := stepsI_con) (mkEnv_ok (cons := []) trivial [(stepIA_key, stepIA_L), (stepIQ_key, stepIQ_L)]) Tryz.func35 rfl (by kernel_rfl) (by exact ⟨stepIA_ok, stepIQ_ok, trivial⟩) (fun x y h => (stepsI_run x).trans h)

def stepSA_step : (List ((ByteArray × List (Int))) × List ((Int × Int × Int × Int))) × Int × List (Int) × Int × Int → Option (LRes × ((List ((ByteArray × List (Int))) × List ((Int × Int × Int × Int))) × Int × List (Int) × Int × Int)) :=
fun x =>
  br (decide (x.snd.snd.snd.2 < x.snd.snd.snd.1))
    (br (decide (List.length x.snd.snd.1 + [(-1 : Int)].length ≤ (4294967296 : Nat)))
      (some
        (LRes.next, x.1, x.snd.1, x.snd.snd.1 ++ [(-1 : Int)], x.snd.snd.snd.1,
          IntKind.i64.wrap (x.snd.snd.snd.2 + (1 : Int))))
      none)
    (some (LRes.out, x.1, x.snd.1, x.snd.snd.1, x.snd.snd.snd.1, x.snd.snd.snd.2))
def stepSA_fuel : (List ((ByteArray × List (Int))) × List ((Int × Int × Int × Int))) × Int × List (Int) × Int × Int → Nat := fun s => (s.2.2.2.1 - s.2.2.2.2).toNat + 1
def stepSA : (List ((ByteArray × List (Int))) × List ((Int × Int × Int × Int))) × Int × List (Int) × Int × Int → Option ((List ((ByteArray × List (Int))) × List ((Int × Int × Int × Int))) × Int × List (Int) × Int × Int) := fun s => iterP stepSA_step (stepSA_fuel s) s
def stepSM_step : (List ((ByteArray × List (Int))) × List ((Int × Int × Int × Int))) × List (Int) × Int × Int → Option (LRes × ((List ((ByteArray × List (Int))) × List ((Int × Int × Int × Int))) × List (Int) × Int × Int)) :=
fun x =>
  br (decide (x.snd.snd.2 < (↑(List.length x.fst.2) : Int)))
    (ob (idx x.fst.2 x.snd.snd.2) fun y =>
      ob (idx x.snd.1 y.1) fun x_1 =>
        ob (List.get?Internal x.snd.1 (Int.toNat y.1)) fun x_2 =>
          br (x_2 == x.snd.snd.1)
            (ob (idx x.snd.1 y.snd.snd.1) fun x_3 =>
              ob (List.get?Internal x.snd.1 (Int.toNat y.snd.snd.1)) fun x_4 =>
                br (decide (x_4 < (0 : Int)))
                  (ob (idx x.snd.1 y.snd.snd.1) fun x_5 =>
                    ob (List.get?Internal x.snd.1 (Int.toNat y.snd.snd.1)) fun x_6 =>
                      ob
                        (idx (List.set x.snd.1 (Int.toNat y.snd.snd.1) (IntKind.i64.wrap (x.snd.snd.1 + (1 : Int))))
                          y.snd.snd.1)
                        fun x_7 =>
                        ob
                          ((List.set x.snd.1 (Int.toNat y.snd.snd.1)
                                (IntKind.i64.wrap (x.snd.snd.1 + (1 : Int)))).get?Internal
                            (Int.toNat y.snd.snd.1))
                          fun x_8 =>
                          br (x_8 == x.snd.snd.1)
                            (ob
                              (idx
                                (List.set x.snd.1 (Int.toNat y.snd.snd.1) (IntKind.i64.wrap (x.snd.snd.1 + (1 : Int))))
                                y.1)
                              fun x_9 =>
                              ob
                                ((List.set x.snd.1 (Int.toNat y.snd.snd.1)
                                      (IntKind.i64.wrap (x.snd.snd.1 + (1 : Int)))).get?Internal
                                  (Int.toNat y.1))
                                fun x_10 =>
                                br (decide (x_10 < (0 : Int)))
                                  (ob
                                    (idx
                                      (List.set x.snd.1 (Int.toNat y.snd.snd.1)
                                        (IntKind.i64.wrap (x.snd.snd.1 + (1 : Int))))
                                      y.1)
                                    fun x_11 =>
                                    ob
                                      ((List.set x.snd.1 (Int.toNat y.snd.snd.1)
                                            (IntKind.i64.wrap (x.snd.snd.1 + (1 : Int)))).get?Internal
                                        (Int.toNat y.1))
                                      fun x_12 =>
                                      some
                                        (LRes.next, x.1,
                                          (List.set x.snd.1 (Int.toNat y.snd.snd.1)
                                                (IntKind.i64.wrap (x.snd.snd.1 + (1 : Int)))).set
                                            (Int.toNat y.1) (IntKind.i64.wrap (x.snd.snd.1 + (1 : Int))),
                                          x.snd.snd.1, IntKind.i64.wrap (x.snd.snd.2 + (1 : Int))))
                                  (some
                                    (LRes.next, x.1,
                                      List.set x.snd.1 (Int.toNat y.snd.snd.1)
                                        (IntKind.i64.wrap (x.snd.snd.1 + (1 : Int))),
                                      x.snd.snd.1, IntKind.i64.wrap (x.snd.snd.2 + (1 : Int)))))
                            (some
                              (LRes.next, x.1,
                                List.set x.snd.1 (Int.toNat y.snd.snd.1) (IntKind.i64.wrap (x.snd.snd.1 + (1 : Int))),
                                x.snd.snd.1, IntKind.i64.wrap (x.snd.snd.2 + (1 : Int)))))
                  (ob (idx x.snd.1 y.snd.snd.1) fun x_5 =>
                    ob (List.get?Internal x.snd.1 (Int.toNat y.snd.snd.1)) fun x_6 =>
                      br (x_6 == x.snd.snd.1)
                        (ob (idx x.snd.1 y.1) fun x_7 =>
                          ob (List.get?Internal x.snd.1 (Int.toNat y.1)) fun x_8 =>
                            br (decide (x_8 < (0 : Int)))
                              (ob (idx x.snd.1 y.1) fun x_9 =>
                                ob (List.get?Internal x.snd.1 (Int.toNat y.1)) fun x_10 =>
                                  some
                                    (LRes.next, x.1,
                                      List.set x.snd.1 (Int.toNat y.1) (IntKind.i64.wrap (x.snd.snd.1 + (1 : Int))),
                                      x.snd.snd.1, IntKind.i64.wrap (x.snd.snd.2 + (1 : Int))))
                              (some (LRes.next, x.1, x.snd.1, x.snd.snd.1, IntKind.i64.wrap (x.snd.snd.2 + (1 : Int)))))
                        (some (LRes.next, x.1, x.snd.1, x.snd.snd.1, IntKind.i64.wrap (x.snd.snd.2 + (1 : Int))))))
            (ob (idx x.snd.1 y.snd.snd.1) fun x_3 =>
              ob (List.get?Internal x.snd.1 (Int.toNat y.snd.snd.1)) fun x_4 =>
                br (x_4 == x.snd.snd.1)
                  (ob (idx x.snd.1 y.1) fun x_5 =>
                    ob (List.get?Internal x.snd.1 (Int.toNat y.1)) fun x_6 =>
                      br (decide (x_6 < (0 : Int)))
                        (ob (idx x.snd.1 y.1) fun x_7 =>
                          ob (List.get?Internal x.snd.1 (Int.toNat y.1)) fun x_8 =>
                            some
                              (LRes.next, x.1,
                                List.set x.snd.1 (Int.toNat y.1) (IntKind.i64.wrap (x.snd.snd.1 + (1 : Int))),
                                x.snd.snd.1, IntKind.i64.wrap (x.snd.snd.2 + (1 : Int))))
                        (some (LRes.next, x.1, x.snd.1, x.snd.snd.1, IntKind.i64.wrap (x.snd.snd.2 + (1 : Int)))))
                  (some (LRes.next, x.1, x.snd.1, x.snd.snd.1, IntKind.i64.wrap (x.snd.snd.2 + (1 : Int))))))
    (some (LRes.out, x.1, x.snd.1, x.snd.snd.1, x.snd.snd.2))
def stepSM_fuel : (List ((ByteArray × List (Int))) × List ((Int × Int × Int × Int))) × List (Int) × Int × Int → Nat := fun s => (s.1.2.length - s.2.2.2.toNat) + 1
def stepSM : (List ((ByteArray × List (Int))) × List ((Int × Int × Int × Int))) × List (Int) × Int × Int → Option ((List ((ByteArray × List (Int))) × List ((Int × Int × Int × Int))) × List (Int) × Int × Int) := fun s => iterP stepSM_step (stepSM_fuel s) s
def stepSF_step : (List ((ByteArray × List (Int))) × List ((Int × Int × Int × Int))) × List (Int) × Int → Option (LRes × ((List ((ByteArray × List (Int))) × List ((Int × Int × Int × Int))) × List (Int) × Int)) :=
fun x =>
  br (decide (x.snd.2 < (↑(List.length x.fst.1) : Int)))
    (ob (stepSM (x.1, x.snd.1, x.snd.2, (0 : Int))) fun r =>
      some (LRes.next, r.1, r.snd.1, IntKind.i64.wrap (r.snd.snd.1 + (1 : Int))))
    (some (LRes.out, x.1, x.snd.1, x.snd.2))
def stepSF_fuel : (List ((ByteArray × List (Int))) × List ((Int × Int × Int × Int))) × List (Int) × Int → Nat := fun s => (s.1.1.length - s.2.2.toNat) + 1
def stepSF : (List ((ByteArray × List (Int))) × List ((Int × Int × Int × Int))) × List (Int) × Int → Option ((List ((ByteArray × List (Int))) × List ((Int × Int × Int × Int))) × List (Int) × Int) := fun s => iterP stepSF_step (stepSF_fuel s) s
def stepsS : (List ((ByteArray × List (Int))) × List ((Int × Int × Int × Int))) × Int → Option (List (Int)) :=
fun x =>
  ob (stepSA (x.1, x.2, [], (↑(List.length x.fst.1) : Int), (0 : Int))) fun r =>
    ob (idx r.snd.snd.1 r.snd.1) fun x =>
      ob (List.get?Internal r.snd.snd.1 (Int.toNat r.snd.1)) fun x =>
        ob (stepSF (r.1, List.set r.snd.snd.1 (Int.toNat r.snd.1) (0 : Int), (0 : Int))) fun r => some r.snd.1
def pathIN_vars : Vars := [(2, .val (i64)), (3, .box 0 25 (.pair (.slice (.pair (.str) (.slice (i64)))) (.slice (.pair (i64) (.pair (i64) (.pair (i64) (i64))))))), (9, .row 0 2 (i64)), (10, .row 0 2 (i64)), (11, .val (i64)), (45, .val (.slice (.pair (i64) (.pair (i64) (.pair (i64) (i64)))))), (46, .val (i64)), (47, .val (i64))]
def pathIN_step : Int × (List ((ByteArray × List (Int))) × List ((Int × Int × Int × Int))) × List (Int) × List (Int) × Int × List ((Int × Int × Int × Int)) × Int × Int → Option (LRes × (Int × (List ((ByteArray × List (Int))) × List ((Int × Int × Int × Int))) × List (Int) × List (Int) × Int × List ((Int × Int × Int × Int)) × Int × Int)) :=
fun x =>
  br (decide (x.snd.snd.snd.snd.snd.snd.2 < x.snd.snd.snd.snd.snd.snd.1))
    (ob (idx x.snd.snd.snd.snd.snd.1 x.snd.snd.snd.snd.snd.snd.2) fun y =>
      br (y.snd.snd.1 == x.snd.snd.snd.snd.1)
        (br (y.1 == x.snd.snd.snd.snd.1)
          (ob (idx x.snd.snd.1 y.1) fun x_1 =>
            ob (List.get?Internal x.snd.snd.1 (Int.toNat y.1)) fun x_2 =>
              ob (idx x.snd.snd.1 x.snd.snd.snd.snd.1) fun x_3 =>
                ob (List.get?Internal x.snd.snd.1 (Int.toNat x.snd.snd.snd.snd.1)) fun x_4 =>
                  br (x_2 == IntKind.i64.wrap (x_4 - (1 : Int)))
                    (br
                      (decide (List.length x.snd.snd.snd.1 + [x.snd.snd.snd.snd.snd.snd.2].length ≤ (4294967296 : Nat)))
                      (some
                        (LRes.out, x.1, (x.snd.fst.1, x.snd.fst.2), x.snd.snd.1,
                          x.snd.snd.snd.1 ++ [x.snd.snd.snd.snd.snd.snd.2], y.1, x.snd.snd.snd.snd.snd.1,
                          x.snd.snd.snd.snd.snd.snd.1, x.snd.snd.snd.snd.snd.snd.2))
                      none)
                    (some
                      (LRes.next, x.1, (x.snd.fst.1, x.snd.fst.2), x.snd.snd.1, x.snd.snd.snd.1, x.snd.snd.snd.snd.1,
                        x.snd.snd.snd.snd.snd.1, x.snd.snd.snd.snd.snd.snd.1,
                        IntKind.i64.wrap (x.snd.snd.snd.snd.snd.snd.2 + (1 : Int)))))
          (br (y.snd.snd.1 == x.snd.snd.snd.snd.1)
            (ob (idx x.snd.snd.1 y.1) fun x_1 =>
              ob (List.get?Internal x.snd.snd.1 (Int.toNat y.1)) fun x_2 =>
                ob (idx x.snd.snd.1 x.snd.snd.snd.snd.1) fun x_3 =>
                  ob (List.get?Internal x.snd.snd.1 (Int.toNat x.snd.snd.snd.snd.1)) fun x_4 =>
                    br (x_2 == IntKind.i64.wrap (x_4 - (1 : Int)))
                      (br
                        (decide
                          (List.length x.snd.snd.snd.1 + [x.snd.snd.snd.snd.snd.snd.2].length ≤ (4294967296 : Nat)))
                        (some
                          (LRes.out, x.1, (x.snd.fst.1, x.snd.fst.2), x.snd.snd.1,
                            x.snd.snd.snd.1 ++ [x.snd.snd.snd.snd.snd.snd.2], y.1, x.snd.snd.snd.snd.snd.1,
                            x.snd.snd.snd.snd.snd.snd.1, x.snd.snd.snd.snd.snd.snd.2))
                        none)
                      (some
                        (LRes.next, x.1, (x.snd.fst.1, x.snd.fst.2), x.snd.snd.1, x.snd.snd.snd.1, x.snd.snd.snd.snd.1,
                          x.snd.snd.snd.snd.snd.1, x.snd.snd.snd.snd.snd.snd.1,
                          IntKind.i64.wrap (x.snd.snd.snd.snd.snd.snd.2 + (1 : Int)))))
            (some
              (LRes.next, x.1, (x.snd.fst.1, x.snd.fst.2), x.snd.snd.1, x.snd.snd.snd.1, x.snd.snd.snd.snd.1,
                x.snd.snd.snd.snd.snd.1, x.snd.snd.snd.snd.snd.snd.1,
                IntKind.i64.wrap (x.snd.snd.snd.snd.snd.snd.2 + (1 : Int))))))
        (br (y.1 == x.snd.snd.snd.snd.1)
          (ob (idx x.snd.snd.1 y.snd.snd.1) fun x_1 =>
            ob (List.get?Internal x.snd.snd.1 (Int.toNat y.snd.snd.1)) fun x_2 =>
              ob (idx x.snd.snd.1 x.snd.snd.snd.snd.1) fun x_3 =>
                ob (List.get?Internal x.snd.snd.1 (Int.toNat x.snd.snd.snd.snd.1)) fun x_4 =>
                  br (x_2 == IntKind.i64.wrap (x_4 - (1 : Int)))
                    (br
                      (decide (List.length x.snd.snd.snd.1 + [x.snd.snd.snd.snd.snd.snd.2].length ≤ (4294967296 : Nat)))
                      (some
                        (LRes.out, x.1, (x.snd.fst.1, x.snd.fst.2), x.snd.snd.1,
                          x.snd.snd.snd.1 ++ [x.snd.snd.snd.snd.snd.snd.2], y.snd.snd.1, x.snd.snd.snd.snd.snd.1,
                          x.snd.snd.snd.snd.snd.snd.1, x.snd.snd.snd.snd.snd.snd.2))
                      none)
                    (some
                      (LRes.next, x.1, (x.snd.fst.1, x.snd.fst.2), x.snd.snd.1, x.snd.snd.snd.1, x.snd.snd.snd.snd.1,
                        x.snd.snd.snd.snd.snd.1, x.snd.snd.snd.snd.snd.snd.1,
                        IntKind.i64.wrap (x.snd.snd.snd.snd.snd.snd.2 + (1 : Int)))))
          (br (y.snd.snd.1 == x.snd.snd.snd.snd.1)
            (ob (idx x.snd.snd.1 y.snd.snd.1) fun x_1 =>
              ob (List.get?Internal x.snd.snd.1 (Int.toNat y.snd.snd.1)) fun x_2 =>
                ob (idx x.snd.snd.1 x.snd.snd.snd.snd.1) fun x_3 =>
                  ob (List.get?Internal x.snd.snd.1 (Int.toNat x.snd.snd.snd.snd.1)) fun x_4 =>
                    br (x_2 == IntKind.i64.wrap (x_4 - (1 : Int)))
                      (br
                        (decide
                          (List.length x.snd.snd.snd.1 + [x.snd.snd.snd.snd.snd.snd.2].length ≤ (4294967296 : Nat)))
                        (some
                          (LRes.out, x.1, (x.snd.fst.1, x.snd.fst.2), x.snd.snd.1,
                            x.snd.snd.snd.1 ++ [x.snd.snd.snd.snd.snd.snd.2], y.snd.snd.1, x.snd.snd.snd.snd.snd.1,
                            x.snd.snd.snd.snd.snd.snd.1, x.snd.snd.snd.snd.snd.snd.2))
                        none)
                      (some
                        (LRes.next, x.1, (x.snd.fst.1, x.snd.fst.2), x.snd.snd.1, x.snd.snd.snd.1, x.snd.snd.snd.snd.1,
                          x.snd.snd.snd.snd.snd.1, x.snd.snd.snd.snd.snd.snd.1,
                          IntKind.i64.wrap (x.snd.snd.snd.snd.snd.snd.2 + (1 : Int)))))
            (some
              (LRes.next, x.1, (x.snd.fst.1, x.snd.fst.2), x.snd.snd.1, x.snd.snd.snd.1, x.snd.snd.snd.snd.1,
                x.snd.snd.snd.snd.snd.1, x.snd.snd.snd.snd.snd.snd.1,
                IntKind.i64.wrap (x.snd.snd.snd.snd.snd.snd.2 + (1 : Int)))))))
    (some
      (LRes.out, x.1, (x.snd.fst.1, x.snd.fst.2), x.snd.snd.1, x.snd.snd.snd.1, x.snd.snd.snd.snd.1,
        x.snd.snd.snd.snd.snd.1, x.snd.snd.snd.snd.snd.snd.1, x.snd.snd.snd.snd.snd.snd.2))
def pathIN_fuel : Int × (List ((ByteArray × List (Int))) × List ((Int × Int × Int × Int))) × List (Int) × List (Int) × Int × List ((Int × Int × Int × Int)) × Int × Int → Nat := fun s => (s.2.2.2.2.2.2.1 - s.2.2.2.2.2.2.2).toNat + 1
def pathIN : Int × (List ((ByteArray × List (Int))) × List ((Int × Int × Int × Int))) × List (Int) × List (Int) × Int × List ((Int × Int × Int × Int)) × Int × Int → Option (Int × (List ((ByteArray × List (Int))) × List ((Int × Int × Int × Int))) × List (Int) × List (Int) × Int × List ((Int × Int × Int × Int)) × Int × Int) := fun s => iterP pathIN_step (pathIN_fuel s) s
def pathIN_L : LoopC := ⟨pathIN_vars, 2, .plain pathIN⟩
noncomputable def pathIN_key : Nat := key (loopIn (loopAt Tryz.f13 0) 0)
theorem pathIN_stepok (x : pathIN_vars.den) : stepOf (mkEnv [] []) Tryz.f13.ntmps pathIN_vars 2 (loopIn (loopAt Tryz.f13 0) 0) x = pathIN_step x := by kernel_rfl
theorem pathIN_ok : LoopOK Tryz.prog Tryz.f13.ntmps pathIN_L (loopIn (loopAt Tryz.f13 0) 0)   := iterP_loop (n := Tryz.f13.ntmps) (vs := pathIN_vars) (out := 2) (body := loopIn (loopAt Tryz.f13 0) 0) (mkEnv_ok (cons := []) trivial []) pathIN_step pathIN_fuel (by exact trivial) pathIN_stepok

def pathIL_vars : Vars := [(2, .val (i64)), (3, .box 0 25 (.pair (.slice (.pair (.str) (.slice (i64)))) (.slice (.pair (i64) (.pair (i64) (.pair (i64) (i64))))))), (9, .row 0 2 (i64)), (10, .row 0 2 (i64)), (11, .val (i64))]
def pathIL_step : Int × (List ((ByteArray × List (Int))) × List ((Int × Int × Int × Int))) × List (Int) × List (Int) × Int → Option (LRes × (Int × (List ((ByteArray × List (Int))) × List ((Int × Int × Int × Int))) × List (Int) × List (Int) × Int)) :=
fun x =>
  br (x.snd.snd.snd.2 != x.1)
    (ob
      (pathIN
        (x.1, (x.snd.fst.1, x.snd.fst.2), x.snd.snd.1, x.snd.snd.snd.1, x.snd.snd.snd.2, x.snd.fst.2,
          (↑(List.length x.snd.fst.2) : Int), (0 : Int)))
      fun r => some (LRes.next, r.1, (r.snd.fst.1, r.snd.fst.2), r.snd.snd.1, r.snd.snd.snd.1, r.snd.snd.snd.snd.1))
    (some (LRes.out, x.1, (x.snd.fst.1, x.snd.fst.2), x.snd.snd.1, x.snd.snd.snd.1, x.snd.snd.snd.2))
def pathIL_fuel : Int × (List ((ByteArray × List (Int))) × List ((Int × Int × Int × Int))) × List (Int) × List (Int) × Int → Nat := fun s => s.2.1.1.length + 2
def pathIL : Int × (List ((ByteArray × List (Int))) × List ((Int × Int × Int × Int))) × List (Int) × List (Int) × Int → Option (Int × (List ((ByteArray × List (Int))) × List ((Int × Int × Int × Int))) × List (Int) × List (Int) × Int) := fun s => iterP pathIL_step (pathIL_fuel s) s
def pathIL_L : LoopC := ⟨pathIL_vars, 0, .plain pathIL⟩
noncomputable def pathIL_key : Nat := key (loopAt Tryz.f13 0)
theorem pathIL_stepok (x : pathIL_vars.den) : stepOf (mkEnv [] [(pathIN_key, pathIN_L)]) Tryz.f13.ntmps pathIL_vars 0 (loopAt Tryz.f13 0) x = pathIL_step x := by kernel_rfl
theorem pathIL_ok : LoopOK Tryz.prog Tryz.f13.ntmps pathIL_L (loopAt Tryz.f13 0)   := iterP_loop (n := Tryz.f13.ntmps) (vs := pathIL_vars) (out := 0) (body := loopAt Tryz.f13 0) (mkEnv_ok (cons := []) trivial [(pathIN_key, pathIN_L)]) pathIL_step pathIL_fuel (by exact ⟨pathIN_ok, trivial⟩) pathIL_stepok

def pathOI : (List ((ByteArray × List (Int))) × List ((Int × Int × Int × Int))) × Int × Int → Option (List (Int) × Int) :=
fun x =>
  ob (validWI (x.fst.1, x.fst.2)) fun y =>
    br (!y) (some ([], (1 : Int)))
      (ob (withinP (x.snd.1, (0 : Int), IntKind.i64.wrap ((↑(List.length x.fst.1) : Int) - (1 : Int)))) fun y =>
        br (!y) (some ([], (2 : Int)))
          (ob (withinP (x.snd.2, (0 : Int), IntKind.i64.wrap ((↑(List.length x.fst.1) : Int) - (1 : Int)))) fun y =>
            br (!y) (some ([], (2 : Int)))
              (ob (stepsI ((x.fst.1, x.fst.2), x.snd.2)) fun y =>
                ob (idx y x.snd.1) fun x_1 =>
                  ob (List.get?Internal y (Int.toNat x.snd.1)) fun x_2 =>
                    br (decide (x_2 < (0 : Int))) (some ([], (3 : Int)))
                      (ob (pathIL (x.snd.2, (x.fst.1, x.fst.2), y, [], x.snd.1)) fun r =>
                        some (r.snd.snd.snd.1, (0 : Int))))))
def pathOI_con : Con := ⟨[.pair (.slice (.pair (.str) (.slice (i64)))) (.slice (.pair (i64) (.pair (i64) (.pair (i64) (i64))))), i64, i64], [.row 2 (i64), .d (i64)], pathOI⟩
theorem pathOI_run (x : Dens [.pair (.slice (.pair (.str) (.slice (i64)))) (.slice (.pair (i64) (.pair (i64) (.pair (i64) (i64))))), i64, i64]) : runFn (mkEnv [(25, validWI_con), (34, withinP_con), (35, stepsI_con)] [(pathIL_key, pathIL_L)]) Tryz.f13 [.pair (.slice (.pair (.str) (.slice (i64)))) (.slice (.pair (i64) (.pair (i64) (.pair (i64) (i64))))), i64, i64] [.row 2 (i64), .d (i64)] x = pathOI x := by kernel_rfl
theorem pathOI_ok : pathOI_con.ok Tryz.prog 13 := fn_ok (con := pathOI_con) (mkEnv_ok (cons := [(25, validWI_con), (34, withinP_con), (35, stepsI_con)]) ⟨validWI_ok, withinP_ok, stepsI_ok, trivial⟩ [(pathIL_key, pathIL_L)]) Tryz.func13 rfl (by kernel_rfl) (by exact ⟨pathIL_ok, trivial⟩) (fun x y h => (pathOI_run x).trans h)

def pathSN_step : (List ((ByteArray × List (Int))) × List ((Int × Int × Int × Int))) × Int × List (Int) × List ((Int × Int × Int × Int)) × List (Int) × Int × Int → Option (LRes × ((List ((ByteArray × List (Int))) × List ((Int × Int × Int × Int))) × Int × List (Int) × List ((Int × Int × Int × Int)) × List (Int) × Int × Int)) :=
fun x =>
  br (decide (x.snd.snd.snd.snd.snd.2 < (↑(List.length x.fst.2) : Int)))
    (ob (idx x.fst.2 x.snd.snd.snd.snd.snd.2) fun y =>
      br (y.snd.snd.1 == x.snd.snd.snd.snd.snd.1)
        (br (y.snd.snd.1 == x.snd.snd.snd.snd.snd.1)
          (ob (idx x.snd.snd.1 y.1) fun x_1 =>
            ob (List.get?Internal x.snd.snd.1 (Int.toNat y.1)) fun x_2 =>
              ob (idx x.snd.snd.1 x.snd.snd.snd.snd.snd.1) fun x_3 =>
                ob (List.get?Internal x.snd.snd.1 (Int.toNat x.snd.snd.snd.snd.snd.1)) fun x_4 =>
                  br (x_2 == IntKind.i64.wrap (x_4 - (1 : Int)))
                    (br
                      (decide
                        (List.length x.snd.snd.snd.1 + [(y.snd.snd.1, y.snd.snd.2, y.1, y.snd.1)].length ≤
                          (4294967296 : Nat)))
                      (br
                        (decide
                          (List.length x.snd.snd.snd.snd.1 + [x.snd.snd.snd.snd.snd.2].length ≤ (4294967296 : Nat)))
                        (some
                          (LRes.out, x.1, x.snd.1, x.snd.snd.1,
                            x.snd.snd.snd.1 ++ [(y.snd.snd.1, y.snd.snd.2, y.1, y.snd.1)],
                            x.snd.snd.snd.snd.1 ++ [x.snd.snd.snd.snd.snd.2], y.1, x.snd.snd.snd.snd.snd.2))
                        none)
                      none)
                    (some
                      (LRes.next, x.1, x.snd.1, x.snd.snd.1, x.snd.snd.snd.1, x.snd.snd.snd.snd.1,
                        x.snd.snd.snd.snd.snd.1, IntKind.i64.wrap (x.snd.snd.snd.snd.snd.2 + (1 : Int)))))
          (some
            (LRes.next, x.1, x.snd.1, x.snd.snd.1, x.snd.snd.snd.1, x.snd.snd.snd.snd.1, x.snd.snd.snd.snd.snd.1,
              IntKind.i64.wrap (x.snd.snd.snd.snd.snd.2 + (1 : Int)))))
        (br (y.1 == x.snd.snd.snd.snd.snd.1)
          (ob (idx x.snd.snd.1 y.snd.snd.1) fun x_1 =>
            ob (List.get?Internal x.snd.snd.1 (Int.toNat y.snd.snd.1)) fun x_2 =>
              ob (idx x.snd.snd.1 x.snd.snd.snd.snd.snd.1) fun x_3 =>
                ob (List.get?Internal x.snd.snd.1 (Int.toNat x.snd.snd.snd.snd.snd.1)) fun x_4 =>
                  br (x_2 == IntKind.i64.wrap (x_4 - (1 : Int)))
                    (br
                      (decide
                        (List.length x.snd.snd.snd.1 + [(y.1, y.snd.1, y.snd.snd.1, y.snd.snd.2)].length ≤
                          (4294967296 : Nat)))
                      (br
                        (decide
                          (List.length x.snd.snd.snd.snd.1 + [x.snd.snd.snd.snd.snd.2].length ≤ (4294967296 : Nat)))
                        (some
                          (LRes.out, x.1, x.snd.1, x.snd.snd.1,
                            x.snd.snd.snd.1 ++ [(y.1, y.snd.1, y.snd.snd.1, y.snd.snd.2)],
                            x.snd.snd.snd.snd.1 ++ [x.snd.snd.snd.snd.snd.2], y.snd.snd.1, x.snd.snd.snd.snd.snd.2))
                        none)
                      none)
                    (some
                      (LRes.next, x.1, x.snd.1, x.snd.snd.1, x.snd.snd.snd.1, x.snd.snd.snd.snd.1,
                        x.snd.snd.snd.snd.snd.1, IntKind.i64.wrap (x.snd.snd.snd.snd.snd.2 + (1 : Int)))))
          (some
            (LRes.next, x.1, x.snd.1, x.snd.snd.1, x.snd.snd.snd.1, x.snd.snd.snd.snd.1, x.snd.snd.snd.snd.snd.1,
              IntKind.i64.wrap (x.snd.snd.snd.snd.snd.2 + (1 : Int))))))
    (some
      (LRes.out, x.1, x.snd.1, x.snd.snd.1, x.snd.snd.snd.1, x.snd.snd.snd.snd.1, x.snd.snd.snd.snd.snd.1,
        x.snd.snd.snd.snd.snd.2))
def pathSN_fuel : (List ((ByteArray × List (Int))) × List ((Int × Int × Int × Int))) × Int × List (Int) × List ((Int × Int × Int × Int)) × List (Int) × Int × Int → Nat := fun s => (s.1.2.length - s.2.2.2.2.2.2.toNat) + 1
def pathSN : (List ((ByteArray × List (Int))) × List ((Int × Int × Int × Int))) × Int × List (Int) × List ((Int × Int × Int × Int)) × List (Int) × Int × Int → Option ((List ((ByteArray × List (Int))) × List ((Int × Int × Int × Int))) × Int × List (Int) × List ((Int × Int × Int × Int)) × List (Int) × Int × Int) := fun s => iterP pathSN_step (pathSN_fuel s) s
def pathSL_step : (List ((ByteArray × List (Int))) × List ((Int × Int × Int × Int))) × Int × List (Int) × List ((Int × Int × Int × Int)) × List (Int) × Int → Option (LRes × ((List ((ByteArray × List (Int))) × List ((Int × Int × Int × Int))) × Int × List (Int) × List ((Int × Int × Int × Int)) × List (Int) × Int)) :=
fun x =>
  br (x.snd.snd.snd.snd.2 != x.snd.1)
    (ob (pathSN (x.1, x.snd.1, x.snd.snd.1, x.snd.snd.snd.1, x.snd.snd.snd.snd.1, x.snd.snd.snd.snd.2, (0 : Int)))
      fun r =>
      some (LRes.next, r.1, r.snd.1, r.snd.snd.1, r.snd.snd.snd.1, r.snd.snd.snd.snd.1, r.snd.snd.snd.snd.snd.1))
    (some (LRes.out, x.1, x.snd.1, x.snd.snd.1, x.snd.snd.snd.1, x.snd.snd.snd.snd.1, x.snd.snd.snd.snd.2))
end
end Rx
end Go.Proofs.YtonbgpliomhboaaGreatDoor

namespace Go.Proofs.YtonbgpliomhboaaGreatDoor
namespace Rx
open Go

/-! ### Distances -/
def adj (w : WorksD) (a b : Int) : Prop := ∃ m ∈ w.2, (m.1 = a ∧ m.2.2.1 = b) ∨ (m.1 = b ∧ m.2.2.1 = a)
theorem adj.symm {w : WorksD} {a b : Int} (h : adj w a b) : adj w b a := by
  obtain ⟨m, hm, h⟩ := h
  exact ⟨m, hm, h.symm⟩
/-- How many are not reached. -/
def neg (st : List Int) : Nat := st.countP fun v => decide (v < 0)
theorem neg_set : ∀ {st : List Int} {b : Nat} {y v : Int}, st[b]? = some y → y < 0 → 0 ≤ v → neg (st.set b v) + 1 = neg st
  | [], _, _, _, h, _, _ => by simp at h
  | z :: st, 0, y, v, h, h1, h2 => by
    simp at h; subst h
    unfold neg
    rw [List.set_cons_zero, List.countP_cons, List.countP_cons, if_neg (by simpa using h2), if_pos (by simpa using h1)]
  | z :: st, b + 1, y, v, h, h1, h2 => by
    have := neg_set (st := st) (b := b) (v := v) (by simpa using h) h1 h2
    unfold neg at this ⊢
    rw [List.set_cons_succ, List.countP_cons, List.countP_cons]
    omega
structure Base (w : WorksD) (goal : Int) (st : List Int) : Prop where
  len : st.length = w.1.length
  g0 : 0 ≤ goal
  gz : st[goal.toNat]? = some 0
  lo : ∀ (i : Nat) v, st[i]? = some v → -1 ≤ v
  zero : ∀ (i : Nat), st[i]? = some 0 → (i : Int) = goal
  pred : ∀ (i : Nat) v, st[i]? = some v → 0 < v → ∃ j : Int, 0 ≤ j ∧ adj w i j ∧ st[j.toNat]? = some (v - 1)
  hi : ∀ (i : Nat) v, st[i]? = some v → v + neg st ≤ (w.1.length : Int) - 1
theorem Base.set {w : WorksD} {goal : Int} {st : List Int} (h : Base w goal st) {a b d y : Int} (a0 : 0 ≤ a) (b0 : 0 ≤ b) (hb : st[b.toNat]? = some y) (hy : y < 0) (ha : st[a.toNat]? = some d) (hd : 0 ≤ d) (hadj : adj w b a) : Base w goal (st.set b.toNat (d + 1)) := by
  have hn := neg_set (v := d + 1) hb hy (by omega)
  have bl := (List.getElem?_eq_some_iff.1 hb).1
  have at_ : ∀ (i : Nat) v, (st.set b.toNat (d + 1))[i]? = some v → (i = b.toNat ∧ v = d + 1) ∨ (i ≠ b.toNat ∧ st[i]? = some v) := fun i v hv => by
    by_cases e : i = b.toNat
    · subst e
      rw [List.getElem?_set_self bl] at hv
      cases hv; exact .inl ⟨rfl, rfl⟩
    · rw [List.getElem?_set_ne (fun e' => e e'.symm)] at hv
      exact .inr ⟨e, hv⟩
  have keep : ∀ (i : Nat) v, st[i]? = some v → 0 ≤ v → (st.set b.toNat (d + 1))[i]? = some v := fun i v hv h0 => by
    have : b.toNat ≠ i := fun e => by
      rw [e] at hb; rw [hv] at hb; cases hb; omega
    rw [List.getElem?_set_ne this]; exact hv
  refine ⟨by rw [List.length_set]; exact h.len, h.g0, keep _ _ h.gz (Int.le_refl _), fun i v hv => ?_, fun i hv => ?_, fun i v hv h0 => ?_, fun i v hv => ?_⟩
  · rcases at_ i v hv with ⟨_, rfl⟩ | ⟨_, hv⟩
    · omega
    · exact h.lo i v hv
  · rcases at_ i 0 hv with ⟨_, e⟩ | ⟨_, hv⟩
    · omega
    · exact h.zero i hv
  · rcases at_ i v hv with ⟨e, rfl⟩ | ⟨_, hv⟩
    · refine ⟨a, a0, ?_, by rw [show d + 1 - 1 = d by omega]; exact keep _ _ ha hd⟩
      rw [e, show ((b.toNat : Nat) : Int) = b by omega]; exact hadj
    · obtain ⟨j, j0, hj, hv2⟩ := h.pred i v hv h0
      exact ⟨j, j0, hj, keep _ _ hv2 (by omega)⟩
  · rcases at_ i v hv with ⟨e, rfl⟩ | ⟨_, hv⟩
    · have := h.hi _ _ ha
      omega
    · have := h.hi _ _ hv
      omega
structure Dist (w : WorksD) (goal : Int) (st : List Int) : Prop where
  base : Base w goal st
  step : ∀ (a b : Int) x, 0 ≤ a → adj w a b → st[a.toNat]? = some x → 0 ≤ x → ∃ y, st[b.toNat]? = some y ∧ 0 ≤ y ∧ y ≤ x + 1
theorem dist_le {w : WorksD} {goal : Int} {s s' : List Int} (h : Dist w goal s) (h' : Dist w goal s') : ∀ (k : Nat) (i : Nat), s[i]? = some (k : Int) → ∃ y, s'[i]? = some y ∧ 0 ≤ y ∧ y ≤ (k : Int) := by
  intro k
  induction k with
  | zero =>
    intro i hi
    have e := h.base.zero i hi
    have := h'.base.gz
    rw [← e] at this
    exact ⟨0, by simpa using this, Int.le_refl _, Int.le_refl _⟩
  | succ k ih =>
    intro i hi
    obtain ⟨j, j0, hj, hv⟩ := h.base.pred i _ hi (by omega)
    rw [show ((k + 1 : Nat) : Int) - 1 = (k : Int) by omega] at hv
    obtain ⟨y, hy, y0, y1⟩ := ih j.toNat hv
    obtain ⟨z, hz, z0, z1⟩ := h'.step j i y j0 hj.symm (by simpa using hy) y0
    exact ⟨z, by simpa using hz, z0, by omega⟩
theorem dist_unique {w : WorksD} {goal : Int} {s s' : List Int} (h : Dist w goal s) (h' : Dist w goal s') : s = s' := by
  have hl : s.length = s'.length := by rw [h.base.len, h'.base.len]
  apply List.ext_getElem?
  intro i
  by_cases hi : i < s.length
  · have e1 : s[i]? = some s[i] := List.getElem?_eq_getElem hi
    have e2 : s'[i]? = some s'[i] := List.getElem?_eq_getElem (by omega)
    rw [e1, e2]
    congr 1
    generalize s[i] = x at e1
    generalize s'[i]'(by omega) = y at e2
    have lx := h.base.lo i x e1
    have ly := h'.base.lo i y e2
    by_cases hx : 0 ≤ x
    · obtain ⟨z, hz, z0, z1⟩ := dist_le h h' x.toNat i (by rw [e1]; congr 1; omega)
      rw [e2] at hz; cases hz
      obtain ⟨z, hz, z2, z3⟩ := dist_le h' h y.toNat i (by rw [e2]; congr 1; omega)
      rw [e1] at hz; cases hz
      omega
    · by_cases hy : 0 ≤ y
      · obtain ⟨z, hz, z2, z3⟩ := dist_le h' h y.toNat i (by rw [e2]; congr 1; omega)
        rw [e1] at hz; cases hz
        omega
      · omega
  · rw [List.getElem?_eq_none (by omega), List.getElem?_eq_none (by omega)]

/-! ### The beginning -/
theorem neg_rep (n : Nat) : neg (List.replicate n (-1)) = n := by
  unfold neg
  rw [List.countP_replicate, if_pos (by decide)]
def st0 (n : Nat) (goal : Int) : List Int := (List.replicate n (-1)).set goal.toNat 0
theorem st0_base {w : WorksD} {goal : Int} (h0 : 0 ≤ goal) (h1 : goal < w.1.length) : Base w goal (st0 w.1.length goal) := by
  have hg : (List.replicate w.1.length (-1 : Int))[goal.toNat]? = some (-1) := by rw [List.getElem?_replicate, if_pos (by omega)]
  have hn := neg_set (v := 0) hg (by omega) (Int.le_refl _)
  rw [neg_rep] at hn
  have at_ : ∀ (i : Nat) v, (st0 w.1.length goal)[i]? = some v → (i = goal.toNat ∧ v = 0) ∨ (i ≠ goal.toNat ∧ v = -1) := fun i v hv => by
    unfold st0 at hv
    by_cases e : i = goal.toNat
    · subst e
      rw [List.getElem?_set_self (by rw [List.length_replicate]; omega)] at hv
      cases hv; exact .inl ⟨rfl, rfl⟩
    · rw [List.getElem?_set_ne (fun e' => e e'.symm)] at hv
      exact .inr ⟨e, (List.mem_replicate.1 (List.mem_of_getElem? hv)).2⟩
  refine ⟨by unfold st0; simp, h0, List.getElem?_set_self (by rw [List.length_replicate]; omega), fun i v hv => ?_, fun i hv => ?_, fun i v hv hp => ?_, fun i v hv => ?_⟩
  · rcases at_ i v hv with ⟨_, e⟩ | ⟨_, e⟩ <;> omega
  · rcases at_ i 0 hv with ⟨e, _⟩ | ⟨_, e⟩
    · omega
    · cases e
  · rcases at_ i v hv with ⟨_, e⟩ | ⟨_, e⟩ <;> omega
  · have e0 : neg (st0 w.1.length goal) + 1 = w.1.length := hn
    rcases at_ i v hv with ⟨_, e⟩ | ⟨_, e⟩ <;> omega

/-! ### Along the queue -/
structure Mid (w : WorksD) (goal : Int) (st q : List Int) (h : Int) (t : List Int) (d : Int) (D : Int → Prop) : Prop where
  base : Base w goal st
  qin : ∀ x ∈ q, 0 ≤ x ∧ ∃ v, st[x.toNat]? = some v ∧ 0 ≤ v
  sorted : q.Pairwise fun a b => ∀ x y, st[a.toNat]? = some x → st[b.toNat]? = some y → x ≤ y
  hq : q = h :: t
  hd : st[h.toNat]? = some d
  top : ∀ (i : Nat) v, st[i]? = some v → v ≤ d + 1
  closed : ∀ (a b : Int) x, 0 ≤ a → a ∉ q → adj w a b → st[a.toNat]? = some x → 0 ≤ x → ∃ y, st[b.toNat]? = some y ∧ 0 ≤ y ∧ y ≤ x + 1
  dn : ∀ b, D b → ∃ y, st[b.toNat]? = some y ∧ 0 ≤ y ∧ y ≤ d + 1
  cnt : q.length + neg st ≤ w.1.length
theorem Mid.h0 {w : WorksD} {goal : Int} {st q : List Int} {h : Int} {t : List Int} {d : Int} {D : Int → Prop} (M : Mid w goal st q h t d D) : 0 ≤ h ∧ 0 ≤ d := by
  obtain ⟨h1, v, h2, h3⟩ := M.qin h (by rw [M.hq]; simp)
  rw [M.hd] at h2; cases h2
  exact ⟨h1, h3⟩
theorem Mid.more {w : WorksD} {goal : Int} {st q : List Int} {h : Int} {t : List Int} {d : Int} {D D' : Int → Prop} (M : Mid w goal st q h t d D) (hD : ∀ b, D' b → D b ∨ ∃ y, st[b.toNat]? = some y ∧ 0 ≤ y) : Mid w goal st q h t d D' :=
  ⟨M.base, M.qin, M.sorted, M.hq, M.hd, M.top, M.closed, fun b hb => by
      rcases hD b hb with h1 | ⟨y, h1, h2⟩
      · exact M.dn b h1
      · exact ⟨y, h1, h2, M.top _ _ h1⟩, M.cnt⟩
theorem Mid.set {w : WorksD} {goal : Int} {st q : List Int} {h : Int} {t : List Int} {d : Int} {D D' : Int → Prop} (M : Mid w goal st q h t d D) {b y : Int} (b0 : 0 ≤ b) (hb : st[b.toNat]? = some y) (hy : y < 0) (hadj : adj w h b) (hD : ∀ x, D' x → D x ∨ x = b) :
    Mid w goal (st.set b.toNat (d + 1)) (q ++ [b]) h (t ++ [b]) d D' := by
  obtain ⟨hh, hd0⟩ := M.h0
  have bl := (List.getElem?_eq_some_iff.1 hb).1
  have hn := neg_set (v := d + 1) hb hy (by omega)
  have self : (st.set b.toNat (d + 1))[b.toNat]? = some (d + 1) := List.getElem?_set_self bl
  have keep : ∀ (i : Nat) v, st[i]? = some v → 0 ≤ v → (st.set b.toNat (d + 1))[i]? = some v := fun i v hv h0 => by
    have : b.toNat ≠ i := fun e => by
      rw [e] at hb; rw [hv] at hb; cases hb; omega
    rw [List.getElem?_set_ne this]; exact hv
  have at_ : ∀ (i : Nat) v, (st.set b.toNat (d + 1))[i]? = some v → (i = b.toNat ∧ v = d + 1) ∨ (i ≠ b.toNat ∧ st[i]? = some v) := fun i v hv => by
    by_cases e : i = b.toNat
    · subst e
      rw [self] at hv
      cases hv; exact .inl ⟨rfl, rfl⟩
    · rw [List.getElem?_set_ne (fun e' => e e'.symm)] at hv
      exact .inr ⟨e, hv⟩
  have qb : ∀ x ∈ q, x.toNat ≠ b.toNat := fun x hx e => by
    obtain ⟨_, v, h1, h2⟩ := M.qin x hx
    rw [e, hb] at h1; cases h1; omega
  refine ⟨M.base.set hh b0 hb hy M.hd hd0 hadj.symm, fun x hx => ?_, ?_, by rw [M.hq]; rfl, keep _ _ M.hd hd0, fun i v hv => ?_, fun a c x a0 haq had hx hx0 => ?_, fun x hx => ?_, ?_⟩
  · rcases List.mem_append.1 hx with h1 | h1
    · obtain ⟨h2, v, h3, h4⟩ := M.qin x h1
      exact ⟨h2, v, keep _ _ h3 h4, h4⟩
    · rw [List.mem_singleton.1 h1]
      exact ⟨b0, d + 1, self, by omega⟩
  · rw [List.pairwise_append]
    refine ⟨M.sorted.imp_of_mem fun {x z} hx hz hp u v hu hv => ?_, List.pairwise_singleton _ _, fun x hx z hz u v hu hv => ?_⟩
    · rcases at_ _ _ hu with ⟨e, _⟩ | ⟨_, hu⟩
      · exact absurd e (qb x hx)
      · rcases at_ _ _ hv with ⟨e, _⟩ | ⟨_, hv⟩
        · exact absurd e (qb z hz)
        · exact hp u v hu hv
    · rw [List.mem_singleton.1 hz, self] at hv
      cases hv
      rcases at_ _ _ hu with ⟨_, rfl⟩ | ⟨_, hu⟩
      · exact Int.le_refl _
      · exact M.top _ _ hu
  · rcases at_ i v hv with ⟨_, rfl⟩ | ⟨_, hv⟩
    · exact Int.le_refl _
    · exact M.top i v hv
  · rw [List.mem_append, not_or, List.mem_singleton] at haq
    rcases at_ _ _ hx with ⟨e, _⟩ | ⟨_, hx⟩
    · exact absurd (show a = b by omega) haq.2
    · obtain ⟨z, hz, z0, z1⟩ := M.closed a c x a0 haq.1 had hx hx0
      exact ⟨z, keep _ _ hz z0, z0, z1⟩
  · rcases hD x hx with h1 | rfl
    · obtain ⟨z, hz, z0, z1⟩ := M.dn x h1
      exact ⟨z, keep _ _ hz z0, z0, z1⟩
    · exact ⟨d + 1, self, by omega, Int.le_refl _⟩
  · have := M.cnt
    rw [List.length_append, List.length_singleton]; omega

theorem at0 {q t : List Int} {h : Int} (e : q = h :: t) : idx q (0 : Int) = some h ∧ q[(0 : Int).toNat]? = some h := by
  subst e
  exact ⟨rfl, rfl⟩
theorem side_step {w : WorksD} {goal : Int} {st q : List Int} {h : Int} {t : List Int} {d : Int} {D D' : Int → Prop} (M : Mid w goal st q h t d D) (hn : w.1.length ≤ 16) {a b k : Int} {l : List (Int × Int)} (hk : 0 ≤ k ∧ k < 2) (hl : idx l k = some (a, b)) (hl2 : l[k.toNat]? = some (a, b))
    (ha : 0 ≤ a ∧ a < w.1.length) (hb : 0 ≤ b ∧ b < w.1.length) (hadj : adj w a b) (hD : ∀ x, D' x → D x ∨ (a = h ∧ x = b)) (ms : List MeshD) (ln i : Int) :
    ∃ st' q' t', stepIS_step (goal, w, st, q, ms, ln, i, l, 2, k) = some (.next, goal, w, st', q', ms, ln, i, l, 2, k + 1) ∧ Mid w goal st' q' h t' d D' ∧ q'.length + neg st' = q.length + neg st := by
  obtain ⟨hh, hd0⟩ := M.h0
  have hcnt := M.cnt
  have hlen := M.base.len
  obtain ⟨q1, q2⟩ := at0 M.hq
  obtain ⟨y, hy, hy2⟩ := idx_get (l := st) hb.1 (by omega)
  have ew : IntKind.i64.wrap (k + 1) = k + 1 := w64 (by omega) (by omega)
  unfold stepIS_step
  dsimp only
  rw [br_t (by simpa using hk.2), hl, ob_s, gi, hl2, ob_s, q1, ob_s, gi, q2, ob_s, ew]
  by_cases e : a = h
  · subst e
    have hi := M.base.hi _ _ M.hd
    have hd1 := idx_nat hh M.hd
    rw [br_t (by simp), hy, ob_s, gi, hy2, ob_s]
    by_cases hy0 : y < 0
    · rw [br_t (by simpa using hy0), hd1, ob_s, gi, M.hd, ob_s, ob_s, ob_s, br_t (by simp; omega), w64 (x := d + 1) (by omega) (by omega)]
      have hn' := neg_set (v := d + 1) hy2 hy0 (by omega)
      refine ⟨_, _, _, rfl, M.set hb.1 hy2 hy0 hadj fun x hx => (hD x hx).imp id fun h => h.2, ?_⟩
      show (q ++ [b]).length + neg (st.set b.toNat (d + 1)) = _
      rw [List.length_append, List.length_singleton]; omega
    · rw [br_f (by simpa using hy0)]
      refine ⟨_, _, _, rfl, M.more fun x hx => (hD x hx).imp id fun h => ?_, rfl⟩
      rw [h.2]
      exact ⟨y, hy2, by omega⟩
  · rw [br_f (by simpa using e)]
    exact ⟨_, _, _, rfl, M.more fun x hx => .inl ((hD x hx).resolve_right fun h => e h.1), rfl⟩
def seenTo (w : WorksD) (h : Int) (i : Nat) (b : Int) : Prop := ∃ (j : Nat) (m : MeshD), j < i ∧ w.2[j]? = some m ∧ ((m.1 = h ∧ m.2.2.1 = b) ∨ (m.1 = b ∧ m.2.2.1 = h))
theorem mesh_walk {w : WorksD} (hk : worksOk w = true) (hn : w.1.length ≤ 16) (hm : w.2.length ≤ 24) {goal h d : Int} : ∀ (f : Nat) (st q t : List Int) (i : Nat), Mid w goal st q h t d (seenTo w h i) → i ≤ w.2.length → w.2.length - i < f →
    ∃ st' q' t', iterP stepIM_step f (goal, w, st, q, w.2, (w.2.length : Int), (i : Int)) = some (goal, w, st', q', w.2, (w.2.length : Int), (w.2.length : Int)) ∧ Mid w goal st' q' h t' d (seenTo w h w.2.length) ∧ q'.length + neg st' = q.length + neg st := by
  intro f
  induction f with
  | zero => intro st q t i _ _ h; omega
  | succ f ih =>
    intro st q t i M hi hf
    show ∃ st' q' t', ob (stepIM_step (goal, w, st, q, w.2, (w.2.length : Int), (i : Int))) _ = _ ∧ _
    by_cases hlt : i < w.2.length
    · obtain ⟨m, hm1, hm2⟩ := idx_get (l := w.2) (i := (i : Int)) (by omega) (by omega)
      have hm3 : w.2[i]? = some m := hm2
      have hmm := List.mem_of_getElem? hm3
      obtain ⟨p, a1, a2, _, _, _, _⟩ := meshes_ok hk hmm
      let l : List (Int × Int) := [(m.1, m.2.2.1), (m.2.2.1, m.1)]
      obtain ⟨st1, q1, t1, e1, M1, c1⟩ := side_step (D' := fun b => seenTo w h i b ∨ (m.1 = h ∧ b = m.2.2.1)) M hn (a := m.1) (b := m.2.2.1) (k := 0) (l := l) (by omega) rfl rfl a1 a2 ⟨m, hmm, .inl ⟨rfl, rfl⟩⟩ (fun x hx => hx) w.2 (w.2.length : Int) (i : Int)
      obtain ⟨st2, q2, t2, e2, M2, c2⟩ := side_step (D' := seenTo w h (i + 1)) M1 hn (a := m.2.2.1) (b := m.1) (k := 1) (l := l) (by omega) rfl rfl a2 a1 ⟨m, hmm, .inr ⟨rfl, rfl⟩⟩ (fun x hx => by
        obtain ⟨j, m', hj, hm', h1⟩ := hx
        by_cases hji : j < i
        · exact .inl (.inl ⟨j, m', hji, hm', h1⟩)
        · have : j = i := by omega
          subst this
          rw [hm3] at hm'; cases hm'
          rcases h1 with h1 | h1
          · exact .inl (.inr ⟨h1.1, h1.2.symm⟩)
          · exact .inr ⟨h1.2, h1.1.symm⟩) w.2 (w.2.length : Int) (i : Int)
      have e3 : stepIS (goal, w, st, q, w.2, (w.2.length : Int), (i : Int), l, (l.length : Int), 0) = some (goal, w, st2, q2, w.2, (w.2.length : Int), (i : Int), l, 2, 2) := by
        have e4 : stepIS_step (goal, w, st2, q2, w.2, (w.2.length : Int), (i : Int), l, 2, 2) = some (.out, goal, w, st2, q2, w.2, (w.2.length : Int), (i : Int), l, 2, 2) := rfl
        rw [show (0 : Int) + 1 = 1 from rfl] at e1
        rw [show (1 : Int) + 1 = 2 from rfl] at e2
        show iterP stepIS_step 3 (goal, w, st, q, w.2, (w.2.length : Int), (i : Int), l, 2, 0) = _
        simp only [iterP, e1, e2, e4, ob]
      obtain ⟨st', q', t', e5, M5, c5⟩ := ih st2 q2 t2 (i + 1) M2 (by omega) (by omega)
      refine ⟨st', q', t', ?_, M5, by omega⟩
      unfold stepIM_step
      dsimp only
      rw [br_t (by simp; omega), hm1, ob_s, show stepIS (goal, (w.1, w.2), st, q, w.2, (w.2.length : Int), (i : Int), [(m.1, m.2.2.1), (m.2.2.1, m.1)], (([(m.1, m.2.2.1), (m.2.2.1, m.1)] : List (Int × Int)).length : Int), 0) = _ from e3, ob_s]
      dsimp only
      rw [w64 (by omega) (by omega)]
      exact e5
    · have : i = w.2.length := by omega
      subst this
      refine ⟨st, q, t, ?_, M, rfl⟩
      unfold stepIM_step
      dsimp only
      rw [br_f (by simp)]
      rfl
structure Bfs (w : WorksD) (goal : Int) (st q : List Int) : Prop where
  base : Base w goal st
  qin : ∀ x ∈ q, 0 ≤ x ∧ ∃ v, st[x.toNat]? = some v ∧ 0 ≤ v
  sorted : q.Pairwise fun a b => ∀ x y, st[a.toNat]? = some x → st[b.toNat]? = some y → x ≤ y
  top : ∀ h t d, q = h :: t → st[h.toNat]? = some d → ∀ (i : Nat) v, st[i]? = some v → v ≤ d + 1
  closed : ∀ (a b : Int) x, 0 ≤ a → a ∉ q → adj w a b → st[a.toNat]? = some x → 0 ≤ x → ∃ y, st[b.toNat]? = some y ∧ 0 ≤ y ∧ y ≤ x + 1
  cnt : q.length + neg st ≤ w.1.length
theorem queue_walk {w : WorksD} (hk : worksOk w = true) (hn : w.1.length ≤ 16) (hm : w.2.length ≤ 24) {goal : Int} : ∀ (f : Nat) (st q : List Int), Bfs w goal st q → q.length + neg st < f → ∃ st', iterP stepIQ_step f (goal, w, st, q) = some (goal, w, st', []) ∧ Dist w goal st' := by
  intro f
  induction f with
  | zero => intro st q _ h; omega
  | succ f ih =>
    intro st q B hf
    show ∃ st', ob (stepIQ_step (goal, w, st, q)) _ = _ ∧ _
    cases q with
    | nil => exact ⟨st, rfl, B.base, fun a b x a0 had hx hx0 => B.closed a b x a0 (by simp) had hx hx0⟩
    | cons h t =>
      obtain ⟨hh, d, hd, hd0⟩ := B.qin h (by simp)
      have M : Mid w goal st (h :: t) h t d (seenTo w h 0) := ⟨B.base, B.qin, B.sorted, rfl, hd, B.top h t d rfl hd, B.closed, fun b ⟨j, _, hj, _⟩ => by omega, B.cnt⟩
      obtain ⟨st', q', t', e, M', c⟩ := mesh_walk hk hn hm (((w.2.length : Int) - 0).toNat + 1) st (h :: t) t 0 M (by omega) (by omega)
      have e' : stepIM (goal, w, st, h :: t, w.2, (w.2.length : Int), 0) = some (goal, w, st', q', w.2, (w.2.length : Int), (w.2.length : Int)) := e
      have hq' := M'.hq
      subst hq'
      have hso := M'.sorted
      rw [List.pairwise_cons] at hso
      have B' : Bfs w goal st' t' := by
        refine ⟨M'.base, fun x hx => M'.qin x (by simp [hx]), hso.2, fun h2 t2 d2 ht hd2 i v hv => ?_, fun a b x a0 hat had hx hx0 => ?_, ?_⟩
        · have := hso.1 h2 (by rw [ht]; simp) d d2 M'.hd hd2
          have := M'.top i v hv
          omega
        · by_cases eah : a = h
          · subst eah
            rw [M'.hd] at hx; cases hx
            obtain ⟨m, hmm, h1⟩ := had
            obtain ⟨j, hj1, hj2⟩ := List.mem_iff_getElem.1 hmm
            exact M'.dn b ⟨j, m, hj1, by rw [List.getElem?_eq_getElem hj1, hj2], h1⟩
          · exact M'.closed a b x a0 (by simp [eah, hat]) had hx hx0
        · have := M'.cnt
          rw [List.length_cons] at this; omega
      rw [List.length_cons] at c
      obtain ⟨st2, e2, D2⟩ := ih st' t' B' (by rw [List.length_cons] at c hf; omega)
      refine ⟨st2, ?_, D2⟩
      unfold stepIQ_step
      dsimp only
      rw [br_t (by simp), show stepIM (goal, (w.1, w.2), st, h :: t, w.2, (w.2.length : Int), 0) = _ from e', ob_s]
      dsimp only
      rw [br_t (by simp; omega)]
      exact e2
theorem stepsI_eq {w : WorksD} (hk : worksOk w = true) (hs : smallW w) {goal : Int} (h0 : 0 ≤ goal) (h1 : goal < w.1.length) : ∃ st, stepsI ((w.1, w.2), goal) = some st ∧ Dist w goal st := by
  have hk' := hk
  unfold worksOk at hk'
  simp only [Bool.and_eq_true, decide_eq_true_eq] at hk'
  have hn : w.1.length ≤ 16 := by omega
  have hm : w.2.length ≤ 24 := by omega
  have hl : (List.replicate w.1.length (0 : Int)).length = w.1.length := List.length_replicate
  have e1 := map_loop (step := stepIA_step) (l := List.replicate w.1.length (0 : Int)) (f := fun _ => -1) (fun o i => (goal, w, o, (w.1.length : Int), i))
    (fun o i y ho i0 i1 _ hy hy2 => by
      unfold stepIA_step
      dsimp only
      rw [br_t (by simp; omega), hy2, ob_s, gi, hy, ob_s, w64 (by omega) (by omega)])
    (fun o ho => by
      unfold stepIA_step
      dsimp only
      rw [br_f (by simp)]) (n := ((w.1.length : Int) - 0).toNat + 1) (by omega)
  have e1' : stepIA (goal, w, List.replicate w.1.length (0 : Int), (w.1.length : Int), 0) = some (goal, w, List.replicate w.1.length (-1), (w.1.length : Int), (w.1.length : Int)) := by
    rw [List.map_replicate, hl] at e1
    exact e1
  have hg : (List.replicate w.1.length (-1 : Int))[goal.toNat]? = some (-1) := by rw [List.getElem?_replicate, if_pos (by omega)]
  have hn' := neg_set (v := 0) hg (by omega) (Int.le_refl _)
  rw [neg_rep] at hn'
  have hb := st0_base (w := w) h0 h1
  have B : Bfs w goal (st0 w.1.length goal) [goal] := by
    refine ⟨hb, fun x hx => ?_, List.pairwise_singleton _ _, fun h t d e hd i v hv => ?_, fun a b x a0 hat _ hx hx0 => ?_, ?_⟩
    · rw [List.mem_singleton.1 hx]
      exact ⟨h0, 0, hb.gz, Int.le_refl _⟩
    · cases e
      rw [hb.gz] at hd; cases hd
      have hd' := hb.hi i v hv
      have hd'' : neg (st0 w.1.length goal) + 1 = w.1.length := hn'
      omega
    · exfalso
      have hd' := hb.hi _ x hx
      have hd'' : neg (st0 w.1.length goal) + 1 = w.1.length := hn'
      have hx00 : x = 0 := by omega
      subst hx00
      have := hb.zero _ hx
      exact hat (by rw [List.mem_singleton]; omega)
    · show 1 + neg ((List.replicate w.1.length (-1)).set goal.toNat 0) ≤ _
      omega
  obtain ⟨st, e2, D⟩ := queue_walk hk hn hm (w.1.length + 2) (st0 w.1.length goal) [goal] B (by
    show 1 + neg ((List.replicate w.1.length (-1)).set goal.toNat 0) < _
    omega)
  refine ⟨st, ?_, D⟩
  unfold stepsI
  dsimp only
  have hd : decide ((0 : Int) ≤ (w.1.length : Int) ∧ (w.1.length : Int) = (w.1.length : Int) ∧ (w.1.length : Int) ≤ 1048576) = true := by simp; omega
  rw [br_t hd, show ((w.1.length : Int)).toNat = w.1.length by omega, hl, show stepIA (goal, (w.1, w.2), List.replicate w.1.length (0 : Int), (w.1.length : Int), 0) = _ from e1', ob_s]
  dsimp only
  rw [idx_nat h0 hg, ob_s, gi, hg, ob_s, show stepIQ (goal, (w.1, w.2), (List.replicate w.1.length (-1)).set goal.toNat 0, [goal]) = _ from e2]
  rfl
end Rx
end Go.Proofs.YtonbgpliomhboaaGreatDoor

namespace Go.Proofs.YtonbgpliomhboaaGreatDoor
namespace Rx
open Go

/-! ### The reference's rounds -/
structure Lev (w : WorksD) (goal : Int) (st : List Int) (far : Int) : Prop where
  base : Base w goal st
  top : ∀ (i : Nat) v, st[i]? = some v → v ≤ far
  closed : ∀ (a b : Int) x, 0 ≤ a → adj w a b → st[a.toNat]? = some x → 0 ≤ x → x < far → ∃ y, st[b.toNat]? = some y ∧ 0 ≤ y ∧ y ≤ x + 1
structure LevM (w : WorksD) (goal : Int) (st : List Int) (far : Int) (i : Nat) : Prop where
  base : Base w goal st
  top : ∀ (i : Nat) v, st[i]? = some v → v ≤ far + 1
  closed : ∀ (a b : Int) x, 0 ≤ a → adj w a b → st[a.toNat]? = some x → 0 ≤ x → x < far → ∃ y, st[b.toNat]? = some y ∧ 0 ≤ y ∧ y ≤ x + 1
  dn : ∀ (j : Nat) m, j < i → w.2[j]? = some m → ∀ x y, st[m.1.toNat]? = some x → st[m.2.2.1.toNat]? = some y → (x = far → 0 ≤ y) ∧ (y = far → 0 ≤ x)
theorem LevM.set {w : WorksD} {goal : Int} {st : List Int} {far : Int} {i : Nat} (L : LevM w goal st far i) (hf : 0 ≤ far) {a b y : Int} (a0 : 0 ≤ a) (b0 : 0 ≤ b) (ha : st[a.toNat]? = some far) (hb : st[b.toNat]? = some y) (hy : y < 0) (had : adj w b a) : LevM w goal (st.set b.toNat (far + 1)) far i := by
  have bl := (List.getElem?_eq_some_iff.1 hb).1
  have self : (st.set b.toNat (far + 1))[b.toNat]? = some (far + 1) := List.getElem?_set_self bl
  have keep : ∀ (i : Nat) v, st[i]? = some v → 0 ≤ v → (st.set b.toNat (far + 1))[i]? = some v := fun i v hv h0 => by
    have : b.toNat ≠ i := fun e => by
      rw [e] at hb; rw [hv] at hb; cases hb; omega
    rw [List.getElem?_set_ne this]; exact hv
  have at_ : ∀ (i : Nat) v, (st.set b.toNat (far + 1))[i]? = some v → (i = b.toNat ∧ v = far + 1) ∨ (i ≠ b.toNat ∧ st[i]? = some v) := fun i v hv => by
    by_cases e : i = b.toNat
    · subst e
      rw [self] at hv
      cases hv; exact .inl ⟨rfl, rfl⟩
    · rw [List.getElem?_set_ne (fun e' => e e'.symm)] at hv
      exact .inr ⟨e, hv⟩
  refine ⟨L.base.set a0 b0 hb hy ha hf had, fun i v hv => ?_, fun c d x c0 hcd hx x0 x1 => ?_, fun j m hj hm x z hx hz => ?_⟩
  · rcases at_ i v hv with ⟨_, rfl⟩ | ⟨_, hv⟩
    · exact Int.le_refl _
    · exact L.top i v hv
  · rcases at_ _ _ hx with ⟨_, e⟩ | ⟨_, hx⟩
    · omega
    · obtain ⟨z, hz, z0, z1⟩ := L.closed c d x c0 hcd hx x0 x1
      exact ⟨z, keep _ _ hz z0, z0, z1⟩
  · constructor
    · intro e
      rcases at_ _ _ hx with ⟨_, e1⟩ | ⟨_, hx⟩
      · omega
      · rcases at_ _ _ hz with ⟨_, e1⟩ | ⟨_, hz⟩
        · omega
        · exact (L.dn j m hj hm x z hx hz).1 e
    · intro e
      rcases at_ _ _ hz with ⟨_, e1⟩ | ⟨_, hz⟩
      · omega
      · rcases at_ _ _ hx with ⟨_, e1⟩ | ⟨_, hx⟩
        · omega
        · exact (L.dn j m hj hm x z hx hz).2 e
theorem LevM.next {w : WorksD} {goal : Int} {st : List Int} {far : Int} {i : Nat} (L : LevM w goal st far i) {m : MeshD} (hm : w.2[i]? = some m) (h : ∀ x y, st[m.1.toNat]? = some x → st[m.2.2.1.toNat]? = some y → (x = far → 0 ≤ y) ∧ (y = far → 0 ≤ x)) : LevM w goal st far (i + 1) :=
  ⟨L.base, L.top, L.closed, fun j m' hj hm' x y hx hy => by
    by_cases e : j < i
    · exact L.dn j m' e hm' x y hx hy
    · have : j = i := by omega
      subst this
      rw [hm] at hm'; cases hm'
      exact h x y hx hy⟩
theorem lev_mesh {w : WorksD} (hk : worksOk w = true) (hm : w.2.length ≤ 24) {goal far : Int} (hf : 0 ≤ far ∧ far ≤ 100) : ∀ (f : Nat) (st : List Int) (i : Nat), LevM w goal st far i → i ≤ w.2.length → w.2.length - i < f →
    ∃ st', iterP stepSM_step f (w, st, far, (i : Int)) = some (w, st', far, (w.2.length : Int)) ∧ LevM w goal st' far w.2.length := by
  intro f
  induction f with
  | zero => intro st i _ _ h; omega
  | succ f ih =>
    intro st i L hi hfu
    show ∃ st', ob (stepSM_step (w, st, far, (i : Int))) _ = _ ∧ _
    by_cases hlt : i < w.2.length
    · obtain ⟨m, hm1, hm2⟩ := idx_get (l := w.2) (i := (i : Int)) (by omega) (by omega)
      have hm3 : w.2[i]? = some m := hm2
      have hmm := List.mem_of_getElem? hm3
      obtain ⟨p, a1, a2, a3, _, _, _⟩ := meshes_ok hk hmm
      have hlen := L.base.len
      obtain ⟨x, hx, hx2⟩ := idx_get (l := st) a1.1 (by omega)
      obtain ⟨y, hy, hy2⟩ := idx_get (l := st) a2.1 (by omega)
      have ew : IntKind.i64.wrap ((i : Int) + 1) = (i : Int) + 1 := w64 (by omega) (by omega)
      have ef : IntKind.i64.wrap (far + 1) = far + 1 := w64 (by omega) (by omega)
      have go : ∀ st1, LevM w goal st1 far (i + 1) → ∃ st', iterP stepSM_step f (w, st1, far, (i : Int) + 1) = some (w, st', far, (w.2.length : Int)) ∧ LevM w goal st' far w.2.length := fun st1 L1 => by
        have := ih st1 (i + 1) L1 (by omega) (by omega)
        rw [show ((i + 1 : Nat) : Int) = (i : Int) + 1 by push_cast; rfl] at this
        exact this
      unfold stepSM_step
      dsimp only
      rw [br_t (by simp; omega), hm1, ob_s, hx, ob_s, gi, hx2, ob_s, ef, ew]
      by_cases x0 : x = far
      · rw [br_t (by simpa using x0), hy, ob_s, gi, hy2, ob_s]
        by_cases y0 : y < 0
        · have s1 : (st.set m.2.2.1.toNat (far + 1))[m.2.2.1.toNat]? = some (far + 1) := get_set (by omega)
          have s2 : idx (st.set m.2.2.1.toNat (far + 1)) m.2.2.1 = some (far + 1) := idx_set a2.1 (by omega)
          rw [br_t (by simpa using y0), ob_s, ob_s, s2, ob_s, gi, s1, ob_s, br_f (by simp; omega)]
          subst x0
          have L1 := L.set hf.1 a1.1 a2.1 hx2 hy2 y0 ⟨m, hmm, .inr ⟨rfl, rfl⟩⟩
          refine go _ (L1.next hm3 fun u v hu hv => ?_)
          rw [s1] at hv; cases hv
          have hne : m.2.2.1.toNat ≠ m.1.toNat := by omega
          rw [List.getElem?_set_ne hne, hx2] at hu
          cases hu
          exact ⟨fun _ => by omega, fun _ => by omega⟩
        · rw [br_f (by simpa using y0), ob_s, ob_s]
          have L1 := L.next hm3 fun u v hu hv => by
            rw [hx2] at hu; rw [hy2] at hv
            cases hu; cases hv
            exact ⟨fun _ => by omega, fun _ => by omega⟩
          by_cases y1 : y = far
          · rw [br_t (by simpa using y1), ob_s, ob_s, br_f (by simp; omega)]
            exact go st L1
          · rw [br_f (by simpa using y1)]
            exact go st L1
      · rw [br_f (by simpa using x0), hy, ob_s, gi, hy2, ob_s]
        by_cases y1 : y = far
        · rw [br_t (by simpa using y1), ob_s, ob_s]
          by_cases x1 : x < 0
          · rw [br_t (by simpa using x1), ob_s, ob_s]
            subst y1
            have s1 : (st.set m.1.toNat (y + 1))[m.1.toNat]? = some (y + 1) := get_set (by omega)
            have L1 := L.set hf.1 a2.1 a1.1 hy2 hx2 x1 ⟨m, hmm, .inl ⟨rfl, rfl⟩⟩
            refine go _ (L1.next hm3 fun u v hu hv => ?_)
            rw [s1] at hu; cases hu
            have hne : m.1.toNat ≠ m.2.2.1.toNat := by omega
            rw [List.getElem?_set_ne hne, hy2] at hv
            cases hv
            exact ⟨fun _ => by omega, fun _ => by omega⟩
          · rw [br_f (by simpa using x1)]
            refine go st (L.next hm3 fun u v hu hv => ?_)
            rw [hx2] at hu; rw [hy2] at hv
            cases hu; cases hv
            exact ⟨fun _ => by omega, fun _ => by omega⟩
        · rw [br_f (by simpa using y1)]
          refine go st (L.next hm3 fun u v hu hv => ?_)
          rw [hx2] at hu; rw [hy2] at hv
          cases hu; cases hv
          exact ⟨fun e => (x0 e).elim, fun e => (y1 e).elim⟩
    · have : i = w.2.length := by omega
      subst this
      refine ⟨st, ?_, L⟩
      unfold stepSM_step
      dsimp only
      rw [br_f (by simp)]
      rfl
theorem lev_walk {w : WorksD} (hk : worksOk w = true) (hn : w.1.length ≤ 16) (hm : w.2.length ≤ 24) {goal : Int} : ∀ (f : Nat) (st : List Int) (far : Nat), Lev w goal st far → far ≤ w.1.length → w.1.length - far < f → ∃ st', iterP stepSF_step f (w, st, (far : Int)) = some (w, st', (w.1.length : Int)) ∧ Dist w goal st' := by
  intro f
  induction f with
  | zero => intro st far _ _ h; omega
  | succ f ih =>
    intro st far L hfar hfu
    show ∃ st', ob (stepSF_step (w, st, (far : Int))) _ = _ ∧ _
    by_cases hlt : far < w.1.length
    · have L0 : LevM w goal st far 0 := ⟨L.base, fun i v hv => by have := L.top i v hv; omega, L.closed, fun j m hj => by omega⟩
      obtain ⟨st1, e1, L1⟩ := lev_mesh hk hm (far := (far : Int)) (by omega) ((w.2.length - (0 : Int).toNat) + 1) st 0 L0 (by omega) (by simp)
      have e1' : stepSM (w, st, (far : Int), 0) = some (w, st1, (far : Int), (w.2.length : Int)) := e1
      have L2 : Lev w goal st1 ((far + 1 : Nat) : Int) := by
        refine ⟨L1.base, fun i v hv => by have := L1.top i v hv; push_cast; exact this, fun a b x a0 had hx x0 x1 => ?_⟩
        by_cases e : x < (far : Int)
        · exact L1.closed a b x a0 had hx x0 e
        · have ex : x = (far : Int) := by push_cast at x1; omega
          obtain ⟨m, hmm, h1⟩ := had
          obtain ⟨p, a1, a2, _, _, _, _⟩ := meshes_ok hk hmm
          have hlen := L1.base.len
          obtain ⟨j, hj1, hj2⟩ := List.mem_iff_getElem.1 hmm
          obtain ⟨u, _, hu2⟩ := idx_get (l := st1) a1.1 (by omega)
          obtain ⟨v, _, hv2⟩ := idx_get (l := st1) a2.1 (by omega)
          have hd := L1.dn j m hj1 (by rw [List.getElem?_eq_getElem hj1, hj2]) u v hu2 hv2
          rcases h1 with ⟨rfl, rfl⟩ | ⟨rfl, rfl⟩
          · rw [hu2] at hx; cases hx
            exact ⟨v, hv2, hd.1 ex, by have := L1.top _ _ hv2; omega⟩
          · rw [hv2] at hx; cases hx
            exact ⟨u, hu2, hd.2 ex, by have := L1.top _ _ hu2; omega⟩
      obtain ⟨st', e2, D⟩ := ih st1 (far + 1) L2 (by omega) (by omega)
      refine ⟨st', ?_, D⟩
      unfold stepSF_step
      dsimp only
      rw [br_t (by simp; omega), e1', ob_s]
      dsimp only
      rw [w64 (by omega) (by omega)]
      exact e2
    · have : far = w.1.length := by omega
      subst this
      refine ⟨st, ?_, L.base, fun a b x a0 had hx x0 => L.closed a b x a0 had hx x0 (by have := L.base.hi _ _ hx; omega)⟩
      unfold stepSF_step
      dsimp only
      rw [br_f (by simp)]
      rfl
theorem stepSA_walk {w : WorksD} {goal : Int} {n : Nat} (hn : n ≤ 1000) : ∀ (f : Nat) (i : Nat), i ≤ n → n - i < f → iterP stepSA_step f (w, goal, List.replicate i (-1), (n : Int), (i : Int)) = some (w, goal, List.replicate n (-1), (n : Int), (n : Int)) := by
  intro f
  induction f with
  | zero => intro i _ h; omega
  | succ f ih =>
    intro i hi hf
    show ob (stepSA_step (w, goal, List.replicate i (-1), (n : Int), (i : Int))) _ = _
    unfold stepSA_step
    dsimp only
    by_cases hlt : i < n
    · rw [br_t (by simp; omega), br_t (by simp; omega), w64 (by omega) (by omega)]
      have := ih (i + 1) (by omega) (by omega)
      rw [List.replicate_succ'] at this
      exact this
    · have : i = n := by omega
      subst this
      rw [br_f (by simp)]
      rfl
theorem stepsS_eq {w : WorksD} (hk : worksOk w = true) {goal : Int} (h0 : 0 ≤ goal) (h1 : goal < w.1.length) : ∃ st, stepsS (w, goal) = some st ∧ Dist w goal st := by
  have hk' := hk
  unfold worksOk at hk'
  simp only [Bool.and_eq_true, decide_eq_true_eq] at hk'
  have hn : w.1.length ≤ 16 := by omega
  have hm : w.2.length ≤ 24 := by omega
  have e1 := stepSA_walk (w := w) (goal := goal) (n := w.1.length) (by omega) (((w.1.length : Int) - 0).toNat + 1) 0 (by omega) (by omega)
  have e1' : stepSA (w, goal, [], (w.1.length : Int), 0) = some (w, goal, List.replicate w.1.length (-1), (w.1.length : Int), (w.1.length : Int)) := e1
  have hg : (List.replicate w.1.length (-1 : Int))[goal.toNat]? = some (-1) := by rw [List.getElem?_replicate, if_pos (by omega)]
  have hn' := neg_set (v := 0) hg (by omega) (Int.le_refl _)
  rw [neg_rep] at hn'
  have hb := st0_base (w := w) h0 h1
  have L : Lev w goal (st0 w.1.length goal) ((0 : Nat) : Int) := by
    refine ⟨hb, fun i v hv => ?_, fun a b x a0 _ hx x0 x1 => by omega⟩
    have hd' := hb.hi i v hv
    have hd'' : neg (st0 w.1.length goal) + 1 = w.1.length := hn'
    omega
  obtain ⟨st, e2, D⟩ := lev_walk hk hn hm ((w.1.length - (0 : Int).toNat) + 1) (st0 w.1.length goal) 0 L (by omega) (by simp)
  refine ⟨st, ?_, D⟩
  unfold stepsS
  dsimp only
  rw [e1', ob_s]
  dsimp only
  rw [idx_nat h0 hg, ob_s, gi, hg, ob_s, show stepSF (w, (List.replicate w.1.length (-1)).set goal.toNat 0, 0) = _ from e2]
  rfl
/-- Both find the same. -/
theorem steps_both {w : WorksD} (hk : worksOk w = true) (hs : smallW w) {goal : Int} (h0 : 0 ≤ goal) (h1 : goal < w.1.length) : ∃ st, stepsI ((w.1, w.2), goal) = some st ∧ stepsS (w, goal) = some st ∧ Dist w goal st := by
  obtain ⟨s, e1, D1⟩ := stepsI_eq hk hs h0 h1
  obtain ⟨s', e2, D2⟩ := stepsS_eq hk h0 h1
  have := dist_unique D1 D2
  subst this
  exact ⟨s, e1, e2, D1⟩
end Rx
end Go.Proofs.YtonbgpliomhboaaGreatDoor

namespace Go.Proofs.YtonbgpliomhboaaGreatDoor
namespace Rx
open Go

/-! ### The first that fits -/
theorem least {α : Type} (p : α → Bool) : ∀ (l : List α), (∃ m ∈ l, p m = true) → ∃ k m, l[k]? = some m ∧ p m = true ∧ ∀ (j : Nat) m', j < k → l[j]? = some m' → p m' = false
  | [], h => by obtain ⟨m, hm, _⟩ := h; cases hm
  | y :: l, h => by
    cases hy : p y with
    | true => exact ⟨0, y, rfl, hy, fun j m' hj => by omega⟩
    | false =>
      obtain ⟨m, hm, hp⟩ := h
      rcases List.mem_cons.1 hm with rfl | hm
      · rw [hy] at hp; cases hp
      · obtain ⟨k, m, h1, h2, h3⟩ := least p l ⟨m, hm, hp⟩
        refine ⟨k + 1, m, by simpa using h1, h2, fun j m' hj hm' => ?_⟩
        cases j with
        | zero => simp at hm'; subst hm'; exact hy
        | succ j => exact h3 j m' (by omega) (by simpa using hm')
theorem findP {σ : Type} {step : σ → Option (LRes × σ)} (S : Nat → σ) {r : σ} {k : Nat} (hn : ∀ i, i < k → step (S i) = some (.next, S (i + 1))) (hk : step (S k) = some (.out, r)) : ∀ (f i : Nat), i ≤ k → k - i < f → iterP step f (S i) = some r := by
  intro f
  induction f with
  | zero => intro i _ h; omega
  | succ f ih =>
    intro i hi hf
    show ob (step (S i)) _ = _
    by_cases e : i = k
    · subst e
      rw [hk]; rfl
    · rw [hn i (by omega)]
      exact ih (i + 1) (by omega) (by omega)
def fitP (st : List Int) (a x : Int) (m : MeshD) : Bool := if m.2.2.1 = a then decide (st[m.1.toNat]? = some (x - 1)) else if m.1 = a then decide (st[m.2.2.1.toNat]? = some (x - 1)) else false
def nbP (a : Int) (m : MeshD) : Int := if m.2.2.1 = a then m.1 else m.2.2.1
def turnP (a : Int) (m : MeshD) : MeshD := if m.2.2.1 = a then (m.2.2.1, m.2.2.2, m.1, m.2.1) else m
theorem fitP_t {st : List Int} {a x : Int} {m : MeshD} (h : fitP st a x m = true) : st[(nbP a m).toNat]? = some (x - 1) ∧ (m.2.2.1 = a ∨ m.1 = a) := by
  unfold fitP at h
  unfold nbP
  by_cases e : m.2.2.1 = a
  · rw [if_pos e] at h ⊢
    exact ⟨of_decide_eq_true h, .inl e⟩
  · rw [if_neg e] at h ⊢
    by_cases e' : m.1 = a
    · rw [if_pos e'] at h
      exact ⟨of_decide_eq_true h, .inr e'⟩
    · rw [if_neg e'] at h; cases h
theorem pathIN_at {w : WorksD} (hk : worksOk w = true) (hm : w.2.length ≤ 24) {st : List Int} (hst : st.length = w.1.length) {to a x : Int} (a0 : 0 ≤ a) (ha : st[a.toNat]? = some x) (hx : 0 ≤ x ∧ x ≤ 100) {path : List Int} (hp : path.length ≤ 1000) {i : Nat} {m : MeshD} (hi : w.2[i]? = some m) :
    pathIN_step (to, w, st, path, a, w.2, (w.2.length : Int), (i : Int)) = some (if fitP st a x m = true then (.out, to, w, st, path ++ [(i : Int)], nbP a m, w.2, (w.2.length : Int), (i : Int)) else (.next, to, w, st, path, a, w.2, (w.2.length : Int), ((i + 1 : Nat) : Int))) ∧
    ∀ out, out.length ≤ 1000 → pathSN_step (w, to, st, out, path, a, (i : Int)) = some (if fitP st a x m = true then (.out, w, to, st, out ++ [turnP a m], path ++ [(i : Int)], nbP a m, (i : Int)) else (.next, w, to, st, out, path, a, ((i + 1 : Nat) : Int))) := by
  have hlt := (List.getElem?_eq_some_iff.1 hi).1
  have hm1 : idx w.2 (i : Int) = some m := idx_nat (by omega) (by simpa using hi)
  obtain ⟨p, a1, a2, a3, _, _, _⟩ := meshes_ok hk (List.mem_of_getElem? hi)
  obtain ⟨u, hu, hu2⟩ := idx_get (l := st) a1.1 (by omega)
  obtain ⟨v, hv, hv2⟩ := idx_get (l := st) a2.1 (by omega)
  have ha' : idx st a = some x := idx_nat a0 ha
  have ew : IntKind.i64.wrap ((i : Int) + 1) = ((i + 1 : Nat) : Int) := by rw [w64 (by omega) (by omega)]; push_cast; rfl
  have ex : IntKind.i64.wrap (x - 1) = x - 1 := w64 (by omega) (by omega)
  have hl : decide (path.length + [(i : Int)].length ≤ 4294967296) = true := by simp; omega
  unfold pathIN_step pathSN_step fitP nbP turnP
  dsimp only
  refine ⟨?_, fun out ho => ?_⟩
  · rw [br_t (by simp; omega), hm1, ob_s]
    by_cases e : m.2.2.1 = a
    · have e' : m.1 ≠ a := fun h => a3 (h.trans e.symm)
      rw [br_t (by simpa using e), br_f (by simpa using e'), br_t (by simpa using e), hu, ob_s, gi, hu2, ob_s, ha', ob_s, gi, ha, ob_s, ex, br_t hl, if_pos e, if_pos e]
      by_cases eu : u = x - 1
      · rw [br_t (by simpa using eu), if_pos (by simpa [hu2] using eu)]
      · rw [br_f (by simpa using eu), if_neg (by simpa [hu2] using eu), ew]
    · rw [br_f (by simpa using e), if_neg e, if_neg e]
      by_cases e' : m.1 = a
      · rw [br_t (by simpa using e'), hv, ob_s, gi, hv2, ob_s, ha', ob_s, gi, ha, ob_s, ex, br_t hl, if_pos e']
        by_cases eu : v = x - 1
        · rw [br_t (by simpa using eu), if_pos (by simpa [hv2] using eu)]
        · rw [br_f (by simpa using eu), if_neg (by simpa [hv2] using eu), ew]
      · rw [br_f (by simpa using e'), br_f (by simpa using e), if_neg e', ew]
        rfl
  · have hl2 : ∀ z : MeshD, decide (out.length + [z].length ≤ 4294967296) = true := fun z => by simp; omega
    rw [br_t (by simp; omega), hm1, ob_s]
    by_cases e : m.2.2.1 = a
    · have e' : m.1 ≠ a := fun h => a3 (h.trans e.symm)
      rw [br_t (by simpa using e), br_t (by simpa using e), hu, ob_s, gi, hu2, ob_s, ha', ob_s, gi, ha, ob_s, ex, br_t (hl2 _), br_t hl, if_pos e, if_pos e, if_pos e]
      by_cases eu : u = x - 1
      · rw [br_t (by simpa using eu), if_pos (by simpa [hu2] using eu)]
      · rw [br_f (by simpa using eu), if_neg (by simpa [hu2] using eu), ew]
    · rw [br_f (by simpa using e), if_neg e, if_neg e, if_neg e]
      by_cases e' : m.1 = a
      · rw [br_t (by simpa using e'), hv, ob_s, gi, hv2, ob_s, ha', ob_s, gi, ha, ob_s, ex, br_t (hl2 _), br_t hl, if_pos e']
        by_cases eu : v = x - 1
        · rw [br_t (by simpa using eu), if_pos (by simpa [hv2] using eu)]
        · rw [br_f (by simpa using eu), if_neg (by simpa [hv2] using eu), ew]
      · rw [br_f (by simpa using e'), if_neg e', ew]
        rfl
/-- One round of both: the first mesh that leads nearer. -/
theorem round_both {w : WorksD} (hk : worksOk w = true) (hm : w.2.length ≤ 24) {goal : Int} {st : List Int} (D : Dist w goal st) {a x : Int} (a0 : 0 ≤ a) (ha : st[a.toNat]? = some x) (hx : 0 < x ∧ x ≤ 100) {path : List Int} {out : List MeshD} (hp : path.length ≤ 1000) (ho : out.length ≤ 1000) :
    ∃ (k : Nat) (m : MeshD), w.2[k]? = some m ∧ (m.2.2.1 = a ∨ m.1 = a) ∧ 0 ≤ nbP a m ∧ st[(nbP a m).toNat]? = some (x - 1) ∧
      pathIN (goal, w, st, path, a, w.2, (w.2.length : Int), 0) = some (goal, w, st, path ++ [(k : Int)], nbP a m, w.2, (w.2.length : Int), (k : Int)) ∧
      pathSN (w, goal, st, out, path, a, 0) = some (w, goal, st, out ++ [turnP a m], path ++ [(k : Int)], nbP a m, (k : Int)) := by
  have hst := D.base.len
  have hex : ∃ m ∈ w.2, fitP st a x m = true := by
    obtain ⟨j, j0, ⟨m, hmm, hj⟩, hv⟩ := D.base.pred _ x ha hx.1
    rw [show ((a.toNat : Nat) : Int) = a by omega] at hj
    refine ⟨m, hmm, ?_⟩
    obtain ⟨p, a1, a2, a3, _, _, _⟩ := meshes_ok hk hmm
    unfold fitP
    rcases hj with ⟨e1, e2⟩ | ⟨e1, e2⟩
    · rw [if_neg (fun h => a3 (e1.trans h.symm)), if_pos e1, e2]
      exact decide_eq_true hv
    · rw [if_pos e2, e1]
      exact decide_eq_true hv
  obtain ⟨k, m, h1, h2, h3⟩ := least _ _ hex
  have hkl := (List.getElem?_eq_some_iff.1 h1).1
  obtain ⟨f1, f2⟩ := fitP_t h2
  have nb0 : 0 ≤ nbP a m := by
    obtain ⟨p, a1, a2, _, _, _, _⟩ := meshes_ok hk (List.mem_of_getElem? h1)
    unfold nbP
    by_cases e : m.2.2.1 = a
    · rw [if_pos e]; exact a1.1
    · rw [if_neg e]; exact a2.1
  have at_ := fun (i : Nat) m (hi : w.2[i]? = some m) => pathIN_at hk hm hst (to := goal) a0 ha ⟨by omega, hx.2⟩ hp hi
  refine ⟨k, m, h1, f2, nb0, f1, ?_, ?_⟩
  · refine findP (step := pathIN_step) (fun i => (goal, w, st, path, a, w.2, (w.2.length : Int), (i : Int))) (k := k) (fun i hi => ?_) ?_ _ 0 (by omega) ?_
    · have hl : i < w.2.length := by omega
      have hg : w.2[i]? = some w.2[i] := List.getElem?_eq_getElem hl
      rw [(at_ i _ hg).1, if_neg (by rw [h3 i _ hi hg]; decide)]
    · rw [(at_ k m h1).1, if_pos h2]
    · show k - 0 < ((w.2.length : Int) - 0).toNat + 1
      omega
  · refine findP (step := pathSN_step) (fun i => (w, goal, st, out, path, a, (i : Int))) (k := k) (fun i hi => ?_) ?_ _ 0 (by omega) ?_
    · have hl : i < w.2.length := by omega
      have hg : w.2[i]? = some w.2[i] := List.getElem?_eq_getElem hl
      rw [(at_ i _ hg).2 out ho, if_neg (by rw [h3 i _ hi hg]; decide)]
    · rw [(at_ k m h1).2 out ho, if_pos h2]
    · show k - 0 < (w.2.length - (0 : Int).toNat) + 1
      simp; omega

/-! ### The whole walk -/
def ChainP (w : WorksD) : Int → List Int → List MeshD → Int → Prop
  | a, [], [], to => a = to
  | a, k :: ks, m' :: ms, to => ∃ m, idx w.2 k = some m ∧ m ∈ w.2 ∧ (m.2.2.1 = a ∨ m.1 = a) ∧ m' = turnP a m ∧ ChainP w (nbP a m) ks ms to
  | _, _, _, _ => False
theorem ChainP.len {w : WorksD} {to : Int} : ∀ {ks : List Int} {ms : List MeshD} {a : Int}, ChainP w a ks ms to → ks.length = ms.length
  | [], [], _, _ => rfl
  | _ :: ks, _ :: ms, _, h => by
    obtain ⟨m, _, _, _, _, h⟩ := h
    rw [List.length_cons, List.length_cons, h.len]
theorem walk_both {w : WorksD} (hk : worksOk w = true) (hm : w.2.length ≤ 24) {goal : Int} {st : List Int} (D : Dist w goal st) : ∀ (d : Nat) (a : Int) (path : List Int) (out : List MeshD) (f g : Nat), 0 ≤ a → st[a.toNat]? = some (d : Int) → d ≤ 100 → d < f → d < g → path.length + d ≤ 1000 → out.length + d ≤ 1000 →
    ∃ ks ms, iterP pathIL_step f (goal, w, st, path, a) = some (goal, w, st, path ++ ks, goal) ∧ iterP pathSL_step g (w, goal, st, out, path, a) = some (w, goal, st, out ++ ms, path ++ ks, goal) ∧ ChainP w a ks ms goal ∧ ks.length = d := by
  intro d
  induction d with
  | zero =>
    intro a path out f g a0 ha _ hf hg _ _
    have e := D.base.zero _ ha
    rw [show ((a.toNat : Nat) : Int) = a by omega] at e
    subst e
    obtain ⟨f, rfl⟩ : ∃ n, f = n + 1 := ⟨f - 1, by omega⟩
    obtain ⟨g, rfl⟩ : ∃ n, g = n + 1 := ⟨g - 1, by omega⟩
    refine ⟨[], [], ?_, ?_, rfl, rfl⟩
    · show ob (pathIL_step (a, w, st, path, a)) _ = _
      unfold pathIL_step
      dsimp only
      rw [br_f (by simp), List.append_nil]
      rfl
    · show ob (pathSL_step (w, a, st, out, path, a)) _ = _
      unfold pathSL_step
      dsimp only
      rw [br_f (by simp), List.append_nil, List.append_nil]
      rfl
  | succ d ih =>
    intro a path out f g a0 ha hd hf hg hp ho
    have hne : a ≠ goal := fun e => by
      have := D.base.gz
      rw [← e, ha] at this
      injection this with this
      omega
    obtain ⟨f, rfl⟩ : ∃ n, f = n + 1 := ⟨f - 1, by omega⟩
    obtain ⟨g, rfl⟩ : ∃ n, g = n + 1 := ⟨g - 1, by omega⟩
    obtain ⟨k, m, h1, h2, h3, h4, h5, h6⟩ := round_both hk hm D a0 ha ⟨by omega, by omega⟩ (path := path) (out := out) (by omega) (by omega)
    rw [show ((d + 1 : Nat) : Int) - 1 = (d : Int) by omega] at h4
    obtain ⟨ks, ms, g1, g2, g3, g4⟩ := ih (nbP a m) (path ++ [(k : Int)]) (out ++ [turnP a m]) f g h3 h4 (by omega) (by omega) (by omega) (by simp; omega) (by simp; omega)
    refine ⟨(k : Int) :: ks, turnP a m :: ms, ?_, ?_, ⟨m, idx_nat (by omega) (by simpa using h1), List.mem_of_getElem? h1, h2, rfl, g3⟩, by rw [List.length_cons, g4]⟩
    · show ob (pathIL_step (goal, w, st, path, a)) _ = _
      unfold pathIL_step
      dsimp only
      have h5' : pathIN (goal, (w.1, w.2), st, path, a, w.2, (w.2.length : Int), 0) = _ := h5
      rw [br_t (by simpa using hne), h5', ob_s]
      rw [List.append_assoc] at g1
      exact g1
    · show ob (pathSL_step (w, goal, st, out, path, a)) _ = _
      unfold pathSL_step
      dsimp only
      rw [br_t (by simpa using hne), h6, ob_s]
      rw [List.append_assoc, List.append_assoc] at g2
      exact g2
end Rx
end Go.Proofs.YtonbgpliomhboaaGreatDoor

namespace Go.Proofs.YtonbgpliomhboaaGreatDoor
namespace Rx
open Go

end Rx
end Go.Proofs.YtonbgpliomhboaaGreatDoor
