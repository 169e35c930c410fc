/- What the functions of RxRoute come to, and their contracts. No conditions. -/
import Derived.Test.YthehdbedojcpdaaRxEnv
import Derived.Test.YthehdbedojcpdaaRxPath
namespace Go.Proofs.Ythehdbedojcpdaa
namespace Rx
open Go

noncomputable section
def trainBI_vars : Vars := [(3, .box 0 33 (.pair (.slice (.pair (.str) (.slice (i64)))) (.slice (.pair (i64) (.pair (i64) (.pair (i64) (i64))))))), (10, .row 0 107 (.pair (i64) (i64))), (11, .val (i64)), (30, .row 0 2 (i64)), (31, .val (i64)), (32, .val (i64))]
def trainBI_step : (List ((ByteArray × List (Int))) × List ((Int × Int × Int × Int))) × List ((Int × Int)) × Int × List (Int) × Int × Int → Option (LRes × ((List ((ByteArray × List (Int))) × List ((Int × Int × Int × Int))) × List ((Int × Int)) × Int × List (Int) × Int × Int)) :=
fun x =>
  br (decide (x.snd.snd.snd.snd.2 < x.snd.snd.snd.snd.1))
    (ob (idx x.snd.snd.snd.1 x.snd.snd.snd.snd.2) fun x_1 =>
      ob (List.get?Internal x.snd.snd.snd.1 (Int.toNat x.snd.snd.snd.snd.2)) fun x_2 =>
        ob (idx x.fst.2 x_2) fun y =>
          ob (pairWI ((x.fst.1, x.fst.2), y.1, y.snd.1, y.snd.snd.1, y.snd.snd.2)) fun y_1 =>
            br (y.1 == x.snd.snd.1)
              (br (decide (List.length x.snd.1 + [(y_1.1, y_1.2)].length ≤ (4294967296 : Nat)))
                (some
                  (LRes.next, (x.fst.1, x.fst.2), x.snd.1 ++ [(y_1.1, y_1.2)], y.snd.snd.1, x.snd.snd.snd.1,
                    x.snd.snd.snd.snd.1, IntKind.i64.wrap (x.snd.snd.snd.snd.2 + (1 : Int))))
                none)
              (br (decide (List.length x.snd.1 + [(y_1.2, y_1.1)].length ≤ (4294967296 : Nat)))
                (some
                  (LRes.next, (x.fst.1, x.fst.2), x.snd.1 ++ [(y_1.2, y_1.1)], y.1, x.snd.snd.snd.1,
                    x.snd.snd.snd.snd.1, IntKind.i64.wrap (x.snd.snd.snd.snd.2 + (1 : Int))))
                none))
    (some
      (LRes.out, (x.fst.1, x.fst.2), x.snd.1, x.snd.snd.1, x.snd.snd.snd.1, x.snd.snd.snd.snd.1, x.snd.snd.snd.snd.2))
def trainBI_fuel : (List ((ByteArray × List (Int))) × List ((Int × Int × Int × Int))) × List ((Int × Int)) × Int × List (Int) × Int × Int → Nat := fun s => (s.2.2.2.2.1 - s.2.2.2.2.2).toNat + 1
def trainBI : (List ((ByteArray × List (Int))) × List ((Int × Int × Int × Int))) × List ((Int × Int)) × Int × List (Int) × Int × Int → Option ((List ((ByteArray × List (Int))) × List ((Int × Int × Int × Int))) × List ((Int × Int)) × Int × List (Int) × Int × Int) := fun s => iterP trainBI_step (trainBI_fuel s) s
def trainBI_L : LoopC := ⟨trainBI_vars, 0, .plain trainBI⟩
noncomputable def trainBI_key : Nat := key (loopAt Try.f29 0)
theorem trainBI_stepok (x : trainBI_vars.den) : stepOf (mkEnv [(75, pairWI_con)] []) Try.f29.ntmps trainBI_vars 0 (loopAt Try.f29 0) x = trainBI_step x := by kernel_rfl
theorem trainBI_ok : LoopOK Try.prog Try.f29.ntmps trainBI_L (loopAt Try.f29 0)   := iterP_loop (n := Try.f29.ntmps) (vs := trainBI_vars) (out := 0) (body := loopAt Try.f29 0) (mkEnv_ok (cons := [(75, pairWI_con)]) ⟨pairWI_ok, trivial⟩ []) trainBI_step trainBI_fuel (by exact trivial) trainBI_stepok

def trainOI : (List ((ByteArray × List (Int))) × List ((Int × Int × Int × Int))) × Int × Int → Option (List ((Int × Int)) × Int) :=
fun x =>
  ob (pathOI ((x.fst.1, x.fst.2), x.snd.1, x.snd.2)) fun y =>
    br (y.2 != (0 : Int)) (some ([], y.2))
      (br (decide ((5 : Int) < (↑(List.length y.1) : Int))) (some ([], (5 : Int)))
        (ob (trainBI ((x.fst.1, x.fst.2), [], x.snd.1, y.1, (↑(List.length y.1) : Int), (0 : Int))) fun r =>
          some (r.snd.1, (0 : Int))))
def trainOI_con : Con := ⟨[.pair (.slice (.pair (.str) (.slice (i64)))) (.slice (.pair (i64) (.pair (i64) (.pair (i64) (i64))))), i64, i64], [.row 107 (.pair (i64) (i64)), .d (i64)], trainOI⟩
theorem trainOI_run (x : Dens [.pair (.slice (.pair (.str) (.slice (i64)))) (.slice (.pair (i64) (.pair (i64) (.pair (i64) (i64))))), i64, i64]) : runFn (mkEnv [(12, pathOI_con)] [(trainBI_key, trainBI_L)]) Try.f29 [.pair (.slice (.pair (.str) (.slice (i64)))) (.slice (.pair (i64) (.pair (i64) (.pair (i64) (i64))))), i64, i64] [.row 107 (.pair (i64) (i64)), .d (i64)] x = trainOI x := by kernel_rfl
theorem trainOI_ok : trainOI_con.ok Try.prog 29 := fn_ok (con := trainOI_con) (mkEnv_ok (cons := [(12, pathOI_con)]) ⟨pathOI_ok, trivial⟩ [(trainBI_key, trainBI_L)]) Try.func29 rfl (by kernel_rfl) (by exact ⟨trainBI_ok, trivial⟩) (fun x y h => (trainOI_run x).trans h)

def trainBS_vars : Vars := [(3, .box 0 33 (.pair (.slice (.pair (.str) (.slice (i64)))) (.slice (.pair (i64) (.pair (i64) (.pair (i64) (i64))))))), (8, .row 0 44 (.pair (i64) (.pair (i64) (.pair (i64) (i64))))), (11, .row 0 107 (.pair (i64) (i64))), (12, .val (i64))]
def trainBS_step : (List ((ByteArray × List (Int))) × List ((Int × Int × Int × Int))) × List ((Int × Int × Int × Int)) × List ((Int × Int)) × Int → Option (LRes × ((List ((ByteArray × List (Int))) × List ((Int × Int × Int × Int))) × List ((Int × Int × Int × Int)) × List ((Int × Int)) × Int)) :=
fun x =>
  br (decide (x.snd.snd.2 < (↑(List.length x.snd.1) : Int)))
    (ob (idx x.snd.1 x.snd.snd.2) fun x_1 =>
      ob (List.get?Internal x.snd.1 (Int.toNat x.snd.snd.2)) fun x_2 =>
        ob (pairWS ((x.fst.1, x.fst.2), x_2.1, x_2.snd.1, x_2.snd.snd.1, x_2.snd.snd.2)) fun y =>
          br (decide (List.length x.snd.snd.1 + [(y.1, y.2)].length ≤ (4294967296 : Nat)))
            (some
              (LRes.next, (x.fst.1, x.fst.2), x.snd.1, x.snd.snd.1 ++ [(y.1, y.2)],
                IntKind.i64.wrap (x.snd.snd.2 + (1 : Int))))
            none)
    (some (LRes.out, (x.fst.1, x.fst.2), x.snd.1, x.snd.snd.1, x.snd.snd.2))
def trainBS_fuel : (List ((ByteArray × List (Int))) × List ((Int × Int × Int × Int))) × List ((Int × Int × Int × Int)) × List ((Int × Int)) × Int → Nat := fun s => (s.2.1.length - s.2.2.2.toNat) + 1
def trainBS : (List ((ByteArray × List (Int))) × List ((Int × Int × Int × Int))) × List ((Int × Int × Int × Int)) × List ((Int × Int)) × Int → Option ((List ((ByteArray × List (Int))) × List ((Int × Int × Int × Int))) × List ((Int × Int × Int × Int)) × List ((Int × Int)) × Int) := fun s => iterP trainBS_step (trainBS_fuel s) s
def trainBS_L : LoopC := ⟨trainBS_vars, 0, .plain trainBS⟩
noncomputable def trainBS_key : Nat := key (loopAt Try.f28 0)
theorem trainBS_stepok (x : trainBS_vars.den) : stepOf (mkEnv [(74, pairWS_con)] []) Try.f28.ntmps trainBS_vars 0 (loopAt Try.f28 0) x = trainBS_step x := by kernel_rfl
theorem trainBS_ok : LoopOK Try.prog Try.f28.ntmps trainBS_L (loopAt Try.f28 0)   := iterP_loop (n := Try.f28.ntmps) (vs := trainBS_vars) (out := 0) (body := loopAt Try.f28 0) (mkEnv_ok (cons := [(74, pairWS_con)]) ⟨pairWS_ok, trivial⟩ []) trainBS_step trainBS_fuel (by exact trivial) trainBS_stepok

def trainOS : (List ((ByteArray × List (Int))) × List ((Int × Int × Int × Int))) × Int × Int → Option (List ((Int × Int)) × Int) :=
fun x =>
  ob (okWS (x.fst.1, x.fst.2)) fun y =>
    br (!y) (some ([], (1 : Int)))
      (ob (pathS ((x.fst.1, x.fst.2), x.snd.1, x.snd.2)) fun y =>
        br (y.snd.2 != (0 : Int)) (some ([], y.snd.2))
          (br (decide ((5 : Int) < (↑(List.length y.1) : Int))) (some ([], (5 : Int)))
            (ob (trainBS ((x.fst.1, x.fst.2), y.1, [], (0 : Int))) fun r => some (r.snd.snd.1, (0 : Int)))))
def trainOS_con : Con := ⟨[.pair (.slice (.pair (.str) (.slice (i64)))) (.slice (.pair (i64) (.pair (i64) (.pair (i64) (i64))))), i64, i64], [.row 107 (.pair (i64) (i64)), .d (i64)], trainOS⟩
theorem trainOS_run (x : Dens [.pair (.slice (.pair (.str) (.slice (i64)))) (.slice (.pair (i64) (.pair (i64) (.pair (i64) (i64))))), i64, i64]) : runFn (mkEnv [(45, okWS_con), (46, pathS_con)] [(trainBS_key, trainBS_L)]) Try.f28 [.pair (.slice (.pair (.str) (.slice (i64)))) (.slice (.pair (i64) (.pair (i64) (.pair (i64) (i64))))), i64, i64] [.row 107 (.pair (i64) (i64)), .d (i64)] x = trainOS x := by kernel_rfl
theorem trainOS_ok : trainOS_con.ok Try.prog 28 := fn_ok (con := trainOS_con) (mkEnv_ok (cons := [(45, okWS_con), (46, pathS_con)]) ⟨okWS_ok, pathS_ok, trivial⟩ [(trainBS_key, trainBS_L)]) Try.func28 rfl (by kernel_rfl) (by exact ⟨trainBS_ok, trivial⟩) (fun x y h => (trainOS_run x).trans h)

def eqPairR : (Int × Int) × (Int × Int) → Option (Bool) :=
fun x => br (x.fst.1 != x.snd.1) (some false) (br (x.fst.2 != x.snd.2) (some false) (some true))
def eqPairR_con : Con := ⟨[.pair (i64) (i64), .pair (i64) (i64)], [.d (.bool)], eqPairR⟩
theorem eqPairR_run (x : Dens [.pair (i64) (i64), .pair (i64) (i64)]) : runFn (mkEnv [] []) Try.f76 [.pair (i64) (i64), .pair (i64) (i64)] [.d (.bool)] x = eqPairR x := by kernel_rfl
theorem eqPairR_ok : eqPairR_con.ok Try.prog 76 := fn_ok (con := eqPairR_con) (mkEnv_ok (cons := []) trivial []) Try.func76 rfl (by kernel_rfl) (by exact trivial) (fun x y h => (eqPairR_run x).trans h)

def eqPairRL_vars : Vars := [(0, .val (.slice (.pair (i64) (i64)))), (1, .val (.slice (.pair (i64) (i64)))), (4, .val (.bool)), (5, .val (i64))]
def eqPairRL_step : List ((Int × Int)) × List ((Int × Int)) × Bool × Int → Option (LRes × (List ((Int × Int)) × List ((Int × Int)) × Bool × Int)) :=
fun x =>
  br (decide (x.snd.snd.2 < (↑x.1.length : Int)))
    (ob (idx x.1 x.snd.snd.2) fun y =>
      ob (idx x.snd.1 x.snd.snd.2) fun y_1 =>
        ob (eqPairR ((y.1, y.2), y_1.1, y_1.2)) fun y =>
          br (!y) (some (LRes.ret, x.1, x.snd.1, false, x.snd.snd.2))
            (some (LRes.next, x.1, x.snd.1, x.snd.snd.1, IntKind.i64.wrap (x.snd.snd.2 + (1 : Int)))))
    (some (LRes.out, x.1, x.snd.1, x.snd.snd.1, x.snd.snd.2))
def eqPairRL_fuel : List ((Int × Int)) × List ((Int × Int)) × Bool × Int → Nat := fun s => (s.1.length - s.2.2.2.toNat) + 1
def eqPairRL : List ((Int × Int)) × List ((Int × Int)) × Bool × Int → Option (Bool × (List ((Int × Int)) × List ((Int × Int)) × Bool × Int)) := fun s => iter eqPairRL_step (eqPairRL_fuel s) s
def eqPairRL_L : LoopC := ⟨eqPairRL_vars, 0, .two eqPairRL⟩
noncomputable def eqPairRL_key : Nat := key (loopAt Try.f30 0)
theorem eqPairRL_stepok (x : eqPairRL_vars.den) : stepOf (mkEnv [(76, eqPairR_con)] []) Try.f30.ntmps eqPairRL_vars 0 (loopAt Try.f30 0) x = eqPairRL_step x := by kernel_rfl
theorem eqPairRL_ok : LoopOK Try.prog Try.f30.ntmps eqPairRL_L (loopAt Try.f30 0)   := iter_loop (n := Try.f30.ntmps) (vs := eqPairRL_vars) (out := 0) (body := loopAt Try.f30 0) (mkEnv_ok (cons := [(76, eqPairR_con)]) ⟨eqPairR_ok, trivial⟩ []) eqPairRL_step eqPairRL_fuel (by exact trivial) eqPairRL_stepok

def eqPairRS : List ((Int × Int)) × List ((Int × Int)) → Option (Bool) :=
fun x =>
  br ((↑x.1.length : Int) != (↑x.2.length : Int)) (some false)
    (ob (eqPairRL (x.1, x.2, false, (0 : Int))) fun r => br r.1 (some true) (some r.snd.snd.snd.1))
def eqPairRS_con : Con := ⟨[.slice (.pair (i64) (i64)), .slice (.pair (i64) (i64))], [.d (.bool)], eqPairRS⟩
theorem eqPairRS_run (x : Dens [.slice (.pair (i64) (i64)), .slice (.pair (i64) (i64))]) : runFn (mkEnv [] [(eqPairRL_key, eqPairRL_L)]) Try.f30 [.slice (.pair (i64) (i64)), .slice (.pair (i64) (i64))] [.d (.bool)] x = eqPairRS x := by kernel_rfl
theorem eqPairRS_ok : eqPairRS_con.ok Try.prog 30 := fn_ok (con := eqPairRS_con) (mkEnv_ok (cons := []) trivial [(eqPairRL_key, eqPairRL_L)]) Try.func30 rfl (by kernel_rfl) (by exact ⟨eqPairRL_ok, trivial⟩) (fun x y h => (eqPairRS_run x).trans h)

def markPairRL_vars : Vars := [(0, .row 2 107 (.pair (i64) (i64))), (1, .val (i64)), (5, .val (i64))]
def markPairRL_step : List ((Int × Int)) × Int × Int → Option (LRes × (List ((Int × Int)) × Int × Int)) :=
fun x =>
  br (decide (x.snd.2 < (↑x.1.length : Int)))
    (ob (idx x.1 x.snd.2) fun x_1 =>
      ob (x.1.get?Internal (Int.toNat x.snd.2)) fun x_2 =>
        ob (idx (x.1.set (Int.toNat x.snd.2) (x.snd.1, x_2.2)) x.snd.2) fun x_3 =>
          ob ((x.1.set (Int.toNat x.snd.2) (x.snd.1, x_2.2)).get?Internal (Int.toNat x.snd.2)) fun x_4 =>
            some
              (LRes.next,
                (x.1.set (Int.toNat x.snd.2) (x.snd.1, x_2.2)).set (Int.toNat x.snd.2)
                  (x_4.1, IntKind.i64.wrap (x.snd.1 + (1 : Int))),
                IntKind.i64.wrap (IntKind.i64.wrap (x.snd.1 + (1 : Int)) + (1 : Int)),
                IntKind.i64.wrap (x.snd.2 + (1 : Int))))
    (some (LRes.out, x.1, x.snd.1, x.snd.2))
def markPairRL_fuel : List ((Int × Int)) × Int × Int → Nat := fun s => (s.1.length - s.2.2.toNat) + 1
def markPairRL : List ((Int × Int)) × Int × Int → Option (List ((Int × Int)) × Int × Int) := fun s => iterP markPairRL_step (markPairRL_fuel s) s
def markPairRL_L : LoopC := ⟨markPairRL_vars, 0, .plain markPairRL⟩
noncomputable def markPairRL_key : Nat := key (loopAt Try.f31 0)
theorem markPairRL_stepok (x : markPairRL_vars.den) : stepOf (mkEnv [] []) Try.f31.ntmps markPairRL_vars 0 (loopAt Try.f31 0) x = markPairRL_step x := by kernel_rfl
theorem markPairRL_ok : LoopOK Try.prog Try.f31.ntmps markPairRL_L (loopAt Try.f31 0)   := iterP_loop (n := Try.f31.ntmps) (vs := markPairRL_vars) (out := 0) (body := loopAt Try.f31 0) (mkEnv_ok (cons := []) trivial []) markPairRL_step markPairRL_fuel (by exact trivial) markPairRL_stepok

def markPairR : List ((Int × Int)) × Int → Option ((Int) × (List ((Int × Int)) × Int)) :=
fun x => ob (markPairRL (x.1, x.2, (0 : Int))) fun r => some (r.snd.1, r.1, x.2)
def markPairR_con : MCon := ⟨[.v (.row 107 (.pair (i64) (i64))), .v (.d (i64))], [.d (i64)], markPairR⟩
theorem markPairR_run (x : ADens [.v (.row 107 (.pair (i64) (i64))), .v (.d (i64))]) : runFnM (mkEnv [] [(markPairRL_key, markPairRL_L)]) Try.f31 [.v (.row 107 (.pair (i64) (i64))), .v (.d (i64))] [.d (i64)] x = markPairR x := by kernel_rfl
theorem markPairR_ok : markPairR_con.ok Try.prog 31 := fnM_ok (con := markPairR_con) (mkEnv_ok (cons := []) trivial [(markPairRL_key, markPairRL_L)]) Try.func31 rfl (by kernel_rfl) (by exact ⟨markPairRL_ok, trivial⟩) (fun x y h => (markPairR_run x).trans h)

def heldPairRL_vars : Vars := [(0, .val (.slice (.pair (i64) (i64)))), (1, .val (i64)), (4, .val (i64)), (5, .val (i64))]
def heldPairRL_step : List ((Int × Int)) × Int × Int × Int → Option (LRes × (List ((Int × Int)) × Int × Int × Int)) :=
fun x =>
  br (decide (x.snd.snd.2 < (↑x.1.length : Int)))
    (ob (idx x.1 x.snd.snd.2) fun y =>
      br (y.1 != x.snd.1) (some (LRes.ret, x.1, x.snd.1, (-1 : Int), x.snd.snd.2))
        (ob (idx x.1 x.snd.snd.2) fun y =>
          br (y.2 != IntKind.i64.wrap (x.snd.1 + (1 : Int)))
            (some (LRes.ret, x.1, IntKind.i64.wrap (x.snd.1 + (1 : Int)), (-1 : Int), x.snd.snd.2))
            (some
              (LRes.next, x.1, IntKind.i64.wrap (IntKind.i64.wrap (x.snd.1 + (1 : Int)) + (1 : Int)), x.snd.snd.1,
                IntKind.i64.wrap (x.snd.snd.2 + (1 : Int))))))
    (some (LRes.out, x.1, x.snd.1, x.snd.snd.1, x.snd.snd.2))
def heldPairRL_fuel : List ((Int × Int)) × Int × Int × Int → Nat := fun s => (s.1.length - s.2.2.2.toNat) + 1
def heldPairRL : List ((Int × Int)) × Int × Int × Int → Option (Bool × (List ((Int × Int)) × Int × Int × Int)) := fun s => iter heldPairRL_step (heldPairRL_fuel s) s
def heldPairRL_L : LoopC := ⟨heldPairRL_vars, 0, .two heldPairRL⟩
noncomputable def heldPairRL_key : Nat := key (loopAt Try.f32 0)
theorem heldPairRL_stepok (x : heldPairRL_vars.den) : stepOf (mkEnv [] []) Try.f32.ntmps heldPairRL_vars 0 (loopAt Try.f32 0) x = heldPairRL_step x := by kernel_rfl
theorem heldPairRL_ok : LoopOK Try.prog Try.f32.ntmps heldPairRL_L (loopAt Try.f32 0)   := iter_loop (n := Try.f32.ntmps) (vs := heldPairRL_vars) (out := 0) (body := loopAt Try.f32 0) (mkEnv_ok (cons := []) trivial []) heldPairRL_step heldPairRL_fuel (by exact trivial) heldPairRL_stepok

def heldPairR : List ((Int × Int)) × Int → Option (Int) :=
fun x => ob (heldPairRL (x.1, x.2, (0 : Int), (0 : Int))) fun r => br r.1 (some r.snd.snd.1) (some r.snd.snd.snd.1)
def heldPairR_con : Con := ⟨[.slice (.pair (i64) (i64)), i64], [.d (i64)], heldPairR⟩
theorem heldPairR_run (x : Dens [.slice (.pair (i64) (i64)), i64]) : runFn (mkEnv [] [(heldPairRL_key, heldPairRL_L)]) Try.f32 [.slice (.pair (i64) (i64)), i64] [.d (i64)] x = heldPairR x := by kernel_rfl
theorem heldPairR_ok : heldPairR_con.ok Try.prog 32 := fn_ok (con := heldPairR_con) (mkEnv_ok (cons := []) trivial [(heldPairRL_key, heldPairRL_L)]) Try.func32 rfl (by kernel_rfl) (by exact ⟨heldPairRL_ok, trivial⟩) (fun x y h => (heldPairR_run x).trans h)

def lawRoute : (List ((ByteArray × List (Int))) × List ((Int × Int × Int × Int))) × Int × Int → Option (Bool) :=
fun x =>
  ob (szWorksL ((x.fst.1, x.fst.2), (1048576 : Int))) fun y =>
    br (decide (y < (0 : Int))) (some true)
      (ob (toWorksD (x.fst.1, x.fst.2)) fun y =>
        ob (trainOS ((y.1, y.2), x.snd.1, x.snd.2)) fun y =>
          ob (toWorksD (x.fst.1, x.fst.2)) fun y_1 =>
            ob (trainOI ((y_1.1, y_1.2), x.snd.1, x.snd.2)) fun y_2 =>
              ob (eqPairRS (y_2.1, y.1)) fun y_3 =>
                br (!y_3) (some false)
                  (br (y_2.2 != y.2) (some false)
                    (ob (toWorksD (x.fst.1, x.fst.2)) fun y_4 =>
                      ob (eqWorksL ((y_1.1, y_1.2), y_4.1, y_4.2)) fun y_5 =>
                        br (!y_5) (some false)
                          (ob (markWorksD ((y_1.1, y_1.2), (1 : Int))) fun y_6 =>
                            br (decide (y_6.1 < (0 : Int))) (some false)
                              (ob (eqPairRS (y_2.1, y.1)) fun y_7 =>
                                br (!y_7) (some false)
                                  (br (y_2.2 != y.2) (some false)
                                    (ob (markPairR (y_2.1, (1 : Int))) fun y_8 =>
                                      ob (heldPairR (y_8.snd.1, (1 : Int))) fun y_9 =>
                                        br (decide (y_9 < (0 : Int))) (some false)
                                          (br (y_9 != y_8.1) (some false)
                                            (ob (toWorksD (x.fst.1, x.fst.2)) fun y_10 =>
                                              ob (trainOI ((y_10.1, y_10.2), x.snd.1, x.snd.2)) fun y_11 =>
                                                ob (eqPairRS (y_11.1, y.1)) fun y_12 =>
                                                  br (!y_12) (some false)
                                                    (br (y_11.2 != y.2) (some false)
                                                      (ob (heldPairR (y_8.snd.1, (1 : Int))) fun y =>
                                                        br (decide (y < (0 : Int))) (some false)
                                                          (br (y != y_8.1) (some false) (some true)))))))))))))
def lawRoute_con : Con := ⟨[.pair (.slice (.pair (.str) (.slice (i64)))) (.slice (.pair (i64) (.pair (i64) (.pair (i64) (i64))))), i64, i64], [.d (.bool)], lawRoute⟩
theorem lawRoute_run (x : Dens [.pair (.slice (.pair (.str) (.slice (i64)))) (.slice (.pair (i64) (.pair (i64) (.pair (i64) (i64))))), i64, i64]) : runFn (mkEnvM [(9, szWorksL_con), (11, toWorksD_con), (28, trainOS_con), (29, trainOI_con), (30, eqPairRS_con), (14, eqWorksL_con), (32, heldPairR_con)] [(15, markWorksD_con), (31, markPairR_con)] []) Try.f6 [.pair (.slice (.pair (.str) (.slice (i64)))) (.slice (.pair (i64) (.pair (i64) (.pair (i64) (i64))))), i64, i64] [.d (.bool)] x = lawRoute x := by kernel_rfl
theorem lawRoute_ok : lawRoute_con.ok Try.prog 6 := fn_ok (con := lawRoute_con) (mkEnvM_ok (cons := [(9, szWorksL_con), (11, toWorksD_con), (28, trainOS_con), (29, trainOI_con), (30, eqPairRS_con), (14, eqWorksL_con), (32, heldPairR_con)]) (mcons := [(15, markWorksD_con), (31, markPairR_con)]) ⟨szWorksL_ok, toWorksD_ok, trainOS_ok, trainOI_ok, eqPairRS_ok, eqWorksL_ok, heldPairR_ok, trivial⟩ ⟨markWorksD_ok, markPairR_ok, trivial⟩ []) Try.func6 rfl (by kernel_rfl) (by exact trivial) (fun x y h => (lawRoute_run x).trans h)

end
end Rx
end Go.Proofs.Ythehdbedojcpdaa
