/- What the functions of RxHull come to, and their contracts. No conditions. -/
import Derived.Test.YtckbhfbcblehmaaRxEnv
import Derived.Test.YtckbhfbcblehmaaRxClear
import Derived.Test.YtckbhfbcblehmaaRxTurn
import Derived.Test.YtckbhfbcblehmaaRxDraw
import Derived.Test.YtckbhfbcblehmaaRxFnPlates
namespace Go.Proofs.Ytckbhfbcblehmaa
namespace Rx
open Go

noncomputable section
def turnOfI : (Int × Int) × (Int × Int) × (Int × Int) → Option (Int) :=
fun x =>
  some
    (IntKind.i64.wrap
      (IntKind.i64.wrap (IntKind.i64.wrap (x.snd.fst.1 - x.fst.1) * IntKind.i64.wrap (x.snd.snd.2 - x.fst.2)) -
        IntKind.i64.wrap (IntKind.i64.wrap (x.snd.fst.2 - x.fst.2) * IntKind.i64.wrap (x.snd.snd.1 - x.fst.1))))
def turnOfI_con : Con := ⟨[.pair (i64) (i64), .pair (i64) (i64), .pair (i64) (i64)], [.d (i64)], turnOfI⟩
theorem turnOfI_run (x : Dens [.pair (i64) (i64), .pair (i64) (i64), .pair (i64) (i64)]) : runFn (mkEnv [] []) Try.f74 [.pair (i64) (i64), .pair (i64) (i64), .pair (i64) (i64)] [.d (i64)] x = turnOfI x := by kernel_rfl
theorem turnOfI_ok : turnOfI_con.ok Try.prog 74 := fn_ok (con := turnOfI_con) (mkEnv_ok (cons := []) trivial []) Try.func74 rfl (by kernel_rfl) (by exact trivial) (fun x y h => (turnOfI_run x).trans h)

def startIL_vars : Vars := [(0, .val (.slice (.pair (.str) (.pair (.pair (i64) (i64)) (.pair (i64) (i64)))))), (3, .val (i64)), (18, .val (.slice (.pair (.str) (.pair (.pair (i64) (i64)) (.pair (i64) (i64)))))), (19, .val (i64)), (20, .val (i64))]
def startIL_step : List ((ByteArray × (Int × Int) × Int × Int)) × Int × List ((ByteArray × (Int × Int) × Int × Int)) × Int × Int → Option (LRes × (List ((ByteArray × (Int × Int) × Int × Int)) × Int × List ((ByteArray × (Int × Int) × Int × Int)) × Int × Int)) :=
fun x =>
  br (decide (x.snd.snd.snd.2 < x.snd.snd.snd.1))
    (ob (idx x.snd.snd.1 x.snd.snd.snd.2) fun y =>
      ob (idx x.1 x.snd.1) fun y_1 =>
        br (decide (y.snd.fst.2 < y_1.snd.fst.2))
          (some
            (LRes.next, x.1, x.snd.snd.snd.2, x.snd.snd.1, x.snd.snd.snd.1,
              IntKind.i64.wrap (x.snd.snd.snd.2 + (1 : Int))))
          (br (y.snd.fst.2 == y_1.snd.fst.2)
            (br (decide (y.snd.fst.1 < y_1.snd.fst.1))
              (some
                (LRes.next, x.1, x.snd.snd.snd.2, x.snd.snd.1, x.snd.snd.snd.1,
                  IntKind.i64.wrap (x.snd.snd.snd.2 + (1 : Int))))
              (some
                (LRes.next, x.1, x.snd.1, x.snd.snd.1, x.snd.snd.snd.1,
                  IntKind.i64.wrap (x.snd.snd.snd.2 + (1 : Int)))))
            (some
              (LRes.next, x.1, x.snd.1, x.snd.snd.1, x.snd.snd.snd.1, IntKind.i64.wrap (x.snd.snd.snd.2 + (1 : Int))))))
    (some (LRes.out, x.1, x.snd.1, x.snd.snd.1, x.snd.snd.snd.1, x.snd.snd.snd.2))
def startIL_fuel : List ((ByteArray × (Int × Int) × Int × Int)) × Int × List ((ByteArray × (Int × Int) × Int × Int)) × Int × Int → Nat := fun s => (s.2.2.2.1 - s.2.2.2.2).toNat + 1
def startIL : List ((ByteArray × (Int × Int) × Int × Int)) × Int × List ((ByteArray × (Int × Int) × Int × Int)) × Int × Int → Option (List ((ByteArray × (Int × Int) × Int × Int)) × Int × List ((ByteArray × (Int × Int) × Int × Int)) × Int × Int) := fun s => iterP startIL_step (startIL_fuel s) s
def startIL_L : LoopC := ⟨startIL_vars, 0, .plain startIL⟩
noncomputable def startIL_key : Nat := key (loopAt Try.f44 0)
theorem startIL_stepok (x : startIL_vars.den) : stepOf (mkEnv [] []) Try.f44.ntmps startIL_vars 0 (loopAt Try.f44 0) x = startIL_step x := by kernel_rfl
theorem startIL_ok : LoopOK Try.prog Try.f44.ntmps startIL_L (loopAt Try.f44 0)   := iterP_loop (n := Try.f44.ntmps) (vs := startIL_vars) (out := 0) (body := loopAt Try.f44 0) (mkEnv_ok (cons := []) trivial []) startIL_step startIL_fuel (by exact trivial) startIL_stepok

def nextIL_vars : Vars := [(0, .val (.slice (.pair (.str) (.pair (.pair (i64) (i64)) (.pair (i64) (i64)))))), (3, .val (i64)), (7, .row 0 2 (i64)), (8, .val (i64)), (9, .box 0 37 (.pair (i64) (i64))), (10, .val (i64)), (67, .val (.slice (.pair (.str) (.pair (.pair (i64) (i64)) (.pair (i64) (i64)))))), (68, .val (i64)), (69, .val (i64))]
def nextIL_step : List ((ByteArray × (Int × Int) × Int × Int)) × Int × List (Int) × Int × (Int × Int) × Int × List ((ByteArray × (Int × Int) × Int × Int)) × Int × Int → Option (LRes × (List ((ByteArray × (Int × Int) × Int × Int)) × Int × List (Int) × Int × (Int × Int) × Int × List ((ByteArray × (Int × Int) × Int × Int)) × Int × Int)) :=
fun x =>
  br (decide (x.snd.snd.snd.snd.snd.snd.snd.2 < x.snd.snd.snd.snd.snd.snd.snd.1))
    (ob (idx x.snd.snd.snd.snd.snd.snd.1 x.snd.snd.snd.snd.snd.snd.snd.2) fun y =>
      ob (idx x.1 x.snd.snd.snd.snd.snd.1) fun y_1 =>
        ob
          (turnOfI
            ((x.snd.snd.snd.snd.fst.1, x.snd.snd.snd.snd.fst.2), (y_1.snd.fst.1, y_1.snd.fst.2), y.snd.fst.1,
              y.snd.fst.2))
          fun y_2 =>
          br (!(y.snd.fst.1 == x.snd.snd.snd.snd.fst.1 && y.snd.fst.2 == x.snd.snd.snd.snd.fst.2))
            (br (y_1.snd.fst.1 == x.snd.snd.snd.snd.fst.1 && y_1.snd.fst.2 == x.snd.snd.snd.snd.fst.2)
              (some
                (LRes.next, x.1, x.snd.1, x.snd.snd.1, x.snd.snd.snd.1,
                  (x.snd.snd.snd.snd.fst.1, x.snd.snd.snd.snd.fst.2), x.snd.snd.snd.snd.snd.snd.snd.2,
                  x.snd.snd.snd.snd.snd.snd.1, x.snd.snd.snd.snd.snd.snd.snd.1,
                  IntKind.i64.wrap (x.snd.snd.snd.snd.snd.snd.snd.2 + (1 : Int))))
              (br (decide (y_2 < (0 : Int)))
                (some
                  (LRes.next, x.1, x.snd.1, x.snd.snd.1, x.snd.snd.snd.1,
                    (x.snd.snd.snd.snd.fst.1, x.snd.snd.snd.snd.fst.2), x.snd.snd.snd.snd.snd.snd.snd.2,
                    x.snd.snd.snd.snd.snd.snd.1, x.snd.snd.snd.snd.snd.snd.snd.1,
                    IntKind.i64.wrap (x.snd.snd.snd.snd.snd.snd.snd.2 + (1 : Int))))
                (br (y_2 == (0 : Int))
                  (ob (sqI ((x.snd.snd.snd.snd.fst.1, x.snd.snd.snd.snd.fst.2), y.snd.fst.1, y.snd.fst.2)) fun y =>
                    ob (sqI ((x.snd.snd.snd.snd.fst.1, x.snd.snd.snd.snd.fst.2), y_1.snd.fst.1, y_1.snd.fst.2))
                      fun y_3 =>
                      br (decide (y_3 < y))
                        (some
                          (LRes.next, x.1, x.snd.1, x.snd.snd.1, x.snd.snd.snd.1,
                            (x.snd.snd.snd.snd.fst.1, x.snd.snd.snd.snd.fst.2), x.snd.snd.snd.snd.snd.snd.snd.2,
                            x.snd.snd.snd.snd.snd.snd.1, x.snd.snd.snd.snd.snd.snd.snd.1,
                            IntKind.i64.wrap (x.snd.snd.snd.snd.snd.snd.snd.2 + (1 : Int))))
                        (some
                          (LRes.next, x.1, x.snd.1, x.snd.snd.1, x.snd.snd.snd.1,
                            (x.snd.snd.snd.snd.fst.1, x.snd.snd.snd.snd.fst.2), x.snd.snd.snd.snd.snd.1,
                            x.snd.snd.snd.snd.snd.snd.1, x.snd.snd.snd.snd.snd.snd.snd.1,
                            IntKind.i64.wrap (x.snd.snd.snd.snd.snd.snd.snd.2 + (1 : Int)))))
                  (some
                    (LRes.next, x.1, x.snd.1, x.snd.snd.1, x.snd.snd.snd.1,
                      (x.snd.snd.snd.snd.fst.1, x.snd.snd.snd.snd.fst.2), x.snd.snd.snd.snd.snd.1,
                      x.snd.snd.snd.snd.snd.snd.1, x.snd.snd.snd.snd.snd.snd.snd.1,
                      IntKind.i64.wrap (x.snd.snd.snd.snd.snd.snd.snd.2 + (1 : Int)))))))
            (some
              (LRes.next, x.1, x.snd.1, x.snd.snd.1, x.snd.snd.snd.1,
                (x.snd.snd.snd.snd.fst.1, x.snd.snd.snd.snd.fst.2), x.snd.snd.snd.snd.snd.1,
                x.snd.snd.snd.snd.snd.snd.1, x.snd.snd.snd.snd.snd.snd.snd.1,
                IntKind.i64.wrap (x.snd.snd.snd.snd.snd.snd.snd.2 + (1 : Int)))))
    (some
      (LRes.out, x.1, x.snd.1, x.snd.snd.1, x.snd.snd.snd.1, (x.snd.snd.snd.snd.fst.1, x.snd.snd.snd.snd.fst.2),
        x.snd.snd.snd.snd.snd.1, x.snd.snd.snd.snd.snd.snd.1, x.snd.snd.snd.snd.snd.snd.snd.1,
        x.snd.snd.snd.snd.snd.snd.snd.2))
def nextIL_fuel : List ((ByteArray × (Int × Int) × Int × Int)) × Int × List (Int) × Int × (Int × Int) × Int × List ((ByteArray × (Int × Int) × Int × Int)) × Int × Int → Nat := fun s => (s.2.2.2.2.2.2.2.1 - s.2.2.2.2.2.2.2.2).toNat + 1
def nextIL : List ((ByteArray × (Int × Int) × Int × Int)) × Int × List (Int) × Int × (Int × Int) × Int × List ((ByteArray × (Int × Int) × Int × Int)) × Int × Int → Option (List ((ByteArray × (Int × Int) × Int × Int)) × Int × List (Int) × Int × (Int × Int) × Int × List ((ByteArray × (Int × Int) × Int × Int)) × Int × Int) := fun s => iterP nextIL_step (nextIL_fuel s) s
def nextIL_L : LoopC := ⟨nextIL_vars, 4, .plain nextIL⟩
noncomputable def nextIL_key : Nat := key (loopIn (loopAt Try.f44 1) 0)
theorem nextIL_stepok (x : nextIL_vars.den) : stepOf (mkEnv [(74, turnOfI_con), (62, sqI_con)] []) Try.f44.ntmps nextIL_vars 4 (loopIn (loopAt Try.f44 1) 0) x = nextIL_step x := by kernel_rfl
theorem nextIL_ok : LoopOK Try.prog Try.f44.ntmps nextIL_L (loopIn (loopAt Try.f44 1) 0)   := iterP_loop (n := Try.f44.ntmps) (vs := nextIL_vars) (out := 4) (body := loopIn (loopAt Try.f44 1) 0) (mkEnv_ok (cons := [(74, turnOfI_con), (62, sqI_con)]) ⟨turnOfI_ok, sqI_ok, trivial⟩ []) nextIL_step nextIL_fuel (by exact trivial) nextIL_stepok

def hullIL_vars : Vars := [(0, .val (.slice (.pair (.str) (.pair (.pair (i64) (i64)) (.pair (i64) (i64)))))), (3, .val (i64)), (7, .row 0 2 (i64)), (8, .val (i64))]
def hullIL_rv : Vars := [(2, .row 0 2 (i64))]
def hullIL_step : List ((ByteArray × (Int × Int) × Int × Int)) × Int × List (Int) × Int → Option (LS (List ((ByteArray × (Int × Int) × Int × Int)) × Int × List (Int) × Int) (List (Int))) :=
fun x =>
  br (decide (List.length x.snd.snd.1 + [x.snd.snd.2].length ≤ (4294967296 : Nat)))
    (ob (idx x.1 x.snd.snd.2) fun y =>
      ob
        (nextIL
          (x.1, x.snd.1, x.snd.snd.1 ++ [x.snd.snd.2], x.snd.snd.2, (y.snd.fst.1, y.snd.fst.2), x.snd.1, x.1,
            (↑x.1.length : Int), (0 : Int)))
        fun r =>
        ob (idx r.1 r.snd.snd.snd.snd.snd.1) fun y =>
          ob (idx r.1 r.snd.1) fun y_1 =>
            br (y.snd.fst.1 == y_1.snd.fst.1 && y.snd.fst.2 == y_1.snd.fst.2) (some (LS.ret r.snd.snd.1))
              (some (LS.next (r.1, r.snd.1, r.snd.snd.1, r.snd.snd.snd.snd.snd.1))))
    none
def hullIL_fuel : List ((ByteArray × (Int × Int) × Int × Int)) × Int × List (Int) × Int → Nat := fun s => s.1.length + 1
def hullIL : List ((ByteArray × (Int × Int) × Int × Int)) × Int × List (Int) × Int → Option (Sum (List ((ByteArray × (Int × Int) × Int × Int)) × Int × List (Int) × Int) (List (Int))) := fun s => iterA hullIL_step (hullIL_fuel s) s
def hullIL_L : LoopC := ⟨hullIL_vars, 2, .alt hullIL_rv hullIL⟩
noncomputable def hullIL_key : Nat := key (loopAt Try.f44 1)
theorem hullIL_stepok (x : hullIL_vars.den) : stepOfA (mkEnv [] [(nextIL_key, nextIL_L)]) Try.f44.ntmps hullIL_vars hullIL_rv 2 (loopAt Try.f44 1) x = hullIL_step x := by kernel_rfl
theorem hullIL_ok : LoopOK Try.prog Try.f44.ntmps hullIL_L (loopAt Try.f44 1)   := iterA_loop (n := Try.f44.ntmps) (vs := hullIL_vars) (rv := hullIL_rv) (out := 2) (body := loopAt Try.f44 1) (mkEnv_ok (cons := []) trivial [(nextIL_key, nextIL_L)]) hullIL_step hullIL_fuel (by exact ⟨nextIL_ok, trivial⟩) hullIL_stepok

def hullI : List ((ByteArray × (Int × Int) × Int × Int)) → Option (List (Int)) :=
fun x =>
  br ((↑x.length : Int) == (0 : Int)) (some [])
    (ob (startIL (x, (0 : Int), x, (↑x.length : Int), (0 : Int))) fun r =>
      ob (hullIL (r.1, r.snd.1, [], r.snd.1)) fun r => el r (fun r => none) fun r => some r)
def hullI_con : Con := ⟨[.slice (.pair (.str) (.pair (.pair (i64) (i64)) (.pair (i64) (i64))))], [.d (.slice (i64))], hullI⟩
theorem hullI_run (x : Dens [.slice (.pair (.str) (.pair (.pair (i64) (i64)) (.pair (i64) (i64))))]) : runFn (mkEnv [] [(startIL_key, startIL_L), (hullIL_key, hullIL_L)]) Try.f44 [.slice (.pair (.str) (.pair (.pair (i64) (i64)) (.pair (i64) (i64))))] [.d (.slice (i64))] x = hullI x := by kernel_rfl
theorem hullI_ok : hullI_con.ok Try.prog 44 := fn_ok (con := hullI_con) (mkEnv_ok (cons := []) trivial [(startIL_key, startIL_L), (hullIL_key, hullIL_L)]) Try.func44 rfl (by kernel_rfl) (by exact ⟨startIL_ok, hullIL_ok, trivial⟩) (fun x y h => (hullI_run x).trans h)

def hullOfI : (Int × Int × Int × Int × List ((ByteArray × (Int × Int) × Int × Int))) → Option (List (Int) × Int) :=
fun x =>
  ob (validPlateI (x.1, x.snd.1, x.snd.snd.1, x.snd.snd.snd.1, x.snd.snd.snd.2)) fun y =>
    br (!y) (some ([], (1 : Int))) (ob (hullI x.snd.snd.snd.2) fun y => some (y, (0 : Int)))
def hullOfI_con : Con := ⟨[.pair (i64) (.pair (i64) (.pair (i64) (.pair (i64) (.slice (.pair (.str) (.pair (.pair (i64) (i64)) (.pair (i64) (i64))))))))], [.d (.slice (i64)), .d (i64)], hullOfI⟩
theorem hullOfI_run (x : Dens [.pair (i64) (.pair (i64) (.pair (i64) (.pair (i64) (.slice (.pair (.str) (.pair (.pair (i64) (i64)) (.pair (i64) (i64))))))))]) : runFn (mkEnv [(24, validPlateI_con), (44, hullI_con)] []) Try.f36 [.pair (i64) (.pair (i64) (.pair (i64) (.pair (i64) (.slice (.pair (.str) (.pair (.pair (i64) (i64)) (.pair (i64) (i64))))))))] [.d (.slice (i64)), .d (i64)] x = hullOfI x := by kernel_rfl
theorem hullOfI_ok : hullOfI_con.ok Try.prog 36 := fn_ok (con := hullOfI_con) (mkEnv_ok (cons := [(24, validPlateI_con), (44, hullI_con)]) ⟨validPlateI_ok, hullI_ok, trivial⟩ []) Try.func36 rfl (by kernel_rfl) (by exact trivial) (fun x y h => (hullOfI_run x).trans h)

def areaIL_vars : Vars := [(1, .box 0 30 (.pair (i64) (.pair (i64) (.pair (i64) (.pair (i64) (.slice (.pair (.str) (.pair (.pair (i64) (i64)) (.pair (i64) (i64)))))))))), (4, .val (.slice (i64))), (5, .val (i64)), (16, .val (.slice (i64))), (17, .val (i64)), (18, .val (i64))]
def areaIL_step : (Int × Int × Int × Int × List ((ByteArray × (Int × Int) × Int × Int))) × List (Int) × Int × List (Int) × Int × Int → Option (LRes × ((Int × Int × Int × Int × List ((ByteArray × (Int × Int) × Int × Int))) × List (Int) × Int × List (Int) × Int × Int)) :=
fun x =>
  br (decide (x.snd.snd.snd.snd.2 < x.snd.snd.snd.snd.1))
    (ob (idx x.snd.snd.snd.1 x.snd.snd.snd.snd.2) fun y =>
      ob (idx x.fst.snd.snd.snd.2 y) fun y =>
        br ((↑(List.length x.snd.1) : Int) == (0 : Int)) none
          (ob (idx x.snd.1 ((IntKind.i64.wrap (x.snd.snd.snd.snd.2 + (1 : Int))).tmod (↑(List.length x.snd.1) : Int)))
            fun y_1 =>
            ob (idx x.fst.snd.snd.snd.2 y_1) fun y_2 =>
              some
                (LRes.next, (x.fst.1, x.fst.snd.1, x.fst.snd.snd.1, x.fst.snd.snd.snd.1, x.fst.snd.snd.snd.2), x.snd.1,
                  IntKind.i64.wrap
                    (x.snd.snd.1 +
                      IntKind.i64.wrap
                        (IntKind.i64.wrap (y.snd.fst.1 * y_2.snd.fst.2) -
                          IntKind.i64.wrap (y.snd.fst.2 * y_2.snd.fst.1))),
                  x.snd.snd.snd.1, x.snd.snd.snd.snd.1, IntKind.i64.wrap (x.snd.snd.snd.snd.2 + (1 : Int)))))
    (some
      (LRes.out, (x.fst.1, x.fst.snd.1, x.fst.snd.snd.1, x.fst.snd.snd.snd.1, x.fst.snd.snd.snd.2), x.snd.1,
        x.snd.snd.1, x.snd.snd.snd.1, x.snd.snd.snd.snd.1, x.snd.snd.snd.snd.2))
def areaIL_fuel : (Int × Int × Int × Int × List ((ByteArray × (Int × Int) × Int × Int))) × List (Int) × Int × List (Int) × Int × Int → Nat := fun s => (s.2.2.2.2.1 - s.2.2.2.2.2).toNat + 1
def areaIL : (Int × Int × Int × Int × List ((ByteArray × (Int × Int) × Int × Int))) × List (Int) × Int × List (Int) × Int × Int → Option ((Int × Int × Int × Int × List ((ByteArray × (Int × Int) × Int × Int))) × List (Int) × Int × List (Int) × Int × Int) := fun s => iterP areaIL_step (areaIL_fuel s) s
def areaIL_L : LoopC := ⟨areaIL_vars, 0, .plain areaIL⟩
noncomputable def areaIL_key : Nat := key (loopAt Try.f11 0)
theorem areaIL_stepok (x : areaIL_vars.den) : stepOf (mkEnv [] []) Try.f11.ntmps areaIL_vars 0 (loopAt Try.f11 0) x = areaIL_step x := by kernel_rfl
theorem areaIL_ok : LoopOK Try.prog Try.f11.ntmps areaIL_L (loopAt Try.f11 0)   := iterP_loop (n := Try.f11.ntmps) (vs := areaIL_vars) (out := 0) (body := loopAt Try.f11 0) (mkEnv_ok (cons := []) trivial []) areaIL_step areaIL_fuel (by exact trivial) areaIL_stepok

def areaI : (Int × Int × Int × Int × List ((ByteArray × (Int × Int) × Int × Int))) → Option (Int × Int) :=
fun x =>
  ob (validPlateI (x.1, x.snd.1, x.snd.snd.1, x.snd.snd.snd.1, x.snd.snd.snd.2)) fun y =>
    br (!y) (some ((0 : Int), (1 : Int)))
      (ob (hullI x.snd.snd.snd.2) fun y =>
        ob
          (areaIL
            ((x.1, x.snd.1, x.snd.snd.1, x.snd.snd.snd.1, x.snd.snd.snd.2), y, (0 : Int), y, (↑(List.length y) : Int),
              (0 : Int)))
          fun r => some (r.snd.snd.1, (0 : Int)))
def areaI_con : Con := ⟨[.pair (i64) (.pair (i64) (.pair (i64) (.pair (i64) (.slice (.pair (.str) (.pair (.pair (i64) (i64)) (.pair (i64) (i64))))))))], [.d (i64), .d (i64)], areaI⟩
theorem areaI_run (x : Dens [.pair (i64) (.pair (i64) (.pair (i64) (.pair (i64) (.slice (.pair (.str) (.pair (.pair (i64) (i64)) (.pair (i64) (i64))))))))]) : runFn (mkEnv [(24, validPlateI_con), (44, hullI_con)] [(areaIL_key, areaIL_L)]) Try.f11 [.pair (i64) (.pair (i64) (.pair (i64) (.pair (i64) (.slice (.pair (.str) (.pair (.pair (i64) (i64)) (.pair (i64) (i64))))))))] [.d (i64), .d (i64)] x = areaI x := by kernel_rfl
theorem areaI_ok : areaI_con.ok Try.prog 11 := fn_ok (con := areaI_con) (mkEnv_ok (cons := [(24, validPlateI_con), (44, hullI_con)]) ⟨validPlateI_ok, hullI_ok, trivial⟩ [(areaIL_key, areaIL_L)]) Try.func11 rfl (by kernel_rfl) (by exact ⟨areaIL_ok, trivial⟩) (fun x y h => (areaI_run x).trans h)

def crossS : (Int × Int) × (Int × Int) × (Int × Int) → Option (Int) :=
fun x =>
  some
    (IntKind.i64.wrap
      (IntKind.i64.wrap (IntKind.i64.wrap (x.snd.fst.1 - x.fst.1) * IntKind.i64.wrap (x.snd.snd.2 - x.fst.2)) -
        IntKind.i64.wrap (IntKind.i64.wrap (x.snd.fst.2 - x.fst.2) * IntKind.i64.wrap (x.snd.snd.1 - x.fst.1))))
def crossS_con : Con := ⟨[.pair (i64) (i64), .pair (i64) (i64), .pair (i64) (i64)], [.d (i64)], crossS⟩
theorem crossS_run (x : Dens [.pair (i64) (i64), .pair (i64) (i64), .pair (i64) (i64)]) : runFn (mkEnv [] []) Try.f42 [.pair (i64) (i64), .pair (i64) (i64), .pair (i64) (i64)] [.d (i64)] x = crossS x := by kernel_rfl
theorem crossS_ok : crossS_con.ok Try.prog 42 := fn_ok (con := crossS_con) (mkEnv_ok (cons := []) trivial []) Try.func42 rfl (by kernel_rfl) (by exact trivial) (fun x y h => (crossS_run x).trans h)

def pointsSL_vars : Vars := [(1, .box 0 30 (.pair (i64) (.pair (i64) (.pair (i64) (.pair (i64) (.slice (.pair (.str) (.pair (.pair (i64) (i64)) (.pair (i64) (i64)))))))))), (3, .row 0 37 (.pair (i64) (i64))), (4, .val (i64))]
def pointsSL_step : (Int × Int × Int × Int × List ((ByteArray × (Int × Int) × Int × Int))) × List ((Int × Int)) × Int → Option (LRes × ((Int × Int × Int × Int × List ((ByteArray × (Int × Int) × Int × Int))) × List ((Int × Int)) × Int)) :=
fun x =>
  br (decide (x.snd.2 < (↑(List.length x.fst.snd.snd.snd.2) : Int)))
    (ob (idx x.fst.snd.snd.snd.2 x.snd.2) fun y =>
      br (decide (List.length x.snd.1 + [(y.snd.fst.1, y.snd.fst.2)].length ≤ (4294967296 : Nat)))
        (some
          (LRes.next, (x.fst.1, x.fst.snd.1, x.fst.snd.snd.1, x.fst.snd.snd.snd.1, x.fst.snd.snd.snd.2),
            x.snd.1 ++ [(y.snd.fst.1, y.snd.fst.2)], IntKind.i64.wrap (x.snd.2 + (1 : Int))))
        none)
    (some
      (LRes.out, (x.fst.1, x.fst.snd.1, x.fst.snd.snd.1, x.fst.snd.snd.snd.1, x.fst.snd.snd.snd.2), x.snd.1, x.snd.2))
def pointsSL_fuel : (Int × Int × Int × Int × List ((ByteArray × (Int × Int) × Int × Int))) × List ((Int × Int)) × Int → Nat := fun s => (s.1.2.2.2.2.length - s.2.2.toNat) + 1
def pointsSL : (Int × Int × Int × Int × List ((ByteArray × (Int × Int) × Int × Int))) × List ((Int × Int)) × Int → Option ((Int × Int × Int × Int × List ((ByteArray × (Int × Int) × Int × Int))) × List ((Int × Int)) × Int) := fun s => iterP pointsSL_step (pointsSL_fuel s) s
def pointsSL_L : LoopC := ⟨pointsSL_vars, 0, .plain pointsSL⟩
noncomputable def pointsSL_key : Nat := key (loopAt Try.f40 0)
theorem pointsSL_stepok (x : pointsSL_vars.den) : stepOf (mkEnv [] []) Try.f40.ntmps pointsSL_vars 0 (loopAt Try.f40 0) x = pointsSL_step x := by kernel_rfl
theorem pointsSL_ok : LoopOK Try.prog Try.f40.ntmps pointsSL_L (loopAt Try.f40 0)   := iterP_loop (n := Try.f40.ntmps) (vs := pointsSL_vars) (out := 0) (body := loopAt Try.f40 0) (mkEnv_ok (cons := []) trivial []) pointsSL_step pointsSL_fuel (by exact trivial) pointsSL_stepok

def pointsS : (Int × Int × Int × Int × List ((ByteArray × (Int × Int) × Int × Int))) → Option (List ((Int × Int))) :=
fun x =>
  ob (pointsSL ((x.1, x.snd.1, x.snd.snd.1, x.snd.snd.snd.1, x.snd.snd.snd.2), [], (0 : Int))) fun r => some r.snd.1
def pointsS_con : Con := ⟨[.pair (i64) (.pair (i64) (.pair (i64) (.pair (i64) (.slice (.pair (.str) (.pair (.pair (i64) (i64)) (.pair (i64) (i64))))))))], [.d (.slice (.pair (i64) (i64)))], pointsS⟩
theorem pointsS_run (x : Dens [.pair (i64) (.pair (i64) (.pair (i64) (.pair (i64) (.slice (.pair (.str) (.pair (.pair (i64) (i64)) (.pair (i64) (i64))))))))]) : runFn (mkEnv [] [(pointsSL_key, pointsSL_L)]) Try.f40 [.pair (i64) (.pair (i64) (.pair (i64) (.pair (i64) (.slice (.pair (.str) (.pair (.pair (i64) (i64)) (.pair (i64) (i64))))))))] [.d (.slice (.pair (i64) (i64)))] x = pointsS x := by kernel_rfl
theorem pointsS_ok : pointsS_con.ok Try.prog 40 := fn_ok (con := pointsS_con) (mkEnv_ok (cons := []) trivial [(pointsSL_key, pointsSL_L)]) Try.func40 rfl (by kernel_rfl) (by exact ⟨pointsSL_ok, trivial⟩) (fun x y h => (pointsS_run x).trans h)

def freshSL_vars : Vars := [(0, .val (.slice (.pair (i64) (i64)))), (3, .row 0 2 (i64)), (4, .val (i64)), (5, .val (i64)), (6, .val (.bool)), (7, .val (i64))]
def freshSL_step : List ((Int × Int)) × List (Int) × Int × Int × Bool × Int → Option (LRes × (List ((Int × Int)) × List (Int) × Int × Int × Bool × Int)) :=
fun x =>
  br (decide (x.snd.snd.snd.snd.2 < x.snd.snd.snd.1))
    (br x.snd.snd.snd.snd.1
      (ob (idx x.1 x.snd.snd.snd.snd.2) fun y =>
        ob (idx x.1 x.snd.snd.snd.1) fun y_1 =>
          some
            (LRes.next, x.1, x.snd.1, x.snd.snd.1, x.snd.snd.snd.1, !(y.1 == y_1.1 && y.2 == y_1.2),
              IntKind.i64.wrap (x.snd.snd.snd.snd.2 + (1 : Int))))
      (some
        (LRes.next, x.1, x.snd.1, x.snd.snd.1, x.snd.snd.snd.1, false,
          IntKind.i64.wrap (x.snd.snd.snd.snd.2 + (1 : Int)))))
    (some (LRes.out, x.1, x.snd.1, x.snd.snd.1, x.snd.snd.snd.1, x.snd.snd.snd.snd.1, x.snd.snd.snd.snd.2))
def freshSL_fuel : List ((Int × Int)) × List (Int) × Int × Int × Bool × Int → Nat := fun s => (s.2.2.2.1 - s.2.2.2.2.2).toNat + 1
def freshSL : List ((Int × Int)) × List (Int) × Int × Int × Bool × Int → Option (List ((Int × Int)) × List (Int) × Int × Int × Bool × Int) := fun s => iterP freshSL_step (freshSL_fuel s) s
def freshSL_L : LoopC := ⟨freshSL_vars, 2, .plain freshSL⟩
noncomputable def freshSL_key : Nat := key (loopIn (loopAt Try.f41 0) 0)
theorem freshSL_stepok (x : freshSL_vars.den) : stepOf (mkEnv [] []) Try.f41.ntmps freshSL_vars 2 (loopIn (loopAt Try.f41 0) 0) x = freshSL_step x := by kernel_rfl
theorem freshSL_ok : LoopOK Try.prog Try.f41.ntmps freshSL_L (loopIn (loopAt Try.f41 0) 0)   := iterP_loop (n := Try.f41.ntmps) (vs := freshSL_vars) (out := 2) (body := loopIn (loopAt Try.f41 0) 0) (mkEnv_ok (cons := []) trivial []) freshSL_step freshSL_fuel (by exact trivial) freshSL_stepok

def ownSL_vars : Vars := [(0, .val (.slice (.pair (i64) (i64)))), (3, .row 0 2 (i64)), (4, .val (i64)), (5, .val (i64))]
def ownSL_step : List ((Int × Int)) × List (Int) × Int × Int → Option (LRes × (List ((Int × Int)) × List (Int) × Int × Int)) :=
fun x =>
  br (decide (x.snd.snd.2 < (↑x.1.length : Int)))
    (ob (freshSL (x.1, x.snd.1, x.snd.snd.1, x.snd.snd.2, true, (0 : Int))) fun r =>
      br (!r.snd.snd.snd.snd.1)
        (some (LRes.next, r.1, r.snd.1, r.snd.snd.1, IntKind.i64.wrap (r.snd.snd.snd.1 + (1 : Int))))
        (br (decide (List.length r.snd.1 + [r.snd.snd.snd.1].length ≤ (4294967296 : Nat)))
          (br (decide (r.snd.snd.1 < (0 : Int)))
            (some
              (LRes.next, r.1, r.snd.1 ++ [r.snd.snd.snd.1], r.snd.snd.snd.1,
                IntKind.i64.wrap (r.snd.snd.snd.1 + (1 : Int))))
            (ob (idx r.1 r.snd.snd.snd.1) fun y =>
              ob (idx r.1 r.snd.snd.1) fun y_1 =>
                br (decide (y.2 < y_1.2))
                  (some
                    (LRes.next, r.1, r.snd.1 ++ [r.snd.snd.snd.1], r.snd.snd.snd.1,
                      IntKind.i64.wrap (r.snd.snd.snd.1 + (1 : Int))))
                  (ob (idx r.1 r.snd.snd.snd.1) fun y =>
                    ob (idx r.1 r.snd.snd.1) fun y_2 =>
                      br (y.2 == y_2.2)
                        (ob (idx r.1 r.snd.snd.snd.1) fun y =>
                          ob (idx r.1 r.snd.snd.1) fun y_3 =>
                            br (decide (y.1 < y_3.1))
                              (some
                                (LRes.next, r.1, r.snd.1 ++ [r.snd.snd.snd.1], r.snd.snd.snd.1,
                                  IntKind.i64.wrap (r.snd.snd.snd.1 + (1 : Int))))
                              (some
                                (LRes.next, r.1, r.snd.1 ++ [r.snd.snd.snd.1], r.snd.snd.1,
                                  IntKind.i64.wrap (r.snd.snd.snd.1 + (1 : Int)))))
                        (some
                          (LRes.next, r.1, r.snd.1 ++ [r.snd.snd.snd.1], r.snd.snd.1,
                            IntKind.i64.wrap (r.snd.snd.snd.1 + (1 : Int)))))))
          none))
    (some (LRes.out, x.1, x.snd.1, x.snd.snd.1, x.snd.snd.2))
def ownSL_fuel : List ((Int × Int)) × List (Int) × Int × Int → Nat := fun s => (s.1.length - s.2.2.2.toNat) + 1
def ownSL : List ((Int × Int)) × List (Int) × Int × Int → Option (List ((Int × Int)) × List (Int) × Int × Int) := fun s => iterP ownSL_step (ownSL_fuel s) s
def ownSL_L : LoopC := ⟨ownSL_vars, 0, .plain ownSL⟩
noncomputable def ownSL_key : Nat := key (loopAt Try.f41 0)
theorem ownSL_stepok (x : ownSL_vars.den) : stepOf (mkEnv [] [(freshSL_key, freshSL_L)]) Try.f41.ntmps ownSL_vars 0 (loopAt Try.f41 0) x = ownSL_step x := by kernel_rfl
theorem ownSL_ok : LoopOK Try.prog Try.f41.ntmps ownSL_L (loopAt Try.f41 0)   := iterP_loop (n := Try.f41.ntmps) (vs := ownSL_vars) (out := 0) (body := loopAt Try.f41 0) (mkEnv_ok (cons := []) trivial [(freshSL_key, freshSL_L)]) ownSL_step ownSL_fuel (by exact ⟨freshSL_ok, trivial⟩) ownSL_stepok

def nextSL_vars : Vars := [(0, .val (.slice (.pair (i64) (i64)))), (3, .row 0 2 (i64)), (4, .val (i64)), (8, .row 0 2 (i64)), (9, .val (i64)), (10, .val (i64)), (11, .val (i64))]
def nextSL_step : List ((Int × Int)) × List (Int) × Int × List (Int) × Int × Int × Int → Option (LRes × (List ((Int × Int)) × List (Int) × Int × List (Int) × Int × Int × Int)) :=
fun x =>
  br (decide (x.snd.snd.snd.snd.snd.2 < (↑(List.length x.snd.1) : Int)))
    (ob (idx x.snd.1 x.snd.snd.snd.snd.snd.2) fun x_1 =>
      ob (List.get?Internal x.snd.1 (Int.toNat x.snd.snd.snd.snd.snd.2)) fun x_2 =>
        br (x_2 == x.snd.snd.snd.snd.1)
          (some
            (LRes.next, x.1, x.snd.1, x.snd.snd.1, x.snd.snd.snd.1, x.snd.snd.snd.snd.1, x.snd.snd.snd.snd.snd.1,
              IntKind.i64.wrap (x.snd.snd.snd.snd.snd.2 + (1 : Int))))
          (br (decide (x.snd.snd.snd.snd.snd.1 < (0 : Int)))
            (some
              (LRes.next, x.1, x.snd.1, x.snd.snd.1, x.snd.snd.snd.1, x.snd.snd.snd.snd.1, x_2,
                IntKind.i64.wrap (x.snd.snd.snd.snd.snd.2 + (1 : Int))))
            (ob (idx x.1 x.snd.snd.snd.snd.1) fun y =>
              ob (idx x.1 x.snd.snd.snd.snd.snd.1) fun y_1 =>
                ob (idx x.1 x_2) fun y_2 =>
                  ob (crossS ((y.1, y.2), (y_1.1, y_1.2), y_2.1, y_2.2)) fun y =>
                    br (decide (y < (0 : Int)))
                      (some
                        (LRes.next, x.1, x.snd.1, x.snd.snd.1, x.snd.snd.snd.1, x.snd.snd.snd.snd.1, x_2,
                          IntKind.i64.wrap (x.snd.snd.snd.snd.snd.2 + (1 : Int))))
                      (br (y == (0 : Int))
                        (ob (idx x.1 x.snd.snd.snd.snd.1) fun y =>
                          ob (idx x.1 x_2) fun y_3 =>
                            ob (sqS ((y.1, y.2), y_3.1, y_3.2)) fun y =>
                              ob (idx x.1 x.snd.snd.snd.snd.1) fun y_4 =>
                                ob (idx x.1 x.snd.snd.snd.snd.snd.1) fun y_5 =>
                                  ob (sqS ((y_4.1, y_4.2), y_5.1, y_5.2)) fun y_6 =>
                                    br (decide (y_6 < y))
                                      (some
                                        (LRes.next, x.1, x.snd.1, x.snd.snd.1, x.snd.snd.snd.1, x.snd.snd.snd.snd.1,
                                          x_2, IntKind.i64.wrap (x.snd.snd.snd.snd.snd.2 + (1 : Int))))
                                      (some
                                        (LRes.next, x.1, x.snd.1, x.snd.snd.1, x.snd.snd.snd.1, x.snd.snd.snd.snd.1,
                                          x.snd.snd.snd.snd.snd.1,
                                          IntKind.i64.wrap (x.snd.snd.snd.snd.snd.2 + (1 : Int)))))
                        (some
                          (LRes.next, x.1, x.snd.1, x.snd.snd.1, x.snd.snd.snd.1, x.snd.snd.snd.snd.1,
                            x.snd.snd.snd.snd.snd.1, IntKind.i64.wrap (x.snd.snd.snd.snd.snd.2 + (1 : Int))))))))
    (some
      (LRes.out, x.1, x.snd.1, x.snd.snd.1, x.snd.snd.snd.1, x.snd.snd.snd.snd.1, x.snd.snd.snd.snd.snd.1,
        x.snd.snd.snd.snd.snd.2))
def nextSL_fuel : List ((Int × Int)) × List (Int) × Int × List (Int) × Int × Int × Int → Nat := fun s => (s.2.1.length - s.2.2.2.2.2.2.toNat) + 1
def nextSL : List ((Int × Int)) × List (Int) × Int × List (Int) × Int × Int × Int → Option (List ((Int × Int)) × List (Int) × Int × List (Int) × Int × Int × Int) := fun s => iterP nextSL_step (nextSL_fuel s) s
def nextSL_L : LoopC := ⟨nextSL_vars, 6, .plain nextSL⟩
noncomputable def nextSL_key : Nat := key (loopIn (loopAt Try.f41 1) 0)
theorem nextSL_stepok (x : nextSL_vars.den) : stepOf (mkEnv [(42, crossS_con), (52, sqS_con)] []) Try.f41.ntmps nextSL_vars 6 (loopIn (loopAt Try.f41 1) 0) x = nextSL_step x := by kernel_rfl
theorem nextSL_ok : LoopOK Try.prog Try.f41.ntmps nextSL_L (loopIn (loopAt Try.f41 1) 0)   := iterP_loop (n := Try.f41.ntmps) (vs := nextSL_vars) (out := 6) (body := loopIn (loopAt Try.f41 1) 0) (mkEnv_ok (cons := [(42, crossS_con), (52, sqS_con)]) ⟨crossS_ok, sqS_ok, trivial⟩ []) nextSL_step nextSL_fuel (by exact trivial) nextSL_stepok

def hullSL_vars : Vars := [(0, .val (.slice (.pair (i64) (i64)))), (3, .row 0 2 (i64)), (4, .val (i64)), (8, .row 0 2 (i64)), (9, .val (i64))]
def hullSL_step : List ((Int × Int)) × List (Int) × Int × List (Int) × Int → Option (LRes × (List ((Int × Int)) × List (Int) × Int × List (Int) × Int)) :=
fun x =>
  br (decide ((0 : Int) ≤ x.snd.snd.snd.2))
    (br (decide (List.length x.snd.snd.snd.1 + [x.snd.snd.snd.2].length ≤ (4294967296 : Nat)))
      (ob
        (nextSL
          (x.1, x.snd.1, x.snd.snd.1, x.snd.snd.snd.1 ++ [x.snd.snd.snd.2], x.snd.snd.snd.2, (-1 : Int), (0 : Int)))
        fun r =>
        br (r.snd.snd.snd.snd.snd.1 == r.snd.snd.1)
          (some (LRes.next, r.1, r.snd.1, r.snd.snd.1, r.snd.snd.snd.1, (-1 : Int)))
          (some (LRes.next, r.1, r.snd.1, r.snd.snd.1, r.snd.snd.snd.1, r.snd.snd.snd.snd.snd.1)))
      none)
    (some (LRes.out, x.1, x.snd.1, x.snd.snd.1, x.snd.snd.snd.1, x.snd.snd.snd.2))
def hullSL_fuel : List ((Int × Int)) × List (Int) × Int × List (Int) × Int → Nat := fun s => s.1.length + 2
def hullSL : List ((Int × Int)) × List (Int) × Int × List (Int) × Int → Option (List ((Int × Int)) × List (Int) × Int × List (Int) × Int) := fun s => iterP hullSL_step (hullSL_fuel s) s
def hullSL_L : LoopC := ⟨hullSL_vars, 4, .plain hullSL⟩
noncomputable def hullSL_key : Nat := key (loopAt Try.f41 1)
theorem hullSL_stepok (x : hullSL_vars.den) : stepOf (mkEnv [] [(nextSL_key, nextSL_L)]) Try.f41.ntmps hullSL_vars 4 (loopAt Try.f41 1) x = hullSL_step x := by kernel_rfl
theorem hullSL_ok : LoopOK Try.prog Try.f41.ntmps hullSL_L (loopAt Try.f41 1)   := iterP_loop (n := Try.f41.ntmps) (vs := hullSL_vars) (out := 4) (body := loopAt Try.f41 1) (mkEnv_ok (cons := []) trivial [(nextSL_key, nextSL_L)]) hullSL_step hullSL_fuel (by exact ⟨nextSL_ok, trivial⟩) hullSL_stepok

def hullS : List ((Int × Int)) → Option (List (Int)) :=
fun x =>
  ob (ownSL (x, [], (-1 : Int), (0 : Int))) fun r =>
    ob (hullSL (r.1, r.snd.1, r.snd.snd.1, [], r.snd.snd.1)) fun r => some r.snd.snd.snd.1
def hullS_con : Con := ⟨[.slice (.pair (i64) (i64))], [.d (.slice (i64))], hullS⟩
theorem hullS_run (x : Dens [.slice (.pair (i64) (i64))]) : runFn (mkEnv [] [(ownSL_key, ownSL_L), (hullSL_key, hullSL_L)]) Try.f41 [.slice (.pair (i64) (i64))] [.d (.slice (i64))] x = hullS x := by kernel_rfl
theorem hullS_ok : hullS_con.ok Try.prog 41 := fn_ok (con := hullS_con) (mkEnv_ok (cons := []) trivial [(ownSL_key, ownSL_L), (hullSL_key, hullSL_L)]) Try.func41 rfl (by kernel_rfl) (by exact ⟨ownSL_ok, hullSL_ok, trivial⟩) (fun x y h => (hullS_run x).trans h)

def hullOfS : (Int × Int × Int × Int × List ((ByteArray × (Int × Int) × Int × Int))) → Option (List (Int) × Int) :=
fun x =>
  ob (okPlateS (x.1, x.snd.1, x.snd.snd.1, x.snd.snd.snd.1, x.snd.snd.snd.2)) fun y =>
    br (!y) (some ([], (1 : Int)))
      (ob (pointsS (x.1, x.snd.1, x.snd.snd.1, x.snd.snd.snd.1, x.snd.snd.snd.2)) fun y =>
        ob (hullS y) fun y => some (y, (0 : Int)))
def hullOfS_con : Con := ⟨[.pair (i64) (.pair (i64) (.pair (i64) (.pair (i64) (.slice (.pair (.str) (.pair (.pair (i64) (i64)) (.pair (i64) (i64))))))))], [.d (.slice (i64)), .d (i64)], hullOfS⟩
theorem hullOfS_run (x : Dens [.pair (i64) (.pair (i64) (.pair (i64) (.pair (i64) (.slice (.pair (.str) (.pair (.pair (i64) (i64)) (.pair (i64) (i64))))))))]) : runFn (mkEnv [(39, okPlateS_con), (40, pointsS_con), (41, hullS_con)] []) Try.f37 [.pair (i64) (.pair (i64) (.pair (i64) (.pair (i64) (.slice (.pair (.str) (.pair (.pair (i64) (i64)) (.pair (i64) (i64))))))))] [.d (.slice (i64)), .d (i64)] x = hullOfS x := by kernel_rfl
theorem hullOfS_ok : hullOfS_con.ok Try.prog 37 := fn_ok (con := hullOfS_con) (mkEnv_ok (cons := [(39, okPlateS_con), (40, pointsS_con), (41, hullS_con)]) ⟨okPlateS_ok, pointsS_ok, hullS_ok, trivial⟩ []) Try.func37 rfl (by kernel_rfl) (by exact trivial) (fun x y h => (hullOfS_run x).trans h)

def areaSL_vars : Vars := [(4, .val (.slice (.pair (i64) (i64)))), (5, .val (.slice (i64))), (6, .val (i64)), (7, .val (i64))]
def areaSL_step : List ((Int × Int)) × List (Int) × Int × Int → Option (LRes × (List ((Int × Int)) × List (Int) × Int × Int)) :=
fun x =>
  br (decide (IntKind.i64.wrap (x.snd.snd.2 + (1 : Int)) < (↑(List.length x.snd.1) : Int)))
    (ob (idx x.snd.1 (0 : Int)) fun y =>
      ob (idx x.1 y) fun y =>
        ob (idx x.snd.1 x.snd.snd.2) fun y_1 =>
          ob (idx x.1 y_1) fun y_2 =>
            ob (idx x.snd.1 (IntKind.i64.wrap (x.snd.snd.2 + (1 : Int)))) fun y_3 =>
              ob (idx x.1 y_3) fun y_4 =>
                ob (crossS ((y.1, y.2), (y_2.1, y_2.2), y_4.1, y_4.2)) fun y =>
                  some
                    (LRes.next, x.1, x.snd.1, IntKind.i64.wrap (x.snd.snd.1 + y),
                      IntKind.i64.wrap (x.snd.snd.2 + (1 : Int))))
    (some (LRes.out, x.1, x.snd.1, x.snd.snd.1, x.snd.snd.2))
def areaSL_fuel : List ((Int × Int)) × List (Int) × Int × Int → Nat := fun s => (s.2.1.length - s.2.2.2.toNat) + 1
def areaSL : List ((Int × Int)) × List (Int) × Int × Int → Option (List ((Int × Int)) × List (Int) × Int × Int) := fun s => iterP areaSL_step (areaSL_fuel s) s
def areaSL_L : LoopC := ⟨areaSL_vars, 0, .plain areaSL⟩
noncomputable def areaSL_key : Nat := key (loopAt Try.f9 0)
theorem areaSL_stepok (x : areaSL_vars.den) : stepOf (mkEnv [(42, crossS_con)] []) Try.f9.ntmps areaSL_vars 0 (loopAt Try.f9 0) x = areaSL_step x := by kernel_rfl
theorem areaSL_ok : LoopOK Try.prog Try.f9.ntmps areaSL_L (loopAt Try.f9 0)   := iterP_loop (n := Try.f9.ntmps) (vs := areaSL_vars) (out := 0) (body := loopAt Try.f9 0) (mkEnv_ok (cons := [(42, crossS_con)]) ⟨crossS_ok, trivial⟩ []) areaSL_step areaSL_fuel (by exact trivial) areaSL_stepok

def areaS : (Int × Int × Int × Int × List ((ByteArray × (Int × Int) × Int × Int))) → Option (Int × Int) :=
fun x =>
  ob (okPlateS (x.1, x.snd.1, x.snd.snd.1, x.snd.snd.snd.1, x.snd.snd.snd.2)) fun y =>
    br (!y) (some ((0 : Int), (1 : Int)))
      (ob (pointsS (x.1, x.snd.1, x.snd.snd.1, x.snd.snd.snd.1, x.snd.snd.snd.2)) fun y =>
        ob (hullS y) fun y_1 => ob (areaSL (y, y_1, (0 : Int), (1 : Int))) fun r => some (r.snd.snd.1, (0 : Int)))
def areaS_con : Con := ⟨[.pair (i64) (.pair (i64) (.pair (i64) (.pair (i64) (.slice (.pair (.str) (.pair (.pair (i64) (i64)) (.pair (i64) (i64))))))))], [.d (i64), .d (i64)], areaS⟩
theorem areaS_run (x : Dens [.pair (i64) (.pair (i64) (.pair (i64) (.pair (i64) (.slice (.pair (.str) (.pair (.pair (i64) (i64)) (.pair (i64) (i64))))))))]) : runFn (mkEnv [(39, okPlateS_con), (40, pointsS_con), (41, hullS_con), (42, crossS_con)] [(areaSL_key, areaSL_L)]) Try.f9 [.pair (i64) (.pair (i64) (.pair (i64) (.pair (i64) (.slice (.pair (.str) (.pair (.pair (i64) (i64)) (.pair (i64) (i64))))))))] [.d (i64), .d (i64)] x = areaS x := by kernel_rfl
theorem areaS_ok : areaS_con.ok Try.prog 9 := fn_ok (con := areaS_con) (mkEnv_ok (cons := [(39, okPlateS_con), (40, pointsS_con), (41, hullS_con), (42, crossS_con)]) ⟨okPlateS_ok, pointsS_ok, hullS_ok, crossS_ok, trivial⟩ [(areaSL_key, areaSL_L)]) Try.func9 rfl (by kernel_rfl) (by exact ⟨areaSL_ok, trivial⟩) (fun x y h => (areaS_run x).trans h)

def lawArea : (Int × Int × Int × Int × List ((ByteArray × (Int × Int) × Int × Int))) → Option (Bool) :=
fun x =>
  ob (szPlateL ((x.1, x.snd.1, x.snd.snd.1, x.snd.snd.snd.1, x.snd.snd.snd.2), (1048576 : Int))) fun y =>
    br (decide (y < (0 : Int))) (some true)
      (ob (toPlateD (x.1, x.snd.1, x.snd.snd.1, x.snd.snd.snd.1, x.snd.snd.snd.2)) fun y =>
        ob (areaS (y.1, y.snd.1, y.snd.snd.1, y.snd.snd.snd.1, y.snd.snd.snd.2)) fun y =>
          ob (toPlateD (x.1, x.snd.1, x.snd.snd.1, x.snd.snd.snd.1, x.snd.snd.snd.2)) fun y_1 =>
            ob (areaI (y_1.1, y_1.snd.1, y_1.snd.snd.1, y_1.snd.snd.snd.1, y_1.snd.snd.snd.2)) fun y_2 =>
              br (y_2.1 != y.1) (some false)
                (br (y_2.2 != y.2) (some false)
                  (ob (toPlateD (x.1, x.snd.1, x.snd.snd.1, x.snd.snd.snd.1, x.snd.snd.snd.2)) fun y =>
                    ob
                      (eqPlateL
                        ((y_1.1, y_1.snd.1, y_1.snd.snd.1, y_1.snd.snd.snd.1, y_1.snd.snd.snd.2), y.1, y.snd.1,
                          y.snd.snd.1, y.snd.snd.snd.1, y.snd.snd.snd.2))
                      fun y => br (!y) (some false) (some true))))
def lawArea_con : Con := ⟨[.pair (i64) (.pair (i64) (.pair (i64) (.pair (i64) (.slice (.pair (.str) (.pair (.pair (i64) (i64)) (.pair (i64) (i64))))))))], [.d (.bool)], lawArea⟩
theorem lawArea_run (x : Dens [.pair (i64) (.pair (i64) (.pair (i64) (.pair (i64) (.slice (.pair (.str) (.pair (.pair (i64) (i64)) (.pair (i64) (i64))))))))]) : runFn (mkEnv [(8, szPlateL_con), (10, toPlateD_con), (9, areaS_con), (11, areaI_con), (12, eqPlateL_con)] []) Try.f3 [.pair (i64) (.pair (i64) (.pair (i64) (.pair (i64) (.slice (.pair (.str) (.pair (.pair (i64) (i64)) (.pair (i64) (i64))))))))] [.d (.bool)] x = lawArea x := by kernel_rfl
theorem lawArea_ok : lawArea_con.ok Try.prog 3 := fn_ok (con := lawArea_con) (mkEnv_ok (cons := [(8, szPlateL_con), (10, toPlateD_con), (9, areaS_con), (11, areaI_con), (12, eqPlateL_con)]) ⟨szPlateL_ok, toPlateD_ok, areaS_ok, areaI_ok, eqPlateL_ok, trivial⟩ []) Try.func3 rfl (by kernel_rfl) (by exact trivial) (fun x y h => (lawArea_run x).trans h)

def crossL : (Int × Int) × (Int × Int) × (Int × Int) → Option (Int) :=
fun x =>
  some
    (IntKind.i64.wrap
      (IntKind.i64.wrap (IntKind.i64.wrap (x.snd.fst.1 - x.fst.1) * IntKind.i64.wrap (x.snd.snd.2 - x.fst.2)) -
        IntKind.i64.wrap (IntKind.i64.wrap (x.snd.fst.2 - x.fst.2) * IntKind.i64.wrap (x.snd.snd.1 - x.fst.1))))
def crossL_con : Con := ⟨[.pair (i64) (i64), .pair (i64) (i64), .pair (i64) (i64)], [.d (i64)], crossL⟩
theorem crossL_run (x : Dens [.pair (i64) (i64), .pair (i64) (i64), .pair (i64) (i64)]) : runFn (mkEnv [] []) Try.f18 [.pair (i64) (i64), .pair (i64) (i64), .pair (i64) (i64)] [.d (i64)] x = crossL x := by kernel_rfl
theorem crossL_ok : crossL_con.ok Try.prog 18 := fn_ok (con := crossL_con) (mkEnv_ok (cons := []) trivial []) Try.func18 rfl (by kernel_rfl) (by exact trivial) (fun x y h => (crossL_run x).trans h)

def drawHullS : List (Int) → Option ((Int × Int × Int × Int × List ((ByteArray × (Int × Int) × Int × Int)))) :=
fun x =>
  ob (fromS x) fun y =>
    ob (bentS (y.1, y.snd.1, y.snd.2)) fun y =>
      some (y.fst.1, y.fst.snd.1, y.fst.snd.snd.1, y.fst.snd.snd.snd.1, y.fst.snd.snd.snd.2)
def drawHullS_con : Con := ⟨[.slice (.int .u8)], [.pair (.d (i64)) (.pair (.d (i64)) (.pair (.d (i64)) (.pair (.d (i64)) (.row 59 (.pair (.str) (.pair (.pair (i64) (i64)) (.pair (i64) (i64))))))))], drawHullS⟩
theorem drawHullS_run (x : Dens [.slice (.int .u8)]) : runFn (mkEnvM [(46, fromS_con)] [(63, bentS_con)] []) Try.f35 [.slice (.int .u8)] [.pair (.d (i64)) (.pair (.d (i64)) (.pair (.d (i64)) (.pair (.d (i64)) (.row 59 (.pair (.str) (.pair (.pair (i64) (i64)) (.pair (i64) (i64))))))))] x = drawHullS x := by kernel_rfl
theorem drawHullS_ok : drawHullS_con.ok Try.prog 35 := fn_ok (con := drawHullS_con) (mkEnvM_ok (cons := [(46, fromS_con)]) (mcons := [(63, bentS_con)]) ⟨fromS_ok, trivial⟩ ⟨bentS_ok, trivial⟩ []) Try.func35 rfl (by kernel_rfl) (by exact trivial) (fun x y h => (drawHullS_run x).trans h)

def leftN_vars : Vars := [(2, .val (.bool)), (3, .box 0 30 (.pair (i64) (.pair (i64) (.pair (i64) (.pair (i64) (.slice (.pair (.str) (.pair (.pair (i64) (i64)) (.pair (i64) (i64)))))))))), (6, .val (.slice (i64))), (8, .val (i64)), (12, .val (i64)), (13, .val (i64)), (14, .val (i64)), (15, .box 0 37 (.pair (i64) (i64))), (16, .box 0 37 (.pair (i64) (i64))), (18, .val (i64))]
def leftN_step : Bool × (Int × Int × Int × Int × List ((ByteArray × (Int × Int) × Int × Int))) × List (Int) × Int × Int × Int × Int × (Int × Int) × (Int × Int) × Int → Option (LRes × (Bool × (Int × Int × Int × Int × List ((ByteArray × (Int × Int) × Int × Int))) × List (Int) × Int × Int × Int × Int × (Int × Int) × (Int × Int) × Int)) :=
fun x =>
  br (decide (x.snd.snd.snd.snd.snd.snd.snd.snd.2 < (↑(List.length x.snd.fst.snd.snd.snd.2) : Int)))
    (br (decide ((1 : Int) < x.snd.snd.snd.snd.1))
      (ob (idx x.snd.fst.snd.snd.snd.2 x.snd.snd.snd.snd.snd.snd.snd.snd.2) fun y =>
        ob
          (crossL
            ((x.snd.snd.snd.snd.snd.snd.snd.fst.1, x.snd.snd.snd.snd.snd.snd.snd.fst.2),
              (x.snd.snd.snd.snd.snd.snd.snd.snd.fst.1, x.snd.snd.snd.snd.snd.snd.snd.snd.fst.2), y.snd.fst.1,
              y.snd.fst.2))
          fun y =>
          br (decide (y < (0 : Int)))
            (some
              (LRes.ret, false,
                (x.snd.fst.1, x.snd.fst.snd.1, x.snd.fst.snd.snd.1, x.snd.fst.snd.snd.snd.1, x.snd.fst.snd.snd.snd.2),
                x.snd.snd.1, x.snd.snd.snd.1, x.snd.snd.snd.snd.1, x.snd.snd.snd.snd.snd.1, x.snd.snd.snd.snd.snd.snd.1,
                (x.snd.snd.snd.snd.snd.snd.snd.fst.1, x.snd.snd.snd.snd.snd.snd.snd.fst.2),
                (x.snd.snd.snd.snd.snd.snd.snd.snd.fst.1, x.snd.snd.snd.snd.snd.snd.snd.snd.fst.2),
                x.snd.snd.snd.snd.snd.snd.snd.snd.2))
            (some
              (LRes.next, x.1,
                (x.snd.fst.1, x.snd.fst.snd.1, x.snd.fst.snd.snd.1, x.snd.fst.snd.snd.snd.1, x.snd.fst.snd.snd.snd.2),
                x.snd.snd.1, x.snd.snd.snd.1, x.snd.snd.snd.snd.1, x.snd.snd.snd.snd.snd.1, x.snd.snd.snd.snd.snd.snd.1,
                (x.snd.snd.snd.snd.snd.snd.snd.fst.1, x.snd.snd.snd.snd.snd.snd.snd.fst.2),
                (x.snd.snd.snd.snd.snd.snd.snd.snd.fst.1, x.snd.snd.snd.snd.snd.snd.snd.snd.fst.2),
                IntKind.i64.wrap (x.snd.snd.snd.snd.snd.snd.snd.snd.2 + (1 : Int)))))
      (some
        (LRes.out, x.1,
          (x.snd.fst.1, x.snd.fst.snd.1, x.snd.fst.snd.snd.1, x.snd.fst.snd.snd.snd.1, x.snd.fst.snd.snd.snd.2),
          x.snd.snd.1, x.snd.snd.snd.1, x.snd.snd.snd.snd.1, x.snd.snd.snd.snd.snd.1, x.snd.snd.snd.snd.snd.snd.1,
          (x.snd.snd.snd.snd.snd.snd.snd.fst.1, x.snd.snd.snd.snd.snd.snd.snd.fst.2),
          (x.snd.snd.snd.snd.snd.snd.snd.snd.fst.1, x.snd.snd.snd.snd.snd.snd.snd.snd.fst.2),
          x.snd.snd.snd.snd.snd.snd.snd.snd.2)))
    (some
      (LRes.out, x.1,
        (x.snd.fst.1, x.snd.fst.snd.1, x.snd.fst.snd.snd.1, x.snd.fst.snd.snd.snd.1, x.snd.fst.snd.snd.snd.2),
        x.snd.snd.1, x.snd.snd.snd.1, x.snd.snd.snd.snd.1, x.snd.snd.snd.snd.snd.1, x.snd.snd.snd.snd.snd.snd.1,
        (x.snd.snd.snd.snd.snd.snd.snd.fst.1, x.snd.snd.snd.snd.snd.snd.snd.fst.2),
        (x.snd.snd.snd.snd.snd.snd.snd.snd.fst.1, x.snd.snd.snd.snd.snd.snd.snd.snd.fst.2),
        x.snd.snd.snd.snd.snd.snd.snd.snd.2))
def leftN_fuel : Bool × (Int × Int × Int × Int × List ((ByteArray × (Int × Int) × Int × Int))) × List (Int) × Int × Int × Int × Int × (Int × Int) × (Int × Int) × Int → Nat := fun s => (s.2.1.2.2.2.2.length - s.2.2.2.2.2.2.2.2.2.toNat) + 1
def leftN : Bool × (Int × Int × Int × Int × List ((ByteArray × (Int × Int) × Int × Int))) × List (Int) × Int × Int × Int × Int × (Int × Int) × (Int × Int) × Int → Option (Bool × (Bool × (Int × Int × Int × Int × List ((ByteArray × (Int × Int) × Int × Int))) × List (Int) × Int × Int × Int × Int × (Int × Int) × (Int × Int) × Int)) := fun s => iter leftN_step (leftN_fuel s) s
def leftN_L : LoopC := ⟨leftN_vars, 2, .two leftN⟩
noncomputable def leftN_key : Nat := key (loopIn (loopAt Try.f7 0) 0)
theorem leftN_stepok (x : leftN_vars.den) : stepOf (mkEnv [(18, crossL_con)] []) Try.f7.ntmps leftN_vars 2 (loopIn (loopAt Try.f7 0) 0) x = leftN_step x := by kernel_rfl
theorem leftN_ok : LoopOK Try.prog Try.f7.ntmps leftN_L (loopIn (loopAt Try.f7 0) 0)   := iter_loop (n := Try.f7.ntmps) (vs := leftN_vars) (out := 2) (body := loopIn (loopAt Try.f7 0) 0) (mkEnv_ok (cons := [(18, crossL_con)]) ⟨crossL_ok, trivial⟩ []) leftN_step leftN_fuel (by exact trivial) leftN_stepok

def leftL_vars : Vars := [(2, .val (.bool)), (3, .box 0 30 (.pair (i64) (.pair (i64) (.pair (i64) (.pair (i64) (.slice (.pair (.str) (.pair (.pair (i64) (i64)) (.pair (i64) (i64)))))))))), (6, .val (.slice (i64))), (8, .val (i64)), (12, .val (i64)), (13, .val (i64)), (14, .val (i64))]
def leftL_step : Bool × (Int × Int × Int × Int × List ((ByteArray × (Int × Int) × Int × Int))) × List (Int) × Int × Int × Int × Int → Option (LRes × (Bool × (Int × Int × Int × Int × List ((ByteArray × (Int × Int) × Int × Int))) × List (Int) × Int × Int × Int × Int)) :=
fun x =>
  br (decide (x.snd.snd.snd.snd.snd.2 < x.snd.snd.snd.snd.1))
    (ob (idx x.snd.snd.1 x.snd.snd.snd.snd.snd.2) fun y =>
      ob (idx x.snd.fst.snd.snd.snd.2 y) fun y =>
        br (x.snd.snd.snd.snd.1 == (0 : Int)) none
          (ob (idx x.snd.snd.1 ((IntKind.i64.wrap (x.snd.snd.snd.snd.snd.2 + (1 : Int))).tmod x.snd.snd.snd.snd.1))
            fun y_1 =>
            ob (idx x.snd.fst.snd.snd.snd.2 y_1) fun y_2 =>
              br (x.snd.snd.snd.snd.1 == (0 : Int)) none
                (ob
                  (idx x.snd.snd.1 ((IntKind.i64.wrap (x.snd.snd.snd.snd.snd.2 + (2 : Int))).tmod x.snd.snd.snd.snd.1))
                  fun y_3 =>
                  ob (idx x.snd.fst.snd.snd.snd.2 y_3) fun y_4 =>
                    br (decide ((2 : Int) < x.snd.snd.snd.snd.1))
                      (ob
                        (crossL
                          ((y.snd.fst.1, y.snd.fst.2), (y_2.snd.fst.1, y_2.snd.fst.2), y_4.snd.fst.1, y_4.snd.fst.2))
                        fun y_5 =>
                        br (decide (y_5 ≤ (0 : Int)))
                          (some
                            (LRes.ret, false,
                              (x.snd.fst.1, x.snd.fst.snd.1, x.snd.fst.snd.snd.1, x.snd.fst.snd.snd.snd.1,
                                x.snd.fst.snd.snd.snd.2),
                              x.snd.snd.1, x.snd.snd.snd.1, x.snd.snd.snd.snd.1, x.snd.snd.snd.snd.snd.1,
                              x.snd.snd.snd.snd.snd.2))
                          (ob
                            (leftN
                              (x.1,
                                (x.snd.fst.1, x.snd.fst.snd.1, x.snd.fst.snd.snd.1, x.snd.fst.snd.snd.snd.1,
                                  x.snd.fst.snd.snd.snd.2),
                                x.snd.snd.1, x.snd.snd.snd.1, x.snd.snd.snd.snd.1, x.snd.snd.snd.snd.snd.1,
                                x.snd.snd.snd.snd.snd.2, (y.snd.fst.1, y.snd.fst.2), (y_2.snd.fst.1, y_2.snd.fst.2),
                                (0 : Int)))
                            fun r =>
                            br r.1
                              (some
                                (LRes.next, r.snd.1,
                                  (r.snd.snd.fst.1, r.snd.snd.fst.snd.1, r.snd.snd.fst.snd.snd.1,
                                    r.snd.snd.fst.snd.snd.snd.1, r.snd.snd.fst.snd.snd.snd.2),
                                  r.snd.snd.snd.1, r.snd.snd.snd.snd.1, r.snd.snd.snd.snd.snd.1,
                                  IntKind.i64.wrap
                                    (IntKind.i64.wrap
                                        (r.snd.snd.snd.snd.snd.snd.1 +
                                          IntKind.i64.wrap
                                            (r.snd.snd.snd.snd.snd.snd.snd.snd.fst.1 *
                                              r.snd.snd.snd.snd.snd.snd.snd.snd.snd.fst.2)) -
                                      IntKind.i64.wrap
                                        (r.snd.snd.snd.snd.snd.snd.snd.snd.fst.2 *
                                          r.snd.snd.snd.snd.snd.snd.snd.snd.snd.fst.1)),
                                  IntKind.i64.wrap (r.snd.snd.snd.snd.snd.snd.snd.1 + (1 : Int))))
                              (some
                                (LRes.ret, r.snd.1,
                                  (r.snd.snd.fst.1, r.snd.snd.fst.snd.1, r.snd.snd.fst.snd.snd.1,
                                    r.snd.snd.fst.snd.snd.snd.1, r.snd.snd.fst.snd.snd.snd.2),
                                  r.snd.snd.snd.1, r.snd.snd.snd.snd.1, r.snd.snd.snd.snd.snd.1,
                                  r.snd.snd.snd.snd.snd.snd.1, r.snd.snd.snd.snd.snd.snd.snd.1))))
                      (ob
                        (leftN
                          (x.1,
                            (x.snd.fst.1, x.snd.fst.snd.1, x.snd.fst.snd.snd.1, x.snd.fst.snd.snd.snd.1,
                              x.snd.fst.snd.snd.snd.2),
                            x.snd.snd.1, x.snd.snd.snd.1, x.snd.snd.snd.snd.1, x.snd.snd.snd.snd.snd.1,
                            x.snd.snd.snd.snd.snd.2, (y.snd.fst.1, y.snd.fst.2), (y_2.snd.fst.1, y_2.snd.fst.2),
                            (0 : Int)))
                        fun r =>
                        br r.1
                          (some
                            (LRes.next, r.snd.1,
                              (r.snd.snd.fst.1, r.snd.snd.fst.snd.1, r.snd.snd.fst.snd.snd.1,
                                r.snd.snd.fst.snd.snd.snd.1, r.snd.snd.fst.snd.snd.snd.2),
                              r.snd.snd.snd.1, r.snd.snd.snd.snd.1, r.snd.snd.snd.snd.snd.1,
                              IntKind.i64.wrap
                                (IntKind.i64.wrap
                                    (r.snd.snd.snd.snd.snd.snd.1 +
                                      IntKind.i64.wrap
                                        (r.snd.snd.snd.snd.snd.snd.snd.snd.fst.1 *
                                          r.snd.snd.snd.snd.snd.snd.snd.snd.snd.fst.2)) -
                                  IntKind.i64.wrap
                                    (r.snd.snd.snd.snd.snd.snd.snd.snd.fst.2 *
                                      r.snd.snd.snd.snd.snd.snd.snd.snd.snd.fst.1)),
                              IntKind.i64.wrap (r.snd.snd.snd.snd.snd.snd.snd.1 + (1 : Int))))
                          (some
                            (LRes.ret, r.snd.1,
                              (r.snd.snd.fst.1, r.snd.snd.fst.snd.1, r.snd.snd.fst.snd.snd.1,
                                r.snd.snd.fst.snd.snd.snd.1, r.snd.snd.fst.snd.snd.snd.2),
                              r.snd.snd.snd.1, r.snd.snd.snd.snd.1, r.snd.snd.snd.snd.snd.1,
                              r.snd.snd.snd.snd.snd.snd.1, r.snd.snd.snd.snd.snd.snd.snd.1))))))
    (some
      (LRes.out, x.1,
        (x.snd.fst.1, x.snd.fst.snd.1, x.snd.fst.snd.snd.1, x.snd.fst.snd.snd.snd.1, x.snd.fst.snd.snd.snd.2),
        x.snd.snd.1, x.snd.snd.snd.1, x.snd.snd.snd.snd.1, x.snd.snd.snd.snd.snd.1, x.snd.snd.snd.snd.snd.2))
def leftL_fuel : Bool × (Int × Int × Int × Int × List ((ByteArray × (Int × Int) × Int × Int))) × List (Int) × Int × Int × Int × Int → Nat := fun s => (s.2.2.2.2.1 - s.2.2.2.2.2.2).toNat + 1
def leftL : Bool × (Int × Int × Int × Int × List ((ByteArray × (Int × Int) × Int × Int))) × List (Int) × Int × Int × Int × Int → Option (Bool × (Bool × (Int × Int × Int × Int × List ((ByteArray × (Int × Int) × Int × Int))) × List (Int) × Int × Int × Int × Int)) := fun s => iter leftL_step (leftL_fuel s) s
def leftL_L : LoopC := ⟨leftL_vars, 0, .two leftL⟩
noncomputable def leftL_key : Nat := key (loopAt Try.f7 0)
theorem leftL_stepok (x : leftL_vars.den) : stepOf (mkEnv [(18, crossL_con)] [(leftN_key, leftN_L)]) Try.f7.ntmps leftL_vars 0 (loopAt Try.f7 0) x = leftL_step x := by kernel_rfl
theorem leftL_ok : LoopOK Try.prog Try.f7.ntmps leftL_L (loopAt Try.f7 0)   := iter_loop (n := Try.f7.ntmps) (vs := leftL_vars) (out := 0) (body := loopAt Try.f7 0) (mkEnv_ok (cons := [(18, crossL_con)]) ⟨crossL_ok, trivial⟩ [(leftN_key, leftN_L)]) leftL_step leftL_fuel (by exact ⟨leftN_ok, trivial⟩) leftL_stepok

def fnHulls : List (Int) → Option (Bool) :=
fun x =>
  ob (f6big x) fun y =>
    br y (some true)
      (ob (drawHullS x) fun y =>
        ob (hullOfI (y.1, y.snd.1, y.snd.snd.1, y.snd.snd.snd.1, y.snd.snd.snd.2)) fun y_1 =>
          ob (hullOfS (y.1, y.snd.1, y.snd.snd.1, y.snd.snd.snd.1, y.snd.snd.snd.2)) fun y_2 =>
            ob (areaI (y.1, y.snd.1, y.snd.snd.1, y.snd.snd.snd.1, y.snd.snd.snd.2)) fun y_3 =>
              ob (areaS (y.1, y.snd.1, y.snd.snd.1, y.snd.snd.snd.1, y.snd.snd.snd.2)) fun y_4 =>
                br (y_1.2 != y_2.2) (some false)
                  (br (y_3.2 != y_2.2) (some false)
                    (ob (f6same (y_1.1, y_2.1)) fun y_5 =>
                      br (!y_5) (some false)
                        (br (y_3.1 != y_4.1) (some false)
                          (br (y_1.2 != (0 : Int)) (some true)
                            (ob
                              (leftL
                                (false, (y.1, y.snd.1, y.snd.snd.1, y.snd.snd.snd.1, y.snd.snd.snd.2), y_2.1, y_3.1,
                                  (↑(List.length y_2.1) : Int), (0 : Int), (0 : Int)))
                              fun r =>
                              br r.1
                                (ob
                                  (turnPI
                                    (r.snd.snd.fst.1, r.snd.snd.fst.snd.1, r.snd.snd.fst.snd.snd.1,
                                      r.snd.snd.fst.snd.snd.snd.1, r.snd.snd.fst.snd.snd.snd.2))
                                  fun y =>
                                  ob
                                    (areaI
                                      (y.fst.1, y.fst.snd.1, y.fst.snd.snd.1, y.fst.snd.snd.snd.1, y.fst.snd.snd.snd.2))
                                    fun y_6 =>
                                    br (y.2 == (0 : Int))
                                      (br (y_6.2 == (0 : Int))
                                        (br (y_6.1 == r.snd.snd.snd.snd.1)
                                          (some (r.snd.snd.snd.snd.1 == r.snd.snd.snd.snd.snd.snd.1)) (some false))
                                        (some false))
                                      (some false))
                                (some r.snd.1)))))))
def fnHulls_con : Con := ⟨[.slice (.int .u8)], [.d (.bool)], fnHulls⟩
theorem fnHulls_run (x : Dens [.slice (.int .u8)]) : runFn (mkEnv [(13, f6big_con), (35, drawHullS_con), (36, hullOfI_con), (37, hullOfS_con), (11, areaI_con), (9, areaS_con), (23, f6same_con), (27, turnPI_con), (18, crossL_con)] [(leftL_key, leftL_L)]) Try.f7 [.slice (.int .u8)] [.d (.bool)] x = fnHulls x := by kernel_rfl
theorem fnHulls_ok : fnHulls_con.ok Try.prog 7 := fn_ok (con := fnHulls_con) (mkEnv_ok (cons := [(13, f6big_con), (35, drawHullS_con), (36, hullOfI_con), (37, hullOfS_con), (11, areaI_con), (9, areaS_con), (23, f6same_con), (27, turnPI_con), (18, crossL_con)]) ⟨f6big_ok, drawHullS_ok, hullOfI_ok, hullOfS_ok, areaI_ok, areaS_ok, f6same_ok, turnPI_ok, crossL_ok, trivial⟩ [(leftL_key, leftL_L)]) Try.func7 rfl (by kernel_rfl) (by exact ⟨leftL_ok, trivial⟩) (fun x y h => (fnHulls_run x).trans h)

end
end Rx
end Go.Proofs.Ytckbhfbcblehmaa
