/- What the functions of RxFnClash come to, and their contracts. No conditions. -/
import Derived.Test.YtckbhfbcblehmaaRxEnv
import Derived.Test.YtckbhfbcblehmaaRxFnPlates
import Derived.Test.YtckbhfbcblehmaaRxClear
namespace Go.Proofs.Ytckbhfbcblehmaa
namespace Rx
open Go

noncomputable section
def clashIN_vars : Vars := [(1, .box 0 30 (.pair (i64) (.pair (i64) (.pair (i64) (.pair (i64) (.slice (.pair (.str) (.pair (.pair (i64) (i64)) (.pair (i64) (i64)))))))))), (4, .row 0 85 (.pair (i64) (i64))), (5, .val (i64)), (6, .box 0 59 (.pair (.str) (.pair (.pair (i64) (i64)) (.pair (i64) (i64))))), (13, .val (.slice (.pair (.str) (.pair (.pair (i64) (i64)) (.pair (i64) (i64)))))), (14, .val (i64)), (15, .val (i64)), (21, .val (.slice (.pair (.str) (.pair (.pair (i64) (i64)) (.pair (i64) (i64)))))), (22, .val (i64)), (23, .val (i64))]
def clashIN_step : (Int × Int × Int × Int × List ((ByteArray × (Int × Int) × Int × Int))) × List ((Int × Int)) × Int × (ByteArray × (Int × Int) × Int × Int) × List ((ByteArray × (Int × Int) × Int × Int)) × Int × Int × List ((ByteArray × (Int × Int) × Int × Int)) × Int × Int → Option (LRes × ((Int × Int × Int × Int × List ((ByteArray × (Int × Int) × Int × Int))) × List ((Int × Int)) × Int × (ByteArray × (Int × Int) × Int × Int) × List ((ByteArray × (Int × Int) × Int × Int)) × Int × Int × List ((ByteArray × (Int × Int) × Int × Int)) × Int × Int)) :=
fun x =>
  br (decide (x.snd.snd.snd.snd.snd.snd.snd.snd.2 < x.snd.snd.snd.snd.snd.snd.snd.snd.1))
    (ob (idx x.snd.snd.snd.snd.snd.snd.snd.1 x.snd.snd.snd.snd.snd.snd.snd.snd.2) fun y =>
      br (x.snd.snd.1 != x.snd.snd.snd.snd.snd.snd.snd.snd.2)
        (ob
          (clearI
            ((x.snd.snd.snd.fst.1, (x.snd.snd.snd.fst.snd.fst.1, x.snd.snd.snd.fst.snd.fst.2),
                x.snd.snd.snd.fst.snd.snd.1, x.snd.snd.snd.fst.snd.snd.2),
              y.1, (y.snd.fst.1, y.snd.fst.2), y.snd.snd.1, y.snd.snd.2))
          fun y =>
          br (decide (y < x.fst.snd.snd.snd.1))
            (br
              (decide
                (List.length x.snd.1 + [(x.snd.snd.1, x.snd.snd.snd.snd.snd.snd.snd.snd.2)].length ≤
                  (4294967296 : Nat)))
              (some
                (LRes.next, (x.fst.1, x.fst.snd.1, x.fst.snd.snd.1, x.fst.snd.snd.snd.1, x.fst.snd.snd.snd.2),
                  x.snd.1 ++ [(x.snd.snd.1, x.snd.snd.snd.snd.snd.snd.snd.snd.2)], x.snd.snd.1,
                  (x.snd.snd.snd.fst.1, (x.snd.snd.snd.fst.snd.fst.1, x.snd.snd.snd.fst.snd.fst.2),
                    x.snd.snd.snd.fst.snd.snd.1, x.snd.snd.snd.fst.snd.snd.2),
                  x.snd.snd.snd.snd.1, x.snd.snd.snd.snd.snd.1, x.snd.snd.snd.snd.snd.snd.1,
                  x.snd.snd.snd.snd.snd.snd.snd.1, x.snd.snd.snd.snd.snd.snd.snd.snd.1,
                  IntKind.i64.wrap (x.snd.snd.snd.snd.snd.snd.snd.snd.2 + (1 : Int))))
              none)
            (some
              (LRes.next, (x.fst.1, x.fst.snd.1, x.fst.snd.snd.1, x.fst.snd.snd.snd.1, x.fst.snd.snd.snd.2), x.snd.1,
                x.snd.snd.1,
                (x.snd.snd.snd.fst.1, (x.snd.snd.snd.fst.snd.fst.1, x.snd.snd.snd.fst.snd.fst.2),
                  x.snd.snd.snd.fst.snd.snd.1, x.snd.snd.snd.fst.snd.snd.2),
                x.snd.snd.snd.snd.1, x.snd.snd.snd.snd.snd.1, x.snd.snd.snd.snd.snd.snd.1,
                x.snd.snd.snd.snd.snd.snd.snd.1, x.snd.snd.snd.snd.snd.snd.snd.snd.1,
                IntKind.i64.wrap (x.snd.snd.snd.snd.snd.snd.snd.snd.2 + (1 : Int)))))
        (some
          (LRes.next, (x.fst.1, x.fst.snd.1, x.fst.snd.snd.1, x.fst.snd.snd.snd.1, x.fst.snd.snd.snd.2), x.snd.1,
            x.snd.snd.1,
            (x.snd.snd.snd.fst.1, (x.snd.snd.snd.fst.snd.fst.1, x.snd.snd.snd.fst.snd.fst.2),
              x.snd.snd.snd.fst.snd.snd.1, x.snd.snd.snd.fst.snd.snd.2),
            x.snd.snd.snd.snd.1, x.snd.snd.snd.snd.snd.1, x.snd.snd.snd.snd.snd.snd.1, x.snd.snd.snd.snd.snd.snd.snd.1,
            x.snd.snd.snd.snd.snd.snd.snd.snd.1, IntKind.i64.wrap (x.snd.snd.snd.snd.snd.snd.snd.snd.2 + (1 : Int)))))
    (some
      (LRes.out, (x.fst.1, x.fst.snd.1, x.fst.snd.snd.1, x.fst.snd.snd.snd.1, x.fst.snd.snd.snd.2), x.snd.1,
        x.snd.snd.1,
        (x.snd.snd.snd.fst.1, (x.snd.snd.snd.fst.snd.fst.1, x.snd.snd.snd.fst.snd.fst.2), x.snd.snd.snd.fst.snd.snd.1,
          x.snd.snd.snd.fst.snd.snd.2),
        x.snd.snd.snd.snd.1, x.snd.snd.snd.snd.snd.1, x.snd.snd.snd.snd.snd.snd.1, x.snd.snd.snd.snd.snd.snd.snd.1,
        x.snd.snd.snd.snd.snd.snd.snd.snd.1, x.snd.snd.snd.snd.snd.snd.snd.snd.2))
def clashIN_fuel : (Int × Int × Int × Int × List ((ByteArray × (Int × Int) × Int × Int))) × List ((Int × Int)) × Int × (ByteArray × (Int × Int) × Int × Int) × List ((ByteArray × (Int × Int) × Int × Int)) × Int × Int × List ((ByteArray × (Int × Int) × Int × Int)) × Int × Int → Nat := fun s => (s.2.2.2.2.2.2.2.2.1 - s.2.2.2.2.2.2.2.2.2).toNat + 1
def clashIN : (Int × Int × Int × Int × List ((ByteArray × (Int × Int) × Int × Int))) × List ((Int × Int)) × Int × (ByteArray × (Int × Int) × Int × Int) × List ((ByteArray × (Int × Int) × Int × Int)) × Int × Int × List ((ByteArray × (Int × Int) × Int × Int)) × Int × Int → Option ((Int × Int × Int × Int × List ((ByteArray × (Int × Int) × Int × Int))) × List ((Int × Int)) × Int × (ByteArray × (Int × Int) × Int × Int) × List ((ByteArray × (Int × Int) × Int × Int)) × Int × Int × List ((ByteArray × (Int × Int) × Int × Int)) × Int × Int) := fun s => iterP clashIN_step (clashIN_fuel s) s
def clashIN_L : LoopC := ⟨clashIN_vars, 2, .plain clashIN⟩
noncomputable def clashIN_key : Nat := key (loopIn (loopAt Try.f31 0) 0)
theorem clashIN_stepok (x : clashIN_vars.den) : stepOf (mkEnv [(69, clearI_con)] []) Try.f31.ntmps clashIN_vars 2 (loopIn (loopAt Try.f31 0) 0) x = clashIN_step x := by kernel_rfl
theorem clashIN_ok : LoopOK Try.prog Try.f31.ntmps clashIN_L (loopIn (loopAt Try.f31 0) 0)   := iterP_loop (n := Try.f31.ntmps) (vs := clashIN_vars) (out := 2) (body := loopIn (loopAt Try.f31 0) 0) (mkEnv_ok (cons := [(69, clearI_con)]) ⟨clearI_ok, trivial⟩ []) clashIN_step clashIN_fuel (by exact trivial) clashIN_stepok

def clashIL_vars : Vars := [(1, .box 0 30 (.pair (i64) (.pair (i64) (.pair (i64) (.pair (i64) (.slice (.pair (.str) (.pair (.pair (i64) (i64)) (.pair (i64) (i64)))))))))), (4, .row 0 85 (.pair (i64) (i64))), (13, .val (.slice (.pair (.str) (.pair (.pair (i64) (i64)) (.pair (i64) (i64)))))), (14, .val (i64)), (15, .val (i64))]
def clashIL_step : (Int × Int × Int × Int × List ((ByteArray × (Int × Int) × Int × Int))) × List ((Int × Int)) × List ((ByteArray × (Int × Int) × Int × Int)) × Int × Int → Option (LRes × ((Int × Int × Int × Int × List ((ByteArray × (Int × Int) × Int × Int))) × List ((Int × Int)) × List ((ByteArray × (Int × Int) × Int × Int)) × Int × Int)) :=
fun x =>
  br (decide (x.snd.snd.snd.2 < x.snd.snd.snd.1))
    (ob (idx x.snd.snd.1 x.snd.snd.snd.2) fun y =>
      ob
        (clashIN
          ((x.fst.1, x.fst.snd.1, x.fst.snd.snd.1, x.fst.snd.snd.snd.1, x.fst.snd.snd.snd.2), x.snd.1, x.snd.snd.snd.2,
            (y.1, (y.snd.fst.1, y.snd.fst.2), y.snd.snd.1, y.snd.snd.2), x.snd.snd.1, x.snd.snd.snd.1, x.snd.snd.snd.2,
            x.fst.snd.snd.snd.2, (↑(List.length x.fst.snd.snd.snd.2) : Int), (0 : Int)))
        fun r =>
        some
          (LRes.next, (r.fst.1, r.fst.snd.1, r.fst.snd.snd.1, r.fst.snd.snd.snd.1, r.fst.snd.snd.snd.2), r.snd.1,
            r.snd.snd.snd.snd.1, r.snd.snd.snd.snd.snd.1, IntKind.i64.wrap (r.snd.snd.snd.snd.snd.snd.1 + (1 : Int))))
    (some
      (LRes.out, (x.fst.1, x.fst.snd.1, x.fst.snd.snd.1, x.fst.snd.snd.snd.1, x.fst.snd.snd.snd.2), x.snd.1,
        x.snd.snd.1, x.snd.snd.snd.1, x.snd.snd.snd.2))
def clashIL_fuel : (Int × Int × Int × Int × List ((ByteArray × (Int × Int) × Int × Int))) × List ((Int × Int)) × List ((ByteArray × (Int × Int) × Int × Int)) × Int × Int → Nat := fun s => (s.2.2.2.1 - s.2.2.2.2).toNat + 1
def clashIL : (Int × Int × Int × Int × List ((ByteArray × (Int × Int) × Int × Int))) × List ((Int × Int)) × List ((ByteArray × (Int × Int) × Int × Int)) × Int × Int → Option ((Int × Int × Int × Int × List ((ByteArray × (Int × Int) × Int × Int))) × List ((Int × Int)) × List ((ByteArray × (Int × Int) × Int × Int)) × Int × Int) := fun s => iterP clashIL_step (clashIL_fuel s) s
def clashIL_L : LoopC := ⟨clashIL_vars, 0, .plain clashIL⟩
noncomputable def clashIL_key : Nat := key (loopAt Try.f31 0)
theorem clashIL_stepok (x : clashIL_vars.den) : stepOf (mkEnv [] [(clashIN_key, clashIN_L)]) Try.f31.ntmps clashIL_vars 0 (loopAt Try.f31 0) x = clashIL_step x := by kernel_rfl
theorem clashIL_ok : LoopOK Try.prog Try.f31.ntmps clashIL_L (loopAt Try.f31 0)   := iterP_loop (n := Try.f31.ntmps) (vs := clashIL_vars) (out := 0) (body := loopAt Try.f31 0) (mkEnv_ok (cons := []) trivial [(clashIN_key, clashIN_L)]) clashIL_step clashIL_fuel (by exact ⟨clashIN_ok, trivial⟩) clashIL_stepok

def clashI : (Int × Int × Int × Int × List ((ByteArray × (Int × Int) × Int × Int))) → Option (List ((Int × Int)) × Int) :=
fun x =>
  ob (validPlateI (x.1, x.snd.1, x.snd.snd.1, x.snd.snd.snd.1, x.snd.snd.snd.2)) fun y =>
    br (!y) (some ([], (1 : Int)))
      (ob
        (clashIL
          ((x.1, x.snd.1, x.snd.snd.1, x.snd.snd.snd.1, x.snd.snd.snd.2), [], x.snd.snd.snd.2,
            (↑(List.length x.snd.snd.snd.2) : Int), (0 : Int)))
        fun r => some (r.snd.1, (0 : Int)))
def clashI_con : Con := ⟨[.pair (i64) (.pair (i64) (.pair (i64) (.pair (i64) (.slice (.pair (.str) (.pair (.pair (i64) (i64)) (.pair (i64) (i64))))))))], [.row 85 (.pair (i64) (i64)), .d (i64)], clashI⟩
theorem clashI_run (x : Dens [.pair (i64) (.pair (i64) (.pair (i64) (.pair (i64) (.slice (.pair (.str) (.pair (.pair (i64) (i64)) (.pair (i64) (i64))))))))]) : runFn (mkEnv [(24, validPlateI_con)] [(clashIL_key, clashIL_L)]) Try.f31 [.pair (i64) (.pair (i64) (.pair (i64) (.pair (i64) (.slice (.pair (.str) (.pair (.pair (i64) (i64)) (.pair (i64) (i64))))))))] [.row 85 (.pair (i64) (i64)), .d (i64)] x = clashI x := by kernel_rfl
theorem clashI_ok : clashI_con.ok Try.prog 31 := fn_ok (con := clashI_con) (mkEnv_ok (cons := [(24, validPlateI_con)]) ⟨validPlateI_ok, trivial⟩ [(clashIL_key, clashIL_L)]) Try.func31 rfl (by kernel_rfl) (by exact ⟨clashIL_ok, trivial⟩) (fun x y h => (clashI_run x).trans h)

def clashSN_vars : Vars := [(1, .box 0 30 (.pair (i64) (.pair (i64) (.pair (i64) (.pair (i64) (.slice (.pair (.str) (.pair (.pair (i64) (i64)) (.pair (i64) (i64)))))))))), (4, .row 0 85 (.pair (i64) (i64))), (5, .val (i64)), (6, .val (i64))]
def clashSN_step : (Int × Int × Int × Int × List ((ByteArray × (Int × Int) × Int × Int))) × List ((Int × Int)) × Int × Int → Option (LRes × ((Int × Int × Int × Int × List ((ByteArray × (Int × Int) × Int × Int))) × List ((Int × Int)) × Int × Int)) :=
fun x =>
  br (decide (x.snd.snd.2 < (↑(List.length x.fst.snd.snd.snd.2) : Int)))
    (br (x.snd.snd.1 != x.snd.snd.2)
      (ob
        (clearS
          ((x.fst.1, x.fst.snd.1, x.fst.snd.snd.1, x.fst.snd.snd.snd.1, x.fst.snd.snd.snd.2), x.snd.snd.1, x.snd.snd.2))
        fun y =>
        br (decide (y < x.fst.snd.snd.snd.1))
          (br (decide (List.length x.snd.1 + [(x.snd.snd.1, x.snd.snd.2)].length ≤ (4294967296 : Nat)))
            (some
              (LRes.next, (x.fst.1, x.fst.snd.1, x.fst.snd.snd.1, x.fst.snd.snd.snd.1, x.fst.snd.snd.snd.2),
                x.snd.1 ++ [(x.snd.snd.1, x.snd.snd.2)], x.snd.snd.1, IntKind.i64.wrap (x.snd.snd.2 + (1 : Int))))
            none)
          (some
            (LRes.next, (x.fst.1, x.fst.snd.1, x.fst.snd.snd.1, x.fst.snd.snd.snd.1, x.fst.snd.snd.snd.2), x.snd.1,
              x.snd.snd.1, IntKind.i64.wrap (x.snd.snd.2 + (1 : Int)))))
      (some
        (LRes.next, (x.fst.1, x.fst.snd.1, x.fst.snd.snd.1, x.fst.snd.snd.snd.1, x.fst.snd.snd.snd.2), x.snd.1,
          x.snd.snd.1, IntKind.i64.wrap (x.snd.snd.2 + (1 : Int)))))
    (some
      (LRes.out, (x.fst.1, x.fst.snd.1, x.fst.snd.snd.1, x.fst.snd.snd.snd.1, x.fst.snd.snd.snd.2), x.snd.1,
        x.snd.snd.1, x.snd.snd.2))
def clashSN_fuel : (Int × Int × Int × Int × List ((ByteArray × (Int × Int) × Int × Int))) × List ((Int × Int)) × Int × Int → Nat := fun s => (s.1.2.2.2.2.length - s.2.2.2.toNat) + 1
def clashSN : (Int × Int × Int × Int × List ((ByteArray × (Int × Int) × Int × Int))) × List ((Int × Int)) × Int × Int → Option ((Int × Int × Int × Int × List ((ByteArray × (Int × Int) × Int × Int))) × List ((Int × Int)) × Int × Int) := fun s => iterP clashSN_step (clashSN_fuel s) s
def clashSN_L : LoopC := ⟨clashSN_vars, 2, .plain clashSN⟩
noncomputable def clashSN_key : Nat := key (loopIn (loopAt Try.f32 0) 0)
theorem clashSN_stepok (x : clashSN_vars.den) : stepOf (mkEnv [(70, clearS_con)] []) Try.f32.ntmps clashSN_vars 2 (loopIn (loopAt Try.f32 0) 0) x = clashSN_step x := by kernel_rfl
theorem clashSN_ok : LoopOK Try.prog Try.f32.ntmps clashSN_L (loopIn (loopAt Try.f32 0) 0)   := iterP_loop (n := Try.f32.ntmps) (vs := clashSN_vars) (out := 2) (body := loopIn (loopAt Try.f32 0) 0) (mkEnv_ok (cons := [(70, clearS_con)]) ⟨clearS_ok, trivial⟩ []) clashSN_step clashSN_fuel (by exact trivial) clashSN_stepok

def clashSL_vars : Vars := [(1, .box 0 30 (.pair (i64) (.pair (i64) (.pair (i64) (.pair (i64) (.slice (.pair (.str) (.pair (.pair (i64) (i64)) (.pair (i64) (i64)))))))))), (4, .row 0 85 (.pair (i64) (i64))), (5, .val (i64))]
def clashSL_step : (Int × Int × Int × Int × List ((ByteArray × (Int × Int) × Int × Int))) × List ((Int × Int)) × Int → Option (LRes × ((Int × Int × Int × Int × List ((ByteArray × (Int × Int) × Int × Int))) × List ((Int × Int)) × Int)) :=
fun x =>
  br (decide (x.snd.2 < (↑(List.length x.fst.snd.snd.snd.2) : Int)))
    (ob
      (clashSN
        ((x.fst.1, x.fst.snd.1, x.fst.snd.snd.1, x.fst.snd.snd.snd.1, x.fst.snd.snd.snd.2), x.snd.1, x.snd.2,
          (0 : Int)))
      fun r =>
      some
        (LRes.next, (r.fst.1, r.fst.snd.1, r.fst.snd.snd.1, r.fst.snd.snd.snd.1, r.fst.snd.snd.snd.2), r.snd.1,
          IntKind.i64.wrap (r.snd.snd.1 + (1 : Int))))
    (some
      (LRes.out, (x.fst.1, x.fst.snd.1, x.fst.snd.snd.1, x.fst.snd.snd.snd.1, x.fst.snd.snd.snd.2), x.snd.1, x.snd.2))
def clashSL_fuel : (Int × Int × Int × Int × List ((ByteArray × (Int × Int) × Int × Int))) × List ((Int × Int)) × Int → Nat := fun s => (s.1.2.2.2.2.length - s.2.2.toNat) + 1
def clashSL : (Int × Int × Int × Int × List ((ByteArray × (Int × Int) × Int × Int))) × List ((Int × Int)) × Int → Option ((Int × Int × Int × Int × List ((ByteArray × (Int × Int) × Int × Int))) × List ((Int × Int)) × Int) := fun s => iterP clashSL_step (clashSL_fuel s) s
def clashSL_L : LoopC := ⟨clashSL_vars, 0, .plain clashSL⟩
noncomputable def clashSL_key : Nat := key (loopAt Try.f32 0)
theorem clashSL_stepok (x : clashSL_vars.den) : stepOf (mkEnv [] [(clashSN_key, clashSN_L)]) Try.f32.ntmps clashSL_vars 0 (loopAt Try.f32 0) x = clashSL_step x := by kernel_rfl
theorem clashSL_ok : LoopOK Try.prog Try.f32.ntmps clashSL_L (loopAt Try.f32 0)   := iterP_loop (n := Try.f32.ntmps) (vs := clashSL_vars) (out := 0) (body := loopAt Try.f32 0) (mkEnv_ok (cons := []) trivial [(clashSN_key, clashSN_L)]) clashSL_step clashSL_fuel (by exact ⟨clashSN_ok, trivial⟩) clashSL_stepok

def clashS : (Int × Int × Int × Int × List ((ByteArray × (Int × Int) × Int × Int))) → Option (List ((Int × Int)) × Int) :=
fun x =>
  ob (okPlateS (x.1, x.snd.1, x.snd.snd.1, x.snd.snd.snd.1, x.snd.snd.snd.2)) fun y =>
    br (!y) (some ([], (1 : Int)))
      (ob (clashSL ((x.1, x.snd.1, x.snd.snd.1, x.snd.snd.snd.1, x.snd.snd.snd.2), [], (0 : Int))) fun r =>
        some (r.snd.1, (0 : Int)))
def clashS_con : Con := ⟨[.pair (i64) (.pair (i64) (.pair (i64) (.pair (i64) (.slice (.pair (.str) (.pair (.pair (i64) (i64)) (.pair (i64) (i64))))))))], [.row 85 (.pair (i64) (i64)), .d (i64)], clashS⟩
theorem clashS_run (x : Dens [.pair (i64) (.pair (i64) (.pair (i64) (.pair (i64) (.slice (.pair (.str) (.pair (.pair (i64) (i64)) (.pair (i64) (i64))))))))]) : runFn (mkEnv [(39, okPlateS_con)] [(clashSL_key, clashSL_L)]) Try.f32 [.pair (i64) (.pair (i64) (.pair (i64) (.pair (i64) (.slice (.pair (.str) (.pair (.pair (i64) (i64)) (.pair (i64) (i64))))))))] [.row 85 (.pair (i64) (i64)), .d (i64)] x = clashS x := by kernel_rfl
theorem clashS_ok : clashS_con.ok Try.prog 32 := fn_ok (con := clashS_con) (mkEnv_ok (cons := [(39, okPlateS_con)]) ⟨okPlateS_ok, trivial⟩ [(clashSL_key, clashSL_L)]) Try.func32 rfl (by kernel_rfl) (by exact ⟨clashSL_ok, trivial⟩) (fun x y h => (clashS_run x).trans h)

def f6clashL_vars : Vars := [(0, .val (.slice (.pair (i64) (i64)))), (1, .val (.slice (.pair (i64) (i64)))), (4, .val (.bool)), (5, .val (i64))]
def f6clashL_step : List ((Int × Int)) × List ((Int × Int)) × Bool × Int → Option (LRes × (List ((Int × Int)) × List ((Int × Int)) × Bool × Int)) :=
fun x =>
  br (decide (x.snd.snd.2 < (↑x.1.length : Int)))
    (ob (idx x.1 x.snd.snd.2) fun y =>
      ob (idx x.snd.1 x.snd.snd.2) fun y_1 =>
        br (!(y.1 == y_1.1 && y.2 == y_1.2)) (some (LRes.ret, x.1, x.snd.1, false, x.snd.snd.2))
          (some (LRes.next, x.1, x.snd.1, x.snd.snd.1, IntKind.i64.wrap (x.snd.snd.2 + (1 : Int)))))
    (some (LRes.out, x.1, x.snd.1, x.snd.snd.1, x.snd.snd.2))
def f6clashL_fuel : List ((Int × Int)) × List ((Int × Int)) × Bool × Int → Nat := fun s => (s.1.length - s.2.2.2.toNat) + 1
def f6clashL : List ((Int × Int)) × List ((Int × Int)) × Bool × Int → Option (Bool × (List ((Int × Int)) × List ((Int × Int)) × Bool × Int)) := fun s => iter f6clashL_step (f6clashL_fuel s) s
def f6clashL_L : LoopC := ⟨f6clashL_vars, 0, .two f6clashL⟩
noncomputable def f6clashL_key : Nat := key (loopAt Try.f33 0)
theorem f6clashL_stepok (x : f6clashL_vars.den) : stepOf (mkEnv [] []) Try.f33.ntmps f6clashL_vars 0 (loopAt Try.f33 0) x = f6clashL_step x := by kernel_rfl
theorem f6clashL_ok : LoopOK Try.prog Try.f33.ntmps f6clashL_L (loopAt Try.f33 0)   := iter_loop (n := Try.f33.ntmps) (vs := f6clashL_vars) (out := 0) (body := loopAt Try.f33 0) (mkEnv_ok (cons := []) trivial []) f6clashL_step f6clashL_fuel (by exact trivial) f6clashL_stepok

def f6clash : List ((Int × Int)) × List ((Int × Int)) → Option (Bool) :=
fun x =>
  br ((↑x.1.length : Int) != (↑x.2.length : Int)) (some false)
    (ob (f6clashL (x.1, x.2, false, (0 : Int))) fun r => br r.1 (some true) (some r.snd.snd.snd.1))
def f6clash_con : Con := ⟨[.slice (.pair (i64) (i64)), .slice (.pair (i64) (i64))], [.d (.bool)], f6clash⟩
theorem f6clash_run (x : Dens [.slice (.pair (i64) (i64)), .slice (.pair (i64) (i64))]) : runFn (mkEnv [] [(f6clashL_key, f6clashL_L)]) Try.f33 [.slice (.pair (i64) (i64)), .slice (.pair (i64) (i64))] [.d (.bool)] x = f6clash x := by kernel_rfl
theorem f6clash_ok : f6clash_con.ok Try.prog 33 := fn_ok (con := f6clash_con) (mkEnv_ok (cons := []) trivial [(f6clashL_key, f6clashL_L)]) Try.func33 rfl (by kernel_rfl) (by exact ⟨f6clashL_ok, trivial⟩) (fun x y h => (f6clash_run x).trans h)

def countN_vars : Vars := [(2, .val (.bool)), (3, .boxR 30 (.pair (.d (i64)) (.pair (.d (i64)) (.pair (.d (i64)) (.pair (.d (i64)) (.row 59 (.pair (.str) (.pair (.pair (i64) (i64)) (.pair (i64) (i64)))))))))), (4, .row 0 85 (.pair (i64) (i64))), (16, .val (i64)), (17, .val (i64)), (18, .val (i64))]
def countN_step : Bool × (Int × Int × Int × Int × List ((ByteArray × (Int × Int) × Int × Int))) × List ((Int × Int)) × Int × Int × Int → Option (LRes × (Bool × (Int × Int × Int × Int × List ((ByteArray × (Int × Int) × Int × Int))) × List ((Int × Int)) × Int × Int × Int)) :=
fun x =>
  br (decide (x.snd.snd.snd.snd.2 < (↑(List.length x.snd.fst.snd.snd.snd.2) : Int)))
    (ob
      (betweenI
        ((x.snd.fst.1, x.snd.fst.snd.1, x.snd.fst.snd.snd.1, x.snd.fst.snd.snd.snd.1, x.snd.fst.snd.snd.snd.2),
          x.snd.snd.snd.snd.1, x.snd.snd.snd.snd.2))
      fun y =>
      br (!(y.2 == (0 : Int)) == (x.snd.snd.snd.snd.1 != x.snd.snd.snd.snd.2))
        (some
          (LRes.ret, false,
            (x.snd.fst.1, x.snd.fst.snd.1, x.snd.fst.snd.snd.1, x.snd.fst.snd.snd.snd.1, x.snd.fst.snd.snd.snd.2),
            x.snd.snd.1, x.snd.snd.snd.1, x.snd.snd.snd.snd.1, x.snd.snd.snd.snd.2))
        (br (y.2 == (0 : Int))
          (br (decide (y.1 < x.snd.fst.snd.snd.snd.1))
            (some
              (LRes.next, x.1,
                (x.snd.fst.1, x.snd.fst.snd.1, x.snd.fst.snd.snd.1, x.snd.fst.snd.snd.snd.1, x.snd.fst.snd.snd.snd.2),
                x.snd.snd.1, IntKind.i64.wrap (x.snd.snd.snd.1 + (1 : Int)), x.snd.snd.snd.snd.1,
                IntKind.i64.wrap (x.snd.snd.snd.snd.2 + (1 : Int))))
            (some
              (LRes.next, x.1,
                (x.snd.fst.1, x.snd.fst.snd.1, x.snd.fst.snd.snd.1, x.snd.fst.snd.snd.snd.1, x.snd.fst.snd.snd.snd.2),
                x.snd.snd.1, x.snd.snd.snd.1, x.snd.snd.snd.snd.1, IntKind.i64.wrap (x.snd.snd.snd.snd.2 + (1 : Int)))))
          (some
            (LRes.next, x.1,
              (x.snd.fst.1, x.snd.fst.snd.1, x.snd.fst.snd.snd.1, x.snd.fst.snd.snd.snd.1, x.snd.fst.snd.snd.snd.2),
              x.snd.snd.1, x.snd.snd.snd.1, x.snd.snd.snd.snd.1, IntKind.i64.wrap (x.snd.snd.snd.snd.2 + (1 : Int))))))
    (some
      (LRes.out, x.1,
        (x.snd.fst.1, x.snd.fst.snd.1, x.snd.fst.snd.snd.1, x.snd.fst.snd.snd.snd.1, x.snd.fst.snd.snd.snd.2),
        x.snd.snd.1, x.snd.snd.snd.1, x.snd.snd.snd.snd.1, x.snd.snd.snd.snd.2))
def countN_fuel : Bool × (Int × Int × Int × Int × List ((ByteArray × (Int × Int) × Int × Int))) × List ((Int × Int)) × Int × Int × Int → Nat := fun s => (s.2.1.2.2.2.2.length - s.2.2.2.2.2.toNat) + 1
def countN : Bool × (Int × Int × Int × Int × List ((ByteArray × (Int × Int) × Int × Int))) × List ((Int × Int)) × Int × Int × Int → Option (Bool × (Bool × (Int × Int × Int × Int × List ((ByteArray × (Int × Int) × Int × Int))) × List ((Int × Int)) × Int × Int × Int)) := fun s => iter countN_step (countN_fuel s) s
def countN_L : LoopC := ⟨countN_vars, 2, .two countN⟩
noncomputable def countN_key : Nat := key (loopIn (loopAt Try.f6 0) 0)
theorem countN_stepok (x : countN_vars.den) : stepOf (mkEnv [(34, betweenI_con)] []) Try.f6.ntmps countN_vars 2 (loopIn (loopAt Try.f6 0) 0) x = countN_step x := by kernel_rfl
theorem countN_ok : LoopOK Try.prog Try.f6.ntmps countN_L (loopIn (loopAt Try.f6 0) 0)   := iter_loop (n := Try.f6.ntmps) (vs := countN_vars) (out := 2) (body := loopIn (loopAt Try.f6 0) 0) (mkEnv_ok (cons := [(34, betweenI_con)]) ⟨betweenI_ok, trivial⟩ []) countN_step countN_fuel (by exact trivial) countN_stepok

def countL_vars : Vars := [(2, .val (.bool)), (3, .boxR 30 (.pair (.d (i64)) (.pair (.d (i64)) (.pair (.d (i64)) (.pair (.d (i64)) (.row 59 (.pair (.str) (.pair (.pair (i64) (i64)) (.pair (i64) (i64)))))))))), (4, .row 0 85 (.pair (i64) (i64))), (16, .val (i64)), (17, .val (i64))]
def countL_step : Bool × (Int × Int × Int × Int × List ((ByteArray × (Int × Int) × Int × Int))) × List ((Int × Int)) × Int × Int → Option (LRes × (Bool × (Int × Int × Int × Int × List ((ByteArray × (Int × Int) × Int × Int))) × List ((Int × Int)) × Int × Int)) :=
fun x =>
  br (decide (x.snd.snd.snd.2 < (↑(List.length x.snd.fst.snd.snd.snd.2) : Int)))
    (ob
      (countN
        (x.1, (x.snd.fst.1, x.snd.fst.snd.1, x.snd.fst.snd.snd.1, x.snd.fst.snd.snd.snd.1, x.snd.fst.snd.snd.snd.2),
          x.snd.snd.1, x.snd.snd.snd.1, x.snd.snd.snd.2, (0 : Int)))
      fun r =>
      br r.1
        (some
          (LRes.next, r.snd.1,
            (r.snd.snd.fst.1, r.snd.snd.fst.snd.1, r.snd.snd.fst.snd.snd.1, r.snd.snd.fst.snd.snd.snd.1,
              r.snd.snd.fst.snd.snd.snd.2),
            r.snd.snd.snd.1, r.snd.snd.snd.snd.1, IntKind.i64.wrap (r.snd.snd.snd.snd.snd.1 + (1 : Int))))
        (some
          (LRes.ret, r.snd.1,
            (r.snd.snd.fst.1, r.snd.snd.fst.snd.1, r.snd.snd.fst.snd.snd.1, r.snd.snd.fst.snd.snd.snd.1,
              r.snd.snd.fst.snd.snd.snd.2),
            r.snd.snd.snd.1, r.snd.snd.snd.snd.1, r.snd.snd.snd.snd.snd.1)))
    (some
      (LRes.out, x.1,
        (x.snd.fst.1, x.snd.fst.snd.1, x.snd.fst.snd.snd.1, x.snd.fst.snd.snd.snd.1, x.snd.fst.snd.snd.snd.2),
        x.snd.snd.1, x.snd.snd.snd.1, x.snd.snd.snd.2))
def countL_fuel : Bool × (Int × Int × Int × Int × List ((ByteArray × (Int × Int) × Int × Int))) × List ((Int × Int)) × Int × Int → Nat := fun s => (s.2.1.2.2.2.2.length - s.2.2.2.2.toNat) + 1
def countL : Bool × (Int × Int × Int × Int × List ((ByteArray × (Int × Int) × Int × Int))) × List ((Int × Int)) × Int × Int → Option (Bool × (Bool × (Int × Int × Int × Int × List ((ByteArray × (Int × Int) × Int × Int))) × List ((Int × Int)) × Int × Int)) := fun s => iter countL_step (countL_fuel s) s
def countL_L : LoopC := ⟨countL_vars, 0, .two countL⟩
noncomputable def countL_key : Nat := key (loopAt Try.f6 0)
theorem countL_stepok (x : countL_vars.den) : stepOf (mkEnv [] [(countN_key, countN_L)]) Try.f6.ntmps countL_vars 0 (loopAt Try.f6 0) x = countL_step x := by kernel_rfl
theorem countL_ok : LoopOK Try.prog Try.f6.ntmps countL_L (loopAt Try.f6 0)   := iter_loop (n := Try.f6.ntmps) (vs := countL_vars) (out := 0) (body := loopAt Try.f6 0) (mkEnv_ok (cons := []) trivial [(countN_key, countN_L)]) countL_step countL_fuel (by exact ⟨countN_ok, trivial⟩) countL_stepok

def fnClashes : List (Int) → Option (Bool) :=
fun x =>
  ob (f6big x) fun y =>
    br y (some true)
      (ob (drawClashS x) fun y =>
        ob (clashI (y.1, y.snd.1, y.snd.snd.1, y.snd.snd.snd.1, y.snd.snd.snd.2)) fun y_1 =>
          ob (clashS (y.1, y.snd.1, y.snd.snd.1, y.snd.snd.snd.1, y.snd.snd.snd.2)) fun y_2 =>
            ob (mirI (y.1, y.snd.1, y.snd.snd.1, y.snd.snd.snd.1, y.snd.snd.snd.2)) fun y_3 =>
              ob (turnPI (y.1, y.snd.1, y.snd.snd.1, y.snd.snd.snd.1, y.snd.snd.snd.2)) fun y_4 =>
                br (y_1.2 != y_2.2) (some false)
                  (br (y_3.2 != y_2.2) (some false)
                    (br (y_4.2 != y_2.2) (some false)
                      (ob (f6clash (y_1.1, y_2.1)) fun y_5 =>
                        br (!y_5) (some false)
                          (br (y_1.2 != (0 : Int)) (some true)
                            (ob
                              (clashI
                                (y_3.fst.1, y_3.fst.snd.1, y_3.fst.snd.snd.1, y_3.fst.snd.snd.snd.1,
                                  y_3.fst.snd.snd.snd.2))
                              fun y_6 =>
                              ob
                                (clashI
                                  (y_4.fst.1, y_4.fst.snd.1, y_4.fst.snd.snd.1, y_4.fst.snd.snd.snd.1,
                                    y_4.fst.snd.snd.snd.2))
                                fun y_7 =>
                                br (y_6.2 != (0 : Int)) (some false)
                                  (br (y_7.2 != (0 : Int)) (some false)
                                    (ob (f6clash (y_6.1, y_2.1)) fun y_8 =>
                                      br (!y_8) (some false)
                                        (ob (f6clash (y_7.1, y_2.1)) fun y_9 =>
                                          br (!y_9) (some false)
                                            (ob
                                              (countL
                                                (false, (y.1, y.snd.1, y.snd.snd.1, y.snd.snd.snd.1, y.snd.snd.snd.2),
                                                  y_1.1, (0 : Int), (0 : Int)))
                                              fun r =>
                                              br r.1
                                                (some (r.snd.snd.snd.snd.1 == (↑(List.length r.snd.snd.snd.1) : Int)))
                                                (some r.snd.1)))))))))))
def fnClashes_con : Con := ⟨[.slice (.int .u8)], [.d (.bool)], fnClashes⟩
theorem fnClashes_run (x : Dens [.slice (.int .u8)]) : runFn (mkEnv [(13, f6big_con), (30, drawClashS_con), (31, clashI_con), (32, clashS_con), (25, mirI_con), (27, turnPI_con), (33, f6clash_con)] [(countL_key, countL_L)]) Try.f6 [.slice (.int .u8)] [.d (.bool)] x = fnClashes x := by kernel_rfl
theorem fnClashes_ok : fnClashes_con.ok Try.prog 6 := fn_ok (con := fnClashes_con) (mkEnv_ok (cons := [(13, f6big_con), (30, drawClashS_con), (31, clashI_con), (32, clashS_con), (25, mirI_con), (27, turnPI_con), (33, f6clash_con)]) ⟨f6big_ok, drawClashS_ok, clashI_ok, clashS_ok, mirI_ok, turnPI_ok, f6clash_ok, trivial⟩ [(countL_key, countL_L)]) Try.func6 rfl (by kernel_rfl) (by exact ⟨countL_ok, trivial⟩) (fun x y h => (fnClashes_run x).trans h)

end
end Rx
end Go.Proofs.Ytckbhfbcblehmaa
