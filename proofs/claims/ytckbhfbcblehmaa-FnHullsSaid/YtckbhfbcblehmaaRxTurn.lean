/- What the functions of RxTurn come to, and their contracts. No conditions. -/
import Derived.Test.YtckbhfbcblehmaaRxEnv
import Derived.Test.YtckbhfbcblehmaaRxSites
namespace Go.Proofs.Ytckbhfbcblehmaa
namespace Rx
open Go

def minP : Int × Int → Option (Int) :=
fun x => br (decide (x.1 < x.2)) (some x.1) (some x.2)
def minP_con : Con := ⟨[i64, i64], [.d (i64)], minP⟩
theorem minP_run (x : Dens [i64, i64]) : runFn (mkEnv [] []) Try.f51 [i64, i64] [.d (i64)] x = minP x := by kernel_rfl
theorem minP_ok : minP_con.ok Try.prog 51 := fn_ok (con := minP_con) (mkEnv_ok (cons := []) trivial []) Try.func51 rfl (by kernel_rfl) (by exact trivial) (fun x y h => (minP_run x).trans h)

def outIL_vars : Vars := [(1, .box 0 30 (.pair (i64) (.pair (i64) (.pair (i64) (.pair (i64) (.slice (.pair (.str) (.pair (.pair (i64) (i64)) (.pair (i64) (i64)))))))))), (4, .row 0 2 (i64)), (11, .val (.slice (.pair (.str) (.pair (.pair (i64) (i64)) (.pair (i64) (i64)))))), (12, .val (i64)), (13, .val (i64))]
def outIL_step : (Int × Int × Int × Int × List ((ByteArray × (Int × Int) × Int × Int))) × List (Int) × List ((ByteArray × (Int × Int) × Int × Int)) × Int × Int → Option (LRes × ((Int × Int × Int × Int × List ((ByteArray × (Int × Int) × Int × Int))) × List (Int) × List ((ByteArray × (Int × Int) × Int × Int)) × Int × Int)) :=
fun x =>
  br (decide (x.snd.snd.snd.2 < x.snd.snd.snd.1))
    (ob (idx x.snd.snd.1 x.snd.snd.snd.2) fun y =>
      br
        (decide
          (br
              (decide
                (IntKind.i64.wrap (x.fst.snd.1 - y.snd.fst.2) <
                  br
                    (decide
                      (y.snd.fst.2 <
                        br (decide (IntKind.i64.wrap (x.fst.1 - y.snd.fst.1) < y.snd.fst.1))
                          (IntKind.i64.wrap (x.fst.1 - y.snd.fst.1)) y.snd.fst.1))
                    y.snd.fst.2
                    (br (decide (IntKind.i64.wrap (x.fst.1 - y.snd.fst.1) < y.snd.fst.1))
                      (IntKind.i64.wrap (x.fst.1 - y.snd.fst.1)) y.snd.fst.1)))
              (IntKind.i64.wrap (x.fst.snd.1 - y.snd.fst.2))
              (br
                (decide
                  (y.snd.fst.2 <
                    br (decide (IntKind.i64.wrap (x.fst.1 - y.snd.fst.1) < y.snd.fst.1))
                      (IntKind.i64.wrap (x.fst.1 - y.snd.fst.1)) y.snd.fst.1))
                y.snd.fst.2
                (br (decide (IntKind.i64.wrap (x.fst.1 - y.snd.fst.1) < y.snd.fst.1))
                  (IntKind.i64.wrap (x.fst.1 - y.snd.fst.1)) y.snd.fst.1)) <
            IntKind.i64.wrap (y.snd.snd.2 + x.fst.snd.snd.1)))
        (br (decide (List.length x.snd.1 + [x.snd.snd.snd.2].length ≤ (4294967296 : Nat)))
          (some
            (LRes.next, (x.fst.1, x.fst.snd.1, x.fst.snd.snd.1, x.fst.snd.snd.snd.1, x.fst.snd.snd.snd.2),
              x.snd.1 ++ [x.snd.snd.snd.2], x.snd.snd.1, x.snd.snd.snd.1,
              IntKind.i64.wrap (x.snd.snd.snd.2 + (1 : Int))))
          none)
        (some
          (LRes.next, (x.fst.1, x.fst.snd.1, x.fst.snd.snd.1, x.fst.snd.snd.snd.1, x.fst.snd.snd.snd.2), x.snd.1,
            x.snd.snd.1, x.snd.snd.snd.1, IntKind.i64.wrap (x.snd.snd.snd.2 + (1 : Int)))))
    (some
      (LRes.out, (x.fst.1, x.fst.snd.1, x.fst.snd.snd.1, x.fst.snd.snd.snd.1, x.fst.snd.snd.snd.2), x.snd.1,
        x.snd.snd.1, x.snd.snd.snd.1, x.snd.snd.snd.2))
def outIL_fuel : (Int × Int × Int × Int × List ((ByteArray × (Int × Int) × Int × Int))) × List (Int) × List ((ByteArray × (Int × Int) × Int × Int)) × Int × Int → Nat := fun s => (s.2.2.2.1 - s.2.2.2.2).toNat + 1
def outIL : (Int × Int × Int × Int × List ((ByteArray × (Int × Int) × Int × Int))) × List (Int) × List ((ByteArray × (Int × Int) × Int × Int)) × Int × Int → Option ((Int × Int × Int × Int × List ((ByteArray × (Int × Int) × Int × Int))) × List (Int) × List ((ByteArray × (Int × Int) × Int × Int)) × Int × Int) := fun s => iterP outIL_step (outIL_fuel s) s
def outIL_L : LoopC := ⟨outIL_vars, 0, .plain outIL⟩
noncomputable def outIL_key : Nat := key (loopAt Try.f21 0)
theorem outIL_stepok (x : outIL_vars.den) : stepOf (mkEnv [] []) Try.f21.ntmps outIL_vars 0 (loopAt Try.f21 0) x = outIL_step x := by kernel_rfl
theorem outIL_ok : LoopOK Try.prog Try.f21.ntmps outIL_L (loopAt Try.f21 0)   := iterP_loop (n := Try.f21.ntmps) (vs := outIL_vars) (out := 0) (body := loopAt Try.f21 0) (mkEnv_ok (cons := []) trivial []) outIL_step outIL_fuel (by exact trivial) outIL_stepok

def outI : (Int × Int × Int × Int × List ((ByteArray × (Int × Int) × Int × Int))) → Option (List (Int) × Int) :=
fun x =>
  ob (validPlateI (x.1, x.snd.1, x.snd.snd.1, x.snd.snd.snd.1, x.snd.snd.snd.2)) fun y =>
    br (!y) (some ([], (1 : Int)))
      (ob
        (outIL
          ((x.1, x.snd.1, x.snd.snd.1, x.snd.snd.snd.1, x.snd.snd.snd.2), [], x.snd.snd.snd.2,
            (↑(List.length x.snd.snd.snd.2) : Int), (0 : Int)))
        fun r => some (r.snd.1, (0 : Int)))
def outI_con : Con := ⟨[.pair (i64) (.pair (i64) (.pair (i64) (.pair (i64) (.slice (.pair (.str) (.pair (.pair (i64) (i64)) (.pair (i64) (i64))))))))], [.row 2 (i64), .d (i64)], outI⟩
theorem outI_run (x : Dens [.pair (i64) (.pair (i64) (.pair (i64) (.pair (i64) (.slice (.pair (.str) (.pair (.pair (i64) (i64)) (.pair (i64) (i64))))))))]) : runFn (mkEnv [(24, validPlateI_con)] [(outIL_key, outIL_L)]) Try.f21 [.pair (i64) (.pair (i64) (.pair (i64) (.pair (i64) (.slice (.pair (.str) (.pair (.pair (i64) (i64)) (.pair (i64) (i64))))))))] [.row 2 (i64), .d (i64)] x = outI x := by kernel_rfl
theorem outI_ok : outI_con.ok Try.prog 21 := fn_ok (con := outI_con) (mkEnv_ok (cons := [(24, validPlateI_con)]) ⟨validPlateI_ok, trivial⟩ [(outIL_key, outIL_L)]) Try.func21 rfl (by kernel_rfl) (by exact ⟨outIL_ok, trivial⟩) (fun x y h => (outI_run x).trans h)

def outSL_vars : Vars := [(1, .box 0 30 (.pair (i64) (.pair (i64) (.pair (i64) (.pair (i64) (.slice (.pair (.str) (.pair (.pair (i64) (i64)) (.pair (i64) (i64)))))))))), (4, .row 0 2 (i64)), (5, .val (i64))]
def outSL_step : (Int × Int × Int × Int × List ((ByteArray × (Int × Int) × Int × Int))) × List (Int) × Int → Option (LRes × ((Int × Int × Int × Int × List ((ByteArray × (Int × Int) × Int × Int))) × List (Int) × Int)) :=
fun x =>
  br (decide (x.snd.2 < (↑(List.length x.fst.snd.snd.snd.2) : Int)))
    (ob (idx x.fst.snd.snd.snd.2 x.snd.2) fun y =>
      ob (minP (y.snd.fst.1, IntKind.i64.wrap (x.fst.1 - y.snd.fst.1))) fun y_1 =>
        ob (minP (y.snd.fst.2, IntKind.i64.wrap (x.fst.snd.1 - y.snd.fst.2))) fun y_2 =>
          ob (minP (y_1, y_2)) fun y_3 =>
            br (decide (y_3 < IntKind.i64.wrap (y.snd.snd.2 + x.fst.snd.snd.1)))
              (br (decide (List.length x.snd.1 + [x.snd.2].length ≤ (4294967296 : Nat)))
                (some
                  (LRes.next, (x.fst.1, x.fst.snd.1, x.fst.snd.snd.1, x.fst.snd.snd.snd.1, x.fst.snd.snd.snd.2),
                    x.snd.1 ++ [x.snd.2], IntKind.i64.wrap (x.snd.2 + (1 : Int))))
                none)
              (some
                (LRes.next, (x.fst.1, x.fst.snd.1, x.fst.snd.snd.1, x.fst.snd.snd.snd.1, x.fst.snd.snd.snd.2), x.snd.1,
                  IntKind.i64.wrap (x.snd.2 + (1 : Int)))))
    (some
      (LRes.out, (x.fst.1, x.fst.snd.1, x.fst.snd.snd.1, x.fst.snd.snd.snd.1, x.fst.snd.snd.snd.2), x.snd.1, x.snd.2))
def outSL_fuel : (Int × Int × Int × Int × List ((ByteArray × (Int × Int) × Int × Int))) × List (Int) × Int → Nat := fun s => (s.1.2.2.2.2.length - s.2.2.toNat) + 1
def outSL : (Int × Int × Int × Int × List ((ByteArray × (Int × Int) × Int × Int))) × List (Int) × Int → Option ((Int × Int × Int × Int × List ((ByteArray × (Int × Int) × Int × Int))) × List (Int) × Int) := fun s => iterP outSL_step (outSL_fuel s) s
def outSL_L : LoopC := ⟨outSL_vars, 0, .plain outSL⟩
noncomputable def outSL_key : Nat := key (loopAt Try.f22 0)
theorem outSL_stepok (x : outSL_vars.den) : stepOf (mkEnv [(51, minP_con)] []) Try.f22.ntmps outSL_vars 0 (loopAt Try.f22 0) x = outSL_step x := by kernel_rfl
theorem outSL_ok : LoopOK Try.prog Try.f22.ntmps outSL_L (loopAt Try.f22 0)   := iterP_loop (n := Try.f22.ntmps) (vs := outSL_vars) (out := 0) (body := loopAt Try.f22 0) (mkEnv_ok (cons := [(51, minP_con)]) ⟨minP_ok, trivial⟩ []) outSL_step outSL_fuel (by exact trivial) outSL_stepok

def outS : (Int × Int × Int × Int × List ((ByteArray × (Int × Int) × Int × Int))) → Option (List (Int) × Int) :=
fun x =>
  ob (okPlateS (x.1, x.snd.1, x.snd.snd.1, x.snd.snd.snd.1, x.snd.snd.snd.2)) fun y =>
    br (!y) (some ([], (1 : Int)))
      (ob (outSL ((x.1, x.snd.1, x.snd.snd.1, x.snd.snd.snd.1, x.snd.snd.snd.2), [], (0 : Int))) fun r =>
        some (r.snd.1, (0 : Int)))
def outS_con : Con := ⟨[.pair (i64) (.pair (i64) (.pair (i64) (.pair (i64) (.slice (.pair (.str) (.pair (.pair (i64) (i64)) (.pair (i64) (i64))))))))], [.row 2 (i64), .d (i64)], outS⟩
theorem outS_run (x : Dens [.pair (i64) (.pair (i64) (.pair (i64) (.pair (i64) (.slice (.pair (.str) (.pair (.pair (i64) (i64)) (.pair (i64) (i64))))))))]) : runFn (mkEnv [(39, okPlateS_con)] [(outSL_key, outSL_L)]) Try.f22 [.pair (i64) (.pair (i64) (.pair (i64) (.pair (i64) (.slice (.pair (.str) (.pair (.pair (i64) (i64)) (.pair (i64) (i64))))))))] [.row 2 (i64), .d (i64)] x = outS x := by kernel_rfl
theorem outS_ok : outS_con.ok Try.prog 22 := fn_ok (con := outS_con) (mkEnv_ok (cons := [(39, okPlateS_con)]) ⟨okPlateS_ok, trivial⟩ [(outSL_key, outSL_L)]) Try.func22 rfl (by kernel_rfl) (by exact ⟨outSL_ok, trivial⟩) (fun x y h => (outS_run x).trans h)

def cloneS_t : Bool × (List ((ByteArray × (Int × Int) × Int × Int))) → Option (List ((ByteArray × (Int × Int) × Int × Int))) :=
fun x => br x.1 (some []) (br (decide ((0 : Nat) + x.2.length ≤ (4294967296 : Nat))) (some ([] ++ x.2)) none)
def cloneS : List ((ByteArray × (Int × Int) × Int × Int)) → Option (List ((ByteArray × (Int × Int) × Int × Int))) := fun x => cloneS_t (false, x)
def cloneS_con : Con := ⟨[.slice (.pair (.str) (.pair (.pair (i64) (i64)) (.pair (i64) (i64))))], [.row 59 (.pair (.str) (.pair (.pair (i64) (i64)) (.pair (i64) (i64))))], cloneS⟩
theorem cloneS_run (x : Bool × Dens [.slice (.pair (.str) (.pair (.pair (i64) (i64)) (.pair (i64) (i64))))]) : runFnN (mkEnv [] []) Try.f67 [.slice (.pair (.str) (.pair (.pair (i64) (i64)) (.pair (i64) (i64))))] [.row 59 (.pair (.str) (.pair (.pair (i64) (i64)) (.pair (i64) (i64))))] x.1 x.2 = cloneS_t x := by kernel_rfl
theorem cloneS_nil (x : Dens [.slice (.pair (.str) (.pair (.pair (i64) (i64)) (.pair (i64) (i64))))]) (h : nil1 [.slice (.pair (.str) (.pair (.pair (i64) (i64)) (.pair (i64) (i64))))] x) : cloneS_t (true, x) = cloneS x := by
  have h : x = [] := h
  subst h
  rfl
theorem cloneS_ok : cloneS_con.ok Try.prog 67 := fn_okN (con := cloneS_con) (mkEnv_ok (cons := []) trivial []) Try.func67 rfl (by kernel_rfl) (by exact trivial) (fun b x y hn h => (cloneS_run (b, x)).trans (match b, hn with | false, _ => h | true, hn => (cloneS_nil x (hn rfl)).trans h))

def mirIL_vars : Vars := [(1, .boxR 30 (.pair (.d (i64)) (.pair (.d (i64)) (.pair (.d (i64)) (.pair (.d (i64)) (.row 59 (.pair (.str) (.pair (.pair (i64) (i64)) (.pair (i64) (i64)))))))))), (2, .box 0 30 (.pair (i64) (.pair (i64) (.pair (i64) (.pair (i64) (.slice (.pair (.str) (.pair (.pair (i64) (i64)) (.pair (i64) (i64)))))))))), (15, .val (i64)), (16, .val (i64))]
def mirIL_step : (Int × Int × Int × Int × List ((ByteArray × (Int × Int) × Int × Int))) × (Int × Int × Int × Int × List ((ByteArray × (Int × Int) × Int × Int))) × Int × Int → Option (LRes × ((Int × Int × Int × Int × List ((ByteArray × (Int × Int) × Int × Int))) × (Int × Int × Int × Int × List ((ByteArray × (Int × Int) × Int × Int))) × Int × Int)) :=
fun x =>
  br (decide (x.snd.snd.2 < x.snd.snd.1))
    (ob (idx x.fst.snd.snd.snd.2 x.snd.snd.2) fun x_1 =>
      ob (List.get?Internal x.fst.snd.snd.snd.2 (Int.toNat x.snd.snd.2)) fun x_2 =>
        ob (idx x.fst.snd.snd.snd.2 x.snd.snd.2) fun x_3 =>
          ob (List.get?Internal x.fst.snd.snd.snd.2 (Int.toNat x.snd.snd.2)) fun x_4 =>
            some
              (LRes.next,
                (x.fst.1, x.fst.snd.1, x.fst.snd.snd.1, x.fst.snd.snd.snd.1,
                  List.set x.fst.snd.snd.snd.2 (Int.toNat x.snd.snd.2)
                    (x_4.1, (IntKind.i64.wrap (x.fst.1 - x_2.snd.fst.1), x_4.snd.fst.2), x_4.snd.snd.1, x_4.snd.snd.2)),
                (x.snd.fst.1, x.snd.fst.snd.1, x.snd.fst.snd.snd.1, x.snd.fst.snd.snd.snd.1, x.snd.fst.snd.snd.snd.2),
                x.snd.snd.1, IntKind.i64.wrap (x.snd.snd.2 + (1 : Int))))
    (some
      (LRes.out, (x.fst.1, x.fst.snd.1, x.fst.snd.snd.1, x.fst.snd.snd.snd.1, x.fst.snd.snd.snd.2),
        (x.snd.fst.1, x.snd.fst.snd.1, x.snd.fst.snd.snd.1, x.snd.fst.snd.snd.snd.1, x.snd.fst.snd.snd.snd.2),
        x.snd.snd.1, x.snd.snd.2))
def mirIL_fuel : (Int × Int × Int × Int × List ((ByteArray × (Int × Int) × Int × Int))) × (Int × Int × Int × Int × List ((ByteArray × (Int × Int) × Int × Int))) × Int × Int → Nat := fun s => (s.2.2.1 - s.2.2.2).toNat + 1
def mirIL : (Int × Int × Int × Int × List ((ByteArray × (Int × Int) × Int × Int))) × (Int × Int × Int × Int × List ((ByteArray × (Int × Int) × Int × Int))) × Int × Int → Option ((Int × Int × Int × Int × List ((ByteArray × (Int × Int) × Int × Int))) × (Int × Int × Int × Int × List ((ByteArray × (Int × Int) × Int × Int))) × Int × Int) := fun s => iterP mirIL_step (mirIL_fuel s) s
def mirIL_L : LoopC := ⟨mirIL_vars, 0, .plain mirIL⟩
noncomputable def mirIL_key : Nat := key (loopAt Try.f25 0)
theorem mirIL_stepok (x : mirIL_vars.den) : stepOf (mkEnv [] []) Try.f25.ntmps mirIL_vars 0 (loopAt Try.f25 0) x = mirIL_step x := by kernel_rfl
theorem mirIL_ok : LoopOK Try.prog Try.f25.ntmps mirIL_L (loopAt Try.f25 0)   := iterP_loop (n := Try.f25.ntmps) (vs := mirIL_vars) (out := 0) (body := loopAt Try.f25 0) (mkEnv_ok (cons := []) trivial []) mirIL_step mirIL_fuel (by exact trivial) mirIL_stepok

def mirI : (Int × Int × Int × Int × List ((ByteArray × (Int × Int) × Int × Int))) → Option ((Int × Int × Int × Int × List ((ByteArray × (Int × Int) × Int × Int))) × Int) :=
fun x =>
  ob (validPlateI (x.1, x.snd.1, x.snd.snd.1, x.snd.snd.snd.1, x.snd.snd.snd.2)) fun y =>
    br (!y) (some (((0 : Int), (0 : Int), (0 : Int), (0 : Int), []), (1 : Int)))
      (ob (cloneS x.snd.snd.snd.2) fun y =>
        ob
          (mirIL
            ((x.1, x.snd.1, x.snd.snd.1, x.snd.snd.snd.1, y), ((0 : Int), (0 : Int), (0 : Int), (0 : Int), []),
              (↑(List.length y) : Int), (0 : Int)))
          fun r => some ((r.fst.1, r.fst.snd.1, r.fst.snd.snd.1, r.fst.snd.snd.snd.1, r.fst.snd.snd.snd.2), (0 : Int)))
def mirI_con : Con := ⟨[.pair (i64) (.pair (i64) (.pair (i64) (.pair (i64) (.slice (.pair (.str) (.pair (.pair (i64) (i64)) (.pair (i64) (i64))))))))], [.pair (.d (i64)) (.pair (.d (i64)) (.pair (.d (i64)) (.pair (.d (i64)) (.row 59 (.pair (.str) (.pair (.pair (i64) (i64)) (.pair (i64) (i64)))))))), .d (i64)], mirI⟩
theorem mirI_run (x : Dens [.pair (i64) (.pair (i64) (.pair (i64) (.pair (i64) (.slice (.pair (.str) (.pair (.pair (i64) (i64)) (.pair (i64) (i64))))))))]) : runFn (mkEnv [(24, validPlateI_con), (67, cloneS_con)] [(mirIL_key, mirIL_L)]) Try.f25 [.pair (i64) (.pair (i64) (.pair (i64) (.pair (i64) (.slice (.pair (.str) (.pair (.pair (i64) (i64)) (.pair (i64) (i64))))))))] [.pair (.d (i64)) (.pair (.d (i64)) (.pair (.d (i64)) (.pair (.d (i64)) (.row 59 (.pair (.str) (.pair (.pair (i64) (i64)) (.pair (i64) (i64)))))))), .d (i64)] x = mirI x := by kernel_rfl
theorem mirI_ok : mirI_con.ok Try.prog 25 := fn_ok (con := mirI_con) (mkEnv_ok (cons := [(24, validPlateI_con), (67, cloneS_con)]) ⟨validPlateI_ok, cloneS_ok, trivial⟩ [(mirIL_key, mirIL_L)]) Try.func25 rfl (by kernel_rfl) (by exact ⟨mirIL_ok, trivial⟩) (fun x y h => (mirI_run x).trans h)

def turnIL_vars : Vars := [(1, .boxR 30 (.pair (.d (i64)) (.pair (.d (i64)) (.pair (.d (i64)) (.pair (.d (i64)) (.row 59 (.pair (.str) (.pair (.pair (i64) (i64)) (.pair (i64) (i64)))))))))), (2, .box 0 30 (.pair (i64) (.pair (i64) (.pair (i64) (.pair (i64) (.slice (.pair (.str) (.pair (.pair (i64) (i64)) (.pair (i64) (i64)))))))))), (15, .same 1 (.pair (.d (i64)) (.pair (.d (i64)) (.pair (.d (i64)) (.pair (.d (i64)) (.row 59 (.pair (.str) (.pair (.pair (i64) (i64)) (.pair (i64) (i64))))))))) 0), (16, .val (i64)), (17, .val (i64))]
def turnIL_step : (Int × Int × Int × Int × List ((ByteArray × (Int × Int) × Int × Int))) × (Int × Int × Int × Int × List ((ByteArray × (Int × Int) × Int × Int))) × Unit × Int × Int → Option (LRes × ((Int × Int × Int × Int × List ((ByteArray × (Int × Int) × Int × Int))) × (Int × Int × Int × Int × List ((ByteArray × (Int × Int) × Int × Int))) × Unit × Int × Int)) :=
fun x =>
  br (decide (x.snd.snd.snd.2 < x.snd.snd.snd.1))
    (ob (idx x.fst.snd.snd.snd.2 x.snd.snd.snd.2) fun x_1 =>
      ob (List.get?Internal x.fst.snd.snd.snd.2 (Int.toNat x.snd.snd.snd.2)) fun x_2 =>
        ob (idx x.fst.snd.snd.snd.2 x.snd.snd.snd.2) fun x_3 =>
          ob (List.get?Internal x.fst.snd.snd.snd.2 (Int.toNat x.snd.snd.snd.2)) fun x_4 =>
            some
              (LRes.next,
                (x.fst.1, x.fst.snd.1, x.fst.snd.snd.1, x.fst.snd.snd.snd.1,
                  List.set x.fst.snd.snd.snd.2 (Int.toNat x.snd.snd.snd.2)
                    (x_4.1, (IntKind.i64.wrap (x.fst.snd.1 - x_2.snd.fst.2), x_2.snd.fst.1), x_4.snd.snd.1,
                      x_4.snd.snd.2)),
                (x.snd.fst.1, x.snd.fst.snd.1, x.snd.fst.snd.snd.1, x.snd.fst.snd.snd.snd.1, x.snd.fst.snd.snd.snd.2),
                PUnit.unit, x.snd.snd.snd.1, IntKind.i64.wrap (x.snd.snd.snd.2 + (1 : Int))))
    (some
      (LRes.out, (x.fst.1, x.fst.snd.1, x.fst.snd.snd.1, x.fst.snd.snd.snd.1, x.fst.snd.snd.snd.2),
        (x.snd.fst.1, x.snd.fst.snd.1, x.snd.fst.snd.snd.1, x.snd.fst.snd.snd.snd.1, x.snd.fst.snd.snd.snd.2),
        PUnit.unit, x.snd.snd.snd.1, x.snd.snd.snd.2))
def turnIL_fuel : (Int × Int × Int × Int × List ((ByteArray × (Int × Int) × Int × Int))) × (Int × Int × Int × Int × List ((ByteArray × (Int × Int) × Int × Int))) × Unit × Int × Int → Nat := fun s => (s.2.2.2.1 - s.2.2.2.2).toNat + 1
def turnIL : (Int × Int × Int × Int × List ((ByteArray × (Int × Int) × Int × Int))) × (Int × Int × Int × Int × List ((ByteArray × (Int × Int) × Int × Int))) × Unit × Int × Int → Option ((Int × Int × Int × Int × List ((ByteArray × (Int × Int) × Int × Int))) × (Int × Int × Int × Int × List ((ByteArray × (Int × Int) × Int × Int))) × Unit × Int × Int) := fun s => iterP turnIL_step (turnIL_fuel s) s
def turnIL_L : LoopC := ⟨turnIL_vars, 0, .plain turnIL⟩
noncomputable def turnIL_key : Nat := key (loopAt Try.f27 0)
theorem turnIL_stepok (x : turnIL_vars.den) : stepOf (mkEnv [] []) Try.f27.ntmps turnIL_vars 0 (loopAt Try.f27 0) x = turnIL_step x := by kernel_rfl
theorem turnIL_ok : LoopOK Try.prog Try.f27.ntmps turnIL_L (loopAt Try.f27 0)   := iterP_loop (n := Try.f27.ntmps) (vs := turnIL_vars) (out := 0) (body := loopAt Try.f27 0) (mkEnv_ok (cons := []) trivial []) turnIL_step turnIL_fuel (by exact trivial) turnIL_stepok

def turnPI : (Int × Int × Int × Int × List ((ByteArray × (Int × Int) × Int × Int))) → Option ((Int × Int × Int × Int × List ((ByteArray × (Int × Int) × Int × Int))) × Int) :=
fun x =>
  ob (validPlateI (x.1, x.snd.1, x.snd.snd.1, x.snd.snd.snd.1, x.snd.snd.snd.2)) fun y =>
    br (!y) (some (((0 : Int), (0 : Int), (0 : Int), (0 : Int), []), (1 : Int)))
      (ob (cloneS x.snd.snd.snd.2) fun y =>
        ob
          (turnIL
            ((x.1, x.snd.1, x.snd.snd.1, x.snd.snd.snd.1, y), ((0 : Int), (0 : Int), (0 : Int), (0 : Int), []),
              PUnit.unit, (↑(List.length y) : Int), (0 : Int)))
          fun r => some ((r.fst.snd.1, r.fst.1, r.fst.snd.snd.1, r.fst.snd.snd.snd.1, r.fst.snd.snd.snd.2), (0 : Int)))
def turnPI_con : Con := ⟨[.pair (i64) (.pair (i64) (.pair (i64) (.pair (i64) (.slice (.pair (.str) (.pair (.pair (i64) (i64)) (.pair (i64) (i64))))))))], [.pair (.d (i64)) (.pair (.d (i64)) (.pair (.d (i64)) (.pair (.d (i64)) (.row 59 (.pair (.str) (.pair (.pair (i64) (i64)) (.pair (i64) (i64)))))))), .d (i64)], turnPI⟩
theorem turnPI_run (x : Dens [.pair (i64) (.pair (i64) (.pair (i64) (.pair (i64) (.slice (.pair (.str) (.pair (.pair (i64) (i64)) (.pair (i64) (i64))))))))]) : runFn (mkEnv [(24, validPlateI_con), (67, cloneS_con)] [(turnIL_key, turnIL_L)]) Try.f27 [.pair (i64) (.pair (i64) (.pair (i64) (.pair (i64) (.slice (.pair (.str) (.pair (.pair (i64) (i64)) (.pair (i64) (i64))))))))] [.pair (.d (i64)) (.pair (.d (i64)) (.pair (.d (i64)) (.pair (.d (i64)) (.row 59 (.pair (.str) (.pair (.pair (i64) (i64)) (.pair (i64) (i64)))))))), .d (i64)] x = turnPI x := by kernel_rfl
theorem turnPI_ok : turnPI_con.ok Try.prog 27 := fn_ok (con := turnPI_con) (mkEnv_ok (cons := [(24, validPlateI_con), (67, cloneS_con)]) ⟨validPlateI_ok, cloneS_ok, trivial⟩ [(turnIL_key, turnIL_L)]) Try.func27 rfl (by kernel_rfl) (by exact ⟨turnIL_ok, trivial⟩) (fun x y h => (turnPI_run x).trans h)

def movSL_vars : Vars := [(1, .val (i64)), (2, .box 0 30 (.pair (i64) (.pair (i64) (.pair (i64) (.pair (i64) (.slice (.pair (.str) (.pair (.pair (i64) (i64)) (.pair (i64) (i64)))))))))), (4, .box 0 30 (.pair (i64) (.pair (i64) (.pair (i64) (.pair (i64) (.slice (.pair (.str) (.pair (.pair (i64) (i64)) (.pair (i64) (i64)))))))))), (5, .boxR 30 (.pair (.d (i64)) (.pair (.d (i64)) (.pair (.d (i64)) (.pair (.d (i64)) (.row 59 (.pair (.str) (.pair (.pair (i64) (i64)) (.pair (i64) (i64)))))))))), (6, .val (i64))]
def movSL_step : Int × (Int × Int × Int × Int × List ((ByteArray × (Int × Int) × Int × Int))) × (Int × Int × Int × Int × List ((ByteArray × (Int × Int) × Int × Int))) × (Int × Int × Int × Int × List ((ByteArray × (Int × Int) × Int × Int))) × Int → Option (LRes × (Int × (Int × Int × Int × Int × List ((ByteArray × (Int × Int) × Int × Int))) × (Int × Int × Int × Int × List ((ByteArray × (Int × Int) × Int × Int))) × (Int × Int × Int × Int × List ((ByteArray × (Int × Int) × Int × Int))) × Int)) :=
fun x =>
  br (decide (x.snd.snd.snd.2 < (↑(List.length x.snd.fst.snd.snd.snd.2) : Int)))
    (ob (idx x.snd.fst.snd.snd.snd.2 x.snd.snd.snd.2) fun y =>
      br (x.1 == (1 : Int))
        (br
          (decide
            (List.length x.snd.snd.snd.fst.snd.snd.snd.2 +
                [(y.1, (IntKind.i64.wrap (x.snd.fst.1 - y.snd.fst.1), y.snd.fst.2), y.snd.snd.1, y.snd.snd.2)].length ≤
              (4294967296 : Nat)))
          (some
            (LRes.next, x.1,
              (x.snd.fst.1, x.snd.fst.snd.1, x.snd.fst.snd.snd.1, x.snd.fst.snd.snd.snd.1, x.snd.fst.snd.snd.snd.2),
              (x.snd.snd.fst.1, x.snd.snd.fst.snd.1, x.snd.snd.fst.snd.snd.1, x.snd.snd.fst.snd.snd.snd.1,
                x.snd.snd.fst.snd.snd.snd.2),
              (x.snd.snd.snd.fst.1, x.snd.snd.snd.fst.snd.1, x.snd.snd.snd.fst.snd.snd.1,
                x.snd.snd.snd.fst.snd.snd.snd.1,
                x.snd.snd.snd.fst.snd.snd.snd.2 ++
                  [(y.1, (IntKind.i64.wrap (x.snd.fst.1 - y.snd.fst.1), y.snd.fst.2), y.snd.snd.1, y.snd.snd.2)]),
              IntKind.i64.wrap (x.snd.snd.snd.2 + (1 : Int))))
          none)
        (br (x.1 == (2 : Int))
          (br
            (decide
              (List.length x.snd.snd.snd.fst.snd.snd.snd.2 +
                  [(y.1, (IntKind.i64.wrap (x.snd.fst.snd.1 - y.snd.fst.2), y.snd.fst.1), y.snd.snd.1,
                        y.snd.snd.2)].length ≤
                (4294967296 : Nat)))
            (some
              (LRes.next, x.1,
                (x.snd.fst.1, x.snd.fst.snd.1, x.snd.fst.snd.snd.1, x.snd.fst.snd.snd.snd.1, x.snd.fst.snd.snd.snd.2),
                (x.snd.snd.fst.1, x.snd.snd.fst.snd.1, x.snd.snd.fst.snd.snd.1, x.snd.snd.fst.snd.snd.snd.1,
                  x.snd.snd.fst.snd.snd.snd.2),
                (x.snd.snd.snd.fst.1, x.snd.snd.snd.fst.snd.1, x.snd.snd.snd.fst.snd.snd.1,
                  x.snd.snd.snd.fst.snd.snd.snd.1,
                  x.snd.snd.snd.fst.snd.snd.snd.2 ++
                    [(y.1, (IntKind.i64.wrap (x.snd.fst.snd.1 - y.snd.fst.2), y.snd.fst.1), y.snd.snd.1, y.snd.snd.2)]),
                IntKind.i64.wrap (x.snd.snd.snd.2 + (1 : Int))))
            none)
          (br
            (decide
              (List.length x.snd.snd.snd.fst.snd.snd.snd.2 +
                  [(y.1, (y.snd.fst.1, y.snd.fst.2), y.snd.snd.1, y.snd.snd.2)].length ≤
                (4294967296 : Nat)))
            (some
              (LRes.next, x.1,
                (x.snd.fst.1, x.snd.fst.snd.1, x.snd.fst.snd.snd.1, x.snd.fst.snd.snd.snd.1, x.snd.fst.snd.snd.snd.2),
                (x.snd.snd.fst.1, x.snd.snd.fst.snd.1, x.snd.snd.fst.snd.snd.1, x.snd.snd.fst.snd.snd.snd.1,
                  x.snd.snd.fst.snd.snd.snd.2),
                (x.snd.snd.snd.fst.1, x.snd.snd.snd.fst.snd.1, x.snd.snd.snd.fst.snd.snd.1,
                  x.snd.snd.snd.fst.snd.snd.snd.1,
                  x.snd.snd.snd.fst.snd.snd.snd.2 ++ [(y.1, (y.snd.fst.1, y.snd.fst.2), y.snd.snd.1, y.snd.snd.2)]),
                IntKind.i64.wrap (x.snd.snd.snd.2 + (1 : Int))))
            none)))
    (some
      (LRes.out, x.1,
        (x.snd.fst.1, x.snd.fst.snd.1, x.snd.fst.snd.snd.1, x.snd.fst.snd.snd.snd.1, x.snd.fst.snd.snd.snd.2),
        (x.snd.snd.fst.1, x.snd.snd.fst.snd.1, x.snd.snd.fst.snd.snd.1, x.snd.snd.fst.snd.snd.snd.1,
          x.snd.snd.fst.snd.snd.snd.2),
        (x.snd.snd.snd.fst.1, x.snd.snd.snd.fst.snd.1, x.snd.snd.snd.fst.snd.snd.1, x.snd.snd.snd.fst.snd.snd.snd.1,
          x.snd.snd.snd.fst.snd.snd.snd.2),
        x.snd.snd.snd.2))
def movSL_fuel : Int × (Int × Int × Int × Int × List ((ByteArray × (Int × Int) × Int × Int))) × (Int × Int × Int × Int × List ((ByteArray × (Int × Int) × Int × Int))) × (Int × Int × Int × Int × List ((ByteArray × (Int × Int) × Int × Int))) × Int → Nat := fun s => (s.2.1.2.2.2.2.length - s.2.2.2.2.toNat) + 1
def movSL : Int × (Int × Int × Int × Int × List ((ByteArray × (Int × Int) × Int × Int))) × (Int × Int × Int × Int × List ((ByteArray × (Int × Int) × Int × Int))) × (Int × Int × Int × Int × List ((ByteArray × (Int × Int) × Int × Int))) × Int → Option (Int × (Int × Int × Int × Int × List ((ByteArray × (Int × Int) × Int × Int))) × (Int × Int × Int × Int × List ((ByteArray × (Int × Int) × Int × Int))) × (Int × Int × Int × Int × List ((ByteArray × (Int × Int) × Int × Int))) × Int) := fun s => iterP movSL_step (movSL_fuel s) s
def movSL_L : LoopC := ⟨movSL_vars, 0, .plain movSL⟩
noncomputable def movSL_key : Nat := key (loopAt Try.f68 0)
theorem movSL_stepok (x : movSL_vars.den) : stepOf (mkEnv [] []) Try.f68.ntmps movSL_vars 0 (loopAt Try.f68 0) x = movSL_step x := by kernel_rfl
theorem movSL_ok : LoopOK Try.prog Try.f68.ntmps movSL_L (loopAt Try.f68 0)   := iterP_loop (n := Try.f68.ntmps) (vs := movSL_vars) (out := 0) (body := loopAt Try.f68 0) (mkEnv_ok (cons := []) trivial []) movSL_step movSL_fuel (by exact trivial) movSL_stepok

def movS : (Int × Int × Int × Int × List ((ByteArray × (Int × Int) × Int × Int))) × Int → Option ((Int × Int × Int × Int × List ((ByteArray × (Int × Int) × Int × Int)))) :=
fun x =>
  br (x.2 == (2 : Int))
    (ob
      (movSL
        (x.2, (x.fst.1, x.fst.snd.1, x.fst.snd.snd.1, x.fst.snd.snd.snd.1, x.fst.snd.snd.snd.2),
          ((0 : Int), (0 : Int), (0 : Int), (0 : Int), []),
          (x.fst.snd.1, x.fst.1, x.fst.snd.snd.1, x.fst.snd.snd.snd.1, []), (0 : Int)))
      fun r =>
      some
        (r.snd.snd.snd.fst.1, r.snd.snd.snd.fst.snd.1, r.snd.snd.snd.fst.snd.snd.1, r.snd.snd.snd.fst.snd.snd.snd.1,
          r.snd.snd.snd.fst.snd.snd.snd.2))
    (ob
      (movSL
        (x.2, (x.fst.1, x.fst.snd.1, x.fst.snd.snd.1, x.fst.snd.snd.snd.1, x.fst.snd.snd.snd.2),
          ((0 : Int), (0 : Int), (0 : Int), (0 : Int), []),
          (x.fst.1, x.fst.snd.1, x.fst.snd.snd.1, x.fst.snd.snd.snd.1, []), (0 : Int)))
      fun r =>
      some
        (r.snd.snd.snd.fst.1, r.snd.snd.snd.fst.snd.1, r.snd.snd.snd.fst.snd.snd.1, r.snd.snd.snd.fst.snd.snd.snd.1,
          r.snd.snd.snd.fst.snd.snd.snd.2))
def movS_con : Con := ⟨[.pair (i64) (.pair (i64) (.pair (i64) (.pair (i64) (.slice (.pair (.str) (.pair (.pair (i64) (i64)) (.pair (i64) (i64)))))))), i64], [.pair (.d (i64)) (.pair (.d (i64)) (.pair (.d (i64)) (.pair (.d (i64)) (.row 59 (.pair (.str) (.pair (.pair (i64) (i64)) (.pair (i64) (i64))))))))], movS⟩
theorem movS_run (x : Dens [.pair (i64) (.pair (i64) (.pair (i64) (.pair (i64) (.slice (.pair (.str) (.pair (.pair (i64) (i64)) (.pair (i64) (i64)))))))), i64]) : runFn (mkEnv [] [(movSL_key, movSL_L)]) Try.f68 [.pair (i64) (.pair (i64) (.pair (i64) (.pair (i64) (.slice (.pair (.str) (.pair (.pair (i64) (i64)) (.pair (i64) (i64)))))))), i64] [.pair (.d (i64)) (.pair (.d (i64)) (.pair (.d (i64)) (.pair (.d (i64)) (.row 59 (.pair (.str) (.pair (.pair (i64) (i64)) (.pair (i64) (i64))))))))] x = movS x := by kernel_rfl
theorem movS_ok : movS_con.ok Try.prog 68 := fn_ok (con := movS_con) (mkEnv_ok (cons := []) trivial [(movSL_key, movSL_L)]) Try.func68 rfl (by kernel_rfl) (by exact ⟨movSL_ok, trivial⟩) (fun x y h => (movS_run x).trans h)

def mirS : (Int × Int × Int × Int × List ((ByteArray × (Int × Int) × Int × Int))) → Option ((Int × Int × Int × Int × List ((ByteArray × (Int × Int) × Int × Int))) × Int) :=
fun x =>
  ob (okPlateS (x.1, x.snd.1, x.snd.snd.1, x.snd.snd.snd.1, x.snd.snd.snd.2)) fun y =>
    br (!y) (some (((0 : Int), (0 : Int), (0 : Int), (0 : Int), []), (1 : Int)))
      (ob (movS ((x.1, x.snd.1, x.snd.snd.1, x.snd.snd.snd.1, x.snd.snd.snd.2), (1 : Int))) fun y =>
        some ((y.1, y.snd.1, y.snd.snd.1, y.snd.snd.snd.1, y.snd.snd.snd.2), (0 : Int)))
def mirS_con : Con := ⟨[.pair (i64) (.pair (i64) (.pair (i64) (.pair (i64) (.slice (.pair (.str) (.pair (.pair (i64) (i64)) (.pair (i64) (i64))))))))], [.pair (.d (i64)) (.pair (.d (i64)) (.pair (.d (i64)) (.pair (.d (i64)) (.row 59 (.pair (.str) (.pair (.pair (i64) (i64)) (.pair (i64) (i64)))))))), .d (i64)], mirS⟩
theorem mirS_run (x : Dens [.pair (i64) (.pair (i64) (.pair (i64) (.pair (i64) (.slice (.pair (.str) (.pair (.pair (i64) (i64)) (.pair (i64) (i64))))))))]) : runFn (mkEnv [(39, okPlateS_con), (68, movS_con)] []) Try.f26 [.pair (i64) (.pair (i64) (.pair (i64) (.pair (i64) (.slice (.pair (.str) (.pair (.pair (i64) (i64)) (.pair (i64) (i64))))))))] [.pair (.d (i64)) (.pair (.d (i64)) (.pair (.d (i64)) (.pair (.d (i64)) (.row 59 (.pair (.str) (.pair (.pair (i64) (i64)) (.pair (i64) (i64)))))))), .d (i64)] x = mirS x := by kernel_rfl
theorem mirS_ok : mirS_con.ok Try.prog 26 := fn_ok (con := mirS_con) (mkEnv_ok (cons := [(39, okPlateS_con), (68, movS_con)]) ⟨okPlateS_ok, movS_ok, trivial⟩ []) Try.func26 rfl (by kernel_rfl) (by exact trivial) (fun x y h => (mirS_run x).trans h)

def turnPS : (Int × Int × Int × Int × List ((ByteArray × (Int × Int) × Int × Int))) → Option ((Int × Int × Int × Int × List ((ByteArray × (Int × Int) × Int × Int))) × Int) :=
fun x =>
  ob (okPlateS (x.1, x.snd.1, x.snd.snd.1, x.snd.snd.snd.1, x.snd.snd.snd.2)) fun y =>
    br (!y) (some (((0 : Int), (0 : Int), (0 : Int), (0 : Int), []), (1 : Int)))
      (ob (movS ((x.1, x.snd.1, x.snd.snd.1, x.snd.snd.snd.1, x.snd.snd.snd.2), (2 : Int))) fun y =>
        some ((y.1, y.snd.1, y.snd.snd.1, y.snd.snd.snd.1, y.snd.snd.snd.2), (0 : Int)))
def turnPS_con : Con := ⟨[.pair (i64) (.pair (i64) (.pair (i64) (.pair (i64) (.slice (.pair (.str) (.pair (.pair (i64) (i64)) (.pair (i64) (i64))))))))], [.pair (.d (i64)) (.pair (.d (i64)) (.pair (.d (i64)) (.pair (.d (i64)) (.row 59 (.pair (.str) (.pair (.pair (i64) (i64)) (.pair (i64) (i64)))))))), .d (i64)], turnPS⟩
theorem turnPS_run (x : Dens [.pair (i64) (.pair (i64) (.pair (i64) (.pair (i64) (.slice (.pair (.str) (.pair (.pair (i64) (i64)) (.pair (i64) (i64))))))))]) : runFn (mkEnv [(39, okPlateS_con), (68, movS_con)] []) Try.f28 [.pair (i64) (.pair (i64) (.pair (i64) (.pair (i64) (.slice (.pair (.str) (.pair (.pair (i64) (i64)) (.pair (i64) (i64))))))))] [.pair (.d (i64)) (.pair (.d (i64)) (.pair (.d (i64)) (.pair (.d (i64)) (.row 59 (.pair (.str) (.pair (.pair (i64) (i64)) (.pair (i64) (i64)))))))), .d (i64)] x = turnPS x := by kernel_rfl
theorem turnPS_ok : turnPS_con.ok Try.prog 28 := fn_ok (con := turnPS_con) (mkEnv_ok (cons := [(39, okPlateS_con), (68, movS_con)]) ⟨okPlateS_ok, movS_ok, trivial⟩ []) Try.func28 rfl (by kernel_rfl) (by exact trivial) (fun x y h => (turnPS_run x).trans h)

end Rx
end Go.Proofs.Ytckbhfbcblehmaa
