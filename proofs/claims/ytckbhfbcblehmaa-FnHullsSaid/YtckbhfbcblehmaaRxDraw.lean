/- What the functions of RxDraw come to, and their contracts. No conditions. -/
import Derived.Test.YtckbhfbcblehmaaRxEnv
import Derived.Test.YtckbhfbcblehmaaRxSrc
namespace Go.Proofs.Ytckbhfbcblehmaa
namespace Rx
open Go

def oneS : (List (Int) × Int × Int) × Int → Option ((Bool) × ((List (Int) × Int × Int) × Int)) :=
fun x =>
  ob (pickS ((x.fst.1, x.fst.snd.1, x.fst.snd.2), x.2)) fun y =>
    some (y.1 == (0 : Int), (y.snd.fst.1, y.snd.fst.snd.1, y.snd.fst.snd.2), x.2)
def oneS_con : MCon := ⟨[.box 96 (.pair (.slice (.int .u8)) (.pair (i64) (u64))), .v (.d (i64))], [.d (.bool)], oneS⟩
theorem oneS_run (x : ADens [.box 96 (.pair (.slice (.int .u8)) (.pair (i64) (u64))), .v (.d (i64))]) : runFnM (mkEnvM [] [(53, pickS_con)] []) Try.f48 [.box 96 (.pair (.slice (.int .u8)) (.pair (i64) (u64))), .v (.d (i64))] [.d (.bool)] x = oneS x := by kernel_rfl
theorem oneS_ok : oneS_con.ok Try.prog 48 := fnM_ok (con := oneS_con) (mkEnvM_ok (cons := []) (mcons := [(53, pickS_con)]) trivial ⟨pickS_ok, trivial⟩ []) Try.func48 rfl (by kernel_rfl) (by exact trivial) (fun x y h => (oneS_run x).trans h)

def textS : (List (Int) × Int × Int) × List (ByteArray) → Option ((ByteArray) × ((List (Int) × Int × Int) × List (ByteArray))) :=
fun x =>
  ob (pickS ((x.fst.1, x.fst.snd.1, x.fst.snd.2), (↑x.2.length : Int))) fun y =>
    ob (idx x.2 y.1) fun y_1 => some (y_1, (y.snd.fst.1, y.snd.fst.snd.1, y.snd.fst.snd.2), x.2)
def textS_con : MCon := ⟨[.box 96 (.pair (.slice (.int .u8)) (.pair (i64) (u64))), .v (.d (.slice (.str)))], [.d (.str)], textS⟩
theorem textS_run (x : ADens [.box 96 (.pair (.slice (.int .u8)) (.pair (i64) (u64))), .v (.d (.slice (.str)))]) : runFnM (mkEnvM [] [(53, pickS_con)] []) Try.f81 [.box 96 (.pair (.slice (.int .u8)) (.pair (i64) (u64))), .v (.d (.slice (.str)))] [.d (.str)] x = textS x := by kernel_rfl
theorem textS_ok : textS_con.ok Try.prog 81 := fnM_ok (con := textS_con) (mkEnvM_ok (cons := []) (mcons := [(53, pickS_con)]) trivial ⟨pickS_ok, trivial⟩ []) Try.func81 rfl (by kernel_rfl) (by exact trivial) (fun x y h => (textS_run x).trans h)

def decSL_vars : Vars := [(0, .val (i64)), (2, .val (.str)), (3, .row 0 5 (.int .u8)), (4, .val (i64))]
def decSL_step : Int × ByteArray × List (Int) × Int → Option (LRes × (Int × ByteArray × List (Int) × Int)) :=
fun x =>
  br (x.snd.snd.2 != (0 : Int))
    (br (decide (Int.tmod x.snd.snd.2 (10 : Int) < (0 : Int)))
      (br
        (decide
          ([IntKind.u8.wrap
                    (IntKind.i64.wrap
                      ((48 : Int) + IntKind.i64.wrap ((0 : Int) - Int.tmod x.snd.snd.2 (10 : Int))))].length +
              List.length x.snd.snd.1 ≤
            (4294967296 : Nat)))
        (some
          (LRes.next, x.1, x.snd.1,
            [IntKind.u8.wrap
                  (IntKind.i64.wrap ((48 : Int) + IntKind.i64.wrap ((0 : Int) - Int.tmod x.snd.snd.2 (10 : Int))))] ++
              x.snd.snd.1,
            IntKind.i64.wrap (Int.tdiv x.snd.snd.2 (10 : Int))))
        none)
      (br
        (decide
          ([IntKind.u8.wrap (IntKind.i64.wrap ((48 : Int) + Int.tmod x.snd.snd.2 (10 : Int)))].length +
              List.length x.snd.snd.1 ≤
            (4294967296 : Nat)))
        (some
          (LRes.next, x.1, x.snd.1,
            [IntKind.u8.wrap (IntKind.i64.wrap ((48 : Int) + Int.tmod x.snd.snd.2 (10 : Int)))] ++ x.snd.snd.1,
            IntKind.i64.wrap (Int.tdiv x.snd.snd.2 (10 : Int))))
        none))
    (some (LRes.out, x.1, x.snd.1, x.snd.snd.1, x.snd.snd.2))
def decSL_fuel : Int × ByteArray × List (Int) × Int → Nat := fun s => s.2.2.2.natAbs + 1
def decSL : Int × ByteArray × List (Int) × Int → Option (Int × ByteArray × List (Int) × Int) := fun s => iterP decSL_step (decSL_fuel s) s
def decSL_L : LoopC := ⟨decSL_vars, 0, .plain decSL⟩
noncomputable def decSL_key : Nat := key (loopAt Try.f82 0)
theorem decSL_stepok (x : decSL_vars.den) : stepOf (mkEnv [] []) Try.f82.ntmps decSL_vars 0 (loopAt Try.f82 0) x = decSL_step x := by kernel_rfl
theorem decSL_ok : LoopOK Try.prog Try.f82.ntmps decSL_L (loopAt Try.f82 0)   := iterP_loop (n := Try.f82.ntmps) (vs := decSL_vars) (out := 0) (body := loopAt Try.f82 0) (mkEnv_ok (cons := []) trivial []) decSL_step decSL_fuel (by exact trivial) decSL_stepok

def decS : Int → Option (ByteArray) :=
fun x =>
  ob (decSL (x, (⟨⟨[]⟩⟩ : ByteArray), [], x)) fun r =>
    br ((↑(List.length r.snd.snd.1) : Int) == (0 : Int)) (some (⟨⟨[(48 : UInt8)]⟩⟩ : ByteArray))
      (br (decide (r.1 < (0 : Int)))
        (br
          (decide
            ((⟨⟨[(45 : UInt8)]⟩⟩ : ByteArray).size + (bytesOf r.snd.snd.1).size ≤ (9223372036854775807 : Nat)))
          (some ((⟨⟨[(45 : UInt8)]⟩⟩ : ByteArray) ++ bytesOf r.snd.snd.1)) none)
        (some (bytesOf r.snd.snd.1)))
def decS_con : Con := ⟨[i64], [.d (.str)], decS⟩
theorem decS_run (x : Dens [i64]) : runFn (mkEnv [] [(decSL_key, decSL_L)]) Try.f82 [i64] [.d (.str)] x = decS x := by kernel_rfl
theorem decS_ok : decS_con.ok Try.prog 82 := fn_ok (con := decS_con) (mkEnv_ok (cons := []) trivial [(decSL_key, decSL_L)]) Try.func82 rfl (by kernel_rfl) (by exact ⟨decSL_ok, trivial⟩) (fun x y h => (decS_run x).trans h)

def drawPointS : (List (Int) × Int × Int) × Int × Int → Option (((Int × Int)) × ((List (Int) × Int × Int) × Int × Int)) :=
fun x =>
  ob (pickS ((x.fst.1, x.fst.snd.1, x.fst.snd.2), IntKind.i64.wrap (x.snd.1 + (1 : Int)))) fun y =>
    ob (pickS ((y.snd.fst.1, y.snd.fst.snd.1, y.snd.fst.snd.2), IntKind.i64.wrap (x.snd.2 + (1 : Int)))) fun y_1 =>
      some ((y.1, y_1.1), (y_1.snd.fst.1, y_1.snd.fst.snd.1, y_1.snd.fst.snd.2), x.snd.1, x.snd.2)
def drawPointS_con : MCon := ⟨[.box 96 (.pair (.slice (.int .u8)) (.pair (i64) (u64))), .v (.d (i64)), .v (.d (i64))], [.d (.pair (i64) (i64))], drawPointS⟩
theorem drawPointS_run (x : ADens [.box 96 (.pair (.slice (.int .u8)) (.pair (i64) (u64))), .v (.d (i64)), .v (.d (i64))]) : runFnM (mkEnvM [] [(53, pickS_con)] []) Try.f49 [.box 96 (.pair (.slice (.int .u8)) (.pair (i64) (u64))), .v (.d (i64)), .v (.d (i64))] [.d (.pair (i64) (i64))] x = drawPointS x := by kernel_rfl
theorem drawPointS_ok : drawPointS_con.ok Try.prog 49 := fnM_ok (con := drawPointS_con) (mkEnvM_ok (cons := []) (mcons := [(53, pickS_con)]) trivial ⟨pickS_ok, trivial⟩ []) Try.func49 rfl (by kernel_rfl) (by exact trivial) (fun x y h => (drawPointS_run x).trans h)

def drawSL_vars : Vars := [(0, .box 2 96 (.pair (.slice (.int .u8)) (.pair (i64) (u64)))), (2, .box 0 30 (.pair (i64) (.pair (i64) (.pair (i64) (.pair (i64) (.slice (.pair (.str) (.pair (.pair (i64) (i64)) (.pair (i64) (i64)))))))))), (3, .val (i64)), (4, .val (i64)), (7, .boxR 30 (.pair (.d (i64)) (.pair (.d (i64)) (.pair (.d (i64)) (.pair (.d (i64)) (.row 59 (.pair (.str) (.pair (.pair (i64) (i64)) (.pair (i64) (i64)))))))))), (8, .val (.bool)), (9, .val (i64))]
def drawSL_step : (List (Int) × Int × Int) × (Int × Int × Int × Int × List ((ByteArray × (Int × Int) × Int × Int))) × Int × Int × (Int × Int × Int × Int × List ((ByteArray × (Int × Int) × Int × Int))) × Bool × Int → Option (LRes × ((List (Int) × Int × Int) × (Int × Int × Int × Int × List ((ByteArray × (Int × Int) × Int × Int))) × Int × Int × (Int × Int × Int × Int × List ((ByteArray × (Int × Int) × Int × Int))) × Bool × Int)) :=
fun x =>
  br (decide ((0 : Int) < x.snd.snd.snd.snd.snd.2))
    (ob (drawPointS ((x.fst.1, x.fst.snd.1, x.fst.snd.2), x.snd.snd.1, x.snd.snd.snd.1)) fun y =>
      br x.snd.snd.snd.snd.snd.1
        (br (IntKind.i64.wrap (x.snd.snd.1 + (1 : Int)) == (0 : Int)) none
          (br (IntKind.i64.wrap (x.snd.snd.snd.1 + (1 : Int)) == (0 : Int)) none
            (ob (pickS ((y.snd.fst.1, y.snd.fst.snd.1, y.snd.fst.snd.2), (20 : Int))) fun y_1 =>
              ob (pickS ((y_1.snd.fst.1, y_1.snd.fst.snd.1, y_1.snd.fst.snd.2), (200 : Int))) fun y_2 =>
                ob (decS (↑(List.length x.snd.snd.snd.snd.fst.snd.snd.snd.2) : Int)) fun y_3 =>
                  br
                    (decide
                      ((⟨⟨[(97 : UInt8)]⟩⟩ : ByteArray).size + ByteArray.size y_3 ≤
                        (9223372036854775807 : Nat)))
                    (br
                      (decide
                        (List.length x.snd.snd.snd.snd.fst.snd.snd.snd.2 +
                            [((⟨⟨[(97 : UInt8)]⟩⟩ : ByteArray) ++ y_3,
                                  (IntKind.i64.wrap
                                      (IntKind.i64.wrap
                                          ((IntKind.i64.wrap (y.fst.1 * (3 : Int))).tdiv
                                            (IntKind.i64.wrap (x.snd.snd.1 + (1 : Int)))) *
                                        IntKind.i64.wrap (Int.tdiv x.snd.snd.1 (3 : Int))),
                                    IntKind.i64.wrap
                                      (IntKind.i64.wrap
                                          ((IntKind.i64.wrap (y.fst.2 * (3 : Int))).tdiv
                                            (IntKind.i64.wrap (x.snd.snd.snd.1 + (1 : Int)))) *
                                        IntKind.i64.wrap (Int.tdiv x.snd.snd.snd.1 (3 : Int)))),
                                  IntKind.i64.wrap (IntKind.i64.wrap ((1 : Int) + y_1.1) + y_2.1),
                                  IntKind.i64.wrap ((1 : Int) + y_1.1))].length ≤
                          (4294967296 : Nat)))
                      (some
                        (LRes.next, (y_2.snd.fst.1, y_2.snd.fst.snd.1, y_2.snd.fst.snd.2),
                          (x.snd.fst.1, x.snd.fst.snd.1, x.snd.fst.snd.snd.1, x.snd.fst.snd.snd.snd.1,
                            x.snd.fst.snd.snd.snd.2),
                          x.snd.snd.1, x.snd.snd.snd.1,
                          (x.snd.snd.snd.snd.fst.1, x.snd.snd.snd.snd.fst.snd.1, x.snd.snd.snd.snd.fst.snd.snd.1,
                            x.snd.snd.snd.snd.fst.snd.snd.snd.1,
                            x.snd.snd.snd.snd.fst.snd.snd.snd.2 ++
                              [((⟨⟨[(97 : UInt8)]⟩⟩ : ByteArray) ++ y_3,
                                  (IntKind.i64.wrap
                                      (IntKind.i64.wrap
                                          ((IntKind.i64.wrap (y.fst.1 * (3 : Int))).tdiv
                                            (IntKind.i64.wrap (x.snd.snd.1 + (1 : Int)))) *
                                        IntKind.i64.wrap (Int.tdiv x.snd.snd.1 (3 : Int))),
                                    IntKind.i64.wrap
                                      (IntKind.i64.wrap
                                          ((IntKind.i64.wrap (y.fst.2 * (3 : Int))).tdiv
                                            (IntKind.i64.wrap (x.snd.snd.snd.1 + (1 : Int)))) *
                                        IntKind.i64.wrap (Int.tdiv x.snd.snd.snd.1 (3 : Int)))),
                                  IntKind.i64.wrap (IntKind.i64.wrap ((1 : Int) + y_1.1) + y_2.1),
                                  IntKind.i64.wrap ((1 : Int) + y_1.1))]),
                          x.snd.snd.snd.snd.snd.1, IntKind.i64.wrap (x.snd.snd.snd.snd.snd.2 - (1 : Int))))
                      none)
                    none)))
        (ob (pickS ((y.snd.fst.1, y.snd.fst.snd.1, y.snd.fst.snd.2), (20 : Int))) fun y_1 =>
          ob (pickS ((y_1.snd.fst.1, y_1.snd.fst.snd.1, y_1.snd.fst.snd.2), (200 : Int))) fun y_2 =>
            ob (decS (↑(List.length x.snd.snd.snd.snd.fst.snd.snd.snd.2) : Int)) fun y_3 =>
              br
                (decide
                  ((⟨⟨[(97 : UInt8)]⟩⟩ : ByteArray).size + ByteArray.size y_3 ≤ (9223372036854775807 : Nat)))
                (br
                  (decide
                    (List.length x.snd.snd.snd.snd.fst.snd.snd.snd.2 +
                        [((⟨⟨[(97 : UInt8)]⟩⟩ : ByteArray) ++ y_3, (y.fst.1, y.fst.2),
                              IntKind.i64.wrap (IntKind.i64.wrap ((1 : Int) + y_1.1) + y_2.1),
                              IntKind.i64.wrap ((1 : Int) + y_1.1))].length ≤
                      (4294967296 : Nat)))
                  (some
                    (LRes.next, (y_2.snd.fst.1, y_2.snd.fst.snd.1, y_2.snd.fst.snd.2),
                      (x.snd.fst.1, x.snd.fst.snd.1, x.snd.fst.snd.snd.1, x.snd.fst.snd.snd.snd.1,
                        x.snd.fst.snd.snd.snd.2),
                      x.snd.snd.1, x.snd.snd.snd.1,
                      (x.snd.snd.snd.snd.fst.1, x.snd.snd.snd.snd.fst.snd.1, x.snd.snd.snd.snd.fst.snd.snd.1,
                        x.snd.snd.snd.snd.fst.snd.snd.snd.1,
                        x.snd.snd.snd.snd.fst.snd.snd.snd.2 ++
                          [((⟨⟨[(97 : UInt8)]⟩⟩ : ByteArray) ++ y_3, (y.fst.1, y.fst.2),
                              IntKind.i64.wrap (IntKind.i64.wrap ((1 : Int) + y_1.1) + y_2.1),
                              IntKind.i64.wrap ((1 : Int) + y_1.1))]),
                      x.snd.snd.snd.snd.snd.1, IntKind.i64.wrap (x.snd.snd.snd.snd.snd.2 - (1 : Int))))
                  none)
                none))
    (some
      (LRes.out, (x.fst.1, x.fst.snd.1, x.fst.snd.2),
        (x.snd.fst.1, x.snd.fst.snd.1, x.snd.fst.snd.snd.1, x.snd.fst.snd.snd.snd.1, x.snd.fst.snd.snd.snd.2),
        x.snd.snd.1, x.snd.snd.snd.1,
        (x.snd.snd.snd.snd.fst.1, x.snd.snd.snd.snd.fst.snd.1, x.snd.snd.snd.snd.fst.snd.snd.1,
          x.snd.snd.snd.snd.fst.snd.snd.snd.1, x.snd.snd.snd.snd.fst.snd.snd.snd.2),
        x.snd.snd.snd.snd.snd.1, x.snd.snd.snd.snd.snd.2))
def drawSL_fuel : (List (Int) × Int × Int) × (Int × Int × Int × Int × List ((ByteArray × (Int × Int) × Int × Int))) × Int × Int × (Int × Int × Int × Int × List ((ByteArray × (Int × Int) × Int × Int))) × Bool × Int → Nat := fun s => s.2.2.2.2.2.2.toNat + 1
def drawSL : (List (Int) × Int × Int) × (Int × Int × Int × Int × List ((ByteArray × (Int × Int) × Int × Int))) × Int × Int × (Int × Int × Int × Int × List ((ByteArray × (Int × Int) × Int × Int))) × Bool × Int → Option ((List (Int) × Int × Int) × (Int × Int × Int × Int × List ((ByteArray × (Int × Int) × Int × Int))) × Int × Int × (Int × Int × Int × Int × List ((ByteArray × (Int × Int) × Int × Int))) × Bool × Int) := fun s => iterP drawSL_step (drawSL_fuel s) s
def drawSL_L : LoopC := ⟨drawSL_vars, 0, .plain drawSL⟩
noncomputable def drawSL_key : Nat := key (loopAt Try.f80 0)
theorem drawSL_stepok (x : drawSL_vars.den) : stepOf (mkEnvM [(82, decS_con)] [(53, pickS_con), (49, drawPointS_con)] []) Try.f80.ntmps drawSL_vars 0 (loopAt Try.f80 0) x = drawSL_step x := by kernel_rfl
theorem drawSL_ok : LoopOK Try.prog Try.f80.ntmps drawSL_L (loopAt Try.f80 0)   := iterP_loop (n := Try.f80.ntmps) (vs := drawSL_vars) (out := 0) (body := loopAt Try.f80 0) (mkEnvM_ok (cons := [(82, decS_con)]) (mcons := [(53, pickS_con), (49, drawPointS_con)]) ⟨decS_ok, trivial⟩ ⟨pickS_ok, drawPointS_ok, trivial⟩ []) drawSL_step drawSL_fuel (by exact trivial) drawSL_stepok

def drawS : (List (Int) × Int × Int) → Option (((Int × Int × Int × Int × List ((ByteArray × (Int × Int) × Int × Int)))) × ((List (Int) × Int × Int))) :=
fun x =>
  ob (pickS ((x.1, x.snd.1, x.snd.2), (800 : Int))) fun y =>
    ob (pickS ((y.snd.fst.1, y.snd.fst.snd.1, y.snd.fst.snd.2), (800 : Int))) fun y_1 =>
      ob (oneS ((y_1.snd.fst.1, y_1.snd.fst.snd.1, y_1.snd.fst.snd.2), (8 : Int))) fun y_2 =>
        br y_2.1
          (ob (amongS ((y_2.snd.fst.1, y_2.snd.fst.snd.1, y_2.snd.fst.snd.2), [(1 : Int), (3 : Int), (10000 : Int)]))
            fun y =>
            ob (pickS ((y.snd.fst.1, y.snd.fst.snd.1, y.snd.fst.snd.2), (30 : Int))) fun y_3 =>
              ob (pickS ((y_3.snd.fst.1, y_3.snd.fst.snd.1, y_3.snd.fst.snd.2), (40 : Int))) fun y_4 =>
                ob (oneS ((y_4.snd.fst.1, y_4.snd.fst.snd.1, y_4.snd.fst.snd.2), (3 : Int))) fun y_5 =>
                  ob (pickS ((y_5.snd.fst.1, y_5.snd.fst.snd.1, y_5.snd.fst.snd.2), (8 : Int))) fun y_6 =>
                    ob
                      (drawSL
                        ((y_6.snd.fst.1, y_6.snd.fst.snd.1, y_6.snd.fst.snd.2),
                          ((0 : Int), (0 : Int), (0 : Int), (0 : Int), []), y.1, IntKind.i64.wrap ((400 : Int) + y_1.1),
                          (y.1, IntKind.i64.wrap ((400 : Int) + y_1.1), y_3.1, y_4.1, []), y_5.1, y_6.1))
                      fun r =>
                      some
                        ((r.snd.snd.snd.snd.fst.1, r.snd.snd.snd.snd.fst.snd.1, r.snd.snd.snd.snd.fst.snd.snd.1,
                            r.snd.snd.snd.snd.fst.snd.snd.snd.1, r.snd.snd.snd.snd.fst.snd.snd.snd.2),
                          r.fst.1, r.fst.snd.1, r.fst.snd.2))
          (ob (pickS ((y_2.snd.fst.1, y_2.snd.fst.snd.1, y_2.snd.fst.snd.2), (30 : Int))) fun y_3 =>
            ob (pickS ((y_3.snd.fst.1, y_3.snd.fst.snd.1, y_3.snd.fst.snd.2), (40 : Int))) fun y_4 =>
              ob (oneS ((y_4.snd.fst.1, y_4.snd.fst.snd.1, y_4.snd.fst.snd.2), (3 : Int))) fun y_5 =>
                ob (pickS ((y_5.snd.fst.1, y_5.snd.fst.snd.1, y_5.snd.fst.snd.2), (8 : Int))) fun y_6 =>
                  ob
                    (drawSL
                      ((y_6.snd.fst.1, y_6.snd.fst.snd.1, y_6.snd.fst.snd.2),
                        ((0 : Int), (0 : Int), (0 : Int), (0 : Int), []), IntKind.i64.wrap ((400 : Int) + y.1),
                        IntKind.i64.wrap ((400 : Int) + y_1.1),
                        (IntKind.i64.wrap ((400 : Int) + y.1), IntKind.i64.wrap ((400 : Int) + y_1.1), y_3.1, y_4.1,
                          []),
                        y_5.1, y_6.1))
                    fun r =>
                    some
                      ((r.snd.snd.snd.snd.fst.1, r.snd.snd.snd.snd.fst.snd.1, r.snd.snd.snd.snd.fst.snd.snd.1,
                          r.snd.snd.snd.snd.fst.snd.snd.snd.1, r.snd.snd.snd.snd.fst.snd.snd.snd.2),
                        r.fst.1, r.fst.snd.1, r.fst.snd.2))
def drawS_con : MCon := ⟨[.box 96 (.pair (.slice (.int .u8)) (.pair (i64) (u64)))], [.pair (.d (i64)) (.pair (.d (i64)) (.pair (.d (i64)) (.pair (.d (i64)) (.row 59 (.pair (.str) (.pair (.pair (i64) (i64)) (.pair (i64) (i64))))))))], drawS⟩
theorem drawS_run (x : ADens [.box 96 (.pair (.slice (.int .u8)) (.pair (i64) (u64)))]) : runFnM (mkEnvM [] [(53, pickS_con), (54, amongS_con), (48, oneS_con)] [(drawSL_key, drawSL_L)]) Try.f80 [.box 96 (.pair (.slice (.int .u8)) (.pair (i64) (u64)))] [.pair (.d (i64)) (.pair (.d (i64)) (.pair (.d (i64)) (.pair (.d (i64)) (.row 59 (.pair (.str) (.pair (.pair (i64) (i64)) (.pair (i64) (i64))))))))] x = drawS x := by kernel_rfl
theorem drawS_ok : drawS_con.ok Try.prog 80 := fnM_ok (con := drawS_con) (mkEnvM_ok (cons := []) (mcons := [(53, pickS_con), (54, amongS_con), (48, oneS_con)]) trivial ⟨pickS_ok, amongS_ok, oneS_ok, trivial⟩ [(drawSL_key, drawSL_L)]) Try.func80 rfl (by kernel_rfl) (by exact ⟨drawSL_ok, trivial⟩) (fun x y h => (drawS_run x).trans h)

def bentSL_vars : Vars := [(0, .box 2 96 (.pair (.slice (.int .u8)) (.pair (i64) (u64)))), (2, .box 0 30 (.pair (i64) (.pair (i64) (.pair (i64) (.pair (i64) (.slice (.pair (.str) (.pair (.pair (i64) (i64)) (.pair (i64) (i64)))))))))), (3, .boxR 30 (.pair (.d (i64)) (.pair (.d (i64)) (.pair (.d (i64)) (.pair (.d (i64)) (.row 59 (.pair (.str) (.pair (.pair (i64) (i64)) (.pair (i64) (i64)))))))))), (5, .val (i64))]
def bentSL_step : (List (Int) × Int × Int) × (Int × Int × Int × Int × List ((ByteArray × (Int × Int) × Int × Int))) × (Int × Int × Int × Int × List ((ByteArray × (Int × Int) × Int × Int))) × Int → Option (LRes × ((List (Int) × Int × Int) × (Int × Int × Int × Int × List ((ByteArray × (Int × Int) × Int × Int))) × (Int × Int × Int × Int × List ((ByteArray × (Int × Int) × Int × Int))) × Int)) :=
fun x =>
  br (decide ((0 : Int) < x.snd.snd.2))
    (ob (decS x.snd.snd.2) fun y =>
      br (decide ((⟨⟨[(98 : UInt8)]⟩⟩ : ByteArray).size + ByteArray.size y ≤ (9223372036854775807 : Nat)))
        (br (IntKind.i64.wrap (x.snd.snd.fst.1 + (1 : Int)) == (0 : Int)) none
          (br
            (decide
              (List.length x.snd.snd.fst.snd.snd.snd.2 +
                  [((⟨⟨[(98 : UInt8)]⟩⟩ : ByteArray) ++ y,
                        (Int.tmod x.snd.snd.2 (IntKind.i64.wrap (x.snd.snd.fst.1 + (1 : Int))), (0 : Int)), (5 : Int),
                        (5 : Int))].length ≤
                (4294967296 : Nat)))
            (some
              (LRes.next, (x.fst.1, x.fst.snd.1, x.fst.snd.2),
                (x.snd.fst.1, x.snd.fst.snd.1, x.snd.fst.snd.snd.1, x.snd.fst.snd.snd.snd.1, x.snd.fst.snd.snd.snd.2),
                (x.snd.snd.fst.1, x.snd.snd.fst.snd.1, x.snd.snd.fst.snd.snd.1, x.snd.snd.fst.snd.snd.snd.1,
                  x.snd.snd.fst.snd.snd.snd.2 ++
                    [((⟨⟨[(98 : UInt8)]⟩⟩ : ByteArray) ++ y,
                        (Int.tmod x.snd.snd.2 (IntKind.i64.wrap (x.snd.snd.fst.1 + (1 : Int))), (0 : Int)), (5 : Int),
                        (5 : Int))]),
                IntKind.i64.wrap (x.snd.snd.2 - (1 : Int))))
            none))
        none)
    (some
      (LRes.out, (x.fst.1, x.fst.snd.1, x.fst.snd.2),
        (x.snd.fst.1, x.snd.fst.snd.1, x.snd.fst.snd.snd.1, x.snd.fst.snd.snd.snd.1, x.snd.fst.snd.snd.snd.2),
        (x.snd.snd.fst.1, x.snd.snd.fst.snd.1, x.snd.snd.fst.snd.snd.1, x.snd.snd.fst.snd.snd.snd.1,
          x.snd.snd.fst.snd.snd.snd.2),
        x.snd.snd.2))
def bentSL_fuel : (List (Int) × Int × Int) × (Int × Int × Int × Int × List ((ByteArray × (Int × Int) × Int × Int))) × (Int × Int × Int × Int × List ((ByteArray × (Int × Int) × Int × Int))) × Int → Nat := fun s => s.2.2.2.toNat + 1
def bentSL : (List (Int) × Int × Int) × (Int × Int × Int × Int × List ((ByteArray × (Int × Int) × Int × Int))) × (Int × Int × Int × Int × List ((ByteArray × (Int × Int) × Int × Int))) × Int → Option ((List (Int) × Int × Int) × (Int × Int × Int × Int × List ((ByteArray × (Int × Int) × Int × Int))) × (Int × Int × Int × Int × List ((ByteArray × (Int × Int) × Int × Int))) × Int) := fun s => iterP bentSL_step (bentSL_fuel s) s
def bentSL_L : LoopC := ⟨bentSL_vars, 1, .plain bentSL⟩
noncomputable def bentSL_key : Nat := key (loopAt Try.f63 0)
theorem bentSL_stepok (x : bentSL_vars.den) : stepOf (mkEnv [(82, decS_con)] []) Try.f63.ntmps bentSL_vars 1 (loopAt Try.f63 0) x = bentSL_step x := by kernel_rfl
theorem bentSL_ok : LoopOK Try.prog Try.f63.ntmps bentSL_L (loopAt Try.f63 0)   := iterP_loop (n := Try.f63.ntmps) (vs := bentSL_vars) (out := 1) (body := loopAt Try.f63 0) (mkEnv_ok (cons := [(82, decS_con)]) ⟨decS_ok, trivial⟩ []) bentSL_step bentSL_fuel (by exact trivial) bentSL_stepok

def bentS : (List (Int) × Int × Int) → Option (((Int × Int × Int × Int × List ((ByteArray × (Int × Int) × Int × Int)))) × ((List (Int) × Int × Int))) :=
fun x =>
  ob (drawS (x.1, x.snd.1, x.snd.2)) fun y =>
    ob (pickS ((y.snd.1, y.snd.snd.1, y.snd.snd.2), (↑(List.length y.fst.snd.snd.snd.2) : Int))) fun y_1 =>
      ob (pickS ((y_1.snd.fst.1, y_1.snd.fst.snd.1, y_1.snd.fst.snd.2), (30 : Int))) fun y_2 =>
        br (y_2.1 == (0 : Int))
          (ob (amongS ((y_2.snd.fst.1, y_2.snd.fst.snd.1, y_2.snd.fst.snd.2), [(0 : Int), (10001 : Int)])) fun y_3 =>
            some
              ((y_3.1, y.fst.snd.1, y.fst.snd.snd.1, y.fst.snd.snd.snd.1, y.fst.snd.snd.snd.2), y_3.snd.fst.1,
                y_3.snd.fst.snd.1, y_3.snd.fst.snd.2))
          (br (y_2.1 == (1 : Int))
            (ob
              (amongS ((y_2.snd.fst.1, y_2.snd.fst.snd.1, y_2.snd.fst.snd.2), [(-1 : Int), (1000 : Int), (1001 : Int)]))
              fun y_3 =>
              some
                ((y.fst.1, y.fst.snd.1, y.fst.snd.snd.1, y_3.1, y.fst.snd.snd.snd.2), y_3.snd.fst.1, y_3.snd.fst.snd.1,
                  y_3.snd.fst.snd.2))
            (br (y_2.1 == (2 : Int))
              (br (decide ((0 : Int) < (↑(List.length y.fst.snd.snd.snd.2) : Int)))
                (ob
                  (amongS
                    ((y_2.snd.fst.1, y_2.snd.fst.snd.1, y_2.snd.fst.snd.2),
                      [(-1 : Int), y.fst.1, IntKind.i64.wrap (y.fst.1 + (1 : Int))]))
                  fun y_3 =>
                  ob (idx y.fst.snd.snd.snd.2 y_1.1) fun x =>
                    ob (List.get?Internal y.fst.snd.snd.snd.2 (Int.toNat y_1.1)) fun x =>
                      some
                        ((y.fst.1, y.fst.snd.1, y.fst.snd.snd.1, y.fst.snd.snd.snd.1,
                            List.set y.fst.snd.snd.snd.2 (Int.toNat y_1.1)
                              (x.1, (y_3.1, x.snd.fst.2), x.snd.snd.1, x.snd.snd.2)),
                          y_3.snd.fst.1, y_3.snd.fst.snd.1, y_3.snd.fst.snd.2))
                (some
                  ((y.fst.1, y.fst.snd.1, y.fst.snd.snd.1, y.fst.snd.snd.snd.1, y.fst.snd.snd.snd.2), y_2.snd.fst.1,
                    y_2.snd.fst.snd.1, y_2.snd.fst.snd.2)))
              (br (y_2.1 == (3 : Int))
                (br (decide ((0 : Int) < (↑(List.length y.fst.snd.snd.snd.2) : Int)))
                  (ob
                    (textS
                      ((y_2.snd.fst.1, y_2.snd.fst.snd.1, y_2.snd.fst.snd.2),
                        [(⟨⟨[]⟩⟩ : ByteArray), (⟨⟨[(97 : UInt8), (48 : UInt8)]⟩⟩ : ByteArray),
                          (⟨⟨[(85 : UInt8), (112 : UInt8)]⟩⟩ : ByteArray),
                          (⟨⟨[(120 : UInt8)]⟩⟩ : ByteArray)]))
                    fun y_3 =>
                    ob (idx y.fst.snd.snd.snd.2 y_1.1) fun x =>
                      ob (List.get?Internal y.fst.snd.snd.snd.2 (Int.toNat y_1.1)) fun x =>
                        some
                          ((y.fst.1, y.fst.snd.1, y.fst.snd.snd.1, y.fst.snd.snd.snd.1,
                              List.set y.fst.snd.snd.snd.2 (Int.toNat y_1.1)
                                (y_3.1, (x.snd.fst.1, x.snd.fst.2), x.snd.snd.1, x.snd.snd.2)),
                            y_3.snd.fst.1, y_3.snd.fst.snd.1, y_3.snd.fst.snd.2))
                  (some
                    ((y.fst.1, y.fst.snd.1, y.fst.snd.snd.1, y.fst.snd.snd.snd.1, y.fst.snd.snd.snd.2), y_2.snd.fst.1,
                      y_2.snd.fst.snd.1, y_2.snd.fst.snd.2)))
                (br (y_2.1 == (4 : Int))
                  (br (decide ((0 : Int) < (↑(List.length y.fst.snd.snd.snd.2) : Int)))
                    (ob (idx y.fst.snd.snd.snd.2 y_1.1) fun x =>
                      ob (List.get?Internal y.fst.snd.snd.snd.2 (Int.toNat y_1.1)) fun x =>
                        ob (idx y.fst.snd.snd.snd.2 y_1.1) fun x_1 =>
                          ob (List.get?Internal y.fst.snd.snd.snd.2 (Int.toNat y_1.1)) fun x_2 =>
                            ob
                              (amongS
                                ((y_2.snd.fst.1, y_2.snd.fst.snd.1, y_2.snd.fst.snd.2),
                                  [(0 : Int), (1001 : Int), x.snd.snd.1, IntKind.i64.wrap (x_2.snd.snd.1 + (1 : Int))]))
                              fun y_3 =>
                              ob (idx y.fst.snd.snd.snd.2 y_1.1) fun x =>
                                ob (List.get?Internal y.fst.snd.snd.snd.2 (Int.toNat y_1.1)) fun x =>
                                  some
                                    ((y.fst.1, y.fst.snd.1, y.fst.snd.snd.1, y.fst.snd.snd.snd.1,
                                        List.set y.fst.snd.snd.snd.2 (Int.toNat y_1.1)
                                          (x.1, (x.snd.fst.1, x.snd.fst.2), x.snd.snd.1, y_3.1)),
                                      y_3.snd.fst.1, y_3.snd.fst.snd.1, y_3.snd.fst.snd.2))
                    (some
                      ((y.fst.1, y.fst.snd.1, y.fst.snd.snd.1, y.fst.snd.snd.snd.1, y.fst.snd.snd.snd.2), y_2.snd.fst.1,
                        y_2.snd.fst.snd.1, y_2.snd.fst.snd.2)))
                  (br (y_2.1 == (5 : Int))
                    (ob (pickS ((y_2.snd.fst.1, y_2.snd.fst.snd.1, y_2.snd.fst.snd.2), (3 : Int))) fun y_3 =>
                      ob
                        (bentSL
                          ((y_3.snd.fst.1, y_3.snd.fst.snd.1, y_3.snd.fst.snd.2),
                            ((0 : Int), (0 : Int), (0 : Int), (0 : Int), []),
                            (y.fst.1, y.fst.snd.1, y.fst.snd.snd.1, y.fst.snd.snd.snd.1, []),
                            IntKind.i64.wrap ((19 : Int) + y_3.1)))
                        fun r =>
                        some
                          ((r.snd.snd.fst.1, r.snd.snd.fst.snd.1, r.snd.snd.fst.snd.snd.1, r.snd.snd.fst.snd.snd.snd.1,
                              r.snd.snd.fst.snd.snd.snd.2),
                            r.fst.1, r.fst.snd.1, r.fst.snd.2))
                    (br (y_2.1 == (6 : Int))
                      (ob
                        (amongS
                          ((y_2.snd.fst.1, y_2.snd.fst.snd.1, y_2.snd.fst.snd.2),
                            [(-1 : Int), (1000 : Int), (1001 : Int)]))
                        fun y_3 =>
                        some
                          ((y.fst.1, y.fst.snd.1, y_3.1, y.fst.snd.snd.snd.1, y.fst.snd.snd.snd.2), y_3.snd.fst.1,
                            y_3.snd.fst.snd.1, y_3.snd.fst.snd.2))
                      (some
                        ((y.fst.1, y.fst.snd.1, y.fst.snd.snd.1, y.fst.snd.snd.snd.1, y.fst.snd.snd.snd.2),
                          y_2.snd.fst.1, y_2.snd.fst.snd.1, y_2.snd.fst.snd.2))))))))
def bentS_con : MCon := ⟨[.box 96 (.pair (.slice (.int .u8)) (.pair (i64) (u64)))], [.pair (.d (i64)) (.pair (.d (i64)) (.pair (.d (i64)) (.pair (.d (i64)) (.row 59 (.pair (.str) (.pair (.pair (i64) (i64)) (.pair (i64) (i64))))))))], bentS⟩
theorem bentS_run (x : ADens [.box 96 (.pair (.slice (.int .u8)) (.pair (i64) (u64)))]) : runFnM (mkEnvM [] [(80, drawS_con), (53, pickS_con), (54, amongS_con), (81, textS_con)] [(bentSL_key, bentSL_L)]) Try.f63 [.box 96 (.pair (.slice (.int .u8)) (.pair (i64) (u64)))] [.pair (.d (i64)) (.pair (.d (i64)) (.pair (.d (i64)) (.pair (.d (i64)) (.row 59 (.pair (.str) (.pair (.pair (i64) (i64)) (.pair (i64) (i64))))))))] x = bentS x := by kernel_rfl
theorem bentS_ok : bentS_con.ok Try.prog 63 := fnM_ok (con := bentS_con) (mkEnvM_ok (cons := []) (mcons := [(80, drawS_con), (53, pickS_con), (54, amongS_con), (81, textS_con)]) trivial ⟨drawS_ok, pickS_ok, amongS_ok, textS_ok, trivial⟩ [(bentSL_key, bentSL_L)]) Try.func63 rfl (by kernel_rfl) (by exact ⟨bentSL_ok, trivial⟩) (fun x y h => (bentS_run x).trans h)

def drawTurnS : List (Int) → Option ((Int × Int × Int × Int × List ((ByteArray × (Int × Int) × Int × Int)))) :=
fun x =>
  ob (fromS x) fun y =>
    ob (bentS (y.1, y.snd.1, y.snd.2)) fun y =>
      some (y.fst.1, y.fst.snd.1, y.fst.snd.snd.1, y.fst.snd.snd.snd.1, y.fst.snd.snd.snd.2)
def drawTurnS_con : Con := ⟨[.slice (.int .u8)], [.pair (.d (i64)) (.pair (.d (i64)) (.pair (.d (i64)) (.pair (.d (i64)) (.row 59 (.pair (.str) (.pair (.pair (i64) (i64)) (.pair (i64) (i64))))))))], drawTurnS⟩
theorem drawTurnS_run (x : Dens [.slice (.int .u8)]) : runFn (mkEnvM [(46, fromS_con)] [(63, bentS_con)] []) Try.f20 [.slice (.int .u8)] [.pair (.d (i64)) (.pair (.d (i64)) (.pair (.d (i64)) (.pair (.d (i64)) (.row 59 (.pair (.str) (.pair (.pair (i64) (i64)) (.pair (i64) (i64))))))))] x = drawTurnS x := by kernel_rfl
theorem drawTurnS_ok : drawTurnS_con.ok Try.prog 20 := fn_ok (con := drawTurnS_con) (mkEnvM_ok (cons := [(46, fromS_con)]) (mcons := [(63, bentS_con)]) ⟨fromS_ok, trivial⟩ ⟨bentS_ok, trivial⟩ []) Try.func20 rfl (by kernel_rfl) (by exact trivial) (fun x y h => (drawTurnS_run x).trans h)

def drawClashS : List (Int) → Option ((Int × Int × Int × Int × List ((ByteArray × (Int × Int) × Int × Int)))) :=
fun x =>
  ob (fromS x) fun y =>
    ob (bentS (y.1, y.snd.1, y.snd.2)) fun y =>
      some (y.fst.1, y.fst.snd.1, y.fst.snd.snd.1, y.fst.snd.snd.snd.1, y.fst.snd.snd.snd.2)
def drawClashS_con : Con := ⟨[.slice (.int .u8)], [.pair (.d (i64)) (.pair (.d (i64)) (.pair (.d (i64)) (.pair (.d (i64)) (.row 59 (.pair (.str) (.pair (.pair (i64) (i64)) (.pair (i64) (i64))))))))], drawClashS⟩
theorem drawClashS_run (x : Dens [.slice (.int .u8)]) : runFn (mkEnvM [(46, fromS_con)] [(63, bentS_con)] []) Try.f30 [.slice (.int .u8)] [.pair (.d (i64)) (.pair (.d (i64)) (.pair (.d (i64)) (.pair (.d (i64)) (.row 59 (.pair (.str) (.pair (.pair (i64) (i64)) (.pair (i64) (i64))))))))] x = drawClashS x := by kernel_rfl
theorem drawClashS_ok : drawClashS_con.ok Try.prog 30 := fn_ok (con := drawClashS_con) (mkEnvM_ok (cons := [(46, fromS_con)]) (mcons := [(63, bentS_con)]) ⟨fromS_ok, trivial⟩ ⟨bentS_ok, trivial⟩ []) Try.func30 rfl (by kernel_rfl) (by exact trivial) (fun x y h => (drawClashS_run x).trans h)

end Rx
end Go.Proofs.Ytckbhfbcblehmaa
