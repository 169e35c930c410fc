/- What the functions of RxReadW come to, and their contracts. No conditions. -/
import Derived.Test.YtonbgpliomhboaaGreatDoorRxEnv
import Derived.Test.YtonbgpliomhboaaGreatDoorRxRead
import Derived.Test.YtonbgpliomhboaaGreatDoorRxWorks
import Derived.Test.YtonbgpliomhboaaGreatDoorRxWTextLaw
import Derived.Test.YtonbgpliomhboaaGreatDoorRxDeepWLaw
namespace Go.Proofs.YtonbgpliomhboaaGreatDoor
namespace Rx
open Go

noncomputable section
def hasSufA : ByteArray × ByteArray → Option (Bool) :=
fun x =>
  br (decide ((↑x.2.size : Int) ≤ (↑x.1.size : Int)))
    (br
      (decide
        ((0 : Int) ≤ IntKind.i64.wrap ((↑x.1.size : Int) - (↑x.2.size : Int)) ∧
          IntKind.i64.wrap ((↑x.1.size : Int) - (↑x.2.size : Int)) ≤ (↑x.1.size : Int) ∧
            (↑x.1.size : Int) ≤ (↑x.1.size : Int)))
      (some
        ((x.1.extract (IntKind.i64.wrap ((↑x.1.size : Int) - (↑x.2.size : Int))).toNat
              (↑x.1.size : Int).toNat).toList ==
          x.2.toList))
      none)
    (some false)
def hasSufA_con : Con := ⟨[.str, .str], [.d (.bool)], hasSufA⟩
theorem hasSufA_run (x : Dens [.str, .str]) : runFn (mkEnv [] []) Tryz.f82 [.str, .str] [.d (.bool)] x = hasSufA x := by kernel_rfl
theorem hasSufA_ok : hasSufA_con.ok Tryz.prog 82 := fn_ok (con := hasSufA_con) (mkEnv_ok (cons := []) trivial []) Tryz.func82 rfl (by kernel_rfl) (by exact trivial) (fun x y h => (hasSufA_run x).trans h)

def hasSufX : ByteArray × ByteArray → Option (Bool) :=
fun x => ob (hasSufA (x.1, x.2)) fun y => some y
def hasSufX_con : Con := ⟨[.str, .str], [.d (.bool)], hasSufX⟩
theorem hasSufX_run (x : Dens [.str, .str]) : runFn (mkEnv [(82, hasSufA_con)] []) Tryz.f47 [.str, .str] [.d (.bool)] x = hasSufX x := by kernel_rfl
theorem hasSufX_ok : hasSufX_con.ok Tryz.prog 47 := fn_ok (con := hasSufX_con) (mkEnv_ok (cons := [(82, hasSufA_con)]) ⟨hasSufA_ok, trivial⟩ []) Tryz.func47 rfl (by kernel_rfl) (by exact trivial) (fun x y h => (hasSufX_run x).trans h)

def trimSufA : ByteArray × ByteArray → Option (ByteArray) :=
fun x =>
  ob (hasSufA (x.1, x.2)) fun y =>
    br y
      (br
        (decide
          ((0 : Int) ≤ (0 : Int) ∧
            (0 : Int) ≤ IntKind.i64.wrap ((↑x.1.size : Int) - (↑x.2.size : Int)) ∧
              IntKind.i64.wrap ((↑x.1.size : Int) - (↑x.2.size : Int)) ≤ (↑x.1.size : Int)))
        (some (x.1.extract (Int.toNat (0 : Int)) (IntKind.i64.wrap ((↑x.1.size : Int) - (↑x.2.size : Int))).toNat))
        none)
      (some x.1)
def trimSufA_con : Con := ⟨[.str, .str], [.d (.str)], trimSufA⟩
theorem trimSufA_run (x : Dens [.str, .str]) : runFn (mkEnv [(82, hasSufA_con)] []) Tryz.f84 [.str, .str] [.d (.str)] x = trimSufA x := by kernel_rfl
theorem trimSufA_ok : trimSufA_con.ok Tryz.prog 84 := fn_ok (con := trimSufA_con) (mkEnv_ok (cons := [(82, hasSufA_con)]) ⟨hasSufA_ok, trivial⟩ []) Tryz.func84 rfl (by kernel_rfl) (by exact trivial) (fun x y h => (trimSufA_run x).trans h)

def trimSufX : ByteArray × ByteArray → Option (ByteArray) :=
fun x => ob (trimSufA (x.1, x.2)) fun y => some y
def trimSufX_con : Con := ⟨[.str, .str], [.d (.str)], trimSufX⟩
theorem trimSufX_run (x : Dens [.str, .str]) : runFn (mkEnv [(84, trimSufA_con)] []) Tryz.f49 [.str, .str] [.d (.str)] x = trimSufX x := by kernel_rfl
theorem trimSufX_ok : trimSufX_con.ok Tryz.prog 49 := fn_ok (con := trimSufX_con) (mkEnv_ok (cons := [(84, trimSufA_con)]) ⟨trimSufA_ok, trivial⟩ []) Tryz.func49 rfl (by kernel_rfl) (by exact trivial) (fun x y h => (trimSufX_run x).trans h)

def linesI : ByteArray → Option (List (ByteArray) × Bool) :=
fun x =>
  br (x.toList == (⟨⟨[]⟩⟩ : ByteArray).toList) (some ([], true))
    (ob (hasSufX (x, (⟨⟨[(10 : UInt8)]⟩⟩ : ByteArray))) fun y =>
      br (!y) (some ([], false))
        (ob (trimSufX (x, (⟨⟨[(10 : UInt8)]⟩⟩ : ByteArray))) fun y =>
          ob (splitX (y, (⟨⟨[(10 : UInt8)]⟩⟩ : ByteArray))) fun y => some (y, true)))
def linesI_con : Con := ⟨[.str], [.row 9 (.str), .d (.bool)], linesI⟩
theorem linesI_run (x : Dens [.str]) : runFn (mkEnv [(47, hasSufX_con), (49, trimSufX_con), (48, splitX_con)] []) Tryz.f21 [.str] [.row 9 (.str), .d (.bool)] x = linesI x := by kernel_rfl
theorem linesI_ok : linesI_con.ok Tryz.prog 21 := fn_ok (con := linesI_con) (mkEnv_ok (cons := [(47, hasSufX_con), (49, trimSufX_con), (48, splitX_con)]) ⟨hasSufX_ok, trimSufX_ok, splitX_ok, trivial⟩ []) Tryz.func21 rfl (by kernel_rfl) (by exact trivial) (fun x y h => (linesI_run x).trans h)

def wheelIL_vars : Vars := [(0, .val (.str)), (2, .boxR 0 25 (.pair (.deep 56 (.pair (.d (.str)) (.row 2 (i64)))) (.row 61 (.pair (i64) (.pair (i64) (.pair (i64) (i64))))))), (3, .val (.bool)), (6, .boxR 0 25 (.pair (.deep 56 (.pair (.d (.str)) (.row 2 (i64)))) (.row 61 (.pair (i64) (.pair (i64) (.pair (i64) (i64))))))), (10, .boxR 0 56 (.pair (.d (.str)) (.row 2 (i64)))), (27, .row 0 9 (.str)), (28, .val (i64)), (29, .val (i64)), (51, .val (.slice (.str))), (52, .val (i64)), (53, .val (i64))]
def wheelIL_step : ByteArray × (List ((ByteArray × List (Int))) × List ((Int × Int × Int × Int))) × Bool × (List ((ByteArray × List (Int))) × List ((Int × Int × Int × Int))) × (ByteArray × List (Int)) × List (ByteArray) × Int × Int × List (ByteArray) × Int × Int → Option (LRes × (ByteArray × (List ((ByteArray × List (Int))) × List ((Int × Int × Int × Int))) × Bool × (List ((ByteArray × List (Int))) × List ((Int × Int × Int × Int))) × (ByteArray × List (Int)) × List (ByteArray) × Int × Int × List (ByteArray) × Int × Int)) :=
fun x =>
  br (decide (x.snd.snd.snd.snd.snd.snd.snd.snd.snd.2 < x.snd.snd.snd.snd.snd.snd.snd.snd.snd.1))
    (ob (idx x.snd.snd.snd.snd.snd.snd.snd.snd.1 x.snd.snd.snd.snd.snd.snd.snd.snd.snd.2) fun y =>
      ob (readX y) fun y =>
        br (decide (List.length x.snd.snd.snd.snd.fst.2 + [y.1].length ≤ (4294967296 : Nat)))
          (some
            (LRes.next, x.1, (x.snd.fst.1, x.snd.fst.2), x.snd.snd.1, (x.snd.snd.snd.fst.1, x.snd.snd.snd.fst.2),
              (x.snd.snd.snd.snd.fst.1, x.snd.snd.snd.snd.fst.2 ++ [y.1]), x.snd.snd.snd.snd.snd.1,
              x.snd.snd.snd.snd.snd.snd.1, x.snd.snd.snd.snd.snd.snd.snd.1, x.snd.snd.snd.snd.snd.snd.snd.snd.1,
              x.snd.snd.snd.snd.snd.snd.snd.snd.snd.1,
              IntKind.i64.wrap (x.snd.snd.snd.snd.snd.snd.snd.snd.snd.2 + (1 : Int))))
          none)
    (some
      (LRes.out, x.1, (x.snd.fst.1, x.snd.fst.2), x.snd.snd.1, (x.snd.snd.snd.fst.1, x.snd.snd.snd.fst.2),
        (x.snd.snd.snd.snd.fst.1, x.snd.snd.snd.snd.fst.2), x.snd.snd.snd.snd.snd.1, x.snd.snd.snd.snd.snd.snd.1,
        x.snd.snd.snd.snd.snd.snd.snd.1, x.snd.snd.snd.snd.snd.snd.snd.snd.1, x.snd.snd.snd.snd.snd.snd.snd.snd.snd.1,
        x.snd.snd.snd.snd.snd.snd.snd.snd.snd.2))
def wheelIL_fuel : ByteArray × (List ((ByteArray × List (Int))) × List ((Int × Int × Int × Int))) × Bool × (List ((ByteArray × List (Int))) × List ((Int × Int × Int × Int))) × (ByteArray × List (Int)) × List (ByteArray) × Int × Int × List (ByteArray) × Int × Int → Nat := fun s => (s.2.2.2.2.2.2.2.2.2.1 - s.2.2.2.2.2.2.2.2.2.2).toNat + 1
def wheelIL : ByteArray × (List ((ByteArray × List (Int))) × List ((Int × Int × Int × Int))) × Bool × (List ((ByteArray × List (Int))) × List ((Int × Int × Int × Int))) × (ByteArray × List (Int)) × List (ByteArray) × Int × Int × List (ByteArray) × Int × Int → Option (ByteArray × (List ((ByteArray × List (Int))) × List ((Int × Int × Int × Int))) × Bool × (List ((ByteArray × List (Int))) × List ((Int × Int × Int × Int))) × (ByteArray × List (Int)) × List (ByteArray) × Int × Int × List (ByteArray) × Int × Int) := fun s => iterP wheelIL_step (wheelIL_fuel s) s
def wheelIL_L : LoopC := ⟨wheelIL_vars, 3, .plain wheelIL⟩
noncomputable def wheelIL_key : Nat := key (loopIn (loopAt Tryz.f6 0) 0)
theorem wheelIL_stepok (x : wheelIL_vars.den) : stepOf (deepE [(56, .pair (.d (.str)) (.row 2 (i64)))] (mkEnv [(23, readX_con)] [])) Tryz.f6.ntmps wheelIL_vars 3 (loopIn (loopAt Tryz.f6 0) 0) x = wheelIL_step x := by kernel_rfl
theorem wheelIL_ok : LoopOK Tryz.prog Tryz.f6.ntmps wheelIL_L (loopIn (loopAt Tryz.f6 0) 0)   := iterP_loop (n := Tryz.f6.ntmps) (vs := wheelIL_vars) (out := 3) (body := loopIn (loopAt Tryz.f6 0) 0) (deepE_ok (d := [(56, .pair (.d (.str)) (.row 2 (i64)))]) (mkEnv_ok (cons := [(23, readX_con)]) ⟨readX_ok, trivial⟩ [])) wheelIL_step wheelIL_fuel (by exact trivial) wheelIL_stepok

def linesIL_vars : Vars := [(0, .val (.str)), (2, .boxR 0 25 (.pair (.deep 56 (.pair (.d (.str)) (.row 2 (i64)))) (.row 61 (.pair (i64) (.pair (i64) (.pair (i64) (i64))))))), (3, .val (.bool)), (6, .boxR 0 25 (.pair (.deep 56 (.pair (.d (.str)) (.row 2 (i64)))) (.row 61 (.pair (i64) (.pair (i64) (.pair (i64) (i64))))))), (27, .row 0 9 (.str)), (28, .val (i64)), (29, .val (i64))]
def linesIL_step : ByteArray × (List ((ByteArray × List (Int))) × List ((Int × Int × Int × Int))) × Bool × (List ((ByteArray × List (Int))) × List ((Int × Int × Int × Int))) × List (ByteArray) × Int × Int → Option (LRes × (ByteArray × (List ((ByteArray × List (Int))) × List ((Int × Int × Int × Int))) × Bool × (List ((ByteArray × List (Int))) × List ((Int × Int × Int × Int))) × List (ByteArray) × Int × Int)) :=
fun x =>
  br (decide (x.snd.snd.snd.snd.snd.2 < x.snd.snd.snd.snd.snd.1))
    (ob (idx x.snd.snd.snd.snd.1 x.snd.snd.snd.snd.snd.2) fun x_1 =>
      ob (List.get?Internal x.snd.snd.snd.snd.1 (Int.toNat x.snd.snd.snd.snd.snd.2)) fun x_2 =>
        ob (wordsI x_2) fun y =>
          ob (idx y (0 : Int)) fun x_3 =>
            ob (List.get?Internal y (Int.toNat (0 : Int))) fun x_4 =>
              br
                (ByteArray.toList x_4 ==
                  (⟨⟨[(97 : UInt8), (114 : UInt8), (98 : UInt8), (111 : UInt8), (114 : UInt8)]⟩⟩ : ByteArray).toList)
                (br (decide ((2 : Int) ≤ (↑(List.length y) : Int)))
                  (ob (idx y (1 : Int)) fun x_5 =>
                    ob (List.get?Internal y (Int.toNat (1 : Int))) fun x_6 =>
                      br
                        (decide
                          ((0 : Int) ≤ (2 : Int) ∧
                            (2 : Int) ≤ (↑(List.length y) : Int) ∧ (↑(List.length y) : Int) ≤ (↑(List.length y) : Int)))
                        (ob
                          (wheelIL
                            (x.1, (x.snd.fst.1, x.snd.fst.2), x.snd.snd.1, (x.snd.snd.snd.fst.1, x.snd.snd.snd.fst.2),
                              (x_6, []), x.snd.snd.snd.snd.1, x.snd.snd.snd.snd.snd.1, x.snd.snd.snd.snd.snd.2,
                              List.drop (Int.toNat (2 : Int)) (List.take (↑(List.length y) : Int).toNat y),
                              (↑(List.drop (Int.toNat (2 : Int)) (List.take (↑(List.length y) : Int).toNat y)).length :
                                Int),
                              (0 : Int)))
                          fun r =>
                          br
                            (decide
                              (List.length r.snd.snd.snd.fst.1 +
                                  [(r.snd.snd.snd.snd.fst.1, r.snd.snd.snd.snd.fst.2)].length ≤
                                (4294967296 : Nat)))
                            (some
                              (LRes.next, r.1, (r.snd.fst.1, r.snd.fst.2), r.snd.snd.1,
                                (r.snd.snd.snd.fst.1 ++ [(r.snd.snd.snd.snd.fst.1, r.snd.snd.snd.snd.fst.2)],
                                  r.snd.snd.snd.fst.2),
                                r.snd.snd.snd.snd.snd.1, r.snd.snd.snd.snd.snd.snd.1,
                                IntKind.i64.wrap (r.snd.snd.snd.snd.snd.snd.snd.1 + (1 : Int))))
                            none)
                        none)
                  (ob (idx y (0 : Int)) fun x_5 =>
                    ob (List.get?Internal y (Int.toNat (0 : Int))) fun x_6 =>
                      br
                        (ByteArray.toList x_6 ==
                          (⟨⟨[(109 : UInt8), (101 : UInt8), (115 : UInt8), (104 : UInt8)]⟩⟩ : ByteArray).toList)
                        (br ((↑(List.length y) : Int) == (5 : Int))
                          (ob (idx y (2 : Int)) fun x_7 =>
                            ob (List.get?Internal y (Int.toNat (2 : Int))) fun x_8 =>
                              ob (readX x_8) fun y_1 =>
                                ob (idx y (4 : Int)) fun x_9 =>
                                  ob (List.get?Internal y (Int.toNat (4 : Int))) fun x_10 =>
                                    ob (readX x_10) fun y_2 =>
                                      ob (idx y (1 : Int)) fun x_11 =>
                                        ob (List.get?Internal y (Int.toNat (1 : Int))) fun x_12 =>
                                          ob (indexArborI ((x.snd.snd.snd.fst.1, x.snd.snd.snd.fst.2), x_12)) fun y_3 =>
                                            ob (idx y (3 : Int)) fun x_13 =>
                                              ob (List.get?Internal y (Int.toNat (3 : Int))) fun x_14 =>
                                                ob (indexArborI ((x.snd.snd.snd.fst.1, x.snd.snd.snd.fst.2), x_14))
                                                  fun y =>
                                                  br
                                                    (decide
                                                      (List.length x.snd.snd.snd.fst.2 +
                                                          [(y_3, y_1.1, y, y_2.1)].length ≤
                                                        (4294967296 : Nat)))
                                                    (some
                                                      (LRes.next, x.1, (x.snd.fst.1, x.snd.fst.2), x.snd.snd.1,
                                                        (x.snd.snd.snd.fst.1,
                                                          x.snd.snd.snd.fst.2 ++ [(y_3, y_1.1, y, y_2.1)]),
                                                        x.snd.snd.snd.snd.1, x.snd.snd.snd.snd.snd.1,
                                                        IntKind.i64.wrap (x.snd.snd.snd.snd.snd.2 + (1 : Int))))
                                                    none)
                          (some
                            (LRes.ret, x.1, ([], []), false, (x.snd.snd.snd.fst.1, x.snd.snd.snd.fst.2),
                              x.snd.snd.snd.snd.1, x.snd.snd.snd.snd.snd.1, x.snd.snd.snd.snd.snd.2)))
                        (some
                          (LRes.ret, x.1, ([], []), false, (x.snd.snd.snd.fst.1, x.snd.snd.snd.fst.2),
                            x.snd.snd.snd.snd.1, x.snd.snd.snd.snd.snd.1, x.snd.snd.snd.snd.snd.2))))
                (ob (idx y (0 : Int)) fun x_5 =>
                  ob (List.get?Internal y (Int.toNat (0 : Int))) fun x_6 =>
                    br
                      (ByteArray.toList x_6 ==
                        (⟨⟨[(109 : UInt8), (101 : UInt8), (115 : UInt8), (104 : UInt8)]⟩⟩ : ByteArray).toList)
                      (br ((↑(List.length y) : Int) == (5 : Int))
                        (ob (idx y (2 : Int)) fun x_7 =>
                          ob (List.get?Internal y (Int.toNat (2 : Int))) fun x_8 =>
                            ob (readX x_8) fun y_1 =>
                              ob (idx y (4 : Int)) fun x_9 =>
                                ob (List.get?Internal y (Int.toNat (4 : Int))) fun x_10 =>
                                  ob (readX x_10) fun y_2 =>
                                    ob (idx y (1 : Int)) fun x_11 =>
                                      ob (List.get?Internal y (Int.toNat (1 : Int))) fun x_12 =>
                                        ob (indexArborI ((x.snd.snd.snd.fst.1, x.snd.snd.snd.fst.2), x_12)) fun y_3 =>
                                          ob (idx y (3 : Int)) fun x_13 =>
                                            ob (List.get?Internal y (Int.toNat (3 : Int))) fun x_14 =>
                                              ob (indexArborI ((x.snd.snd.snd.fst.1, x.snd.snd.snd.fst.2), x_14))
                                                fun y =>
                                                br
                                                  (decide
                                                    (List.length x.snd.snd.snd.fst.2 + [(y_3, y_1.1, y, y_2.1)].length ≤
                                                      (4294967296 : Nat)))
                                                  (some
                                                    (LRes.next, x.1, (x.snd.fst.1, x.snd.fst.2), x.snd.snd.1,
                                                      (x.snd.snd.snd.fst.1,
                                                        x.snd.snd.snd.fst.2 ++ [(y_3, y_1.1, y, y_2.1)]),
                                                      x.snd.snd.snd.snd.1, x.snd.snd.snd.snd.snd.1,
                                                      IntKind.i64.wrap (x.snd.snd.snd.snd.snd.2 + (1 : Int))))
                                                  none)
                        (some
                          (LRes.ret, x.1, ([], []), false, (x.snd.snd.snd.fst.1, x.snd.snd.snd.fst.2),
                            x.snd.snd.snd.snd.1, x.snd.snd.snd.snd.snd.1, x.snd.snd.snd.snd.snd.2)))
                      (some
                        (LRes.ret, x.1, ([], []), false, (x.snd.snd.snd.fst.1, x.snd.snd.snd.fst.2),
                          x.snd.snd.snd.snd.1, x.snd.snd.snd.snd.snd.1, x.snd.snd.snd.snd.snd.2))))
    (some
      (LRes.out, x.1, (x.snd.fst.1, x.snd.fst.2), x.snd.snd.1, (x.snd.snd.snd.fst.1, x.snd.snd.snd.fst.2),
        x.snd.snd.snd.snd.1, x.snd.snd.snd.snd.snd.1, x.snd.snd.snd.snd.snd.2))
def linesIL_fuel : ByteArray × (List ((ByteArray × List (Int))) × List ((Int × Int × Int × Int))) × Bool × (List ((ByteArray × List (Int))) × List ((Int × Int × Int × Int))) × List (ByteArray) × Int × Int → Nat := fun s => (s.2.2.2.2.2.1 - s.2.2.2.2.2.2).toNat + 1
def linesIL : ByteArray × (List ((ByteArray × List (Int))) × List ((Int × Int × Int × Int))) × Bool × (List ((ByteArray × List (Int))) × List ((Int × Int × Int × Int))) × List (ByteArray) × Int × Int → Option (Bool × (ByteArray × (List ((ByteArray × List (Int))) × List ((Int × Int × Int × Int))) × Bool × (List ((ByteArray × List (Int))) × List ((Int × Int × Int × Int))) × List (ByteArray) × Int × Int)) := fun s => iter linesIL_step (linesIL_fuel s) s
def linesIL_L : LoopC := ⟨linesIL_vars, 0, .two linesIL⟩
noncomputable def linesIL_key : Nat := key (loopAt Tryz.f6 0)
theorem linesIL_stepok (x : linesIL_vars.den) : stepOf (deepE [(56, .pair (.d (.str)) (.row 2 (i64)))] (mkEnv [(22, wordsI_con), (23, readX_con), (24, indexArborI_con)] [(wheelIL_key, wheelIL_L)])) Tryz.f6.ntmps linesIL_vars 0 (loopAt Tryz.f6 0) x = linesIL_step x := by kernel_rfl
theorem linesIL_ok : LoopOK Tryz.prog Tryz.f6.ntmps linesIL_L (loopAt Tryz.f6 0)   := iter_loop (n := Tryz.f6.ntmps) (vs := linesIL_vars) (out := 0) (body := loopAt Tryz.f6 0) (deepE_ok (d := [(56, .pair (.d (.str)) (.row 2 (i64)))]) (mkEnv_ok (cons := [(22, wordsI_con), (23, readX_con), (24, indexArborI_con)]) ⟨wordsI_ok, readX_ok, indexArborI_ok, trivial⟩ [(wheelIL_key, wheelIL_L)])) linesIL_step linesIL_fuel (by exact ⟨wheelIL_ok, trivial⟩) linesIL_stepok

def readWI : ByteArray → Option ((List ((ByteArray × List (Int))) × List ((Int × Int × Int × Int))) × Bool) :=
fun x =>
  ob (linesI x) fun y =>
    br (!y.2) (some (([], []), false))
      (ob (linesIL (x, ([], []), false, ([], []), y.1, (↑(List.length y.1) : Int), (0 : Int))) fun r =>
        br r.1
          (ob (validWI (r.snd.snd.snd.snd.fst.1, r.snd.snd.snd.snd.fst.2)) fun y =>
            br (!y) (some (([], []), false))
              (ob (wtI (r.snd.snd.snd.snd.fst.1, r.snd.snd.snd.snd.fst.2)) fun y =>
                br (!ByteArray.toList y == ByteArray.toList r.snd.1) (some (([], []), false))
                  (some ((r.snd.snd.snd.snd.fst.1, r.snd.snd.snd.snd.fst.2), true))))
          (some ((r.snd.snd.fst.1, r.snd.snd.fst.2), r.snd.snd.snd.1)))
def readWI_con : Con := ⟨[.str], [.pair (.deep 56 (.pair (.d (.str)) (.row 2 (i64)))) (.row 61 (.pair (i64) (.pair (i64) (.pair (i64) (i64))))), .d (.bool)], readWI⟩
theorem readWI_run (x : Dens [.str]) : runFn (deepE [(56, .pair (.d (.str)) (.row 2 (i64)))] (mkEnv [(21, linesI_con), (25, validWI_con), (17, wtI_con)] [(linesIL_key, linesIL_L)])) Tryz.f6 [.str] [.pair (.deep 56 (.pair (.d (.str)) (.row 2 (i64)))) (.row 61 (.pair (i64) (.pair (i64) (.pair (i64) (i64))))), .d (.bool)] x = readWI x := by kernel_rfl
theorem readWI_ok : readWI_con.ok Tryz.prog 6 := fn_ok (con := readWI_con) (deepE_ok (d := [(56, .pair (.d (.str)) (.row 2 (i64)))]) (mkEnv_ok (cons := [(21, linesI_con), (25, validWI_con), (17, wtI_con)]) ⟨linesI_ok, validWI_ok, wtI_ok, trivial⟩ [(linesIL_key, linesIL_L)])) Tryz.func6 rfl (by kernel_rfl) (by exact ⟨linesIL_ok, trivial⟩) (fun x y h => (readWI_run x).trans h)

end
end Rx
end Go.Proofs.YtonbgpliomhboaaGreatDoor
