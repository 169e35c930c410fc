/- What the functions of RxRead come to, and their contracts. No conditions. -/
import Derived.Test.YtfapjkcmoefilaaDoorRxEnv
import Derived.Test.YtfapjkcmoefilaaDoorRxDec
import Derived.Test.YtfapjkcmoefilaaDoorRxText
namespace Go.Proofs.YtfapjkcmoefilaaDoor
namespace Rx
open Go

noncomputable section
def wordsI : ByteArray → Option (List (ByteArray)) :=
fun x => ob (splitX (x, (⟨⟨[(32 : UInt8)]⟩⟩ : ByteArray))) fun y => some y
def wordsI_con : Con := ⟨[.str], [.row 9 (.str)], wordsI⟩
theorem wordsI_run (x : Dens [.str]) : runFn (mkEnv [(91, splitX_con)] []) Tryd.f45 [.str] [.row 9 (.str)] x = wordsI x := by kernel_rfl
theorem wordsI_ok : wordsI_con.ok Tryd.prog 45 := fn_ok (con := wordsI_con) (mkEnv_ok (cons := [(91, splitX_con)]) ⟨splitX_ok, trivial⟩ []) Tryd.func45 rfl (by kernel_rfl) (by exact trivial) (fun x y h => (wordsI_run x).trans h)

def splitSL_vars : Vars := [(0, .val (.str)), (1, .val (.int .u8)), (5, .row 0 9 (.str)), (6, .val (i64)), (7, .val (i64))]
def splitSL_step : ByteArray × Int × List (ByteArray) × Int × Int → Option (LRes × (ByteArray × Int × List (ByteArray) × Int × Int)) :=
fun x =>
  br (decide (x.snd.snd.snd.2 < (↑x.1.size : Int)))
    (ob (sidx x.1 x.snd.snd.snd.2) fun b =>
      br ((↑b.toNat : Int) == x.snd.1)
        (br
          (decide
            ((0 : Int) ≤ x.snd.snd.snd.1 ∧ x.snd.snd.snd.1 ≤ x.snd.snd.snd.2 ∧ x.snd.snd.snd.2 ≤ (↑x.1.size : Int)))
          (br
            (decide
              (List.length x.snd.snd.1 + [x.1.extract (Int.toNat x.snd.snd.snd.1) (Int.toNat x.snd.snd.snd.2)].length ≤
                (4294967296 : Nat)))
            (some
              (LRes.next, x.1, x.snd.1,
                x.snd.snd.1 ++ [x.1.extract (Int.toNat x.snd.snd.snd.1) (Int.toNat x.snd.snd.snd.2)],
                IntKind.i64.wrap (x.snd.snd.snd.2 + (1 : Int)), IntKind.i64.wrap (x.snd.snd.snd.2 + (1 : Int))))
            none)
          none)
        (some (LRes.next, x.1, x.snd.1, x.snd.snd.1, x.snd.snd.snd.1, IntKind.i64.wrap (x.snd.snd.snd.2 + (1 : Int)))))
    (some (LRes.out, x.1, x.snd.1, x.snd.snd.1, x.snd.snd.snd.1, x.snd.snd.snd.2))
def splitSL_fuel : ByteArray × Int × List (ByteArray) × Int × Int → Nat := fun s => (s.1.size - s.2.2.2.2.toNat) + 1
def splitSL : ByteArray × Int × List (ByteArray) × Int × Int → Option (ByteArray × Int × List (ByteArray) × Int × Int) := fun s => iterP splitSL_step (splitSL_fuel s) s
def splitSL_L : LoopC := ⟨splitSL_vars, 0, .plain splitSL⟩
noncomputable def splitSL_key : Nat := key (loopAt Tryd.f42 0)
theorem splitSL_stepok (x : splitSL_vars.den) : stepOf (mkEnv [] []) Tryd.f42.ntmps splitSL_vars 0 (loopAt Tryd.f42 0) x = splitSL_step x := by kernel_rfl
theorem splitSL_ok : LoopOK Tryd.prog Tryd.f42.ntmps splitSL_L (loopAt Tryd.f42 0)   := iterP_loop (n := Tryd.f42.ntmps) (vs := splitSL_vars) (out := 0) (body := loopAt Tryd.f42 0) (mkEnv_ok (cons := []) trivial []) splitSL_step splitSL_fuel (by exact trivial) splitSL_stepok

def splitS : ByteArray × Int → Option (List (ByteArray)) :=
fun x =>
  ob (splitSL (x.1, x.2, [], (0 : Int), (0 : Int))) fun r =>
    br
      (decide
        ((0 : Int) ≤ r.snd.snd.snd.1 ∧
          r.snd.snd.snd.1 ≤ (↑(ByteArray.size r.1) : Int) ∧
            (↑(ByteArray.size r.1) : Int) ≤ (↑(ByteArray.size r.1) : Int)))
      (br
        (decide
          (List.length r.snd.snd.1 +
              [ByteArray.extract r.1 (Int.toNat r.snd.snd.snd.1) (↑(ByteArray.size r.1) : Int).toNat].length ≤
            (4294967296 : Nat)))
        (some (r.snd.snd.1 ++ [ByteArray.extract r.1 (Int.toNat r.snd.snd.snd.1) (↑(ByteArray.size r.1) : Int).toNat]))
        none)
      none
def splitS_con : Con := ⟨[.str, .int .u8], [.row 9 (.str)], splitS⟩
theorem splitS_run (x : Dens [.str, .int .u8]) : runFn (mkEnv [] [(splitSL_key, splitSL_L)]) Tryd.f42 [.str, .int .u8] [.row 9 (.str)] x = splitS x := by kernel_rfl
theorem splitS_ok : splitS_con.ok Tryd.prog 42 := fn_ok (con := splitS_con) (mkEnv_ok (cons := []) trivial [(splitSL_key, splitSL_L)]) Tryd.func42 rfl (by kernel_rfl) (by exact ⟨splitSL_ok, trivial⟩) (fun x y h => (splitS_run x).trans h)

def digitS : Int → Option (Bool) :=
fun x => br (decide ((48 : Int) ≤ x)) (some (decide (x ≤ (57 : Int)))) (some false)
def digitS_con : Con := ⟨[.int .u8], [.d (.bool)], digitS⟩
theorem digitS_run (x : Dens [.int .u8]) : runFn (mkEnv [] []) Tryd.f89 [.int .u8] [.d (.bool)] x = digitS x := by kernel_rfl
theorem digitS_ok : digitS_con.ok Tryd.prog 89 := fn_ok (con := digitS_con) (mkEnv_ok (cons := []) trivial []) Tryd.func89 rfl (by kernel_rfl) (by exact trivial) (fun x y h => (digitS_run x).trans h)

def numberSL_vars : Vars := [(0, .val (.str)), (2, .val (i64)), (3, .val (.bool)), (4, .val (.str)), (5, .val (i64)), (6, .val (i64))]
def numberSL_step : ByteArray × Int × Bool × ByteArray × Int × Int → Option (LRes × (ByteArray × Int × Bool × ByteArray × Int × Int)) :=
fun x =>
  br (decide (x.snd.snd.snd.snd.2 < (↑(ByteArray.size x.snd.snd.snd.1) : Int)))
    (ob (sidx x.snd.snd.snd.1 x.snd.snd.snd.snd.2) fun b =>
      ob (digitS (↑b.toNat : Int)) fun y =>
        br (!y) (some (LRes.ret, x.1, (0 : Int), false, x.snd.snd.snd.1, x.snd.snd.snd.snd.1, x.snd.snd.snd.snd.2))
          (ob (sidx x.snd.snd.snd.1 x.snd.snd.snd.snd.2) fun b =>
            some
              (LRes.next, x.1, x.snd.1, x.snd.snd.1, x.snd.snd.snd.1,
                IntKind.i64.wrap
                  (IntKind.i64.wrap ((10 : Int) * x.snd.snd.snd.snd.1) +
                    IntKind.i64.wrap (IntKind.u8.wrap ((↑b.toNat : Int) - (48 : Int)))),
                IntKind.i64.wrap (x.snd.snd.snd.snd.2 + (1 : Int)))))
    (some (LRes.out, x.1, x.snd.1, x.snd.snd.1, x.snd.snd.snd.1, x.snd.snd.snd.snd.1, x.snd.snd.snd.snd.2))
def numberSL_fuel : ByteArray × Int × Bool × ByteArray × Int × Int → Nat := fun s => (s.2.2.2.1.size - s.2.2.2.2.2.toNat) + 1
def numberSL : ByteArray × Int × Bool × ByteArray × Int × Int → Option (Bool × (ByteArray × Int × Bool × ByteArray × Int × Int)) := fun s => iter numberSL_step (numberSL_fuel s) s
def numberSL_L : LoopC := ⟨numberSL_vars, 0, .two numberSL⟩
noncomputable def numberSL_key : Nat := key (loopAt Tryd.f43 0)
theorem numberSL_stepok (x : numberSL_vars.den) : stepOf (mkEnv [(89, digitS_con)] []) Tryd.f43.ntmps numberSL_vars 0 (loopAt Tryd.f43 0) x = numberSL_step x := by kernel_rfl
theorem numberSL_ok : LoopOK Tryd.prog Tryd.f43.ntmps numberSL_L (loopAt Tryd.f43 0)   := iter_loop (n := Tryd.f43.ntmps) (vs := numberSL_vars) (out := 0) (body := loopAt Tryd.f43 0) (mkEnv_ok (cons := [(89, digitS_con)]) ⟨digitS_ok, trivial⟩ []) numberSL_step numberSL_fuel (by exact trivial) numberSL_stepok

def numberS : ByteArray → Option (Int × Bool) :=
fun x =>
  br (!x.toList == (⟨⟨[]⟩⟩ : ByteArray).toList)
    (ob (sidx x (0 : Int)) fun b =>
      br ((↑b.toNat : Int) == (45 : Int))
        (br (decide ((0 : Int) ≤ (1 : Int) ∧ (1 : Int) ≤ (↑x.size : Int) ∧ (↑x.size : Int) ≤ (↑x.size : Int)))
          (br (decide ((↑(x.extract (Int.toNat (1 : Int)) (↑x.size : Int).toNat).size : Int) < (1 : Int)))
            (some ((0 : Int), false))
            (br (decide ((18 : Int) < (↑(x.extract (Int.toNat (1 : Int)) (↑x.size : Int).toNat).size : Int)))
              (some ((0 : Int), false))
              (ob
                (numberSL
                  (x, (0 : Int), false, x.extract (Int.toNat (1 : Int)) (↑x.size : Int).toNat, (0 : Int), (0 : Int)))
                fun r =>
                br r.1
                  (br (decide ((↑(ByteArray.size r.snd.snd.snd.snd.1) : Int) < (↑(ByteArray.size r.snd.1) : Int)))
                    (ob (decT (IntKind.i64.wrap ((0 : Int) - r.snd.snd.snd.snd.snd.1))) fun y =>
                      br (!ByteArray.toList y == ByteArray.toList r.snd.1) (some ((0 : Int), false))
                        (some (IntKind.i64.wrap ((0 : Int) - r.snd.snd.snd.snd.snd.1), true)))
                    (ob (decT r.snd.snd.snd.snd.snd.1) fun y =>
                      br (!ByteArray.toList y == ByteArray.toList r.snd.1) (some ((0 : Int), false))
                        (some (r.snd.snd.snd.snd.snd.1, true))))
                  (some (r.snd.snd.1, r.snd.snd.snd.1)))))
          none)
        (br (decide ((↑x.size : Int) < (1 : Int))) (some ((0 : Int), false))
          (br (decide ((18 : Int) < (↑x.size : Int))) (some ((0 : Int), false))
            (ob (numberSL (x, (0 : Int), false, x, (0 : Int), (0 : Int))) fun r =>
              br r.1
                (br (decide ((↑(ByteArray.size r.snd.snd.snd.snd.1) : Int) < (↑(ByteArray.size r.snd.1) : Int)))
                  (ob (decT (IntKind.i64.wrap ((0 : Int) - r.snd.snd.snd.snd.snd.1))) fun y =>
                    br (!ByteArray.toList y == ByteArray.toList r.snd.1) (some ((0 : Int), false))
                      (some (IntKind.i64.wrap ((0 : Int) - r.snd.snd.snd.snd.snd.1), true)))
                  (ob (decT r.snd.snd.snd.snd.snd.1) fun y =>
                    br (!ByteArray.toList y == ByteArray.toList r.snd.1) (some ((0 : Int), false))
                      (some (r.snd.snd.snd.snd.snd.1, true))))
                (some (r.snd.snd.1, r.snd.snd.snd.1))))))
    (br (decide ((↑x.size : Int) < (1 : Int))) (some ((0 : Int), false))
      (br (decide ((18 : Int) < (↑x.size : Int))) (some ((0 : Int), false))
        (ob (numberSL (x, (0 : Int), false, x, (0 : Int), (0 : Int))) fun r =>
          br r.1
            (br (decide ((↑(ByteArray.size r.snd.snd.snd.snd.1) : Int) < (↑(ByteArray.size r.snd.1) : Int)))
              (ob (decT (IntKind.i64.wrap ((0 : Int) - r.snd.snd.snd.snd.snd.1))) fun y =>
                br (!ByteArray.toList y == ByteArray.toList r.snd.1) (some ((0 : Int), false))
                  (some (IntKind.i64.wrap ((0 : Int) - r.snd.snd.snd.snd.snd.1), true)))
              (ob (decT r.snd.snd.snd.snd.snd.1) fun y =>
                br (!ByteArray.toList y == ByteArray.toList r.snd.1) (some ((0 : Int), false))
                  (some (r.snd.snd.snd.snd.snd.1, true))))
            (some (r.snd.snd.1, r.snd.snd.snd.1)))))
def numberS_con : Con := ⟨[.str], [.d (i64), .d (.bool)], numberS⟩
theorem numberS_run (x : Dens [.str]) : runFn (mkEnv [(89, digitS_con), (87, decT_con)] [(numberSL_key, numberSL_L)]) Tryd.f43 [.str] [.d (i64), .d (.bool)] x = numberS x := by kernel_rfl
theorem numberS_ok : numberS_con.ok Tryd.prog 43 := fn_ok (con := numberS_con) (mkEnv_ok (cons := [(89, digitS_con), (87, decT_con)]) ⟨digitS_ok, decT_ok, trivial⟩ [(numberSL_key, numberSL_L)]) Tryd.func43 rfl (by kernel_rfl) (by exact ⟨numberSL_ok, trivial⟩) (fun x y h => (numberS_run x).trans h)

def readEpiIL_vars : Vars := [(0, .val (.str)), (2, .box 0 25 (.pair (i64) (.pair (i64) (.pair (i64) (i64))))), (3, .val (.bool)), (5, .row 0 2 (i64)), (18, .row 0 9 (.str)), (19, .val (i64)), (20, .val (i64))]
def readEpiIL_step : ByteArray × (Int × Int × Int × Int) × Bool × List (Int) × List (ByteArray) × Int × Int → Option (LRes × (ByteArray × (Int × Int × Int × Int) × Bool × List (Int) × List (ByteArray) × Int × Int)) :=
fun x =>
  br (decide (x.snd.snd.snd.snd.snd.2 < x.snd.snd.snd.snd.snd.1))
    (ob (idx x.snd.snd.snd.snd.1 x.snd.snd.snd.snd.snd.2) fun x_1 =>
      ob (List.get?Internal x.snd.snd.snd.snd.1 (Int.toNat x.snd.snd.snd.snd.snd.2)) fun x_2 =>
        ob (readX x_2) fun y =>
          br (!y.2)
            (some
              (LRes.ret, x.1, ((0 : Int), (0 : Int), (0 : Int), (0 : Int)), false, x.snd.snd.snd.1, x.snd.snd.snd.snd.1,
                x.snd.snd.snd.snd.snd.1, x.snd.snd.snd.snd.snd.2))
            (ob (idx x.snd.snd.snd.1 x.snd.snd.snd.snd.snd.2) fun x_3 =>
              ob (List.get?Internal x.snd.snd.snd.1 (Int.toNat x.snd.snd.snd.snd.snd.2)) fun x_4 =>
                some
                  (LRes.next, x.1, (x.snd.fst.1, x.snd.fst.snd.1, x.snd.fst.snd.snd.1, x.snd.fst.snd.snd.2),
                    x.snd.snd.1, List.set x.snd.snd.snd.1 (Int.toNat x.snd.snd.snd.snd.snd.2) y.1, x.snd.snd.snd.snd.1,
                    x.snd.snd.snd.snd.snd.1, IntKind.i64.wrap (x.snd.snd.snd.snd.snd.2 + (1 : Int)))))
    (some
      (LRes.out, x.1, (x.snd.fst.1, x.snd.fst.snd.1, x.snd.fst.snd.snd.1, x.snd.fst.snd.snd.2), x.snd.snd.1,
        x.snd.snd.snd.1, x.snd.snd.snd.snd.1, x.snd.snd.snd.snd.snd.1, x.snd.snd.snd.snd.snd.2))
def readEpiIL_fuel : ByteArray × (Int × Int × Int × Int) × Bool × List (Int) × List (ByteArray) × Int × Int → Nat := fun s => (s.2.2.2.2.2.1 - s.2.2.2.2.2.2).toNat + 1
def readEpiIL : ByteArray × (Int × Int × Int × Int) × Bool × List (Int) × List (ByteArray) × Int × Int → Option (Bool × (ByteArray × (Int × Int × Int × Int) × Bool × List (Int) × List (ByteArray) × Int × Int)) := fun s => iter readEpiIL_step (readEpiIL_fuel s) s
def readEpiIL_L : LoopC := ⟨readEpiIL_vars, 0, .two readEpiIL⟩
noncomputable def readEpiIL_key : Nat := key (loopAt Tryd.f13 0)
theorem readEpiIL_stepok (x : readEpiIL_vars.den) : stepOf (mkEnv [(46, readX_con)] []) Tryd.f13.ntmps readEpiIL_vars 0 (loopAt Tryd.f13 0) x = readEpiIL_step x := by kernel_rfl
theorem readEpiIL_ok : LoopOK Tryd.prog Tryd.f13.ntmps readEpiIL_L (loopAt Tryd.f13 0)   := iter_loop (n := Tryd.f13.ntmps) (vs := readEpiIL_vars) (out := 0) (body := loopAt Tryd.f13 0) (mkEnv_ok (cons := [(46, readX_con)]) ⟨readX_ok, trivial⟩ []) readEpiIL_step readEpiIL_fuel (by exact trivial) readEpiIL_stepok

def readEpiI : ByteArray → Option ((Int × Int × Int × Int) × Bool) :=
fun x =>
  ob (wordsI x) fun y =>
    br ((↑(List.length y) : Int) != (3 : Int)) (some (((0 : Int), (0 : Int), (0 : Int), (0 : Int)), false))
      (ob
        (readEpiIL
          (x, ((0 : Int), (0 : Int), (0 : Int), (0 : Int)), false, List.replicate (Int.toNat (3 : Int)) (0 : Int), y,
            (↑(List.length y) : Int), (0 : Int)))
        fun r =>
        br r.1
          (ob (idx r.snd.snd.snd.snd.1 (0 : Int)) fun x =>
            ob (List.get?Internal r.snd.snd.snd.snd.1 (Int.toNat (0 : Int))) fun x =>
              ob (toothedI x) fun y =>
                br (!y) (some (((0 : Int), (0 : Int), (0 : Int), (0 : Int)), false))
                  (ob (idx r.snd.snd.snd.snd.1 (1 : Int)) fun x =>
                    ob (List.get?Internal r.snd.snd.snd.snd.1 (Int.toNat (1 : Int))) fun x =>
                      ob (toothedI x) fun y =>
                        br (!y) (some (((0 : Int), (0 : Int), (0 : Int), (0 : Int)), false))
                          (ob (maxX r.snd.snd.snd.snd.1) fun y =>
                            br (decide ((240 : Int) < y)) (some (((0 : Int), (0 : Int), (0 : Int), (0 : Int)), false))
                              (ob (idx r.snd.snd.snd.snd.1 (0 : Int)) fun x =>
                                ob (List.get?Internal r.snd.snd.snd.snd.1 (Int.toNat (0 : Int))) fun x =>
                                  ob (idx r.snd.snd.snd.snd.1 (0 : Int)) fun x_1 =>
                                    ob (List.get?Internal r.snd.snd.snd.snd.1 (Int.toNat (0 : Int))) fun x_2 =>
                                      ob (idx r.snd.snd.snd.snd.1 (1 : Int)) fun x_3 =>
                                        ob (List.get?Internal r.snd.snd.snd.snd.1 (Int.toNat (1 : Int))) fun x_4 =>
                                          ob (idx r.snd.snd.snd.snd.1 (1 : Int)) fun x_5 =>
                                            ob (List.get?Internal r.snd.snd.snd.snd.1 (Int.toNat (1 : Int))) fun x_6 =>
                                              ob (idx r.snd.snd.snd.snd.1 (2 : Int)) fun x_7 =>
                                                ob (List.get?Internal r.snd.snd.snd.snd.1 (Int.toNat (2 : Int)))
                                                  fun x_8 =>
                                                  ob
                                                    (epiTextI
                                                      (x, IntKind.i64.wrap (x_2 + IntKind.i64.wrap ((2 : Int) * x_4)),
                                                        x_6, x_8))
                                                    fun y =>
                                                    br (!ByteArray.toList y == ByteArray.toList r.snd.1)
                                                      (some (((0 : Int), (0 : Int), (0 : Int), (0 : Int)), false))
                                                      (some
                                                        ((x,
                                                            IntKind.i64.wrap (x_2 + IntKind.i64.wrap ((2 : Int) * x_4)),
                                                            x_6, x_8),
                                                          true))))))
          (some
            ((r.snd.snd.fst.1, r.snd.snd.fst.snd.1, r.snd.snd.fst.snd.snd.1, r.snd.snd.fst.snd.snd.2),
              r.snd.snd.snd.1)))
def readEpiI_con : Con := ⟨[.str], [.d (.pair (i64) (.pair (i64) (.pair (i64) (i64)))), .d (.bool)], readEpiI⟩
theorem readEpiI_run (x : Dens [.str]) : runFn (mkEnv [(45, wordsI_con), (47, toothedI_con), (48, maxX_con), (11, epiTextI_con)] [(readEpiIL_key, readEpiIL_L)]) Tryd.f13 [.str] [.d (.pair (i64) (.pair (i64) (.pair (i64) (i64)))), .d (.bool)] x = readEpiI x := by kernel_rfl
theorem readEpiI_ok : readEpiI_con.ok Tryd.prog 13 := fn_ok (con := readEpiI_con) (mkEnv_ok (cons := [(45, wordsI_con), (47, toothedI_con), (48, maxX_con), (11, epiTextI_con)]) ⟨wordsI_ok, toothedI_ok, maxX_ok, epiTextI_ok, trivial⟩ [(readEpiIL_key, readEpiIL_L)]) Tryd.func13 rfl (by kernel_rfl) (by exact ⟨readEpiIL_ok, trivial⟩) (fun x y h => (readEpiI_run x).trans h)

def readEpiS : ByteArray → Option ((Int × Int × Int × Int) × Bool) :=
fun x =>
  ob (splitS (x, (32 : Int))) fun y =>
    br ((↑(List.length y) : Int) != (3 : Int)) (some (((0 : Int), (0 : Int), (0 : Int), (0 : Int)), false))
      (ob (idx y (0 : Int)) fun x =>
        ob (List.get?Internal y (Int.toNat (0 : Int))) fun x =>
          ob (numberS x) fun y_1 =>
            ob (idx y (1 : Int)) fun x =>
              ob (List.get?Internal y (Int.toNat (1 : Int))) fun x =>
                ob (numberS x) fun y_2 =>
                  ob (idx y (2 : Int)) fun x =>
                    ob (List.get?Internal y (Int.toNat (2 : Int))) fun x =>
                      ob (numberS x) fun y =>
                        br (!y_1.2) (some (((0 : Int), (0 : Int), (0 : Int), (0 : Int)), false))
                          (br (!y_2.2) (some (((0 : Int), (0 : Int), (0 : Int), (0 : Int)), false))
                            (br (!y.2) (some (((0 : Int), (0 : Int), (0 : Int), (0 : Int)), false))
                              (ob (teethS y_1.1) fun y_3 =>
                                br (!y_3) (some (((0 : Int), (0 : Int), (0 : Int), (0 : Int)), false))
                                  (ob (teethS y_2.1) fun y_4 =>
                                    br (!y_4) (some (((0 : Int), (0 : Int), (0 : Int), (0 : Int)), false))
                                      (ob
                                        (okEpiS
                                          (y_1.1, IntKind.i64.wrap (y_1.1 + IntKind.i64.wrap ((2 : Int) * y_2.1)),
                                            y_2.1, y.1))
                                        fun y_5 =>
                                        br (!y_5) (some (((0 : Int), (0 : Int), (0 : Int), (0 : Int)), false))
                                          (some
                                            ((y_1.1, IntKind.i64.wrap (y_1.1 + IntKind.i64.wrap ((2 : Int) * y_2.1)),
                                                y_2.1, y.1),
                                              true))))))))
def readEpiS_con : Con := ⟨[.str], [.d (.pair (i64) (.pair (i64) (.pair (i64) (i64)))), .d (.bool)], readEpiS⟩
theorem readEpiS_run (x : Dens [.str]) : runFn (mkEnv [(42, splitS_con), (43, numberS_con), (44, teethS_con), (38, okEpiS_con)] []) Tryd.f12 [.str] [.d (.pair (i64) (.pair (i64) (.pair (i64) (i64)))), .d (.bool)] x = readEpiS x := by kernel_rfl
theorem readEpiS_ok : readEpiS_con.ok Tryd.prog 12 := fn_ok (con := readEpiS_con) (mkEnv_ok (cons := [(42, splitS_con), (43, numberS_con), (44, teethS_con), (38, okEpiS_con)]) ⟨splitS_ok, numberS_ok, teethS_ok, okEpiS_ok, trivial⟩ []) Tryd.func12 rfl (by kernel_rfl) (by exact trivial) (fun x y h => (readEpiS_run x).trans h)

def eqEpiL : (Int × Int × Int × Int) × (Int × Int × Int × Int) → Option (Bool) :=
fun x =>
  br (x.fst.1 != x.snd.1) (some false)
    (br (x.fst.snd.1 != x.snd.snd.1) (some false)
      (br (x.fst.snd.snd.1 != x.snd.snd.snd.1) (some false)
        (br (x.fst.snd.snd.2 != x.snd.snd.snd.2) (some false) (some true))))
def eqEpiL_con : Con := ⟨[.pair (i64) (.pair (i64) (.pair (i64) (i64))), .pair (i64) (.pair (i64) (.pair (i64) (i64)))], [.d (.bool)], eqEpiL⟩
theorem eqEpiL_run (x : Dens [.pair (i64) (.pair (i64) (.pair (i64) (i64))), .pair (i64) (.pair (i64) (.pair (i64) (i64)))]) : runFn (mkEnv [] []) Tryd.f14 [.pair (i64) (.pair (i64) (.pair (i64) (i64))), .pair (i64) (.pair (i64) (.pair (i64) (i64)))] [.d (.bool)] x = eqEpiL x := by kernel_rfl
theorem eqEpiL_ok : eqEpiL_con.ok Tryd.prog 14 := fn_ok (con := eqEpiL_con) (mkEnv_ok (cons := []) trivial []) Tryd.func14 rfl (by kernel_rfl) (by exact trivial) (fun x y h => (eqEpiL_run x).trans h)

def lawReadEpi : ByteArray → Option (Bool) :=
fun x =>
  br (decide ((1048576 : Int) < (↑x.size : Int))) (some true)
    (ob (readEpiS x) fun y =>
      ob (readEpiI x) fun y_1 =>
        ob
          (eqEpiL
            ((y_1.fst.1, y_1.fst.snd.1, y_1.fst.snd.snd.1, y_1.fst.snd.snd.2), y.fst.1, y.fst.snd.1, y.fst.snd.snd.1,
              y.fst.snd.snd.2))
          fun y_2 => br (!y_2) (some false) (br (!y_1.2 == y.2) (some false) (some true)))
def lawReadEpi_con : Con := ⟨[.str], [.d (.bool)], lawReadEpi⟩
theorem lawReadEpi_run (x : Dens [.str]) : runFn (mkEnv [(12, readEpiS_con), (13, readEpiI_con), (14, eqEpiL_con)] []) Tryd.f4 [.str] [.d (.bool)] x = lawReadEpi x := by kernel_rfl
theorem lawReadEpi_ok : lawReadEpi_con.ok Tryd.prog 4 := fn_ok (con := lawReadEpi_con) (mkEnv_ok (cons := [(12, readEpiS_con), (13, readEpiI_con), (14, eqEpiL_con)]) ⟨readEpiS_ok, readEpiI_ok, eqEpiL_ok, trivial⟩ []) Tryd.func4 rfl (by kernel_rfl) (by exact trivial) (fun x y h => (lawReadEpi_run x).trans h)

end
end Rx
end Go.Proofs.YtfapjkcmoefilaaDoor
