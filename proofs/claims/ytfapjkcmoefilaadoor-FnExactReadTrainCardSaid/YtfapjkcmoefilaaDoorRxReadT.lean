/- What the functions of RxReadT come to, and their contracts. No conditions. -/
import Derived.Test.YtfapjkcmoefilaaDoorRxEnv
import Derived.Test.YtfapjkcmoefilaaDoorRxRead
import Derived.Test.YtfapjkcmoefilaaDoorRxCut
import Derived.Test.YtfapjkcmoefilaaDoorRxTrain
import Derived.Test.YtfapjkcmoefilaaDoorRxPairs
import Derived.Test.YtfapjkcmoefilaaDoorRxText
namespace Go.Proofs.YtfapjkcmoefilaaDoor
namespace Rx
open Go

noncomputable section
def readTrainIL_vars : Vars := [(0, .val (.str)), (4, .row 0 106 (.pair (i64) (i64))), (17, .row 0 9 (.str)), (18, .val (i64)), (19, .val (i64))]
def readTrainIL_step : ByteArray × List ((Int × Int)) × List (ByteArray) × Int × Int → Option (LRes × (ByteArray × List ((Int × Int)) × List (ByteArray) × Int × Int)) :=
fun x =>
  br (decide (x.snd.snd.snd.2 < x.snd.snd.snd.1))
    (ob (idx x.snd.snd.1 x.snd.snd.snd.2) fun x_1 =>
      ob (List.get?Internal x.snd.snd.1 (Int.toNat x.snd.snd.snd.2)) fun x_2 =>
        ob (cutX (x_2, (⟨⟨[(58 : UInt8)]⟩⟩ : ByteArray))) fun y =>
          ob (readX y.1) fun y_1 =>
            ob (readX y.snd.1) fun y =>
              br (decide (List.length x.snd.1 + [(y_1.1, y.1)].length ≤ (4294967296 : Nat)))
                (some
                  (LRes.next, x.1, x.snd.1 ++ [(y_1.1, y.1)], x.snd.snd.1, x.snd.snd.snd.1,
                    IntKind.i64.wrap (x.snd.snd.snd.2 + (1 : Int))))
                none)
    (some (LRes.out, x.1, x.snd.1, x.snd.snd.1, x.snd.snd.snd.1, x.snd.snd.snd.2))
def readTrainIL_fuel : ByteArray × List ((Int × Int)) × List (ByteArray) × Int × Int → Nat := fun s => (s.2.2.2.1 - s.2.2.2.2).toNat + 1
def readTrainIL : ByteArray × List ((Int × Int)) × List (ByteArray) × Int × Int → Option (ByteArray × List ((Int × Int)) × List (ByteArray) × Int × Int) := fun s => iterP readTrainIL_step (readTrainIL_fuel s) s
def readTrainIL_L : LoopC := ⟨readTrainIL_vars, 0, .plain readTrainIL⟩
noncomputable def readTrainIL_key : Nat := key (loopAt Tryd.f29 0)
theorem readTrainIL_stepok (x : readTrainIL_vars.den) : stepOf (mkEnv [(73, cutX_con), (46, readX_con)] []) Tryd.f29.ntmps readTrainIL_vars 0 (loopAt Tryd.f29 0) x = readTrainIL_step x := by kernel_rfl
theorem readTrainIL_ok : LoopOK Tryd.prog Tryd.f29.ntmps readTrainIL_L (loopAt Tryd.f29 0)   := iterP_loop (n := Tryd.f29.ntmps) (vs := readTrainIL_vars) (out := 0) (body := loopAt Tryd.f29 0) (mkEnv_ok (cons := [(73, cutX_con), (46, readX_con)]) ⟨cutX_ok, readX_ok, trivial⟩ []) readTrainIL_step readTrainIL_fuel (by exact trivial) readTrainIL_stepok

def readTrainI : ByteArray → Option (List ((Int × Int)) × Bool) :=
fun x =>
  br (!x.toList == (⟨⟨[(45 : UInt8)]⟩⟩ : ByteArray).toList)
    (ob (wordsI x) fun y =>
      ob (readTrainIL (x, [], y, (↑(List.length y) : Int), (0 : Int))) fun r =>
        ob (validTrainI r.snd.1) fun y =>
          br (!y) (some ([], false))
            (ob (trainTextI r.snd.1) fun y =>
              br (!ByteArray.toList y == ByteArray.toList r.1) (some ([], false)) (some (r.snd.1, true))))
    (ob (validTrainI []) fun y =>
      br (!y) (some ([], false))
        (ob (trainTextI []) fun y => br (!ByteArray.toList y == x.toList) (some ([], false)) (some ([], true))))
def readTrainI_con : Con := ⟨[.str], [.row 106 (.pair (i64) (i64)), .d (.bool)], readTrainI⟩
theorem readTrainI_run (x : Dens [.str]) : runFn (mkEnv [(45, wordsI_con), (68, validTrainI_con), (69, trainTextI_con)] [(readTrainIL_key, readTrainIL_L)]) Tryd.f29 [.str] [.row 106 (.pair (i64) (i64)), .d (.bool)] x = readTrainI x := by kernel_rfl
theorem readTrainI_ok : readTrainI_con.ok Tryd.prog 29 := fn_ok (con := readTrainI_con) (mkEnv_ok (cons := [(45, wordsI_con), (68, validTrainI_con), (69, trainTextI_con)]) ⟨wordsI_ok, validTrainI_ok, trainTextI_ok, trivial⟩ [(readTrainIL_key, readTrainIL_L)]) Tryd.func29 rfl (by kernel_rfl) (by exact ⟨readTrainIL_ok, trivial⟩) (fun x y h => (readTrainI_run x).trans h)

def l05ReadL_vars : Vars := [(4, .row 0 106 (.pair (i64) (i64))), (5, .row 0 9 (.str)), (6, .val (i64))]
def l05ReadL_rv : Vars := [(2, .row 0 106 (.pair (i64) (i64))), (3, .val (.bool))]
def l05ReadL_step : List ((Int × Int)) × List (ByteArray) × Int → Option (LS (List ((Int × Int)) × List (ByteArray) × Int) (List ((Int × Int)) × Bool)) :=
fun x =>
  br (decide (x.snd.2 < (↑(List.length x.snd.1) : Int)))
    (ob (idx x.snd.1 x.snd.2) fun x_1 =>
      ob (List.get?Internal x.snd.1 (Int.toNat x.snd.2)) fun x_2 =>
        ob (splitS (x_2, (58 : Int))) fun y =>
          ob (idx y (0 : Int)) fun x_3 =>
            ob (List.get?Internal y (Int.toNat (0 : Int))) fun x_4 =>
              ob (numberS x_4) fun y_1 =>
                ob (idx y (IntKind.i64.wrap ((↑(List.length y) : Int) - (1 : Int)))) fun x_5 =>
                  ob (List.get?Internal y (IntKind.i64.wrap ((↑(List.length y) : Int) - (1 : Int))).toNat) fun x_6 =>
                    ob (numberS x_6) fun y_2 =>
                      br (!y_1.2) (some (LS.ret ([], false)))
                        (br (!y_2.2) (some (LS.ret ([], false)))
                          (br ((↑(List.length y) : Int) != (2 : Int)) (some (LS.ret ([], false)))
                            (br (decide (x.1.length + [(y_1.1, y_2.1)].length ≤ (4294967296 : Nat)))
                              (some
                                (LS.next (x.1 ++ [(y_1.1, y_2.1)], x.snd.1, IntKind.i64.wrap (x.snd.2 + (1 : Int)))))
                              none))))
    (some (LS.out (x.1, x.snd.1, x.snd.2)))
def l05ReadL_fuel : List ((Int × Int)) × List (ByteArray) × Int → Nat := fun s => (s.2.1.length - s.2.2.toNat) + 1
def l05ReadL : List ((Int × Int)) × List (ByteArray) × Int → Option (Sum (List ((Int × Int)) × List (ByteArray) × Int) (List ((Int × Int)) × Bool)) := fun s => iterA l05ReadL_step (l05ReadL_fuel s) s
def l05ReadL_L : LoopC := ⟨l05ReadL_vars, 0, .alt l05ReadL_rv l05ReadL⟩
noncomputable def l05ReadL_key : Nat := key (loopAt Tryd.f72 0)
theorem l05ReadL_stepok (x : l05ReadL_vars.den) : stepOfA (mkEnv [(42, splitS_con), (43, numberS_con)] []) Tryd.f72.ntmps l05ReadL_vars l05ReadL_rv 0 (loopAt Tryd.f72 0) x = l05ReadL_step x := by kernel_rfl
theorem l05ReadL_ok : LoopOK Tryd.prog Tryd.f72.ntmps l05ReadL_L (loopAt Tryd.f72 0)   := iterA_loop (n := Tryd.f72.ntmps) (vs := l05ReadL_vars) (rv := l05ReadL_rv) (out := 0) (body := loopAt Tryd.f72 0) (mkEnv_ok (cons := [(42, splitS_con), (43, numberS_con)]) ⟨splitS_ok, numberS_ok, trivial⟩ []) l05ReadL_step l05ReadL_fuel (by exact trivial) l05ReadL_stepok

def l05ReadS : ByteArray → Option (List ((Int × Int)) × Bool) :=
fun x =>
  br (x.toList == (⟨⟨[(45 : UInt8)]⟩⟩ : ByteArray).toList) (some ([], true))
    (ob (splitS (x, (32 : Int))) fun y =>
      br (decide ((5 : Int) < (↑(List.length y) : Int))) (some ([], false))
        (ob (l05ReadL ([], y, (0 : Int))) fun r =>
          el r (fun r => ob (okTrainS r.1) fun y => some (r.1, y)) fun r => some (r.1, r.2)))
def l05ReadS_con : Con := ⟨[.str], [.row 106 (.pair (i64) (i64)), .d (.bool)], l05ReadS⟩
theorem l05ReadS_run (x : Dens [.str]) : runFn (mkEnv [(42, splitS_con), (63, okTrainS_con)] [(l05ReadL_key, l05ReadL_L)]) Tryd.f72 [.str] [.row 106 (.pair (i64) (i64)), .d (.bool)] x = l05ReadS x := by kernel_rfl
theorem l05ReadS_ok : l05ReadS_con.ok Tryd.prog 72 := fn_ok (con := l05ReadS_con) (mkEnv_ok (cons := [(42, splitS_con), (63, okTrainS_con)]) ⟨splitS_ok, okTrainS_ok, trivial⟩ [(l05ReadL_key, l05ReadL_L)]) Tryd.func72 rfl (by kernel_rfl) (by exact ⟨l05ReadL_ok, trivial⟩) (fun x y h => (l05ReadS_run x).trans h)

def readTrainS : ByteArray → Option (List ((Int × Int)) × Bool) :=
fun x => ob (l05ReadS x) fun y => br (!y.2) (some ([], false)) (some (y.1, true))
def readTrainS_con : Con := ⟨[.str], [.row 106 (.pair (i64) (i64)), .d (.bool)], readTrainS⟩
theorem readTrainS_run (x : Dens [.str]) : runFn (mkEnv [(72, l05ReadS_con)] []) Tryd.f28 [.str] [.row 106 (.pair (i64) (i64)), .d (.bool)] x = readTrainS x := by kernel_rfl
theorem readTrainS_ok : readTrainS_con.ok Tryd.prog 28 := fn_ok (con := readTrainS_con) (mkEnv_ok (cons := [(72, l05ReadS_con)]) ⟨l05ReadS_ok, trivial⟩ []) Tryd.func28 rfl (by kernel_rfl) (by exact trivial) (fun x y h => (readTrainS_run x).trans h)

def markPairSL_vars : Vars := [(0, .row 2 106 (.pair (i64) (i64))), (1, .val (i64)), (5, .val (i64))]
def markPairSL_step : List ((Int × Int)) × Int × Int → Option (LRes × (List ((Int × Int)) × Int × Int)) :=
fun x =>
  br (decide (x.snd.2 < (↑x.1.length : Int)))
    (ob (idx x.1 x.snd.2) fun x_1 =>
      ob (x.1.get?Internal (Int.toNat x.snd.2)) fun x_2 =>
        ob (idx (x.1.set (Int.toNat x.snd.2) (x.snd.1, x_2.2)) x.snd.2) fun x_3 =>
          ob ((x.1.set (Int.toNat x.snd.2) (x.snd.1, x_2.2)).get?Internal (Int.toNat x.snd.2)) fun x_4 =>
            some
              (LRes.next,
                (x.1.set (Int.toNat x.snd.2) (x.snd.1, x_2.2)).set (Int.toNat x.snd.2)
                  (x_4.1, IntKind.i64.wrap (x.snd.1 + (1 : Int))),
                IntKind.i64.wrap (IntKind.i64.wrap (x.snd.1 + (1 : Int)) + (1 : Int)),
                IntKind.i64.wrap (x.snd.2 + (1 : Int))))
    (some (LRes.out, x.1, x.snd.1, x.snd.2))
def markPairSL_fuel : List ((Int × Int)) × Int × Int → Nat := fun s => (s.1.length - s.2.2.toNat) + 1
def markPairSL : List ((Int × Int)) × Int × Int → Option (List ((Int × Int)) × Int × Int) := fun s => iterP markPairSL_step (markPairSL_fuel s) s
def markPairSL_L : LoopC := ⟨markPairSL_vars, 0, .plain markPairSL⟩
noncomputable def markPairSL_key : Nat := key (loopAt Tryd.f31 0)
theorem markPairSL_stepok (x : markPairSL_vars.den) : stepOf (mkEnv [] []) Tryd.f31.ntmps markPairSL_vars 0 (loopAt Tryd.f31 0) x = markPairSL_step x := by kernel_rfl
theorem markPairSL_ok : LoopOK Tryd.prog Tryd.f31.ntmps markPairSL_L (loopAt Tryd.f31 0)   := iterP_loop (n := Tryd.f31.ntmps) (vs := markPairSL_vars) (out := 0) (body := loopAt Tryd.f31 0) (mkEnv_ok (cons := []) trivial []) markPairSL_step markPairSL_fuel (by exact trivial) markPairSL_stepok

def markPairS : List ((Int × Int)) × Int → Option ((Int) × (List ((Int × Int)) × Int)) :=
fun x => ob (markPairSL (x.1, x.2, (0 : Int))) fun r => some (r.snd.1, r.1, x.2)
def markPairS_con : MCon := ⟨[.v (.row 106 (.pair (i64) (i64))), .v (.d (i64))], [.d (i64)], markPairS⟩
theorem markPairS_run (x : ADens [.v (.row 106 (.pair (i64) (i64))), .v (.d (i64))]) : runFnM (mkEnv [] [(markPairSL_key, markPairSL_L)]) Tryd.f31 [.v (.row 106 (.pair (i64) (i64))), .v (.d (i64))] [.d (i64)] x = markPairS x := by kernel_rfl
theorem markPairS_ok : markPairS_con.ok Tryd.prog 31 := fnM_ok (con := markPairS_con) (mkEnv_ok (cons := []) trivial [(markPairSL_key, markPairSL_L)]) Tryd.func31 rfl (by kernel_rfl) (by exact ⟨markPairSL_ok, trivial⟩) (fun x y h => (markPairS_run x).trans h)

def heldPairSL_vars : Vars := [(0, .val (.slice (.pair (i64) (i64)))), (1, .val (i64)), (4, .val (i64)), (5, .val (i64))]
def heldPairSL_step : List ((Int × Int)) × Int × Int × Int → Option (LRes × (List ((Int × Int)) × Int × Int × Int)) :=
fun x =>
  br (decide (x.snd.snd.2 < (↑x.1.length : Int)))
    (ob (idx x.1 x.snd.snd.2) fun y =>
      br (y.1 != x.snd.1) (some (LRes.ret, x.1, x.snd.1, (-1 : Int), x.snd.snd.2))
        (ob (idx x.1 x.snd.snd.2) fun y =>
          br (y.2 != IntKind.i64.wrap (x.snd.1 + (1 : Int)))
            (some (LRes.ret, x.1, IntKind.i64.wrap (x.snd.1 + (1 : Int)), (-1 : Int), x.snd.snd.2))
            (some
              (LRes.next, x.1, IntKind.i64.wrap (IntKind.i64.wrap (x.snd.1 + (1 : Int)) + (1 : Int)), x.snd.snd.1,
                IntKind.i64.wrap (x.snd.snd.2 + (1 : Int))))))
    (some (LRes.out, x.1, x.snd.1, x.snd.snd.1, x.snd.snd.2))
def heldPairSL_fuel : List ((Int × Int)) × Int × Int × Int → Nat := fun s => (s.1.length - s.2.2.2.toNat) + 1
def heldPairSL : List ((Int × Int)) × Int × Int × Int → Option (Bool × (List ((Int × Int)) × Int × Int × Int)) := fun s => iter heldPairSL_step (heldPairSL_fuel s) s
def heldPairSL_L : LoopC := ⟨heldPairSL_vars, 0, .two heldPairSL⟩
noncomputable def heldPairSL_key : Nat := key (loopAt Tryd.f32 0)
theorem heldPairSL_stepok (x : heldPairSL_vars.den) : stepOf (mkEnv [] []) Tryd.f32.ntmps heldPairSL_vars 0 (loopAt Tryd.f32 0) x = heldPairSL_step x := by kernel_rfl
theorem heldPairSL_ok : LoopOK Tryd.prog Tryd.f32.ntmps heldPairSL_L (loopAt Tryd.f32 0)   := iter_loop (n := Tryd.f32.ntmps) (vs := heldPairSL_vars) (out := 0) (body := loopAt Tryd.f32 0) (mkEnv_ok (cons := []) trivial []) heldPairSL_step heldPairSL_fuel (by exact trivial) heldPairSL_stepok

def heldPairS : List ((Int × Int)) × Int → Option (Int) :=
fun x => ob (heldPairSL (x.1, x.2, (0 : Int), (0 : Int))) fun r => br r.1 (some r.snd.snd.1) (some r.snd.snd.snd.1)
def heldPairS_con : Con := ⟨[.slice (.pair (i64) (i64)), i64], [.d (i64)], heldPairS⟩
theorem heldPairS_run (x : Dens [.slice (.pair (i64) (i64)), i64]) : runFn (mkEnv [] [(heldPairSL_key, heldPairSL_L)]) Tryd.f32 [.slice (.pair (i64) (i64)), i64] [.d (i64)] x = heldPairS x := by kernel_rfl
theorem heldPairS_ok : heldPairS_con.ok Tryd.prog 32 := fn_ok (con := heldPairS_con) (mkEnv_ok (cons := []) trivial [(heldPairSL_key, heldPairSL_L)]) Tryd.func32 rfl (by kernel_rfl) (by exact ⟨heldPairSL_ok, trivial⟩) (fun x y h => (heldPairS_run x).trans h)

def lawReadTrain : ByteArray → Option (Bool) :=
fun x =>
  br (decide ((1048576 : Int) < (↑x.size : Int))) (some true)
    (ob (readTrainS x) fun y =>
      ob (readTrainI x) fun y_1 =>
        ob (eqPairS (y_1.1, y.1)) fun y_2 =>
          br (!y_2) (some false)
            (br (!y_1.2 == y.2) (some false)
              (ob (markPairS (y_1.1, (1 : Int))) fun y_3 =>
                ob (heldPairS (y_3.snd.1, (1 : Int))) fun y_4 =>
                  br (decide (y_4 < (0 : Int))) (some false)
                    (br (y_4 != y_3.1) (some false)
                      (ob (readTrainI x) fun y_5 =>
                        ob (eqPairS (y_5.1, y.1)) fun y_6 =>
                          br (!y_6) (some false)
                            (br (!y_5.2 == y.2) (some false)
                              (ob (heldPairS (y_3.snd.1, (1 : Int))) fun y =>
                                br (decide (y < (0 : Int))) (some false)
                                  (br (y != y_3.1) (some false) (some true)))))))))
def lawReadTrain_con : Con := ⟨[.str], [.d (.bool)], lawReadTrain⟩
theorem lawReadTrain_run (x : Dens [.str]) : runFn (mkEnvM [(28, readTrainS_con), (29, readTrainI_con), (30, eqPairS_con), (32, heldPairS_con)] [(31, markPairS_con)] []) Tryd.f7 [.str] [.d (.bool)] x = lawReadTrain x := by kernel_rfl
theorem lawReadTrain_ok : lawReadTrain_con.ok Tryd.prog 7 := fn_ok (con := lawReadTrain_con) (mkEnvM_ok (cons := [(28, readTrainS_con), (29, readTrainI_con), (30, eqPairS_con), (32, heldPairS_con)]) (mcons := [(31, markPairS_con)]) ⟨readTrainS_ok, readTrainI_ok, eqPairS_ok, heldPairS_ok, trivial⟩ ⟨markPairS_ok, trivial⟩ []) Tryd.func7 rfl (by kernel_rfl) (by exact trivial) (fun x y h => (lawReadTrain_run x).trans h)

end
end Rx
end Go.Proofs.YtfapjkcmoefilaaDoor
