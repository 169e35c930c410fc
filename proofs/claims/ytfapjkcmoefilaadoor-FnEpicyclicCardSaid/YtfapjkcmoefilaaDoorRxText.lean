/- What the functions of RxText come to, and their contracts. No conditions. -/
import Derived.Test.YtfapjkcmoefilaaDoorRxEnv
import Derived.Test.YtfapjkcmoefilaaDoorRxLib
import Derived.Test.YtfapjkcmoefilaaDoorRxEpi
import Derived.Test.YtfapjkcmoefilaaDoorRxTrain
namespace Go.Proofs.YtfapjkcmoefilaaDoor
namespace Rx
open Go

noncomputable section
def decI : Int → Option (ByteArray) :=
fun x => ob (fmtX (x, (10 : Int))) fun y => some y
def decI_con : Con := ⟨[i64], [.d (.str)], decI⟩
theorem decI_run (x : Dens [i64]) : runFn (mkEnv [(88, fmtX_con)] []) Tryd.f41 [i64] [.d (.str)] x = decI x := by kernel_rfl
theorem decI_ok : decI_con.ok Tryd.prog 41 := fn_ok (con := decI_con) (mkEnv_ok (cons := [(88, fmtX_con)]) ⟨fmtX_ok, trivial⟩ []) Tryd.func41 rfl (by kernel_rfl) (by exact trivial) (fun x y h => (decI_run x).trans h)

def decTL_vars : Vars := [(0, .val (i64)), (2, .val (.str)), (3, .row 0 5 (.int .u8)), (4, .val (i64))]
def decTL_step : Int × ByteArray × List (Int) × Int → Option (LRes × (Int × ByteArray × List (Int) × Int)) :=
fun x =>
  br (x.snd.snd.2 != (0 : Int))
    (br (decide (Int.tmod x.snd.snd.2 (10 : Int) < (0 : Int)))
      (br
        (decide
          ([IntKind.u8.wrap
                    (IntKind.i64.wrap
                      ((48 : Int) + IntKind.i64.wrap ((0 : Int) - Int.tmod x.snd.snd.2 (10 : Int))))].length +
              List.length x.snd.snd.1 ≤
            (4294967296 : Nat)))
        (some
          (LRes.next, x.1, x.snd.1,
            [IntKind.u8.wrap
                  (IntKind.i64.wrap ((48 : Int) + IntKind.i64.wrap ((0 : Int) - Int.tmod x.snd.snd.2 (10 : Int))))] ++
              x.snd.snd.1,
            IntKind.i64.wrap (Int.tdiv x.snd.snd.2 (10 : Int))))
        none)
      (br
        (decide
          ([IntKind.u8.wrap (IntKind.i64.wrap ((48 : Int) + Int.tmod x.snd.snd.2 (10 : Int)))].length +
              List.length x.snd.snd.1 ≤
            (4294967296 : Nat)))
        (some
          (LRes.next, x.1, x.snd.1,
            [IntKind.u8.wrap (IntKind.i64.wrap ((48 : Int) + Int.tmod x.snd.snd.2 (10 : Int)))] ++ x.snd.snd.1,
            IntKind.i64.wrap (Int.tdiv x.snd.snd.2 (10 : Int))))
        none))
    (some (LRes.out, x.1, x.snd.1, x.snd.snd.1, x.snd.snd.2))
def decTL_fuel : Int × ByteArray × List (Int) × Int → Nat := fun s => s.2.2.2.natAbs + 1
def decTL : Int × ByteArray × List (Int) × Int → Option (Int × ByteArray × List (Int) × Int) := fun s => iterP decTL_step (decTL_fuel s) s
def decTL_L : LoopC := ⟨decTL_vars, 0, .plain decTL⟩
noncomputable def decTL_key : Nat := key (loopAt Tryd.f87 0)
theorem decTL_stepok (x : decTL_vars.den) : stepOf (mkEnv [] []) Tryd.f87.ntmps decTL_vars 0 (loopAt Tryd.f87 0) x = decTL_step x := by kernel_rfl
theorem decTL_ok : LoopOK Tryd.prog Tryd.f87.ntmps decTL_L (loopAt Tryd.f87 0)   := iterP_loop (n := Tryd.f87.ntmps) (vs := decTL_vars) (out := 0) (body := loopAt Tryd.f87 0) (mkEnv_ok (cons := []) trivial []) decTL_step decTL_fuel (by exact trivial) decTL_stepok

def decT : Int → Option (ByteArray) :=
fun x =>
  ob (decTL (x, (⟨⟨[]⟩⟩ : ByteArray), [], x)) fun r =>
    br ((↑(List.length r.snd.snd.1) : Int) == (0 : Int)) (some (⟨⟨[(48 : UInt8)]⟩⟩ : ByteArray))
      (br (decide (r.1 < (0 : Int)))
        (br
          (decide
            ((⟨⟨[(45 : UInt8)]⟩⟩ : ByteArray).size + (bytesOf r.snd.snd.1).size ≤ (9223372036854775807 : Nat)))
          (some ((⟨⟨[(45 : UInt8)]⟩⟩ : ByteArray) ++ bytesOf r.snd.snd.1)) none)
        (some (bytesOf r.snd.snd.1)))
def decT_con : Con := ⟨[i64], [.d (.str)], decT⟩
theorem decT_run (x : Dens [i64]) : runFn (mkEnv [] [(decTL_key, decTL_L)]) Tryd.f87 [i64] [.d (.str)] x = decT x := by kernel_rfl
theorem decT_ok : decT_con.ok Tryd.prog 87 := fn_ok (con := decT_con) (mkEnv_ok (cons := []) trivial [(decTL_key, decTL_L)]) Tryd.func87 rfl (by kernel_rfl) (by exact ⟨decTL_ok, trivial⟩) (fun x y h => (decT_run x).trans h)

def epiTextI : (Int × Int × Int × Int) → Option (ByteArray) :=
fun x =>
  ob (validEpiI (x.1, x.snd.1, x.snd.snd.1, x.snd.snd.2)) fun y =>
    br (!y) (some (⟨⟨[]⟩⟩ : ByteArray))
      (ob (decI x.1) fun y =>
        br (decide (ByteArray.size y + (⟨⟨[(32 : UInt8)]⟩⟩ : ByteArray).size ≤ (9223372036854775807 : Nat)))
          (ob (decI x.snd.snd.1) fun y_1 =>
            br
              (decide
                ((y ++ (⟨⟨[(32 : UInt8)]⟩⟩ : ByteArray)).size + ByteArray.size y_1 ≤
                  (9223372036854775807 : Nat)))
              (br
                (decide
                  ((y ++ (⟨⟨[(32 : UInt8)]⟩⟩ : ByteArray) ++ y_1).size +
                      (⟨⟨[(32 : UInt8)]⟩⟩ : ByteArray).size ≤
                    (9223372036854775807 : Nat)))
                (ob (decI x.snd.snd.2) fun y_2 =>
                  br
                    (decide
                      ((y ++ (⟨⟨[(32 : UInt8)]⟩⟩ : ByteArray) ++ y_1 ++
                              (⟨⟨[(32 : UInt8)]⟩⟩ : ByteArray)).size +
                          ByteArray.size y_2 ≤
                        (9223372036854775807 : Nat)))
                    (some
                      (y ++ (⟨⟨[(32 : UInt8)]⟩⟩ : ByteArray) ++ y_1 ++
                          (⟨⟨[(32 : UInt8)]⟩⟩ : ByteArray) ++
                        y_2))
                    none)
                none)
              none)
          none)
def epiTextI_con : Con := ⟨[.pair (i64) (.pair (i64) (.pair (i64) (i64)))], [.d (.str)], epiTextI⟩
theorem epiTextI_run (x : Dens [.pair (i64) (.pair (i64) (.pair (i64) (i64)))]) : runFn (mkEnv [(40, validEpiI_con), (41, decI_con)] []) Tryd.f11 [.pair (i64) (.pair (i64) (.pair (i64) (i64)))] [.d (.str)] x = epiTextI x := by kernel_rfl
theorem epiTextI_ok : epiTextI_con.ok Tryd.prog 11 := fn_ok (con := epiTextI_con) (mkEnv_ok (cons := [(40, validEpiI_con), (41, decI_con)]) ⟨validEpiI_ok, decI_ok, trivial⟩ []) Tryd.func11 rfl (by kernel_rfl) (by exact trivial) (fun x y h => (epiTextI_run x).trans h)

def textEpiS : (Int × Int × Int × Int) → Option (ByteArray) :=
fun x =>
  ob (decT x.1) fun y =>
    br (decide (ByteArray.size y + (⟨⟨[(32 : UInt8)]⟩⟩ : ByteArray).size ≤ (9223372036854775807 : Nat)))
      (ob (decT x.snd.snd.1) fun y_1 =>
        br
          (decide
            ((y ++ (⟨⟨[(32 : UInt8)]⟩⟩ : ByteArray)).size + ByteArray.size y_1 ≤ (9223372036854775807 : Nat)))
          (br
            (decide
              ((y ++ (⟨⟨[(32 : UInt8)]⟩⟩ : ByteArray) ++ y_1).size +
                  (⟨⟨[(32 : UInt8)]⟩⟩ : ByteArray).size ≤
                (9223372036854775807 : Nat)))
            (ob (decT x.snd.snd.2) fun y_2 =>
              br
                (decide
                  ((y ++ (⟨⟨[(32 : UInt8)]⟩⟩ : ByteArray) ++ y_1 ++
                          (⟨⟨[(32 : UInt8)]⟩⟩ : ByteArray)).size +
                      ByteArray.size y_2 ≤
                    (9223372036854775807 : Nat)))
                (some
                  (y ++ (⟨⟨[(32 : UInt8)]⟩⟩ : ByteArray) ++ y_1 ++ (⟨⟨[(32 : UInt8)]⟩⟩ : ByteArray) ++
                    y_2))
                none)
            none)
          none)
      none
def textEpiS_con : Con := ⟨[.pair (i64) (.pair (i64) (.pair (i64) (i64)))], [.d (.str)], textEpiS⟩
theorem textEpiS_run (x : Dens [.pair (i64) (.pair (i64) (.pair (i64) (i64)))]) : runFn (mkEnv [(87, decT_con)] []) Tryd.f39 [.pair (i64) (.pair (i64) (.pair (i64) (i64)))] [.d (.str)] x = textEpiS x := by kernel_rfl
theorem textEpiS_ok : textEpiS_con.ok Tryd.prog 39 := fn_ok (con := textEpiS_con) (mkEnv_ok (cons := [(87, decT_con)]) ⟨decT_ok, trivial⟩ []) Tryd.func39 rfl (by kernel_rfl) (by exact trivial) (fun x y h => (textEpiS_run x).trans h)

def epiTextS : (Int × Int × Int × Int) → Option (ByteArray) :=
fun x =>
  ob (okEpiS (x.1, x.snd.1, x.snd.snd.1, x.snd.snd.2)) fun y =>
    br (!y) (some (⟨⟨[]⟩⟩ : ByteArray)) (ob (textEpiS (x.1, x.snd.1, x.snd.snd.1, x.snd.snd.2)) fun y => some y)
def epiTextS_con : Con := ⟨[.pair (i64) (.pair (i64) (.pair (i64) (i64)))], [.d (.str)], epiTextS⟩
theorem epiTextS_run (x : Dens [.pair (i64) (.pair (i64) (.pair (i64) (i64)))]) : runFn (mkEnv [(38, okEpiS_con), (39, textEpiS_con)] []) Tryd.f9 [.pair (i64) (.pair (i64) (.pair (i64) (i64)))] [.d (.str)] x = epiTextS x := by kernel_rfl
theorem epiTextS_ok : epiTextS_con.ok Tryd.prog 9 := fn_ok (con := epiTextS_con) (mkEnv_ok (cons := [(38, okEpiS_con), (39, textEpiS_con)]) ⟨okEpiS_ok, textEpiS_ok, trivial⟩ []) Tryd.func9 rfl (by kernel_rfl) (by exact trivial) (fun x y h => (epiTextS_run x).trans h)

def lawEpiText : (Int × Int × Int × Int) → Option (Bool) :=
fun x =>
  ob (toEpiL (x.1, x.snd.1, x.snd.snd.1, x.snd.snd.2)) fun y =>
    ob (epiTextS (y.1, y.snd.1, y.snd.snd.1, y.snd.snd.2)) fun y =>
      ob (toEpiL (x.1, x.snd.1, x.snd.snd.1, x.snd.snd.2)) fun y_1 =>
        ob (epiTextI (y_1.1, y_1.snd.1, y_1.snd.snd.1, y_1.snd.snd.2)) fun y_2 =>
          br (!ByteArray.toList y_2 == ByteArray.toList y) (some false) (some true)
def lawEpiText_con : Con := ⟨[.pair (i64) (.pair (i64) (.pair (i64) (i64)))], [.d (.bool)], lawEpiText⟩
theorem lawEpiText_run (x : Dens [.pair (i64) (.pair (i64) (.pair (i64) (i64)))]) : runFn (mkEnv [(10, toEpiL_con), (9, epiTextS_con), (11, epiTextI_con)] []) Tryd.f3 [.pair (i64) (.pair (i64) (.pair (i64) (i64)))] [.d (.bool)] x = lawEpiText x := by kernel_rfl
theorem lawEpiText_ok : lawEpiText_con.ok Tryd.prog 3 := fn_ok (con := lawEpiText_con) (mkEnv_ok (cons := [(10, toEpiL_con), (9, epiTextS_con), (11, epiTextI_con)]) ⟨toEpiL_ok, epiTextS_ok, epiTextI_ok, trivial⟩ []) Tryd.func3 rfl (by kernel_rfl) (by exact trivial) (fun x y h => (lawEpiText_run x).trans h)

def ratTextI : (Int × Int) → Option (ByteArray) :=
fun x =>
  ob (validRatI (x.1, x.2)) fun y =>
    br (!y) (some (⟨⟨[]⟩⟩ : ByteArray))
      (br (x.2 == (1 : Int)) (ob (decI x.1) fun y => some y)
        (ob (decI x.1) fun y =>
          br (decide (ByteArray.size y + (⟨⟨[(47 : UInt8)]⟩⟩ : ByteArray).size ≤ (9223372036854775807 : Nat)))
            (ob (decI x.2) fun y_1 =>
              br
                (decide
                  ((y ++ (⟨⟨[(47 : UInt8)]⟩⟩ : ByteArray)).size + ByteArray.size y_1 ≤
                    (9223372036854775807 : Nat)))
                (some (y ++ (⟨⟨[(47 : UInt8)]⟩⟩ : ByteArray) ++ y_1)) none)
            none))
def ratTextI_con : Con := ⟨[.pair (i64) (i64)], [.d (.str)], ratTextI⟩
theorem ratTextI_run (x : Dens [.pair (i64) (i64)]) : runFn (mkEnv [(53, validRatI_con), (41, decI_con)] []) Tryd.f70 [.pair (i64) (i64)] [.d (.str)] x = ratTextI x := by kernel_rfl
theorem ratTextI_ok : ratTextI_con.ok Tryd.prog 70 := fn_ok (con := ratTextI_con) (mkEnv_ok (cons := [(53, validRatI_con), (41, decI_con)]) ⟨validRatI_ok, decI_ok, trivial⟩ []) Tryd.func70 rfl (by kernel_rfl) (by exact trivial) (fun x y h => (ratTextI_run x).trans h)

def trainTextIL_vars : Vars := [(3, .row 0 9 (.str)), (12, .val (.slice (.pair (i64) (i64)))), (13, .val (i64)), (14, .val (i64))]
def trainTextIL_step : List (ByteArray) × List ((Int × Int)) × Int × Int → Option (LRes × (List (ByteArray) × List ((Int × Int)) × Int × Int)) :=
fun x =>
  br (decide (x.snd.snd.2 < x.snd.snd.1))
    (ob (idx x.snd.1 x.snd.snd.2) fun y =>
      ob (decI y.1) fun y_1 =>
        br (decide (ByteArray.size y_1 + (⟨⟨[(58 : UInt8)]⟩⟩ : ByteArray).size ≤ (9223372036854775807 : Nat)))
          (ob (decI y.2) fun y =>
            br
              (decide
                ((y_1 ++ (⟨⟨[(58 : UInt8)]⟩⟩ : ByteArray)).size + ByteArray.size y ≤
                  (9223372036854775807 : Nat)))
              (br
                (decide
                  (x.1.length + [y_1 ++ (⟨⟨[(58 : UInt8)]⟩⟩ : ByteArray) ++ y].length ≤ (4294967296 : Nat)))
                (some
                  (LRes.next, x.1 ++ [y_1 ++ (⟨⟨[(58 : UInt8)]⟩⟩ : ByteArray) ++ y], x.snd.1, x.snd.snd.1,
                    IntKind.i64.wrap (x.snd.snd.2 + (1 : Int))))
                none)
              none)
          none)
    (some (LRes.out, x.1, x.snd.1, x.snd.snd.1, x.snd.snd.2))
def trainTextIL_fuel : List (ByteArray) × List ((Int × Int)) × Int × Int → Nat := fun s => (s.2.2.1 - s.2.2.2).toNat + 1
def trainTextIL : List (ByteArray) × List ((Int × Int)) × Int × Int → Option (List (ByteArray) × List ((Int × Int)) × Int × Int) := fun s => iterP trainTextIL_step (trainTextIL_fuel s) s
def trainTextIL_L : LoopC := ⟨trainTextIL_vars, 0, .plain trainTextIL⟩
noncomputable def trainTextIL_key : Nat := key (loopAt Tryd.f69 0)
theorem trainTextIL_stepok (x : trainTextIL_vars.den) : stepOf (mkEnv [(41, decI_con)] []) Tryd.f69.ntmps trainTextIL_vars 0 (loopAt Tryd.f69 0) x = trainTextIL_step x := by kernel_rfl
theorem trainTextIL_ok : LoopOK Tryd.prog Tryd.f69.ntmps trainTextIL_L (loopAt Tryd.f69 0)   := iterP_loop (n := Tryd.f69.ntmps) (vs := trainTextIL_vars) (out := 0) (body := loopAt Tryd.f69 0) (mkEnv_ok (cons := [(41, decI_con)]) ⟨decI_ok, trivial⟩ []) trainTextIL_step trainTextIL_fuel (by exact trivial) trainTextIL_stepok

def trainTextI : List ((Int × Int)) → Option (ByteArray) :=
fun x =>
  ob (validTrainI x) fun y =>
    br (!y) (some (⟨⟨[]⟩⟩ : ByteArray))
      (br ((↑x.length : Int) == (0 : Int)) (some (⟨⟨[(45 : UInt8)]⟩⟩ : ByteArray))
        (ob (trainTextIL ([], x, (↑x.length : Int), (0 : Int))) fun r =>
          ob (joinX (r.1, (⟨⟨[(32 : UInt8)]⟩⟩ : ByteArray))) fun y => some y))
def trainTextI_con : Con := ⟨[.slice (.pair (i64) (i64))], [.d (.str)], trainTextI⟩
theorem trainTextI_run (x : Dens [.slice (.pair (i64) (i64))]) : runFn (mkEnv [(68, validTrainI_con), (105, joinX_con)] [(trainTextIL_key, trainTextIL_L)]) Tryd.f69 [.slice (.pair (i64) (i64))] [.d (.str)] x = trainTextI x := by kernel_rfl
theorem trainTextI_ok : trainTextI_con.ok Tryd.prog 69 := fn_ok (con := trainTextI_con) (mkEnv_ok (cons := [(68, validTrainI_con), (105, joinX_con)]) ⟨validTrainI_ok, joinX_ok, trivial⟩ [(trainTextIL_key, trainTextIL_L)]) Tryd.func69 rfl (by kernel_rfl) (by exact ⟨trainTextIL_ok, trivial⟩) (fun x y h => (trainTextI_run x).trans h)

def foundTextI : (List ((Int × Int)) × (Int × Int)) → Option (ByteArray) :=
fun x =>
  ob (validTrainI x.1) fun y =>
    br (!y) (some (⟨⟨[]⟩⟩ : ByteArray))
      (ob (validRatI (x.snd.1, x.snd.2)) fun y =>
        br (!y) (some (⟨⟨[]⟩⟩ : ByteArray))
          (ob (trainTextI x.1) fun y =>
            br (decide (ByteArray.size y + (⟨⟨[(32 : UInt8)]⟩⟩ : ByteArray).size ≤ (9223372036854775807 : Nat)))
              (ob (ratTextI (x.snd.1, x.snd.2)) fun y_1 =>
                br
                  (decide
                    ((y ++ (⟨⟨[(32 : UInt8)]⟩⟩ : ByteArray)).size + ByteArray.size y_1 ≤
                      (9223372036854775807 : Nat)))
                  (some (y ++ (⟨⟨[(32 : UInt8)]⟩⟩ : ByteArray) ++ y_1)) none)
              none))
def foundTextI_con : Con := ⟨[.pair (.slice (.pair (i64) (i64))) (.pair (i64) (i64))], [.d (.str)], foundTextI⟩
theorem foundTextI_run (x : Dens [.pair (.slice (.pair (i64) (i64))) (.pair (i64) (i64))]) : runFn (mkEnv [(68, validTrainI_con), (53, validRatI_con), (69, trainTextI_con), (70, ratTextI_con)] []) Tryd.f26 [.pair (.slice (.pair (i64) (i64))) (.pair (i64) (i64))] [.d (.str)] x = foundTextI x := by kernel_rfl
theorem foundTextI_ok : foundTextI_con.ok Tryd.prog 26 := fn_ok (con := foundTextI_con) (mkEnv_ok (cons := [(68, validTrainI_con), (53, validRatI_con), (69, trainTextI_con), (70, ratTextI_con)]) ⟨validTrainI_ok, validRatI_ok, trainTextI_ok, ratTextI_ok, trivial⟩ []) Tryd.func26 rfl (by kernel_rfl) (by exact trivial) (fun x y h => (foundTextI_run x).trans h)

def trainTextSL_vars : Vars := [(0, .val (.slice (.pair (i64) (i64)))), (3, .val (.str)), (4, .val (i64))]
def trainTextSL_step : List ((Int × Int)) × ByteArray × Int → Option (LRes × (List ((Int × Int)) × ByteArray × Int)) :=
fun x =>
  br (decide (x.snd.2 < (↑x.1.length : Int)))
    (br (decide ((0 : Int) < x.snd.2))
      (br
        (decide (ByteArray.size x.snd.1 + (⟨⟨[(32 : UInt8)]⟩⟩ : ByteArray).size ≤ (9223372036854775807 : Nat)))
        (ob (idx x.1 x.snd.2) fun y =>
          ob (decT y.1) fun y =>
            br (decide (ByteArray.size y + (⟨⟨[(58 : UInt8)]⟩⟩ : ByteArray).size ≤ (9223372036854775807 : Nat)))
              (ob (idx x.1 x.snd.2) fun y_1 =>
                ob (decT y_1.2) fun y_2 =>
                  br
                    (decide
                      ((y ++ (⟨⟨[(58 : UInt8)]⟩⟩ : ByteArray)).size + ByteArray.size y_2 ≤
                        (9223372036854775807 : Nat)))
                    (br
                      (decide
                        ((x.snd.1 ++ (⟨⟨[(32 : UInt8)]⟩⟩ : ByteArray)).size +
                            (y ++ (⟨⟨[(58 : UInt8)]⟩⟩ : ByteArray) ++ y_2).size ≤
                          (9223372036854775807 : Nat)))
                      (some
                        (LRes.next, x.1,
                          x.snd.1 ++ (⟨⟨[(32 : UInt8)]⟩⟩ : ByteArray) ++
                            (y ++ (⟨⟨[(58 : UInt8)]⟩⟩ : ByteArray) ++ y_2),
                          IntKind.i64.wrap (x.snd.2 + (1 : Int))))
                      none)
                    none)
              none)
        none)
      (ob (idx x.1 x.snd.2) fun y =>
        ob (decT y.1) fun y =>
          br (decide (ByteArray.size y + (⟨⟨[(58 : UInt8)]⟩⟩ : ByteArray).size ≤ (9223372036854775807 : Nat)))
            (ob (idx x.1 x.snd.2) fun y_1 =>
              ob (decT y_1.2) fun y_2 =>
                br
                  (decide
                    ((y ++ (⟨⟨[(58 : UInt8)]⟩⟩ : ByteArray)).size + ByteArray.size y_2 ≤
                      (9223372036854775807 : Nat)))
                  (br
                    (decide
                      (ByteArray.size x.snd.1 + (y ++ (⟨⟨[(58 : UInt8)]⟩⟩ : ByteArray) ++ y_2).size ≤
                        (9223372036854775807 : Nat)))
                    (some
                      (LRes.next, x.1, x.snd.1 ++ (y ++ (⟨⟨[(58 : UInt8)]⟩⟩ : ByteArray) ++ y_2),
                        IntKind.i64.wrap (x.snd.2 + (1 : Int))))
                    none)
                  none)
            none))
    (some (LRes.out, x.1, x.snd.1, x.snd.2))
def trainTextSL_fuel : List ((Int × Int)) × ByteArray × Int → Nat := fun s => (s.1.length - s.2.2.toNat) + 1
def trainTextSL : List ((Int × Int)) × ByteArray × Int → Option (List ((Int × Int)) × ByteArray × Int) := fun s => iterP trainTextSL_step (trainTextSL_fuel s) s
def trainTextSL_L : LoopC := ⟨trainTextSL_vars, 0, .plain trainTextSL⟩
noncomputable def trainTextSL_key : Nat := key (loopAt Tryd.f64 0)
theorem trainTextSL_stepok (x : trainTextSL_vars.den) : stepOf (mkEnv [(87, decT_con)] []) Tryd.f64.ntmps trainTextSL_vars 0 (loopAt Tryd.f64 0) x = trainTextSL_step x := by kernel_rfl
theorem trainTextSL_ok : LoopOK Tryd.prog Tryd.f64.ntmps trainTextSL_L (loopAt Tryd.f64 0)   := iterP_loop (n := Tryd.f64.ntmps) (vs := trainTextSL_vars) (out := 0) (body := loopAt Tryd.f64 0) (mkEnv_ok (cons := [(87, decT_con)]) ⟨decT_ok, trivial⟩ []) trainTextSL_step trainTextSL_fuel (by exact trivial) trainTextSL_stepok

def trainTextS : List ((Int × Int)) → Option (ByteArray) :=
fun x =>
  br ((↑x.length : Int) == (0 : Int)) (some (⟨⟨[(45 : UInt8)]⟩⟩ : ByteArray))
    (ob (trainTextSL (x, (⟨⟨[]⟩⟩ : ByteArray), (0 : Int))) fun r => some r.snd.1)
def trainTextS_con : Con := ⟨[.slice (.pair (i64) (i64))], [.d (.str)], trainTextS⟩
theorem trainTextS_run (x : Dens [.slice (.pair (i64) (i64))]) : runFn (mkEnv [] [(trainTextSL_key, trainTextSL_L)]) Tryd.f64 [.slice (.pair (i64) (i64))] [.d (.str)] x = trainTextS x := by kernel_rfl
theorem trainTextS_ok : trainTextS_con.ok Tryd.prog 64 := fn_ok (con := trainTextS_con) (mkEnv_ok (cons := []) trivial [(trainTextSL_key, trainTextSL_L)]) Tryd.func64 rfl (by kernel_rfl) (by exact ⟨trainTextSL_ok, trivial⟩) (fun x y h => (trainTextS_run x).trans h)

def ratTextS : (Int × Int) → Option (ByteArray) :=
fun x =>
  br (x.2 == (1 : Int)) (ob (decT x.1) fun y => some y)
    (ob (decT x.1) fun y =>
      br (decide (ByteArray.size y + (⟨⟨[(47 : UInt8)]⟩⟩ : ByteArray).size ≤ (9223372036854775807 : Nat)))
        (ob (decT x.2) fun y_1 =>
          br
            (decide
              ((y ++ (⟨⟨[(47 : UInt8)]⟩⟩ : ByteArray)).size + ByteArray.size y_1 ≤ (9223372036854775807 : Nat)))
            (some (y ++ (⟨⟨[(47 : UInt8)]⟩⟩ : ByteArray) ++ y_1)) none)
        none)
def ratTextS_con : Con := ⟨[.pair (i64) (i64)], [.d (.str)], ratTextS⟩
theorem ratTextS_run (x : Dens [.pair (i64) (i64)]) : runFn (mkEnv [(87, decT_con)] []) Tryd.f65 [.pair (i64) (i64)] [.d (.str)] x = ratTextS x := by kernel_rfl
theorem ratTextS_ok : ratTextS_con.ok Tryd.prog 65 := fn_ok (con := ratTextS_con) (mkEnv_ok (cons := [(87, decT_con)]) ⟨decT_ok, trivial⟩ []) Tryd.func65 rfl (by kernel_rfl) (by exact trivial) (fun x y h => (ratTextS_run x).trans h)

def foundTextS : (List ((Int × Int)) × (Int × Int)) → Option (ByteArray) :=
fun x =>
  ob (okTrainS x.1) fun y =>
    br (!y) (some (⟨⟨[]⟩⟩ : ByteArray))
      (ob (okRatS (x.snd.1, x.snd.2)) fun y =>
        br (!y) (some (⟨⟨[]⟩⟩ : ByteArray))
          (ob (trainTextS x.1) fun y =>
            br (decide (ByteArray.size y + (⟨⟨[(32 : UInt8)]⟩⟩ : ByteArray).size ≤ (9223372036854775807 : Nat)))
              (ob (ratTextS (x.snd.1, x.snd.2)) fun y_1 =>
                br
                  (decide
                    ((y ++ (⟨⟨[(32 : UInt8)]⟩⟩ : ByteArray)).size + ByteArray.size y_1 ≤
                      (9223372036854775807 : Nat)))
                  (some (y ++ (⟨⟨[(32 : UInt8)]⟩⟩ : ByteArray) ++ y_1)) none)
              none))
def foundTextS_con : Con := ⟨[.pair (.slice (.pair (i64) (i64))) (.pair (i64) (i64))], [.d (.str)], foundTextS⟩
theorem foundTextS_run (x : Dens [.pair (.slice (.pair (i64) (i64))) (.pair (i64) (i64))]) : runFn (mkEnv [(63, okTrainS_con), (58, okRatS_con), (64, trainTextS_con), (65, ratTextS_con)] []) Tryd.f24 [.pair (.slice (.pair (i64) (i64))) (.pair (i64) (i64))] [.d (.str)] x = foundTextS x := by kernel_rfl
theorem foundTextS_ok : foundTextS_con.ok Tryd.prog 24 := fn_ok (con := foundTextS_con) (mkEnv_ok (cons := [(63, okTrainS_con), (58, okRatS_con), (64, trainTextS_con), (65, ratTextS_con)]) ⟨okTrainS_ok, okRatS_ok, trainTextS_ok, ratTextS_ok, trivial⟩ []) Tryd.func24 rfl (by kernel_rfl) (by exact trivial) (fun x y h => (foundTextS_run x).trans h)

def szFoundL : (List ((Int × Int)) × (Int × Int)) × Int → Option (Int) :=
fun x => ob (szPairS (x.fst.1, x.2)) fun y => br (decide (y < (0 : Int))) (some (-1 : Int)) (some y)
def szFoundL_con : Con := ⟨[.pair (.slice (.pair (i64) (i64))) (.pair (i64) (i64)), i64], [.d (i64)], szFoundL⟩
theorem szFoundL_run (x : Dens [.pair (.slice (.pair (i64) (i64))) (.pair (i64) (i64)), i64]) : runFn (mkEnv [(62, szPairS_con)] []) Tryd.f23 [.pair (.slice (.pair (i64) (i64))) (.pair (i64) (i64)), i64] [.d (i64)] x = szFoundL x := by kernel_rfl
theorem szFoundL_ok : szFoundL_con.ok Tryd.prog 23 := fn_ok (con := szFoundL_con) (mkEnv_ok (cons := [(62, szPairS_con)]) ⟨szPairS_ok, trivial⟩ []) Tryd.func23 rfl (by kernel_rfl) (by exact trivial) (fun x y h => (szFoundL_run x).trans h)

def toFoundL : (List ((Int × Int)) × (Int × Int)) → Option ((List ((Int × Int)) × (Int × Int))) :=
fun x => ob (toPairS x.1) fun y => ob (toRatL (x.snd.1, x.snd.2)) fun y_1 => some (y, y_1.1, y_1.2)
def toFoundL_con : Con := ⟨[.pair (.slice (.pair (i64) (i64))) (.pair (i64) (i64))], [.d (.pair (.slice (.pair (i64) (i64))) (.pair (i64) (i64)))], toFoundL⟩
theorem toFoundL_run (x : Dens [.pair (.slice (.pair (i64) (i64))) (.pair (i64) (i64))]) : runFn (mkEnv [(66, toPairS_con), (67, toRatL_con)] []) Tryd.f25 [.pair (.slice (.pair (i64) (i64))) (.pair (i64) (i64))] [.d (.pair (.slice (.pair (i64) (i64))) (.pair (i64) (i64)))] x = toFoundL x := by kernel_rfl
theorem toFoundL_ok : toFoundL_con.ok Tryd.prog 25 := fn_ok (con := toFoundL_con) (mkEnv_ok (cons := [(66, toPairS_con), (67, toRatL_con)]) ⟨toPairS_ok, toRatL_ok, trivial⟩ []) Tryd.func25 rfl (by kernel_rfl) (by exact trivial) (fun x y h => (toFoundL_run x).trans h)

def eqFoundL : (List ((Int × Int)) × (Int × Int)) × (List ((Int × Int)) × (Int × Int)) → Option (Bool) :=
fun x =>
  ob (eqPairS (x.fst.1, x.snd.1)) fun y =>
    br (!y) (some false)
      (ob (eqRatL ((x.fst.snd.1, x.fst.snd.2), x.snd.snd.1, x.snd.snd.2)) fun y => br (!y) (some false) (some true))
def eqFoundL_con : Con := ⟨[.pair (.slice (.pair (i64) (i64))) (.pair (i64) (i64)), .pair (.slice (.pair (i64) (i64))) (.pair (i64) (i64))], [.d (.bool)], eqFoundL⟩
theorem eqFoundL_run (x : Dens [.pair (.slice (.pair (i64) (i64))) (.pair (i64) (i64)), .pair (.slice (.pair (i64) (i64))) (.pair (i64) (i64))]) : runFn (mkEnv [(30, eqPairS_con), (71, eqRatL_con)] []) Tryd.f27 [.pair (.slice (.pair (i64) (i64))) (.pair (i64) (i64)), .pair (.slice (.pair (i64) (i64))) (.pair (i64) (i64))] [.d (.bool)] x = eqFoundL x := by kernel_rfl
theorem eqFoundL_ok : eqFoundL_con.ok Tryd.prog 27 := fn_ok (con := eqFoundL_con) (mkEnv_ok (cons := [(30, eqPairS_con), (71, eqRatL_con)]) ⟨eqPairS_ok, eqRatL_ok, trivial⟩ []) Tryd.func27 rfl (by kernel_rfl) (by exact trivial) (fun x y h => (eqFoundL_run x).trans h)

def lawFoundText : (List ((Int × Int)) × (Int × Int)) → Option (Bool) :=
fun x =>
  ob (szFoundL ((x.1, x.snd.1, x.snd.2), (1048576 : Int))) fun y =>
    br (decide (y < (0 : Int))) (some true)
      (ob (toFoundL (x.1, x.snd.1, x.snd.2)) fun y =>
        ob (foundTextS (y.1, y.snd.1, y.snd.2)) fun y =>
          ob (toFoundL (x.1, x.snd.1, x.snd.2)) fun y_1 =>
            ob (foundTextI (y_1.1, y_1.snd.1, y_1.snd.2)) fun y_2 =>
              br (!ByteArray.toList y_2 == ByteArray.toList y) (some false)
                (ob (toFoundL (x.1, x.snd.1, x.snd.2)) fun y =>
                  ob (eqFoundL ((y_1.1, y_1.snd.1, y_1.snd.2), y.1, y.snd.1, y.snd.2)) fun y =>
                    br (!y) (some false) (some true)))
def lawFoundText_con : Con := ⟨[.pair (.slice (.pair (i64) (i64))) (.pair (i64) (i64))], [.d (.bool)], lawFoundText⟩
theorem lawFoundText_run (x : Dens [.pair (.slice (.pair (i64) (i64))) (.pair (i64) (i64))]) : runFn (mkEnv [(23, szFoundL_con), (25, toFoundL_con), (24, foundTextS_con), (26, foundTextI_con), (27, eqFoundL_con)] []) Tryd.f6 [.pair (.slice (.pair (i64) (i64))) (.pair (i64) (i64))] [.d (.bool)] x = lawFoundText x := by kernel_rfl
theorem lawFoundText_ok : lawFoundText_con.ok Tryd.prog 6 := fn_ok (con := lawFoundText_con) (mkEnv_ok (cons := [(23, szFoundL_con), (25, toFoundL_con), (24, foundTextS_con), (26, foundTextI_con), (27, eqFoundL_con)]) ⟨szFoundL_ok, toFoundL_ok, foundTextS_ok, foundTextI_ok, eqFoundL_ok, trivial⟩ []) Tryd.func6 rfl (by kernel_rfl) (by exact trivial) (fun x y h => (lawFoundText_run x).trans h)

end
end Rx
end Go.Proofs.YtfapjkcmoefilaaDoor
