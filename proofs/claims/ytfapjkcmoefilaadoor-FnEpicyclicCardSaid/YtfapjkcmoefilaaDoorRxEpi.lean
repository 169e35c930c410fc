/- What the functions of RxEpi come to, and their contracts. No conditions. -/
import Derived.Test.YtfapjkcmoefilaaDoorRxEnv
import Derived.Test.YtfapjkcmoefilaaDoorRxRatI
import Derived.Test.YtfapjkcmoefilaaDoorRxRatS
import Derived.Test.YtfapjkcmoefilaaDoorRxRatAdd
namespace Go.Proofs.YtfapjkcmoefilaaDoor
namespace Rx
open Go

def spreadI : Int → Option (Int) :=
fun x =>
  ob
    (idx
      [(1000000 : Int), (866025 : Int), (707106 : Int), (587785 : Int), (500000 : Int), (433883 : Int), (382683 : Int)]
      (IntKind.i64.wrap (x - (2 : Int))))
    fun x_1 =>
    ob
      ([(1000000 : Int), (866025 : Int), (707106 : Int), (587785 : Int), (500000 : Int), (433883 : Int),
            (382683 : Int)].get?Internal
        (IntKind.i64.wrap (x - (2 : Int))).toNat)
      fun x => some x
def spreadI_con : Con := ⟨[i64], [.d (i64)], spreadI⟩
theorem spreadI_run (x : Dens [i64]) : runFn (mkEnv [] []) Tryd.f61 [i64] [.d (i64)] x = spreadI x := by kernel_rfl
theorem spreadI_ok : spreadI_con.ok Tryd.prog 61 := fn_ok (con := spreadI_con) (mkEnv_ok (cons := []) trivial []) Tryd.func61 rfl (by kernel_rfl) (by exact trivial) (fun x y h => (spreadI_run x).trans h)

def faultsI : (Int × Int × Int × Int) → Option (List (ByteArray)) :=
fun x =>
  ob (toothedI x.1) fun y =>
    br (!y)
      (ob (withinI (x.snd.snd.2, (1 : Int), (8 : Int))) fun y =>
        br (!y)
          (some
            ([(⟨⟨[(116 : UInt8), (101 : UInt8), (101 : UInt8), (116 : UInt8), (104 : UInt8)]⟩⟩ : ByteArray)] ++
              [(⟨⟨[(99 : UInt8), (111 : UInt8), (117 : UInt8), (110 : UInt8), (116 : UInt8)]⟩⟩ : ByteArray)]))
          (some
            [(⟨⟨[(116 : UInt8), (101 : UInt8), (101 : UInt8), (116 : UInt8), (104 : UInt8)]⟩⟩ : ByteArray)]))
      (ob (toothedI x.snd.1) fun y =>
        br (!y)
          (ob (withinI (x.snd.snd.2, (1 : Int), (8 : Int))) fun y =>
            br (!y)
              (some
                ([(⟨⟨[(116 : UInt8), (101 : UInt8), (101 : UInt8), (116 : UInt8), (104 : UInt8)]⟩⟩ : ByteArray)] ++
                  [(⟨⟨[(99 : UInt8), (111 : UInt8), (117 : UInt8), (110 : UInt8), (116 : UInt8)]⟩⟩ : ByteArray)]))
              (some
                [(⟨⟨[(116 : UInt8), (101 : UInt8), (101 : UInt8), (116 : UInt8), (104 : UInt8)]⟩⟩ : ByteArray)]))
          (ob (toothedI x.snd.snd.1) fun y =>
            br (!y)
              (ob (withinI (x.snd.snd.2, (1 : Int), (8 : Int))) fun y =>
                br (!y)
                  (some
                    ([(⟨⟨[(116 : UInt8), (101 : UInt8), (101 : UInt8), (116 : UInt8), (104 : UInt8)]⟩⟩ : ByteArray)] ++
                      [(⟨⟨[(99 : UInt8), (111 : UInt8), (117 : UInt8), (110 : UInt8), (116 : UInt8)]⟩⟩ : ByteArray)]))
                  (some
                    [(⟨⟨[(116 : UInt8), (101 : UInt8), (101 : UInt8), (116 : UInt8), (104 : UInt8)]⟩⟩ : ByteArray)]))
              (ob (withinI (x.snd.snd.2, (1 : Int), (8 : Int))) fun y =>
                br (!y)
                  (some
                    [(⟨⟨[(99 : UInt8), (111 : UInt8), (117 : UInt8), (110 : UInt8), (116 : UInt8)]⟩⟩ : ByteArray)])
                  (br (x.snd.1 != IntKind.i64.wrap (x.1 + IntKind.i64.wrap ((2 : Int) * x.snd.snd.1)))
                    (br (x.snd.snd.2 == (0 : Int)) none
                      (br ((IntKind.i64.wrap (x.1 + x.snd.1)).tmod x.snd.snd.2 != (0 : Int))
                        (br (decide ((2 : Int) ≤ x.snd.snd.2))
                          (ob (spreadI x.snd.snd.2) fun y =>
                            br
                              (decide
                                (IntKind.i64.wrap (IntKind.i64.wrap (x.1 + x.snd.snd.1) * y) ≤
                                  IntKind.i64.wrap (IntKind.i64.wrap (x.snd.snd.1 + (2 : Int)) * (1000000 : Int))))
                              (some
                                ([(⟨⟨[(114 : UInt8), (105 : UInt8), (110 : UInt8), (103 : UInt8)]⟩⟩ : ByteArray)] ++
                                    [(⟨⟨[(97 : UInt8), (115 : UInt8), (115 : UInt8), (101 : UInt8), (109 : UInt8), (98 : UInt8), (108 : UInt8), (121 : UInt8)]⟩⟩ : ByteArray)] ++
                                  [(⟨⟨[(115 : UInt8), (112 : UInt8), (97 : UInt8), (99 : UInt8), (101 : UInt8)]⟩⟩ : ByteArray)]))
                              (some
                                ([(⟨⟨[(114 : UInt8), (105 : UInt8), (110 : UInt8), (103 : UInt8)]⟩⟩ : ByteArray)] ++
                                  [(⟨⟨[(97 : UInt8), (115 : UInt8), (115 : UInt8), (101 : UInt8), (109 : UInt8), (98 : UInt8), (108 : UInt8), (121 : UInt8)]⟩⟩ : ByteArray)])))
                          (some
                            ([(⟨⟨[(114 : UInt8), (105 : UInt8), (110 : UInt8), (103 : UInt8)]⟩⟩ : ByteArray)] ++
                              [(⟨⟨[(97 : UInt8), (115 : UInt8), (115 : UInt8), (101 : UInt8), (109 : UInt8), (98 : UInt8), (108 : UInt8), (121 : UInt8)]⟩⟩ : ByteArray)])))
                        (br (decide ((2 : Int) ≤ x.snd.snd.2))
                          (ob (spreadI x.snd.snd.2) fun y =>
                            br
                              (decide
                                (IntKind.i64.wrap (IntKind.i64.wrap (x.1 + x.snd.snd.1) * y) ≤
                                  IntKind.i64.wrap (IntKind.i64.wrap (x.snd.snd.1 + (2 : Int)) * (1000000 : Int))))
                              (some
                                ([(⟨⟨[(114 : UInt8), (105 : UInt8), (110 : UInt8), (103 : UInt8)]⟩⟩ : ByteArray)] ++
                                  [(⟨⟨[(115 : UInt8), (112 : UInt8), (97 : UInt8), (99 : UInt8), (101 : UInt8)]⟩⟩ : ByteArray)]))
                              (some
                                [(⟨⟨[(114 : UInt8), (105 : UInt8), (110 : UInt8), (103 : UInt8)]⟩⟩ : ByteArray)]))
                          (some
                            [(⟨⟨[(114 : UInt8), (105 : UInt8), (110 : UInt8), (103 : UInt8)]⟩⟩ : ByteArray)]))))
                    (br (x.snd.snd.2 == (0 : Int)) none
                      (br ((IntKind.i64.wrap (x.1 + x.snd.1)).tmod x.snd.snd.2 != (0 : Int))
                        (br (decide ((2 : Int) ≤ x.snd.snd.2))
                          (ob (spreadI x.snd.snd.2) fun y =>
                            br
                              (decide
                                (IntKind.i64.wrap (IntKind.i64.wrap (x.1 + x.snd.snd.1) * y) ≤
                                  IntKind.i64.wrap (IntKind.i64.wrap (x.snd.snd.1 + (2 : Int)) * (1000000 : Int))))
                              (some
                                ([(⟨⟨[(97 : UInt8), (115 : UInt8), (115 : UInt8), (101 : UInt8), (109 : UInt8), (98 : UInt8), (108 : UInt8), (121 : UInt8)]⟩⟩ : ByteArray)] ++
                                  [(⟨⟨[(115 : UInt8), (112 : UInt8), (97 : UInt8), (99 : UInt8), (101 : UInt8)]⟩⟩ : ByteArray)]))
                              (some
                                [(⟨⟨[(97 : UInt8), (115 : UInt8), (115 : UInt8), (101 : UInt8), (109 : UInt8), (98 : UInt8), (108 : UInt8), (121 : UInt8)]⟩⟩ : ByteArray)]))
                          (some
                            [(⟨⟨[(97 : UInt8), (115 : UInt8), (115 : UInt8), (101 : UInt8), (109 : UInt8), (98 : UInt8), (108 : UInt8), (121 : UInt8)]⟩⟩ : ByteArray)]))
                        (br (decide ((2 : Int) ≤ x.snd.snd.2))
                          (ob (spreadI x.snd.snd.2) fun y =>
                            br
                              (decide
                                (IntKind.i64.wrap (IntKind.i64.wrap (x.1 + x.snd.snd.1) * y) ≤
                                  IntKind.i64.wrap (IntKind.i64.wrap (x.snd.snd.1 + (2 : Int)) * (1000000 : Int))))
                              (some
                                [(⟨⟨[(115 : UInt8), (112 : UInt8), (97 : UInt8), (99 : UInt8), (101 : UInt8)]⟩⟩ : ByteArray)])
                              (some []))
                          (some []))))))))
def faultsI_con : Con := ⟨[.pair (i64) (.pair (i64) (.pair (i64) (i64)))], [.row 9 (.str)], faultsI⟩
theorem faultsI_run (x : Dens [.pair (i64) (.pair (i64) (.pair (i64) (i64)))]) : runFn (mkEnv [(47, toothedI_con), (57, withinI_con), (61, spreadI_con)] []) Tryd.f22 [.pair (i64) (.pair (i64) (.pair (i64) (i64)))] [.row 9 (.str)] x = faultsI x := by kernel_rfl
theorem faultsI_ok : faultsI_con.ok Tryd.prog 22 := fn_ok (con := faultsI_con) (mkEnv_ok (cons := [(47, toothedI_con), (57, withinI_con), (61, spreadI_con)]) ⟨toothedI_ok, withinI_ok, spreadI_ok, trivial⟩ []) Tryd.func22 rfl (by kernel_rfl) (by exact trivial) (fun x y h => (faultsI_run x).trans h)

def validEpiI : (Int × Int × Int × Int) → Option (Bool) :=
fun x => ob (faultsI (x.1, x.snd.1, x.snd.snd.1, x.snd.snd.2)) fun y => some ((↑(List.length y) : Int) == (0 : Int))
def validEpiI_con : Con := ⟨[.pair (i64) (.pair (i64) (.pair (i64) (i64)))], [.d (.bool)], validEpiI⟩
theorem validEpiI_run (x : Dens [.pair (i64) (.pair (i64) (.pair (i64) (i64)))]) : runFn (mkEnv [(22, faultsI_con)] []) Tryd.f40 [.pair (i64) (.pair (i64) (.pair (i64) (i64)))] [.d (.bool)] x = validEpiI x := by kernel_rfl
theorem validEpiI_ok : validEpiI_con.ok Tryd.prog 40 := fn_ok (con := validEpiI_con) (mkEnv_ok (cons := [(22, faultsI_con)]) ⟨faultsI_ok, trivial⟩ []) Tryd.func40 rfl (by kernel_rfl) (by exact trivial) (fun x y h => (validEpiI_run x).trans h)

def relI : (Int × Int × Int × Int) × (Int × Int) × (Int × Int) × Int × Int → Option ((Int × Int) × Int) :=
fun x =>
  ob (validEpiI (x.fst.1, x.fst.snd.1, x.fst.snd.snd.1, x.fst.snd.snd.2)) fun y =>
    br (!y) (some (((0 : Int), (0 : Int)), (1 : Int)))
      (ob (validRatI (x.snd.fst.1, x.snd.fst.2)) fun y =>
        br (!y) (some (((0 : Int), (0 : Int)), (1 : Int)))
          (ob (validRatI (x.snd.snd.fst.1, x.snd.snd.fst.2)) fun y =>
            br (!y) (some (((0 : Int), (0 : Int)), (1 : Int)))
              (ob (subRatI ((x.snd.fst.1, x.snd.fst.2), x.snd.snd.fst.1, x.snd.snd.fst.2)) fun y =>
                br (y.2 != (0 : Int)) (some (((0 : Int), (0 : Int)), y.2))
                  (ob (makeRatI (x.snd.snd.snd.1, x.snd.snd.snd.2)) fun y_1 =>
                    br (y_1.2 != (0 : Int)) (some (((0 : Int), (0 : Int)), y_1.2))
                      (ob (mulRatI ((y.fst.1, y.fst.2), y_1.fst.1, y_1.fst.2)) fun y =>
                        br (y.2 != (0 : Int)) (some (((0 : Int), (0 : Int)), y.2))
                          (ob (subRatI ((x.snd.snd.fst.1, x.snd.snd.fst.2), y.fst.1, y.fst.2)) fun y =>
                            some ((y.fst.1, y.fst.2), y.2)))))))
def relI_con : Con := ⟨[.pair (i64) (.pair (i64) (.pair (i64) (i64))), .pair (i64) (i64), .pair (i64) (i64), i64, i64], [.d (.pair (i64) (i64)), .d (i64)], relI⟩
theorem relI_run (x : Dens [.pair (i64) (.pair (i64) (.pair (i64) (i64))), .pair (i64) (i64), .pair (i64) (i64), i64, i64]) : runFn (mkEnv [(40, validEpiI_con), (53, validRatI_con), (97, subRatI_con), (54, makeRatI_con), (55, mulRatI_con)] []) Tryd.f52 [.pair (i64) (.pair (i64) (.pair (i64) (i64))), .pair (i64) (i64), .pair (i64) (i64), i64, i64] [.d (.pair (i64) (i64)), .d (i64)] x = relI x := by kernel_rfl
theorem relI_ok : relI_con.ok Tryd.prog 52 := fn_ok (con := relI_con) (mkEnv_ok (cons := [(40, validEpiI_con), (53, validRatI_con), (97, subRatI_con), (54, makeRatI_con), (55, mulRatI_con)]) ⟨validEpiI_ok, validRatI_ok, subRatI_ok, makeRatI_ok, mulRatI_ok, trivial⟩ []) Tryd.func52 rfl (by kernel_rfl) (by exact trivial) (fun x y h => (relI_run x).trans h)

def sunI : (Int × Int × Int × Int) × (Int × Int) × (Int × Int) → Option ((Int × Int) × Int) :=
fun x =>
  ob
    (relI
      ((x.fst.1, x.fst.snd.1, x.fst.snd.snd.1, x.fst.snd.snd.2), (x.snd.fst.1, x.snd.fst.2), (x.snd.snd.1, x.snd.snd.2),
        x.fst.snd.1, x.fst.1))
    fun y => some ((y.fst.1, y.fst.2), y.2)
def sunI_con : Con := ⟨[.pair (i64) (.pair (i64) (.pair (i64) (i64))), .pair (i64) (i64), .pair (i64) (i64)], [.d (.pair (i64) (i64)), .d (i64)], sunI⟩
theorem sunI_run (x : Dens [.pair (i64) (.pair (i64) (.pair (i64) (i64))), .pair (i64) (i64), .pair (i64) (i64)]) : runFn (mkEnv [(52, relI_con)] []) Tryd.f18 [.pair (i64) (.pair (i64) (.pair (i64) (i64))), .pair (i64) (i64), .pair (i64) (i64)] [.d (.pair (i64) (i64)), .d (i64)] x = sunI x := by kernel_rfl
theorem sunI_ok : sunI_con.ok Tryd.prog 18 := fn_ok (con := sunI_con) (mkEnv_ok (cons := [(52, relI_con)]) ⟨relI_ok, trivial⟩ []) Tryd.func18 rfl (by kernel_rfl) (by exact trivial) (fun x y h => (sunI_run x).trans h)

def ringI : (Int × Int × Int × Int) × (Int × Int) × (Int × Int) → Option ((Int × Int) × Int) :=
fun x =>
  ob
    (relI
      ((x.fst.1, x.fst.snd.1, x.fst.snd.snd.1, x.fst.snd.snd.2), (x.snd.fst.1, x.snd.fst.2), (x.snd.snd.1, x.snd.snd.2),
        x.fst.1, x.fst.snd.1))
    fun y => some ((y.fst.1, y.fst.2), y.2)
def ringI_con : Con := ⟨[.pair (i64) (.pair (i64) (.pair (i64) (i64))), .pair (i64) (i64), .pair (i64) (i64)], [.d (.pair (i64) (i64)), .d (i64)], ringI⟩
theorem ringI_run (x : Dens [.pair (i64) (.pair (i64) (.pair (i64) (i64))), .pair (i64) (i64), .pair (i64) (i64)]) : runFn (mkEnv [(52, relI_con)] []) Tryd.f17 [.pair (i64) (.pair (i64) (.pair (i64) (i64))), .pair (i64) (i64), .pair (i64) (i64)] [.d (.pair (i64) (i64)), .d (i64)] x = ringI x := by kernel_rfl
theorem ringI_ok : ringI_con.ok Tryd.prog 17 := fn_ok (con := ringI_con) (mkEnv_ok (cons := [(52, relI_con)]) ⟨relI_ok, trivial⟩ []) Tryd.func17 rfl (by kernel_rfl) (by exact trivial) (fun x y h => (ringI_run x).trans h)


def carrierI : (Int × Int × Int × Int) × (Int × Int) × (Int × Int) → Option ((Int × Int) × Int) :=
fun x =>
  ob (validEpiI (x.fst.1, x.fst.snd.1, x.fst.snd.snd.1, x.fst.snd.snd.2)) fun y =>
    br (!y) (some (((0 : Int), (0 : Int)), (1 : Int)))
      (ob (validRatI (x.snd.fst.1, x.snd.fst.2)) fun y =>
        br (!y) (some (((0 : Int), (0 : Int)), (1 : Int)))
          (ob (validRatI (x.snd.snd.1, x.snd.snd.2)) fun y =>
            br (!y) (some (((0 : Int), (0 : Int)), (1 : Int)))
              (ob (makeRatI (x.fst.1, IntKind.i64.wrap (x.fst.1 + x.fst.snd.1))) fun y =>
                ob (makeRatI (x.fst.snd.1, IntKind.i64.wrap (x.fst.1 + x.fst.snd.1))) fun y_1 =>
                  ob (mulRatI ((x.snd.fst.1, x.snd.fst.2), y.fst.1, y.fst.2)) fun y =>
                    br (y.2 != (0 : Int)) (some (((0 : Int), (0 : Int)), y.2))
                      (ob (mulRatI ((x.snd.snd.1, x.snd.snd.2), y_1.fst.1, y_1.fst.2)) fun y_2 =>
                        br (y_2.2 != (0 : Int)) (some (((0 : Int), (0 : Int)), y_2.2))
                          (ob (addRatI ((y.fst.1, y.fst.2), y_2.fst.1, y_2.fst.2)) fun y =>
                            some ((y.fst.1, y.fst.2), y.2))))))
def carrierI_con : Con := ⟨[.pair (i64) (.pair (i64) (.pair (i64) (i64))), .pair (i64) (i64), .pair (i64) (i64)], [.d (.pair (i64) (i64)), .d (i64)], carrierI⟩
theorem carrierI_run (x : Dens [.pair (i64) (.pair (i64) (.pair (i64) (i64))), .pair (i64) (i64), .pair (i64) (i64)]) : runFn (mkEnv [(40, validEpiI_con), (53, validRatI_con), (54, makeRatI_con), (55, mulRatI_con), (56, addRatI_con)] []) Tryd.f19 [.pair (i64) (.pair (i64) (.pair (i64) (i64))), .pair (i64) (i64), .pair (i64) (i64)] [.d (.pair (i64) (i64)), .d (i64)] x = carrierI x := by kernel_rfl
theorem carrierI_ok : carrierI_con.ok Tryd.prog 19 := fn_ok (con := carrierI_con) (mkEnv_ok (cons := [(40, validEpiI_con), (53, validRatI_con), (54, makeRatI_con), (55, mulRatI_con), (56, addRatI_con)]) ⟨validEpiI_ok, validRatI_ok, makeRatI_ok, mulRatI_ok, addRatI_ok, trivial⟩ []) Tryd.func19 rfl (by kernel_rfl) (by exact trivial) (fun x y h => (carrierI_run x).trans h)

def epiRatIL_vars : Vars := [(1, .val (i64)), (2, .val (i64)), (3, .box 0 25 (.pair (i64) (.pair (i64) (.pair (i64) (i64))))), (6, .box 0 35 (.pair (i64) (i64))), (8, .row 0 35 (.pair (i64) (i64))), (30, .val (i64)), (31, .val (i64))]
def epiRatIL_step : Int × Int × (Int × Int × Int × Int) × (Int × Int) × List ((Int × Int)) × Int × Int → Option (LRes × (Int × Int × (Int × Int × Int × Int) × (Int × Int) × List ((Int × Int)) × Int × Int)) :=
fun x =>
  br (decide (x.snd.snd.snd.snd.snd.2 < x.snd.snd.snd.snd.snd.1))
    (ob (idx x.snd.snd.snd.snd.1 x.snd.snd.snd.snd.snd.2) fun x_1 =>
      ob (List.get?Internal x.snd.snd.snd.snd.1 (Int.toNat x.snd.snd.snd.snd.snd.2)) fun x_2 =>
        some
          (LRes.next, x.1, x.snd.1,
            (x.snd.snd.fst.1, x.snd.snd.fst.snd.1, x.snd.snd.fst.snd.snd.1, x.snd.snd.fst.snd.snd.2),
            (x.snd.snd.snd.fst.1, x.snd.snd.snd.fst.2),
            List.set x.snd.snd.snd.snd.1 (Int.toNat x.snd.snd.snd.snd.snd.2) ((0 : Int), (1 : Int)),
            x.snd.snd.snd.snd.snd.1, IntKind.i64.wrap (x.snd.snd.snd.snd.snd.2 + (1 : Int))))
    (some
      (LRes.out, x.1, x.snd.1, (x.snd.snd.fst.1, x.snd.snd.fst.snd.1, x.snd.snd.fst.snd.snd.1, x.snd.snd.fst.snd.snd.2),
        (x.snd.snd.snd.fst.1, x.snd.snd.snd.fst.2), x.snd.snd.snd.snd.1, x.snd.snd.snd.snd.snd.1,
        x.snd.snd.snd.snd.snd.2))
def epiRatIL_fuel : Int × Int × (Int × Int × Int × Int) × (Int × Int) × List ((Int × Int)) × Int × Int → Nat := fun s => (s.2.2.2.2.2.1 - s.2.2.2.2.2.2).toNat + 1
def epiRatIL : Int × Int × (Int × Int × Int × Int) × (Int × Int) × List ((Int × Int)) × Int × Int → Option (Int × Int × (Int × Int × Int × Int) × (Int × Int) × List ((Int × Int)) × Int × Int) := fun s => iterP epiRatIL_step (epiRatIL_fuel s) s
def epiRatIL_L : LoopC := ⟨epiRatIL_vars, 0, .plain epiRatIL⟩
noncomputable def epiRatIL_key : Nat := key (loopAt Tryd.f20 0)
theorem epiRatIL_stepok (x : epiRatIL_vars.den) : stepOf (mkEnv [] []) Tryd.f20.ntmps epiRatIL_vars 0 (loopAt Tryd.f20 0) x = epiRatIL_step x := by kernel_rfl
theorem epiRatIL_ok : LoopOK Tryd.prog Tryd.f20.ntmps epiRatIL_L (loopAt Tryd.f20 0)   := iterP_loop (n := Tryd.f20.ntmps) (vs := epiRatIL_vars) (out := 0) (body := loopAt Tryd.f20 0) (mkEnv_ok (cons := []) trivial []) epiRatIL_step epiRatIL_fuel (by exact trivial) epiRatIL_stepok

def epiRatI : (Int × Int × Int × Int) × Int × Int → Option ((Int × Int) × Int) :=
fun x =>
  ob (validEpiI (x.fst.1, x.fst.snd.1, x.fst.snd.snd.1, x.fst.snd.snd.2)) fun y =>
    br (!y) (some (((0 : Int), (0 : Int)), (1 : Int)))
      (ob (withinI (x.snd.1, (0 : Int), (2 : Int))) fun y =>
        br (!y) (some (((0 : Int), (0 : Int)), (2 : Int)))
          (ob (withinI (x.snd.2, (0 : Int), (2 : Int))) fun y =>
            br (!y) (some (((0 : Int), (0 : Int)), (2 : Int)))
              (br (x.snd.1 == x.snd.2) (some (((0 : Int), (0 : Int)), (2 : Int)))
                (ob
                  (epiRatIL
                    (x.snd.1, x.snd.2, (x.fst.1, x.fst.snd.1, x.fst.snd.snd.1, x.fst.snd.snd.2), ((0 : Int), (0 : Int)),
                      List.replicate (Int.toNat (3 : Int)) ((0 : Int), (0 : Int)),
                      (↑(List.replicate (Int.toNat (3 : Int)) ((0 : Int), (0 : Int))).length : Int), (0 : Int)))
                  fun r =>
                  ob (idx r.snd.snd.snd.snd.1 r.1) fun x =>
                    ob (List.get?Internal r.snd.snd.snd.snd.1 (Int.toNat r.1)) fun x =>
                      br (r.snd.1 == (0 : Int))
                        (ob (idx (List.set r.snd.snd.snd.snd.1 (Int.toNat r.1) ((1 : Int), x.2)) (1 : Int)) fun x_1 =>
                          ob
                            ((List.set r.snd.snd.snd.snd.1 (Int.toNat r.1) ((1 : Int), x.2)).get?Internal
                              (Int.toNat (1 : Int)))
                            fun x_2 =>
                            ob (idx (List.set r.snd.snd.snd.snd.1 (Int.toNat r.1) ((1 : Int), x.2)) (2 : Int))
                              fun x_3 =>
                              ob
                                ((List.set r.snd.snd.snd.snd.1 (Int.toNat r.1) ((1 : Int), x.2)).get?Internal
                                  (Int.toNat (2 : Int)))
                                fun x =>
                                ob
                                  (sunI
                                    ((r.snd.snd.fst.1, r.snd.snd.fst.snd.1, r.snd.snd.fst.snd.snd.1,
                                        r.snd.snd.fst.snd.snd.2),
                                      (x_2.1, x_2.2), x.1, x.2))
                                  fun y => some ((y.fst.1, y.fst.2), y.2))
                        (br (r.snd.1 == (1 : Int))
                          (ob (idx (List.set r.snd.snd.snd.snd.1 (Int.toNat r.1) ((1 : Int), x.2)) (0 : Int)) fun x_1 =>
                            ob
                              ((List.set r.snd.snd.snd.snd.1 (Int.toNat r.1) ((1 : Int), x.2)).get?Internal
                                (Int.toNat (0 : Int)))
                              fun x_2 =>
                              ob (idx (List.set r.snd.snd.snd.snd.1 (Int.toNat r.1) ((1 : Int), x.2)) (2 : Int))
                                fun x_3 =>
                                ob
                                  ((List.set r.snd.snd.snd.snd.1 (Int.toNat r.1) ((1 : Int), x.2)).get?Internal
                                    (Int.toNat (2 : Int)))
                                  fun x =>
                                  ob
                                    (ringI
                                      ((r.snd.snd.fst.1, r.snd.snd.fst.snd.1, r.snd.snd.fst.snd.snd.1,
                                          r.snd.snd.fst.snd.snd.2),
                                        (x_2.1, x_2.2), x.1, x.2))
                                    fun y => some ((y.fst.1, y.fst.2), y.2))
                          (ob (idx (List.set r.snd.snd.snd.snd.1 (Int.toNat r.1) ((1 : Int), x.2)) (0 : Int)) fun x_1 =>
                            ob
                              ((List.set r.snd.snd.snd.snd.1 (Int.toNat r.1) ((1 : Int), x.2)).get?Internal
                                (Int.toNat (0 : Int)))
                              fun x_2 =>
                              ob (idx (List.set r.snd.snd.snd.snd.1 (Int.toNat r.1) ((1 : Int), x.2)) (1 : Int))
                                fun x_3 =>
                                ob
                                  ((List.set r.snd.snd.snd.snd.1 (Int.toNat r.1) ((1 : Int), x.2)).get?Internal
                                    (Int.toNat (1 : Int)))
                                  fun x =>
                                  ob
                                    (carrierI
                                      ((r.snd.snd.fst.1, r.snd.snd.fst.snd.1, r.snd.snd.fst.snd.snd.1,
                                          r.snd.snd.fst.snd.snd.2),
                                        (x_2.1, x_2.2), x.1, x.2))
                                    fun y => some ((y.fst.1, y.fst.2), y.2)))))))
def epiRatI_con : Con := ⟨[.pair (i64) (.pair (i64) (.pair (i64) (i64))), i64, i64], [.d (.pair (i64) (i64)), .d (i64)], epiRatI⟩
theorem epiRatI_run (x : Dens [.pair (i64) (.pair (i64) (.pair (i64) (i64))), i64, i64]) : runFn (mkEnv [(40, validEpiI_con), (57, withinI_con), (18, sunI_con), (17, ringI_con), (19, carrierI_con)] [(epiRatIL_key, epiRatIL_L)]) Tryd.f20 [.pair (i64) (.pair (i64) (.pair (i64) (i64))), i64, i64] [.d (.pair (i64) (i64)), .d (i64)] x = epiRatI x := by kernel_rfl
theorem epiRatI_ok : epiRatI_con.ok Tryd.prog 20 := fn_ok (con := epiRatI_con) (mkEnv_ok (cons := [(40, validEpiI_con), (57, withinI_con), (18, sunI_con), (17, ringI_con), (19, carrierI_con)]) ⟨validEpiI_ok, withinI_ok, sunI_ok, ringI_ok, carrierI_ok, trivial⟩ [(epiRatIL_key, epiRatIL_L)]) Tryd.func20 rfl (by kernel_rfl) (by exact ⟨epiRatIL_ok, trivial⟩) (fun x y h => (epiRatI_run x).trans h)

def sineS : Int → Option (Int) :=
fun x =>
  ob
    (idx
      [(1000000 : Int), (866025 : Int), (707106 : Int), (587785 : Int), (500000 : Int), (433883 : Int), (382683 : Int)]
      (IntKind.i64.wrap (x - (2 : Int))))
    fun x_1 =>
    ob
      ([(1000000 : Int), (866025 : Int), (707106 : Int), (587785 : Int), (500000 : Int), (433883 : Int),
            (382683 : Int)].get?Internal
        (IntKind.i64.wrap (x - (2 : Int))).toNat)
      fun x => some x
def sineS_con : Con := ⟨[i64], [.d (i64)], sineS⟩
theorem sineS_run (x : Dens [i64]) : runFn (mkEnv [] []) Tryd.f122 [i64] [.d (i64)] x = sineS x := by kernel_rfl
theorem sineS_ok : sineS_con.ok Tryd.prog 122 := fn_ok (con := sineS_con) (mkEnv_ok (cons := []) trivial []) Tryd.func122 rfl (by kernel_rfl) (by exact trivial) (fun x y h => (sineS_run x).trans h)

def faultsS : (Int × Int × Int × Int) → Option (List (ByteArray)) :=
fun x =>
  ob (teethS x.1) fun y =>
    br (!y)
      (ob (inS (x.snd.snd.2, (1 : Int), (8 : Int))) fun y =>
        br (!y)
          (some
            ([] ++
                [(⟨⟨[(116 : UInt8), (101 : UInt8), (101 : UInt8), (116 : UInt8), (104 : UInt8)]⟩⟩ : ByteArray)] ++
              [(⟨⟨[(99 : UInt8), (111 : UInt8), (117 : UInt8), (110 : UInt8), (116 : UInt8)]⟩⟩ : ByteArray)]))
          (some
            ([] ++
              [(⟨⟨[(116 : UInt8), (101 : UInt8), (101 : UInt8), (116 : UInt8), (104 : UInt8)]⟩⟩ : ByteArray)])))
      (ob (teethS x.snd.1) fun y =>
        br (!y)
          (ob (inS (x.snd.snd.2, (1 : Int), (8 : Int))) fun y =>
            br (!y)
              (some
                ([] ++
                    [(⟨⟨[(116 : UInt8), (101 : UInt8), (101 : UInt8), (116 : UInt8), (104 : UInt8)]⟩⟩ : ByteArray)] ++
                  [(⟨⟨[(99 : UInt8), (111 : UInt8), (117 : UInt8), (110 : UInt8), (116 : UInt8)]⟩⟩ : ByteArray)]))
              (some
                ([] ++
                  [(⟨⟨[(116 : UInt8), (101 : UInt8), (101 : UInt8), (116 : UInt8), (104 : UInt8)]⟩⟩ : ByteArray)])))
          (ob (teethS x.snd.snd.1) fun y =>
            br (!y)
              (ob (inS (x.snd.snd.2, (1 : Int), (8 : Int))) fun y =>
                br (!y)
                  (some
                    ([] ++
                        [(⟨⟨[(116 : UInt8), (101 : UInt8), (101 : UInt8), (116 : UInt8), (104 : UInt8)]⟩⟩ : ByteArray)] ++
                      [(⟨⟨[(99 : UInt8), (111 : UInt8), (117 : UInt8), (110 : UInt8), (116 : UInt8)]⟩⟩ : ByteArray)]))
                  (some
                    ([] ++
                      [(⟨⟨[(116 : UInt8), (101 : UInt8), (101 : UInt8), (116 : UInt8), (104 : UInt8)]⟩⟩ : ByteArray)])))
              (ob (inS (x.snd.snd.2, (1 : Int), (8 : Int))) fun y =>
                br (!y)
                  (some
                    ([] ++
                      [(⟨⟨[(99 : UInt8), (111 : UInt8), (117 : UInt8), (110 : UInt8), (116 : UInt8)]⟩⟩ : ByteArray)]))
                  (br (x.snd.1 != IntKind.i64.wrap (x.1 + IntKind.i64.wrap ((2 : Int) * x.snd.snd.1)))
                    (br (x.snd.snd.2 == (0 : Int)) none
                      (br ((IntKind.i64.wrap (x.1 + x.snd.1)).tmod x.snd.snd.2 != (0 : Int))
                        (br (decide ((2 : Int) ≤ x.snd.snd.2))
                          (ob (sineS x.snd.snd.2) fun y =>
                            br
                              (decide
                                (IntKind.i64.wrap (IntKind.i64.wrap (x.1 + x.snd.snd.1) * y) ≤
                                  IntKind.i64.wrap (IntKind.i64.wrap (x.snd.snd.1 + (2 : Int)) * (1000000 : Int))))
                              (some
                                ([] ++
                                      [(⟨⟨[(114 : UInt8), (105 : UInt8), (110 : UInt8), (103 : UInt8)]⟩⟩ : ByteArray)] ++
                                    [(⟨⟨[(97 : UInt8), (115 : UInt8), (115 : UInt8), (101 : UInt8), (109 : UInt8), (98 : UInt8), (108 : UInt8), (121 : UInt8)]⟩⟩ : ByteArray)] ++
                                  [(⟨⟨[(115 : UInt8), (112 : UInt8), (97 : UInt8), (99 : UInt8), (101 : UInt8)]⟩⟩ : ByteArray)]))
                              (some
                                ([] ++
                                    [(⟨⟨[(114 : UInt8), (105 : UInt8), (110 : UInt8), (103 : UInt8)]⟩⟩ : ByteArray)] ++
                                  [(⟨⟨[(97 : UInt8), (115 : UInt8), (115 : UInt8), (101 : UInt8), (109 : UInt8), (98 : UInt8), (108 : UInt8), (121 : UInt8)]⟩⟩ : ByteArray)])))
                          (some
                            ([] ++
                                [(⟨⟨[(114 : UInt8), (105 : UInt8), (110 : UInt8), (103 : UInt8)]⟩⟩ : ByteArray)] ++
                              [(⟨⟨[(97 : UInt8), (115 : UInt8), (115 : UInt8), (101 : UInt8), (109 : UInt8), (98 : UInt8), (108 : UInt8), (121 : UInt8)]⟩⟩ : ByteArray)])))
                        (br (decide ((2 : Int) ≤ x.snd.snd.2))
                          (ob (sineS x.snd.snd.2) fun y =>
                            br
                              (decide
                                (IntKind.i64.wrap (IntKind.i64.wrap (x.1 + x.snd.snd.1) * y) ≤
                                  IntKind.i64.wrap (IntKind.i64.wrap (x.snd.snd.1 + (2 : Int)) * (1000000 : Int))))
                              (some
                                ([] ++
                                    [(⟨⟨[(114 : UInt8), (105 : UInt8), (110 : UInt8), (103 : UInt8)]⟩⟩ : ByteArray)] ++
                                  [(⟨⟨[(115 : UInt8), (112 : UInt8), (97 : UInt8), (99 : UInt8), (101 : UInt8)]⟩⟩ : ByteArray)]))
                              (some
                                ([] ++
                                  [(⟨⟨[(114 : UInt8), (105 : UInt8), (110 : UInt8), (103 : UInt8)]⟩⟩ : ByteArray)])))
                          (some
                            ([] ++
                              [(⟨⟨[(114 : UInt8), (105 : UInt8), (110 : UInt8), (103 : UInt8)]⟩⟩ : ByteArray)])))))
                    (br (x.snd.snd.2 == (0 : Int)) none
                      (br ((IntKind.i64.wrap (x.1 + x.snd.1)).tmod x.snd.snd.2 != (0 : Int))
                        (br (decide ((2 : Int) ≤ x.snd.snd.2))
                          (ob (sineS x.snd.snd.2) fun y =>
                            br
                              (decide
                                (IntKind.i64.wrap (IntKind.i64.wrap (x.1 + x.snd.snd.1) * y) ≤
                                  IntKind.i64.wrap (IntKind.i64.wrap (x.snd.snd.1 + (2 : Int)) * (1000000 : Int))))
                              (some
                                ([] ++
                                    [(⟨⟨[(97 : UInt8), (115 : UInt8), (115 : UInt8), (101 : UInt8), (109 : UInt8), (98 : UInt8), (108 : UInt8), (121 : UInt8)]⟩⟩ : ByteArray)] ++
                                  [(⟨⟨[(115 : UInt8), (112 : UInt8), (97 : UInt8), (99 : UInt8), (101 : UInt8)]⟩⟩ : ByteArray)]))
                              (some
                                ([] ++
                                  [(⟨⟨[(97 : UInt8), (115 : UInt8), (115 : UInt8), (101 : UInt8), (109 : UInt8), (98 : UInt8), (108 : UInt8), (121 : UInt8)]⟩⟩ : ByteArray)])))
                          (some
                            ([] ++
                              [(⟨⟨[(97 : UInt8), (115 : UInt8), (115 : UInt8), (101 : UInt8), (109 : UInt8), (98 : UInt8), (108 : UInt8), (121 : UInt8)]⟩⟩ : ByteArray)])))
                        (br (decide ((2 : Int) ≤ x.snd.snd.2))
                          (ob (sineS x.snd.snd.2) fun y =>
                            br
                              (decide
                                (IntKind.i64.wrap (IntKind.i64.wrap (x.1 + x.snd.snd.1) * y) ≤
                                  IntKind.i64.wrap (IntKind.i64.wrap (x.snd.snd.1 + (2 : Int)) * (1000000 : Int))))
                              (some
                                ([] ++
                                  [(⟨⟨[(115 : UInt8), (112 : UInt8), (97 : UInt8), (99 : UInt8), (101 : UInt8)]⟩⟩ : ByteArray)]))
                              (some []))
                          (some []))))))))
def faultsS_con : Con := ⟨[.pair (i64) (.pair (i64) (.pair (i64) (i64)))], [.row 9 (.str)], faultsS⟩
theorem faultsS_run (x : Dens [.pair (i64) (.pair (i64) (.pair (i64) (i64)))]) : runFn (mkEnv [(44, teethS_con), (90, inS_con), (122, sineS_con)] []) Tryd.f86 [.pair (i64) (.pair (i64) (.pair (i64) (i64)))] [.row 9 (.str)] x = faultsS x := by kernel_rfl
theorem faultsS_ok : faultsS_con.ok Tryd.prog 86 := fn_ok (con := faultsS_con) (mkEnv_ok (cons := [(44, teethS_con), (90, inS_con), (122, sineS_con)]) ⟨teethS_ok, inS_ok, sineS_ok, trivial⟩ []) Tryd.func86 rfl (by kernel_rfl) (by exact trivial) (fun x y h => (faultsS_run x).trans h)

def okEpiS : (Int × Int × Int × Int) → Option (Bool) :=
fun x => ob (faultsS (x.1, x.snd.1, x.snd.snd.1, x.snd.snd.2)) fun y => some ((↑(List.length y) : Int) == (0 : Int))
def okEpiS_con : Con := ⟨[.pair (i64) (.pair (i64) (.pair (i64) (i64)))], [.d (.bool)], okEpiS⟩
theorem okEpiS_run (x : Dens [.pair (i64) (.pair (i64) (.pair (i64) (i64)))]) : runFn (mkEnv [(86, faultsS_con)] []) Tryd.f38 [.pair (i64) (.pair (i64) (.pair (i64) (i64)))] [.d (.bool)] x = okEpiS x := by kernel_rfl
theorem okEpiS_ok : okEpiS_con.ok Tryd.prog 38 := fn_ok (con := okEpiS_con) (mkEnv_ok (cons := [(86, faultsS_con)]) ⟨faultsS_ok, trivial⟩ []) Tryd.func38 rfl (by kernel_rfl) (by exact trivial) (fun x y h => (okEpiS_run x).trans h)









def toEpiL : (Int × Int × Int × Int) → Option ((Int × Int × Int × Int)) :=
fun x => some (x.1, x.snd.1, x.snd.snd.1, x.snd.snd.2)
def toEpiL_con : Con := ⟨[.pair (i64) (.pair (i64) (.pair (i64) (i64)))], [.d (.pair (i64) (.pair (i64) (.pair (i64) (i64))))], toEpiL⟩
theorem toEpiL_run (x : Dens [.pair (i64) (.pair (i64) (.pair (i64) (i64)))]) : runFn (mkEnv [] []) Tryd.f10 [.pair (i64) (.pair (i64) (.pair (i64) (i64)))] [.d (.pair (i64) (.pair (i64) (.pair (i64) (i64))))] x = toEpiL x := by kernel_rfl
theorem toEpiL_ok : toEpiL_con.ok Tryd.prog 10 := fn_ok (con := toEpiL_con) (mkEnv_ok (cons := []) trivial []) Tryd.func10 rfl (by kernel_rfl) (by exact trivial) (fun x y h => (toEpiL_run x).trans h)

def toRatL : (Int × Int) → Option ((Int × Int)) :=
fun x => some (x.1, x.2)
def toRatL_con : Con := ⟨[.pair (i64) (i64)], [.d (.pair (i64) (i64))], toRatL⟩
theorem toRatL_run (x : Dens [.pair (i64) (i64)]) : runFn (mkEnv [] []) Tryd.f67 [.pair (i64) (i64)] [.d (.pair (i64) (i64))] x = toRatL x := by kernel_rfl
theorem toRatL_ok : toRatL_con.ok Tryd.prog 67 := fn_ok (con := toRatL_con) (mkEnv_ok (cons := []) trivial []) Tryd.func67 rfl (by kernel_rfl) (by exact trivial) (fun x y h => (toRatL_run x).trans h)

def eqRatL : (Int × Int) × (Int × Int) → Option (Bool) :=
fun x => br (x.fst.1 != x.snd.1) (some false) (br (x.fst.2 != x.snd.2) (some false) (some true))
def eqRatL_con : Con := ⟨[.pair (i64) (i64), .pair (i64) (i64)], [.d (.bool)], eqRatL⟩
theorem eqRatL_run (x : Dens [.pair (i64) (i64), .pair (i64) (i64)]) : runFn (mkEnv [] []) Tryd.f71 [.pair (i64) (i64), .pair (i64) (i64)] [.d (.bool)] x = eqRatL x := by kernel_rfl
theorem eqRatL_ok : eqRatL_con.ok Tryd.prog 71 := fn_ok (con := eqRatL_con) (mkEnv_ok (cons := []) trivial []) Tryd.func71 rfl (by kernel_rfl) (by exact trivial) (fun x y h => (eqRatL_run x).trans h)






end Rx
end Go.Proofs.YtfapjkcmoefilaaDoor
