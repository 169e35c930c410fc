/- What the functions of RxEpi come to, and their contracts. No conditions. -/
import Derived.Test.YtaaieejhbpdmoaaRxEnv
import Derived.Test.YtaaieejhbpdmoaaRxRatI
import Derived.Test.YtaaieejhbpdmoaaRxRatS
import Derived.Test.YtaaieejhbpdmoaaRxRatAdd
namespace Go.Proofs.Ytaaieejhbpdmoaa
namespace Rx
open Go

def spreadI : Int → Option (Int) :=
fun x =>
  ob
    (idx
      [(1000000 : Int), (866025 : Int), (707106 : Int), (587785 : Int), (500000 : Int), (433883 : Int), (382683 : Int)]
      (IntKind.i64.wrap (x - (2 : Int))))
    fun x_1 =>
    ob
      ([(1000000 : Int), (866025 : Int), (707106 : Int), (587785 : Int), (500000 : Int), (433883 : Int),
            (382683 : Int)].get?Internal
        (IntKind.i64.wrap (x - (2 : Int))).toNat)
      fun x => some x
def spreadI_con : Con := ⟨[i64], [.d (i64)], spreadI⟩
theorem spreadI_run (x : Dens [i64]) : runFn (mkEnv [] []) Try.f51 [i64] [.d (i64)] x = spreadI x := by kernel_rfl
theorem spreadI_ok : spreadI_con.ok Try.prog 51 := fn_ok (con := spreadI_con) (mkEnv_ok (cons := []) trivial []) Try.func51 rfl (by kernel_rfl) (by exact trivial) (fun x y h => (spreadI_run x).trans h)

def faultsI : (Int × Int × Int × Int) → Option (List (ByteArray)) :=
fun x =>
  ob (toothedI x.1) fun y =>
    br (!y)
      (ob (withinI (x.snd.snd.2, (1 : Int), (8 : Int))) fun y =>
        br (!y)
          (some
            ([(⟨⟨[(116 : UInt8), (101 : UInt8), (101 : UInt8), (116 : UInt8), (104 : UInt8)]⟩⟩ : ByteArray)] ++
              [(⟨⟨[(99 : UInt8), (111 : UInt8), (117 : UInt8), (110 : UInt8), (116 : UInt8)]⟩⟩ : ByteArray)]))
          (some
            [(⟨⟨[(116 : UInt8), (101 : UInt8), (101 : UInt8), (116 : UInt8), (104 : UInt8)]⟩⟩ : ByteArray)]))
      (ob (toothedI x.snd.1) fun y =>
        br (!y)
          (ob (withinI (x.snd.snd.2, (1 : Int), (8 : Int))) fun y =>
            br (!y)
              (some
                ([(⟨⟨[(116 : UInt8), (101 : UInt8), (101 : UInt8), (116 : UInt8), (104 : UInt8)]⟩⟩ : ByteArray)] ++
                  [(⟨⟨[(99 : UInt8), (111 : UInt8), (117 : UInt8), (110 : UInt8), (116 : UInt8)]⟩⟩ : ByteArray)]))
              (some
                [(⟨⟨[(116 : UInt8), (101 : UInt8), (101 : UInt8), (116 : UInt8), (104 : UInt8)]⟩⟩ : ByteArray)]))
          (ob (toothedI x.snd.snd.1) fun y =>
            br (!y)
              (ob (withinI (x.snd.snd.2, (1 : Int), (8 : Int))) fun y =>
                br (!y)
                  (some
                    ([(⟨⟨[(116 : UInt8), (101 : UInt8), (101 : UInt8), (116 : UInt8), (104 : UInt8)]⟩⟩ : ByteArray)] ++
                      [(⟨⟨[(99 : UInt8), (111 : UInt8), (117 : UInt8), (110 : UInt8), (116 : UInt8)]⟩⟩ : ByteArray)]))
                  (some
                    [(⟨⟨[(116 : UInt8), (101 : UInt8), (101 : UInt8), (116 : UInt8), (104 : UInt8)]⟩⟩ : ByteArray)]))
              (ob (withinI (x.snd.snd.2, (1 : Int), (8 : Int))) fun y =>
                br (!y)
                  (some
                    [(⟨⟨[(99 : UInt8), (111 : UInt8), (117 : UInt8), (110 : UInt8), (116 : UInt8)]⟩⟩ : ByteArray)])
                  (br (x.snd.1 != IntKind.i64.wrap (x.1 + IntKind.i64.wrap ((2 : Int) * x.snd.snd.1)))
                    (br (x.snd.snd.2 == (0 : Int)) none
                      (br ((IntKind.i64.wrap (x.1 + x.snd.1)).tmod x.snd.snd.2 != (0 : Int))
                        (br (decide ((2 : Int) ≤ x.snd.snd.2))
                          (ob (spreadI x.snd.snd.2) fun y =>
                            br
                              (decide
                                (IntKind.i64.wrap (IntKind.i64.wrap (x.1 + x.snd.snd.1) * y) ≤
                                  IntKind.i64.wrap (IntKind.i64.wrap (x.snd.snd.1 + (2 : Int)) * (1000000 : Int))))
                              (some
                                ([(⟨⟨[(114 : UInt8), (105 : UInt8), (110 : UInt8), (103 : UInt8)]⟩⟩ : ByteArray)] ++
                                    [(⟨⟨[(97 : UInt8), (115 : UInt8), (115 : UInt8), (101 : UInt8), (109 : UInt8), (98 : UInt8), (108 : UInt8), (121 : UInt8)]⟩⟩ : ByteArray)] ++
                                  [(⟨⟨[(115 : UInt8), (112 : UInt8), (97 : UInt8), (99 : UInt8), (101 : UInt8)]⟩⟩ : ByteArray)]))
                              (some
                                ([(⟨⟨[(114 : UInt8), (105 : UInt8), (110 : UInt8), (103 : UInt8)]⟩⟩ : ByteArray)] ++
                                  [(⟨⟨[(97 : UInt8), (115 : UInt8), (115 : UInt8), (101 : UInt8), (109 : UInt8), (98 : UInt8), (108 : UInt8), (121 : UInt8)]⟩⟩ : ByteArray)])))
                          (some
                            ([(⟨⟨[(114 : UInt8), (105 : UInt8), (110 : UInt8), (103 : UInt8)]⟩⟩ : ByteArray)] ++
                              [(⟨⟨[(97 : UInt8), (115 : UInt8), (115 : UInt8), (101 : UInt8), (109 : UInt8), (98 : UInt8), (108 : UInt8), (121 : UInt8)]⟩⟩ : ByteArray)])))
                        (br (decide ((2 : Int) ≤ x.snd.snd.2))
                          (ob (spreadI x.snd.snd.2) fun y =>
                            br
                              (decide
                                (IntKind.i64.wrap (IntKind.i64.wrap (x.1 + x.snd.snd.1) * y) ≤
                                  IntKind.i64.wrap (IntKind.i64.wrap (x.snd.snd.1 + (2 : Int)) * (1000000 : Int))))
                              (some
                                ([(⟨⟨[(114 : UInt8), (105 : UInt8), (110 : UInt8), (103 : UInt8)]⟩⟩ : ByteArray)] ++
                                  [(⟨⟨[(115 : UInt8), (112 : UInt8), (97 : UInt8), (99 : UInt8), (101 : UInt8)]⟩⟩ : ByteArray)]))
                              (some
                                [(⟨⟨[(114 : UInt8), (105 : UInt8), (110 : UInt8), (103 : UInt8)]⟩⟩ : ByteArray)]))
                          (some
                            [(⟨⟨[(114 : UInt8), (105 : UInt8), (110 : UInt8), (103 : UInt8)]⟩⟩ : ByteArray)]))))
                    (br (x.snd.snd.2 == (0 : Int)) none
                      (br ((IntKind.i64.wrap (x.1 + x.snd.1)).tmod x.snd.snd.2 != (0 : Int))
                        (br (decide ((2 : Int) ≤ x.snd.snd.2))
                          (ob (spreadI x.snd.snd.2) fun y =>
                            br
                              (decide
                                (IntKind.i64.wrap (IntKind.i64.wrap (x.1 + x.snd.snd.1) * y) ≤
                                  IntKind.i64.wrap (IntKind.i64.wrap (x.snd.snd.1 + (2 : Int)) * (1000000 : Int))))
                              (some
                                ([(⟨⟨[(97 : UInt8), (115 : UInt8), (115 : UInt8), (101 : UInt8), (109 : UInt8), (98 : UInt8), (108 : UInt8), (121 : UInt8)]⟩⟩ : ByteArray)] ++
                                  [(⟨⟨[(115 : UInt8), (112 : UInt8), (97 : UInt8), (99 : UInt8), (101 : UInt8)]⟩⟩ : ByteArray)]))
                              (some
                                [(⟨⟨[(97 : UInt8), (115 : UInt8), (115 : UInt8), (101 : UInt8), (109 : UInt8), (98 : UInt8), (108 : UInt8), (121 : UInt8)]⟩⟩ : ByteArray)]))
                          (some
                            [(⟨⟨[(97 : UInt8), (115 : UInt8), (115 : UInt8), (101 : UInt8), (109 : UInt8), (98 : UInt8), (108 : UInt8), (121 : UInt8)]⟩⟩ : ByteArray)]))
                        (br (decide ((2 : Int) ≤ x.snd.snd.2))
                          (ob (spreadI x.snd.snd.2) fun y =>
                            br
                              (decide
                                (IntKind.i64.wrap (IntKind.i64.wrap (x.1 + x.snd.snd.1) * y) ≤
                                  IntKind.i64.wrap (IntKind.i64.wrap (x.snd.snd.1 + (2 : Int)) * (1000000 : Int))))
                              (some
                                [(⟨⟨[(115 : UInt8), (112 : UInt8), (97 : UInt8), (99 : UInt8), (101 : UInt8)]⟩⟩ : ByteArray)])
                              (some []))
                          (some []))))))))
def faultsI_con : Con := ⟨[.pair (i64) (.pair (i64) (.pair (i64) (i64)))], [.row 9 (.str)], faultsI⟩
theorem faultsI_run (x : Dens [.pair (i64) (.pair (i64) (.pair (i64) (i64)))]) : runFn (mkEnv [(49, toothedI_con), (50, withinI_con), (51, spreadI_con)] []) Try.f18 [.pair (i64) (.pair (i64) (.pair (i64) (i64)))] [.row 9 (.str)] x = faultsI x := by kernel_rfl
theorem faultsI_ok : faultsI_con.ok Try.prog 18 := fn_ok (con := faultsI_con) (mkEnv_ok (cons := [(49, toothedI_con), (50, withinI_con), (51, spreadI_con)]) ⟨toothedI_ok, withinI_ok, spreadI_ok, trivial⟩ []) Try.func18 rfl (by kernel_rfl) (by exact trivial) (fun x y h => (faultsI_run x).trans h)

def validEpiI : (Int × Int × Int × Int) → Option (Bool) :=
fun x => ob (faultsI (x.1, x.snd.1, x.snd.snd.1, x.snd.snd.2)) fun y => some ((↑(List.length y) : Int) == (0 : Int))
def validEpiI_con : Con := ⟨[.pair (i64) (.pair (i64) (.pair (i64) (i64)))], [.d (.bool)], validEpiI⟩
theorem validEpiI_run (x : Dens [.pair (i64) (.pair (i64) (.pair (i64) (i64)))]) : runFn (mkEnv [(18, faultsI_con)] []) Try.f16 [.pair (i64) (.pair (i64) (.pair (i64) (i64)))] [.d (.bool)] x = validEpiI x := by kernel_rfl
theorem validEpiI_ok : validEpiI_con.ok Try.prog 16 := fn_ok (con := validEpiI_con) (mkEnv_ok (cons := [(18, faultsI_con)]) ⟨faultsI_ok, trivial⟩ []) Try.func16 rfl (by kernel_rfl) (by exact trivial) (fun x y h => (validEpiI_run x).trans h)

def relI : (Int × Int × Int × Int) × (Int × Int) × (Int × Int) × Int × Int → Option ((Int × Int) × Int) :=
fun x =>
  ob (validEpiI (x.fst.1, x.fst.snd.1, x.fst.snd.snd.1, x.fst.snd.snd.2)) fun y =>
    br (!y) (some (((0 : Int), (0 : Int)), (1 : Int)))
      (ob (validRatI (x.snd.fst.1, x.snd.fst.2)) fun y =>
        br (!y) (some (((0 : Int), (0 : Int)), (1 : Int)))
          (ob (validRatI (x.snd.snd.fst.1, x.snd.snd.fst.2)) fun y =>
            br (!y) (some (((0 : Int), (0 : Int)), (1 : Int)))
              (ob (subRatI ((x.snd.fst.1, x.snd.fst.2), x.snd.snd.fst.1, x.snd.snd.fst.2)) fun y =>
                br (y.2 != (0 : Int)) (some (((0 : Int), (0 : Int)), y.2))
                  (ob (makeRatI (x.snd.snd.snd.1, x.snd.snd.snd.2)) fun y_1 =>
                    br (y_1.2 != (0 : Int)) (some (((0 : Int), (0 : Int)), y_1.2))
                      (ob (mulRatI ((y.fst.1, y.fst.2), y_1.fst.1, y_1.fst.2)) fun y =>
                        br (y.2 != (0 : Int)) (some (((0 : Int), (0 : Int)), y.2))
                          (ob (subRatI ((x.snd.snd.fst.1, x.snd.snd.fst.2), y.fst.1, y.fst.2)) fun y =>
                            some ((y.fst.1, y.fst.2), y.2)))))))
def relI_con : Con := ⟨[.pair (i64) (.pair (i64) (.pair (i64) (i64))), .pair (i64) (i64), .pair (i64) (i64), i64, i64], [.d (.pair (i64) (i64)), .d (i64)], relI⟩
theorem relI_run (x : Dens [.pair (i64) (.pair (i64) (.pair (i64) (i64))), .pair (i64) (i64), .pair (i64) (i64), i64, i64]) : runFn (mkEnv [(16, validEpiI_con), (56, validRatI_con), (58, subRatI_con), (66, makeRatI_con), (61, mulRatI_con)] []) Try.f68 [.pair (i64) (.pair (i64) (.pair (i64) (i64))), .pair (i64) (i64), .pair (i64) (i64), i64, i64] [.d (.pair (i64) (i64)), .d (i64)] x = relI x := by kernel_rfl
theorem relI_ok : relI_con.ok Try.prog 68 := fn_ok (con := relI_con) (mkEnv_ok (cons := [(16, validEpiI_con), (56, validRatI_con), (58, subRatI_con), (66, makeRatI_con), (61, mulRatI_con)]) ⟨validEpiI_ok, validRatI_ok, subRatI_ok, makeRatI_ok, mulRatI_ok, trivial⟩ []) Try.func68 rfl (by kernel_rfl) (by exact trivial) (fun x y h => (relI_run x).trans h)

def sunI : (Int × Int × Int × Int) × (Int × Int) × (Int × Int) → Option ((Int × Int) × Int) :=
fun x =>
  ob
    (relI
      ((x.fst.1, x.fst.snd.1, x.fst.snd.snd.1, x.fst.snd.snd.2), (x.snd.fst.1, x.snd.fst.2), (x.snd.snd.1, x.snd.snd.2),
        x.fst.snd.1, x.fst.1))
    fun y => some ((y.fst.1, y.fst.2), y.2)
def sunI_con : Con := ⟨[.pair (i64) (.pair (i64) (.pair (i64) (i64))), .pair (i64) (i64), .pair (i64) (i64)], [.d (.pair (i64) (i64)), .d (i64)], sunI⟩
theorem sunI_run (x : Dens [.pair (i64) (.pair (i64) (.pair (i64) (i64))), .pair (i64) (i64), .pair (i64) (i64)]) : runFn (mkEnv [(68, relI_con)] []) Try.f40 [.pair (i64) (.pair (i64) (.pair (i64) (i64))), .pair (i64) (i64), .pair (i64) (i64)] [.d (.pair (i64) (i64)), .d (i64)] x = sunI x := by kernel_rfl
theorem sunI_ok : sunI_con.ok Try.prog 40 := fn_ok (con := sunI_con) (mkEnv_ok (cons := [(68, relI_con)]) ⟨relI_ok, trivial⟩ []) Try.func40 rfl (by kernel_rfl) (by exact trivial) (fun x y h => (sunI_run x).trans h)

def ringI : (Int × Int × Int × Int) × (Int × Int) × (Int × Int) → Option ((Int × Int) × Int) :=
fun x =>
  ob
    (relI
      ((x.fst.1, x.fst.snd.1, x.fst.snd.snd.1, x.fst.snd.snd.2), (x.snd.fst.1, x.snd.fst.2), (x.snd.snd.1, x.snd.snd.2),
        x.fst.1, x.fst.snd.1))
    fun y => some ((y.fst.1, y.fst.2), y.2)
def ringI_con : Con := ⟨[.pair (i64) (.pair (i64) (.pair (i64) (i64))), .pair (i64) (i64), .pair (i64) (i64)], [.d (.pair (i64) (i64)), .d (i64)], ringI⟩
theorem ringI_run (x : Dens [.pair (i64) (.pair (i64) (.pair (i64) (i64))), .pair (i64) (i64), .pair (i64) (i64)]) : runFn (mkEnv [(68, relI_con)] []) Try.f38 [.pair (i64) (.pair (i64) (.pair (i64) (i64))), .pair (i64) (i64), .pair (i64) (i64)] [.d (.pair (i64) (i64)), .d (i64)] x = ringI x := by kernel_rfl
theorem ringI_ok : ringI_con.ok Try.prog 38 := fn_ok (con := ringI_con) (mkEnv_ok (cons := [(68, relI_con)]) ⟨relI_ok, trivial⟩ []) Try.func38 rfl (by kernel_rfl) (by exact trivial) (fun x y h => (ringI_run x).trans h)

def planetI : (Int × Int × Int × Int) × (Int × Int) × (Int × Int) → Option ((Int × Int) × Int) :=
fun x =>
  ob
    (relI
      ((x.fst.1, x.fst.snd.1, x.fst.snd.snd.1, x.fst.snd.snd.2), (x.snd.fst.1, x.snd.fst.2), (x.snd.snd.1, x.snd.snd.2),
        x.fst.1, x.fst.snd.snd.1))
    fun y => some ((y.fst.1, y.fst.2), y.2)
def planetI_con : Con := ⟨[.pair (i64) (.pair (i64) (.pair (i64) (i64))), .pair (i64) (i64), .pair (i64) (i64)], [.d (.pair (i64) (i64)), .d (i64)], planetI⟩
theorem planetI_run (x : Dens [.pair (i64) (.pair (i64) (.pair (i64) (i64))), .pair (i64) (i64), .pair (i64) (i64)]) : runFn (mkEnv [(68, relI_con)] []) Try.f36 [.pair (i64) (.pair (i64) (.pair (i64) (i64))), .pair (i64) (i64), .pair (i64) (i64)] [.d (.pair (i64) (i64)), .d (i64)] x = planetI x := by kernel_rfl
theorem planetI_ok : planetI_con.ok Try.prog 36 := fn_ok (con := planetI_con) (mkEnv_ok (cons := [(68, relI_con)]) ⟨relI_ok, trivial⟩ []) Try.func36 rfl (by kernel_rfl) (by exact trivial) (fun x y h => (planetI_run x).trans h)

def carrierI : (Int × Int × Int × Int) × (Int × Int) × (Int × Int) → Option ((Int × Int) × Int) :=
fun x =>
  ob (validEpiI (x.fst.1, x.fst.snd.1, x.fst.snd.snd.1, x.fst.snd.snd.2)) fun y =>
    br (!y) (some (((0 : Int), (0 : Int)), (1 : Int)))
      (ob (validRatI (x.snd.fst.1, x.snd.fst.2)) fun y =>
        br (!y) (some (((0 : Int), (0 : Int)), (1 : Int)))
          (ob (validRatI (x.snd.snd.1, x.snd.snd.2)) fun y =>
            br (!y) (some (((0 : Int), (0 : Int)), (1 : Int)))
              (ob (makeRatI (x.fst.1, IntKind.i64.wrap (x.fst.1 + x.fst.snd.1))) fun y =>
                ob (makeRatI (x.fst.snd.1, IntKind.i64.wrap (x.fst.1 + x.fst.snd.1))) fun y_1 =>
                  ob (mulRatI ((x.snd.fst.1, x.snd.fst.2), y.fst.1, y.fst.2)) fun y =>
                    br (y.2 != (0 : Int)) (some (((0 : Int), (0 : Int)), y.2))
                      (ob (mulRatI ((x.snd.snd.1, x.snd.snd.2), y_1.fst.1, y_1.fst.2)) fun y_2 =>
                        br (y_2.2 != (0 : Int)) (some (((0 : Int), (0 : Int)), y_2.2))
                          (ob (addRatI ((y.fst.1, y.fst.2), y_2.fst.1, y_2.fst.2)) fun y =>
                            some ((y.fst.1, y.fst.2), y.2))))))
def carrierI_con : Con := ⟨[.pair (i64) (.pair (i64) (.pair (i64) (i64))), .pair (i64) (i64), .pair (i64) (i64)], [.d (.pair (i64) (i64)), .d (i64)], carrierI⟩
theorem carrierI_run (x : Dens [.pair (i64) (.pair (i64) (.pair (i64) (i64))), .pair (i64) (i64), .pair (i64) (i64)]) : runFn (mkEnv [(16, validEpiI_con), (56, validRatI_con), (66, makeRatI_con), (61, mulRatI_con), (57, addRatI_con)] []) Try.f34 [.pair (i64) (.pair (i64) (.pair (i64) (i64))), .pair (i64) (i64), .pair (i64) (i64)] [.d (.pair (i64) (i64)), .d (i64)] x = carrierI x := by kernel_rfl
theorem carrierI_ok : carrierI_con.ok Try.prog 34 := fn_ok (con := carrierI_con) (mkEnv_ok (cons := [(16, validEpiI_con), (56, validRatI_con), (66, makeRatI_con), (61, mulRatI_con), (57, addRatI_con)]) ⟨validEpiI_ok, validRatI_ok, makeRatI_ok, mulRatI_ok, addRatI_ok, trivial⟩ []) Try.func34 rfl (by kernel_rfl) (by exact trivial) (fun x y h => (carrierI_run x).trans h)

def epiRatIL_vars : Vars := [(1, .val (i64)), (2, .val (i64)), (3, .box 0 25 (.pair (i64) (.pair (i64) (.pair (i64) (i64))))), (6, .box 0 34 (.pair (i64) (i64))), (8, .row 0 34 (.pair (i64) (i64))), (30, .val (i64)), (31, .val (i64))]
def epiRatIL_step : Int × Int × (Int × Int × Int × Int) × (Int × Int) × List ((Int × Int)) × Int × Int → Option (LRes × (Int × Int × (Int × Int × Int × Int) × (Int × Int) × List ((Int × Int)) × Int × Int)) :=
fun x =>
  br (decide (x.snd.snd.snd.snd.snd.2 < x.snd.snd.snd.snd.snd.1))
    (ob (idx x.snd.snd.snd.snd.1 x.snd.snd.snd.snd.snd.2) fun x_1 =>
      ob (List.get?Internal x.snd.snd.snd.snd.1 (Int.toNat x.snd.snd.snd.snd.snd.2)) fun x_2 =>
        some
          (LRes.next, x.1, x.snd.1,
            (x.snd.snd.fst.1, x.snd.snd.fst.snd.1, x.snd.snd.fst.snd.snd.1, x.snd.snd.fst.snd.snd.2),
            (x.snd.snd.snd.fst.1, x.snd.snd.snd.fst.2),
            List.set x.snd.snd.snd.snd.1 (Int.toNat x.snd.snd.snd.snd.snd.2) ((0 : Int), (1 : Int)),
            x.snd.snd.snd.snd.snd.1, IntKind.i64.wrap (x.snd.snd.snd.snd.snd.2 + (1 : Int))))
    (some
      (LRes.out, x.1, x.snd.1, (x.snd.snd.fst.1, x.snd.snd.fst.snd.1, x.snd.snd.fst.snd.snd.1, x.snd.snd.fst.snd.snd.2),
        (x.snd.snd.snd.fst.1, x.snd.snd.snd.fst.2), x.snd.snd.snd.snd.1, x.snd.snd.snd.snd.snd.1,
        x.snd.snd.snd.snd.snd.2))
def epiRatIL_fuel : Int × Int × (Int × Int × Int × Int) × (Int × Int) × List ((Int × Int)) × Int × Int → Nat := fun s => (s.2.2.2.2.2.1 - s.2.2.2.2.2.2).toNat + 1
def epiRatIL : Int × Int × (Int × Int × Int × Int) × (Int × Int) × List ((Int × Int)) × Int × Int → Option (Int × Int × (Int × Int × Int × Int) × (Int × Int) × List ((Int × Int)) × Int × Int) := fun s => iterP epiRatIL_step (epiRatIL_fuel s) s
def epiRatIL_L : LoopC := ⟨epiRatIL_vars, 0, .plain epiRatIL⟩
noncomputable def epiRatIL_key : Nat := key (loopAt Try.f42 0)
theorem epiRatIL_stepok (x : epiRatIL_vars.den) : stepOf (mkEnv [] []) Try.f42.ntmps epiRatIL_vars 0 (loopAt Try.f42 0) x = epiRatIL_step x := by kernel_rfl
theorem epiRatIL_ok : LoopOK Try.prog Try.f42.ntmps epiRatIL_L (loopAt Try.f42 0)   := iterP_loop (n := Try.f42.ntmps) (vs := epiRatIL_vars) (out := 0) (body := loopAt Try.f42 0) (mkEnv_ok (cons := []) trivial []) epiRatIL_step epiRatIL_fuel (by exact trivial) epiRatIL_stepok

def epiRatI : (Int × Int × Int × Int) × Int × Int → Option ((Int × Int) × Int) :=
fun x =>
  ob (validEpiI (x.fst.1, x.fst.snd.1, x.fst.snd.snd.1, x.fst.snd.snd.2)) fun y =>
    br (!y) (some (((0 : Int), (0 : Int)), (1 : Int)))
      (ob (withinI (x.snd.1, (0 : Int), (2 : Int))) fun y =>
        br (!y) (some (((0 : Int), (0 : Int)), (2 : Int)))
          (ob (withinI (x.snd.2, (0 : Int), (2 : Int))) fun y =>
            br (!y) (some (((0 : Int), (0 : Int)), (2 : Int)))
              (br (x.snd.1 == x.snd.2) (some (((0 : Int), (0 : Int)), (2 : Int)))
                (ob
                  (epiRatIL
                    (x.snd.1, x.snd.2, (x.fst.1, x.fst.snd.1, x.fst.snd.snd.1, x.fst.snd.snd.2), ((0 : Int), (0 : Int)),
                      List.replicate (Int.toNat (3 : Int)) ((0 : Int), (0 : Int)),
                      (↑(List.replicate (Int.toNat (3 : Int)) ((0 : Int), (0 : Int))).length : Int), (0 : Int)))
                  fun r =>
                  ob (idx r.snd.snd.snd.snd.1 r.1) fun x =>
                    ob (List.get?Internal r.snd.snd.snd.snd.1 (Int.toNat r.1)) fun x =>
                      br (r.snd.1 == (0 : Int))
                        (ob (idx (List.set r.snd.snd.snd.snd.1 (Int.toNat r.1) ((1 : Int), x.2)) (1 : Int)) fun x_1 =>
                          ob
                            ((List.set r.snd.snd.snd.snd.1 (Int.toNat r.1) ((1 : Int), x.2)).get?Internal
                              (Int.toNat (1 : Int)))
                            fun x_2 =>
                            ob (idx (List.set r.snd.snd.snd.snd.1 (Int.toNat r.1) ((1 : Int), x.2)) (2 : Int))
                              fun x_3 =>
                              ob
                                ((List.set r.snd.snd.snd.snd.1 (Int.toNat r.1) ((1 : Int), x.2)).get?Internal
                                  (Int.toNat (2 : Int)))
                                fun x =>
                                ob
                                  (sunI
                                    ((r.snd.snd.fst.1, r.snd.snd.fst.snd.1, r.snd.snd.fst.snd.snd.1,
                                        r.snd.snd.fst.snd.snd.2),
                                      (x_2.1, x_2.2), x.1, x.2))
                                  fun y => some ((y.fst.1, y.fst.2), y.2))
                        (br (r.snd.1 == (1 : Int))
                          (ob (idx (List.set r.snd.snd.snd.snd.1 (Int.toNat r.1) ((1 : Int), x.2)) (0 : Int)) fun x_1 =>
                            ob
                              ((List.set r.snd.snd.snd.snd.1 (Int.toNat r.1) ((1 : Int), x.2)).get?Internal
                                (Int.toNat (0 : Int)))
                              fun x_2 =>
                              ob (idx (List.set r.snd.snd.snd.snd.1 (Int.toNat r.1) ((1 : Int), x.2)) (2 : Int))
                                fun x_3 =>
                                ob
                                  ((List.set r.snd.snd.snd.snd.1 (Int.toNat r.1) ((1 : Int), x.2)).get?Internal
                                    (Int.toNat (2 : Int)))
                                  fun x =>
                                  ob
                                    (ringI
                                      ((r.snd.snd.fst.1, r.snd.snd.fst.snd.1, r.snd.snd.fst.snd.snd.1,
                                          r.snd.snd.fst.snd.snd.2),
                                        (x_2.1, x_2.2), x.1, x.2))
                                    fun y => some ((y.fst.1, y.fst.2), y.2))
                          (ob (idx (List.set r.snd.snd.snd.snd.1 (Int.toNat r.1) ((1 : Int), x.2)) (0 : Int)) fun x_1 =>
                            ob
                              ((List.set r.snd.snd.snd.snd.1 (Int.toNat r.1) ((1 : Int), x.2)).get?Internal
                                (Int.toNat (0 : Int)))
                              fun x_2 =>
                              ob (idx (List.set r.snd.snd.snd.snd.1 (Int.toNat r.1) ((1 : Int), x.2)) (1 : Int))
                                fun x_3 =>
                                ob
                                  ((List.set r.snd.snd.snd.snd.1 (Int.toNat r.1) ((1 : Int), x.2)).get?Internal
                                    (Int.toNat (1 : Int)))
                                  fun x =>
                                  ob
                                    (carrierI
                                      ((r.snd.snd.fst.1, r.snd.snd.fst.snd.1, r.snd.snd.fst.snd.snd.1,
                                          r.snd.snd.fst.snd.snd.2),
                                        (x_2.1, x_2.2), x.1, x.2))
                                    fun y => some ((y.fst.1, y.fst.2), y.2)))))))
def epiRatI_con : Con := ⟨[.pair (i64) (.pair (i64) (.pair (i64) (i64))), i64, i64], [.d (.pair (i64) (i64)), .d (i64)], epiRatI⟩
theorem epiRatI_run (x : Dens [.pair (i64) (.pair (i64) (.pair (i64) (i64))), i64, i64]) : runFn (mkEnv [(16, validEpiI_con), (50, withinI_con), (40, sunI_con), (38, ringI_con), (34, carrierI_con)] [(epiRatIL_key, epiRatIL_L)]) Try.f42 [.pair (i64) (.pair (i64) (.pair (i64) (i64))), i64, i64] [.d (.pair (i64) (i64)), .d (i64)] x = epiRatI x := by kernel_rfl
theorem epiRatI_ok : epiRatI_con.ok Try.prog 42 := fn_ok (con := epiRatI_con) (mkEnv_ok (cons := [(16, validEpiI_con), (50, withinI_con), (40, sunI_con), (38, ringI_con), (34, carrierI_con)]) ⟨validEpiI_ok, withinI_ok, sunI_ok, ringI_ok, carrierI_ok, trivial⟩ [(epiRatIL_key, epiRatIL_L)]) Try.func42 rfl (by kernel_rfl) (by exact ⟨epiRatIL_ok, trivial⟩) (fun x y h => (epiRatI_run x).trans h)

def sineS : Int → Option (Int) :=
fun x =>
  ob
    (idx
      [(1000000 : Int), (866025 : Int), (707106 : Int), (587785 : Int), (500000 : Int), (433883 : Int), (382683 : Int)]
      (IntKind.i64.wrap (x - (2 : Int))))
    fun x_1 =>
    ob
      ([(1000000 : Int), (866025 : Int), (707106 : Int), (587785 : Int), (500000 : Int), (433883 : Int),
            (382683 : Int)].get?Internal
        (IntKind.i64.wrap (x - (2 : Int))).toNat)
      fun x => some x
def sineS_con : Con := ⟨[i64], [.d (i64)], sineS⟩
theorem sineS_run (x : Dens [i64]) : runFn (mkEnv [] []) Try.f48 [i64] [.d (i64)] x = sineS x := by kernel_rfl
theorem sineS_ok : sineS_con.ok Try.prog 48 := fn_ok (con := sineS_con) (mkEnv_ok (cons := []) trivial []) Try.func48 rfl (by kernel_rfl) (by exact trivial) (fun x y h => (sineS_run x).trans h)

def faultsS : (Int × Int × Int × Int) → Option (List (ByteArray)) :=
fun x =>
  ob (teethS x.1) fun y =>
    br (!y)
      (ob (inS (x.snd.snd.2, (1 : Int), (8 : Int))) fun y =>
        br (!y)
          (some
            ([] ++
                [(⟨⟨[(116 : UInt8), (101 : UInt8), (101 : UInt8), (116 : UInt8), (104 : UInt8)]⟩⟩ : ByteArray)] ++
              [(⟨⟨[(99 : UInt8), (111 : UInt8), (117 : UInt8), (110 : UInt8), (116 : UInt8)]⟩⟩ : ByteArray)]))
          (some
            ([] ++
              [(⟨⟨[(116 : UInt8), (101 : UInt8), (101 : UInt8), (116 : UInt8), (104 : UInt8)]⟩⟩ : ByteArray)])))
      (ob (teethS x.snd.1) fun y =>
        br (!y)
          (ob (inS (x.snd.snd.2, (1 : Int), (8 : Int))) fun y =>
            br (!y)
              (some
                ([] ++
                    [(⟨⟨[(116 : UInt8), (101 : UInt8), (101 : UInt8), (116 : UInt8), (104 : UInt8)]⟩⟩ : ByteArray)] ++
                  [(⟨⟨[(99 : UInt8), (111 : UInt8), (117 : UInt8), (110 : UInt8), (116 : UInt8)]⟩⟩ : ByteArray)]))
              (some
                ([] ++
                  [(⟨⟨[(116 : UInt8), (101 : UInt8), (101 : UInt8), (116 : UInt8), (104 : UInt8)]⟩⟩ : ByteArray)])))
          (ob (teethS x.snd.snd.1) fun y =>
            br (!y)
              (ob (inS (x.snd.snd.2, (1 : Int), (8 : Int))) fun y =>
                br (!y)
                  (some
                    ([] ++
                        [(⟨⟨[(116 : UInt8), (101 : UInt8), (101 : UInt8), (116 : UInt8), (104 : UInt8)]⟩⟩ : ByteArray)] ++
                      [(⟨⟨[(99 : UInt8), (111 : UInt8), (117 : UInt8), (110 : UInt8), (116 : UInt8)]⟩⟩ : ByteArray)]))
                  (some
                    ([] ++
                      [(⟨⟨[(116 : UInt8), (101 : UInt8), (101 : UInt8), (116 : UInt8), (104 : UInt8)]⟩⟩ : ByteArray)])))
              (ob (inS (x.snd.snd.2, (1 : Int), (8 : Int))) fun y =>
                br (!y)
                  (some
                    ([] ++
                      [(⟨⟨[(99 : UInt8), (111 : UInt8), (117 : UInt8), (110 : UInt8), (116 : UInt8)]⟩⟩ : ByteArray)]))
                  (br (x.snd.1 != IntKind.i64.wrap (x.1 + IntKind.i64.wrap ((2 : Int) * x.snd.snd.1)))
                    (br (x.snd.snd.2 == (0 : Int)) none
                      (br ((IntKind.i64.wrap (x.1 + x.snd.1)).tmod x.snd.snd.2 != (0 : Int))
                        (br (decide ((2 : Int) ≤ x.snd.snd.2))
                          (ob (sineS x.snd.snd.2) fun y =>
                            br
                              (decide
                                (IntKind.i64.wrap (IntKind.i64.wrap (x.1 + x.snd.snd.1) * y) ≤
                                  IntKind.i64.wrap (IntKind.i64.wrap (x.snd.snd.1 + (2 : Int)) * (1000000 : Int))))
                              (some
                                ([] ++
                                      [(⟨⟨[(114 : UInt8), (105 : UInt8), (110 : UInt8), (103 : UInt8)]⟩⟩ : ByteArray)] ++
                                    [(⟨⟨[(97 : UInt8), (115 : UInt8), (115 : UInt8), (101 : UInt8), (109 : UInt8), (98 : UInt8), (108 : UInt8), (121 : UInt8)]⟩⟩ : ByteArray)] ++
                                  [(⟨⟨[(115 : UInt8), (112 : UInt8), (97 : UInt8), (99 : UInt8), (101 : UInt8)]⟩⟩ : ByteArray)]))
                              (some
                                ([] ++
                                    [(⟨⟨[(114 : UInt8), (105 : UInt8), (110 : UInt8), (103 : UInt8)]⟩⟩ : ByteArray)] ++
                                  [(⟨⟨[(97 : UInt8), (115 : UInt8), (115 : UInt8), (101 : UInt8), (109 : UInt8), (98 : UInt8), (108 : UInt8), (121 : UInt8)]⟩⟩ : ByteArray)])))
                          (some
                            ([] ++
                                [(⟨⟨[(114 : UInt8), (105 : UInt8), (110 : UInt8), (103 : UInt8)]⟩⟩ : ByteArray)] ++
                              [(⟨⟨[(97 : UInt8), (115 : UInt8), (115 : UInt8), (101 : UInt8), (109 : UInt8), (98 : UInt8), (108 : UInt8), (121 : UInt8)]⟩⟩ : ByteArray)])))
                        (br (decide ((2 : Int) ≤ x.snd.snd.2))
                          (ob (sineS x.snd.snd.2) fun y =>
                            br
                              (decide
                                (IntKind.i64.wrap (IntKind.i64.wrap (x.1 + x.snd.snd.1) * y) ≤
                                  IntKind.i64.wrap (IntKind.i64.wrap (x.snd.snd.1 + (2 : Int)) * (1000000 : Int))))
                              (some
                                ([] ++
                                    [(⟨⟨[(114 : UInt8), (105 : UInt8), (110 : UInt8), (103 : UInt8)]⟩⟩ : ByteArray)] ++
                                  [(⟨⟨[(115 : UInt8), (112 : UInt8), (97 : UInt8), (99 : UInt8), (101 : UInt8)]⟩⟩ : ByteArray)]))
                              (some
                                ([] ++
                                  [(⟨⟨[(114 : UInt8), (105 : UInt8), (110 : UInt8), (103 : UInt8)]⟩⟩ : ByteArray)])))
                          (some
                            ([] ++
                              [(⟨⟨[(114 : UInt8), (105 : UInt8), (110 : UInt8), (103 : UInt8)]⟩⟩ : ByteArray)])))))
                    (br (x.snd.snd.2 == (0 : Int)) none
                      (br ((IntKind.i64.wrap (x.1 + x.snd.1)).tmod x.snd.snd.2 != (0 : Int))
                        (br (decide ((2 : Int) ≤ x.snd.snd.2))
                          (ob (sineS x.snd.snd.2) fun y =>
                            br
                              (decide
                                (IntKind.i64.wrap (IntKind.i64.wrap (x.1 + x.snd.snd.1) * y) ≤
                                  IntKind.i64.wrap (IntKind.i64.wrap (x.snd.snd.1 + (2 : Int)) * (1000000 : Int))))
                              (some
                                ([] ++
                                    [(⟨⟨[(97 : UInt8), (115 : UInt8), (115 : UInt8), (101 : UInt8), (109 : UInt8), (98 : UInt8), (108 : UInt8), (121 : UInt8)]⟩⟩ : ByteArray)] ++
                                  [(⟨⟨[(115 : UInt8), (112 : UInt8), (97 : UInt8), (99 : UInt8), (101 : UInt8)]⟩⟩ : ByteArray)]))
                              (some
                                ([] ++
                                  [(⟨⟨[(97 : UInt8), (115 : UInt8), (115 : UInt8), (101 : UInt8), (109 : UInt8), (98 : UInt8), (108 : UInt8), (121 : UInt8)]⟩⟩ : ByteArray)])))
                          (some
                            ([] ++
                              [(⟨⟨[(97 : UInt8), (115 : UInt8), (115 : UInt8), (101 : UInt8), (109 : UInt8), (98 : UInt8), (108 : UInt8), (121 : UInt8)]⟩⟩ : ByteArray)])))
                        (br (decide ((2 : Int) ≤ x.snd.snd.2))
                          (ob (sineS x.snd.snd.2) fun y =>
                            br
                              (decide
                                (IntKind.i64.wrap (IntKind.i64.wrap (x.1 + x.snd.snd.1) * y) ≤
                                  IntKind.i64.wrap (IntKind.i64.wrap (x.snd.snd.1 + (2 : Int)) * (1000000 : Int))))
                              (some
                                ([] ++
                                  [(⟨⟨[(115 : UInt8), (112 : UInt8), (97 : UInt8), (99 : UInt8), (101 : UInt8)]⟩⟩ : ByteArray)]))
                              (some []))
                          (some []))))))))
def faultsS_con : Con := ⟨[.pair (i64) (.pair (i64) (.pair (i64) (i64)))], [.row 9 (.str)], faultsS⟩
theorem faultsS_run (x : Dens [.pair (i64) (.pair (i64) (.pair (i64) (i64)))]) : runFn (mkEnv [(46, teethS_con), (47, inS_con), (48, sineS_con)] []) Try.f17 [.pair (i64) (.pair (i64) (.pair (i64) (i64)))] [.row 9 (.str)] x = faultsS x := by kernel_rfl
theorem faultsS_ok : faultsS_con.ok Try.prog 17 := fn_ok (con := faultsS_con) (mkEnv_ok (cons := [(46, teethS_con), (47, inS_con), (48, sineS_con)]) ⟨teethS_ok, inS_ok, sineS_ok, trivial⟩ []) Try.func17 rfl (by kernel_rfl) (by exact trivial) (fun x y h => (faultsS_run x).trans h)

def okEpiS : (Int × Int × Int × Int) → Option (Bool) :=
fun x => ob (faultsS (x.1, x.snd.1, x.snd.snd.1, x.snd.snd.2)) fun y => some ((↑(List.length y) : Int) == (0 : Int))
def okEpiS_con : Con := ⟨[.pair (i64) (.pair (i64) (.pair (i64) (i64)))], [.d (.bool)], okEpiS⟩
theorem okEpiS_run (x : Dens [.pair (i64) (.pair (i64) (.pair (i64) (i64)))]) : runFn (mkEnv [(17, faultsS_con)] []) Try.f45 [.pair (i64) (.pair (i64) (.pair (i64) (i64)))] [.d (.bool)] x = okEpiS x := by kernel_rfl
theorem okEpiS_ok : okEpiS_con.ok Try.prog 45 := fn_ok (con := okEpiS_con) (mkEnv_ok (cons := [(17, faultsS_con)]) ⟨faultsS_ok, trivial⟩ []) Try.func45 rfl (by kernel_rfl) (by exact trivial) (fun x y h => (okEpiS_run x).trans h)

def validEpiS : (Int × Int × Int × Int) → Option (Bool) :=
fun x => ob (okEpiS (x.1, x.snd.1, x.snd.snd.1, x.snd.snd.2)) fun y => some y
def validEpiS_con : Con := ⟨[.pair (i64) (.pair (i64) (.pair (i64) (i64)))], [.d (.bool)], validEpiS⟩
theorem validEpiS_run (x : Dens [.pair (i64) (.pair (i64) (.pair (i64) (i64)))]) : runFn (mkEnv [(45, okEpiS_con)] []) Try.f14 [.pair (i64) (.pair (i64) (.pair (i64) (i64)))] [.d (.bool)] x = validEpiS x := by kernel_rfl
theorem validEpiS_ok : validEpiS_con.ok Try.prog 14 := fn_ok (con := validEpiS_con) (mkEnv_ok (cons := [(45, okEpiS_con)]) ⟨okEpiS_ok, trivial⟩ []) Try.func14 rfl (by kernel_rfl) (by exact trivial) (fun x y h => (validEpiS_run x).trans h)

def turnS : (Int × Int) × (Int × Int) × Int × Int → Option ((Int × Int) × Int) :=
fun x =>
  ob (mkS (x.snd.snd.1, x.snd.snd.2)) fun y =>
    ob (subRatS ((x.fst.1, x.fst.2), x.snd.fst.1, x.snd.fst.2)) fun y_1 =>
      br (y_1.2 != (0 : Int)) (some (((0 : Int), (0 : Int)), y_1.2))
        (ob (mulRatS ((y_1.fst.1, y_1.fst.2), y.fst.1, y.fst.2)) fun y =>
          br (y.2 != (0 : Int)) (some (((0 : Int), (0 : Int)), y.2))
            (ob (subRatS ((x.snd.fst.1, x.snd.fst.2), y.fst.1, y.fst.2)) fun y => some ((y.fst.1, y.fst.2), y.2)))
def turnS_con : Con := ⟨[.pair (i64) (i64), .pair (i64) (i64), i64, i64], [.d (.pair (i64) (i64)), .d (i64)], turnS⟩
theorem turnS_run (x : Dens [.pair (i64) (i64), .pair (i64) (i64), i64, i64]) : runFn (mkEnv [(63, mkS_con), (55, subRatS_con), (60, mulRatS_con)] []) Try.f67 [.pair (i64) (i64), .pair (i64) (i64), i64, i64] [.d (.pair (i64) (i64)), .d (i64)] x = turnS x := by kernel_rfl
theorem turnS_ok : turnS_con.ok Try.prog 67 := fn_ok (con := turnS_con) (mkEnv_ok (cons := [(63, mkS_con), (55, subRatS_con), (60, mulRatS_con)]) ⟨mkS_ok, subRatS_ok, mulRatS_ok, trivial⟩ []) Try.func67 rfl (by kernel_rfl) (by exact trivial) (fun x y h => (turnS_run x).trans h)

def sunS : (Int × Int × Int × Int) × (Int × Int) × (Int × Int) → Option ((Int × Int) × Int) :=
fun x =>
  ob (okEpiS (x.fst.1, x.fst.snd.1, x.fst.snd.snd.1, x.fst.snd.snd.2)) fun y =>
    br (!y) (some (((0 : Int), (0 : Int)), (1 : Int)))
      (ob (okRatS (x.snd.fst.1, x.snd.fst.2)) fun y =>
        br (!y) (some (((0 : Int), (0 : Int)), (1 : Int)))
          (ob (okRatS (x.snd.snd.1, x.snd.snd.2)) fun y =>
            br (!y) (some (((0 : Int), (0 : Int)), (1 : Int)))
              (ob (turnS ((x.snd.fst.1, x.snd.fst.2), (x.snd.snd.1, x.snd.snd.2), x.fst.snd.1, x.fst.1)) fun y =>
                some ((y.fst.1, y.fst.2), y.2))))
def sunS_con : Con := ⟨[.pair (i64) (.pair (i64) (.pair (i64) (i64))), .pair (i64) (i64), .pair (i64) (i64)], [.d (.pair (i64) (i64)), .d (i64)], sunS⟩
theorem sunS_run (x : Dens [.pair (i64) (.pair (i64) (.pair (i64) (i64))), .pair (i64) (i64), .pair (i64) (i64)]) : runFn (mkEnv [(45, okEpiS_con), (53, okRatS_con), (67, turnS_con)] []) Try.f39 [.pair (i64) (.pair (i64) (.pair (i64) (i64))), .pair (i64) (i64), .pair (i64) (i64)] [.d (.pair (i64) (i64)), .d (i64)] x = sunS x := by kernel_rfl
theorem sunS_ok : sunS_con.ok Try.prog 39 := fn_ok (con := sunS_con) (mkEnv_ok (cons := [(45, okEpiS_con), (53, okRatS_con), (67, turnS_con)]) ⟨okEpiS_ok, okRatS_ok, turnS_ok, trivial⟩ []) Try.func39 rfl (by kernel_rfl) (by exact trivial) (fun x y h => (sunS_run x).trans h)

def ringS : (Int × Int × Int × Int) × (Int × Int) × (Int × Int) → Option ((Int × Int) × Int) :=
fun x =>
  ob (okEpiS (x.fst.1, x.fst.snd.1, x.fst.snd.snd.1, x.fst.snd.snd.2)) fun y =>
    br (!y) (some (((0 : Int), (0 : Int)), (1 : Int)))
      (ob (okRatS (x.snd.fst.1, x.snd.fst.2)) fun y =>
        br (!y) (some (((0 : Int), (0 : Int)), (1 : Int)))
          (ob (okRatS (x.snd.snd.1, x.snd.snd.2)) fun y =>
            br (!y) (some (((0 : Int), (0 : Int)), (1 : Int)))
              (ob (turnS ((x.snd.fst.1, x.snd.fst.2), (x.snd.snd.1, x.snd.snd.2), x.fst.1, x.fst.snd.1)) fun y =>
                some ((y.fst.1, y.fst.2), y.2))))
def ringS_con : Con := ⟨[.pair (i64) (.pair (i64) (.pair (i64) (i64))), .pair (i64) (i64), .pair (i64) (i64)], [.d (.pair (i64) (i64)), .d (i64)], ringS⟩
theorem ringS_run (x : Dens [.pair (i64) (.pair (i64) (.pair (i64) (i64))), .pair (i64) (i64), .pair (i64) (i64)]) : runFn (mkEnv [(45, okEpiS_con), (53, okRatS_con), (67, turnS_con)] []) Try.f37 [.pair (i64) (.pair (i64) (.pair (i64) (i64))), .pair (i64) (i64), .pair (i64) (i64)] [.d (.pair (i64) (i64)), .d (i64)] x = ringS x := by kernel_rfl
theorem ringS_ok : ringS_con.ok Try.prog 37 := fn_ok (con := ringS_con) (mkEnv_ok (cons := [(45, okEpiS_con), (53, okRatS_con), (67, turnS_con)]) ⟨okEpiS_ok, okRatS_ok, turnS_ok, trivial⟩ []) Try.func37 rfl (by kernel_rfl) (by exact trivial) (fun x y h => (ringS_run x).trans h)

def planetS : (Int × Int × Int × Int) × (Int × Int) × (Int × Int) → Option ((Int × Int) × Int) :=
fun x =>
  ob (okEpiS (x.fst.1, x.fst.snd.1, x.fst.snd.snd.1, x.fst.snd.snd.2)) fun y =>
    br (!y) (some (((0 : Int), (0 : Int)), (1 : Int)))
      (ob (okRatS (x.snd.fst.1, x.snd.fst.2)) fun y =>
        br (!y) (some (((0 : Int), (0 : Int)), (1 : Int)))
          (ob (okRatS (x.snd.snd.1, x.snd.snd.2)) fun y =>
            br (!y) (some (((0 : Int), (0 : Int)), (1 : Int)))
              (ob (turnS ((x.snd.fst.1, x.snd.fst.2), (x.snd.snd.1, x.snd.snd.2), x.fst.1, x.fst.snd.snd.1)) fun y =>
                some ((y.fst.1, y.fst.2), y.2))))
def planetS_con : Con := ⟨[.pair (i64) (.pair (i64) (.pair (i64) (i64))), .pair (i64) (i64), .pair (i64) (i64)], [.d (.pair (i64) (i64)), .d (i64)], planetS⟩
theorem planetS_run (x : Dens [.pair (i64) (.pair (i64) (.pair (i64) (i64))), .pair (i64) (i64), .pair (i64) (i64)]) : runFn (mkEnv [(45, okEpiS_con), (53, okRatS_con), (67, turnS_con)] []) Try.f35 [.pair (i64) (.pair (i64) (.pair (i64) (i64))), .pair (i64) (i64), .pair (i64) (i64)] [.d (.pair (i64) (i64)), .d (i64)] x = planetS x := by kernel_rfl
theorem planetS_ok : planetS_con.ok Try.prog 35 := fn_ok (con := planetS_con) (mkEnv_ok (cons := [(45, okEpiS_con), (53, okRatS_con), (67, turnS_con)]) ⟨okEpiS_ok, okRatS_ok, turnS_ok, trivial⟩ []) Try.func35 rfl (by kernel_rfl) (by exact trivial) (fun x y h => (planetS_run x).trans h)

def carrierS : (Int × Int × Int × Int) × (Int × Int) × (Int × Int) → Option ((Int × Int) × Int) :=
fun x =>
  ob (okEpiS (x.fst.1, x.fst.snd.1, x.fst.snd.snd.1, x.fst.snd.snd.2)) fun y =>
    br (!y) (some (((0 : Int), (0 : Int)), (1 : Int)))
      (ob (okRatS (x.snd.fst.1, x.snd.fst.2)) fun y =>
        br (!y) (some (((0 : Int), (0 : Int)), (1 : Int)))
          (ob (okRatS (x.snd.snd.1, x.snd.snd.2)) fun y =>
            br (!y) (some (((0 : Int), (0 : Int)), (1 : Int)))
              (ob (mkS (x.fst.1, IntKind.i64.wrap (x.fst.1 + x.fst.snd.1))) fun y =>
                ob (mkS (x.fst.snd.1, IntKind.i64.wrap (x.fst.1 + x.fst.snd.1))) fun y_1 =>
                  ob (mulS ((x.snd.fst.1, x.snd.fst.2), y.fst.1, y.fst.2)) fun y =>
                    ob (mulS ((x.snd.snd.1, x.snd.snd.2), y_1.fst.1, y_1.fst.2)) fun y_2 =>
                      br (!y.2) (some (((0 : Int), (0 : Int)), (2 : Int)))
                        (br (!y_2.2) (some (((0 : Int), (0 : Int)), (2 : Int)))
                          (ob (addS ((y.fst.1, y.fst.2), y_2.fst.1, y_2.fst.2)) fun y =>
                            ob (codeS ((y.fst.1, y.fst.2), y.2)) fun y => some ((y.fst.1, y.fst.2), y.2))))))
def carrierS_con : Con := ⟨[.pair (i64) (.pair (i64) (.pair (i64) (i64))), .pair (i64) (i64), .pair (i64) (i64)], [.d (.pair (i64) (i64)), .d (i64)], carrierS⟩
theorem carrierS_run (x : Dens [.pair (i64) (.pair (i64) (.pair (i64) (i64))), .pair (i64) (i64), .pair (i64) (i64)]) : runFn (mkEnv [(45, okEpiS_con), (53, okRatS_con), (63, mkS_con), (64, mulS_con), (54, addS_con), (65, codeS_con)] []) Try.f33 [.pair (i64) (.pair (i64) (.pair (i64) (i64))), .pair (i64) (i64), .pair (i64) (i64)] [.d (.pair (i64) (i64)), .d (i64)] x = carrierS x := by kernel_rfl
theorem carrierS_ok : carrierS_con.ok Try.prog 33 := fn_ok (con := carrierS_con) (mkEnv_ok (cons := [(45, okEpiS_con), (53, okRatS_con), (63, mkS_con), (64, mulS_con), (54, addS_con), (65, codeS_con)]) ⟨okEpiS_ok, okRatS_ok, mkS_ok, mulS_ok, addS_ok, codeS_ok, trivial⟩ []) Try.func33 rfl (by kernel_rfl) (by exact trivial) (fun x y h => (carrierS_run x).trans h)

def l07RatioS : (Int × Int × Int × Int) × Int × Int → Option ((Int × Int) × Int) :=
fun x =>
  ob (wholeS (1 : Int)) fun y =>
    ob (wholeS (0 : Int)) fun y_1 =>
      br (IntKind.i64.wrap (IntKind.i64.wrap ((3 : Int) * x.snd.1) + x.snd.2) == (1 : Int))
        (ob (ringS ((x.fst.1, x.fst.snd.1, x.fst.snd.snd.1, x.fst.snd.snd.2), (y.1, y.2), y_1.1, y_1.2)) fun y =>
          some ((y.fst.1, y.fst.2), y.2))
        (br (IntKind.i64.wrap (IntKind.i64.wrap ((3 : Int) * x.snd.1) + x.snd.2) == (2 : Int))
          (ob (carrierS ((x.fst.1, x.fst.snd.1, x.fst.snd.snd.1, x.fst.snd.snd.2), (y.1, y.2), y_1.1, y_1.2)) fun y =>
            some ((y.fst.1, y.fst.2), y.2))
          (br (IntKind.i64.wrap (IntKind.i64.wrap ((3 : Int) * x.snd.1) + x.snd.2) == (3 : Int))
            (ob (sunS ((x.fst.1, x.fst.snd.1, x.fst.snd.snd.1, x.fst.snd.snd.2), (y.1, y.2), y_1.1, y_1.2)) fun y =>
              some ((y.fst.1, y.fst.2), y.2))
            (br (IntKind.i64.wrap (IntKind.i64.wrap ((3 : Int) * x.snd.1) + x.snd.2) == (5 : Int))
              (ob (carrierS ((x.fst.1, x.fst.snd.1, x.fst.snd.snd.1, x.fst.snd.snd.2), (y_1.1, y_1.2), y.1, y.2))
                fun y => some ((y.fst.1, y.fst.2), y.2))
              (br (IntKind.i64.wrap (IntKind.i64.wrap ((3 : Int) * x.snd.1) + x.snd.2) == (6 : Int))
                (ob (sunS ((x.fst.1, x.fst.snd.1, x.fst.snd.snd.1, x.fst.snd.snd.2), (y_1.1, y_1.2), y.1, y.2)) fun y =>
                  some ((y.fst.1, y.fst.2), y.2))
                (ob (ringS ((x.fst.1, x.fst.snd.1, x.fst.snd.snd.1, x.fst.snd.snd.2), (y_1.1, y_1.2), y.1, y.2))
                  fun y => some ((y.fst.1, y.fst.2), y.2))))))
def l07RatioS_con : Con := ⟨[.pair (i64) (.pair (i64) (.pair (i64) (i64))), i64, i64], [.d (.pair (i64) (i64)), .d (i64)], l07RatioS⟩
theorem l07RatioS_run (x : Dens [.pair (i64) (.pair (i64) (.pair (i64) (i64))), i64, i64]) : runFn (mkEnv [(79, wholeS_con), (37, ringS_con), (33, carrierS_con), (39, sunS_con)] []) Try.f69 [.pair (i64) (.pair (i64) (.pair (i64) (i64))), i64, i64] [.d (.pair (i64) (i64)), .d (i64)] x = l07RatioS x := by kernel_rfl
theorem l07RatioS_ok : l07RatioS_con.ok Try.prog 69 := fn_ok (con := l07RatioS_con) (mkEnv_ok (cons := [(79, wholeS_con), (37, ringS_con), (33, carrierS_con), (39, sunS_con)]) ⟨wholeS_ok, ringS_ok, carrierS_ok, sunS_ok, trivial⟩ []) Try.func69 rfl (by kernel_rfl) (by exact trivial) (fun x y h => (l07RatioS_run x).trans h)

def epiRatS : (Int × Int × Int × Int) × Int × Int → Option ((Int × Int) × Int) :=
fun x =>
  ob (okEpiS (x.fst.1, x.fst.snd.1, x.fst.snd.snd.1, x.fst.snd.snd.2)) fun y =>
    br (!y) (some (((0 : Int), (0 : Int)), (1 : Int)))
      (ob (inS (x.snd.1, (0 : Int), (2 : Int))) fun y =>
        br (!y) (some (((0 : Int), (0 : Int)), (2 : Int)))
          (ob (inS (x.snd.2, (0 : Int), (2 : Int))) fun y =>
            br (!y) (some (((0 : Int), (0 : Int)), (2 : Int)))
              (br (x.snd.1 == x.snd.2) (some (((0 : Int), (0 : Int)), (2 : Int)))
                (ob (l07RatioS ((x.fst.1, x.fst.snd.1, x.fst.snd.snd.1, x.fst.snd.snd.2), x.snd.1, x.snd.2)) fun y =>
                  some ((y.fst.1, y.fst.2), y.2)))))
def epiRatS_con : Con := ⟨[.pair (i64) (.pair (i64) (.pair (i64) (i64))), i64, i64], [.d (.pair (i64) (i64)), .d (i64)], epiRatS⟩
theorem epiRatS_run (x : Dens [.pair (i64) (.pair (i64) (.pair (i64) (i64))), i64, i64]) : runFn (mkEnv [(45, okEpiS_con), (47, inS_con), (69, l07RatioS_con)] []) Try.f41 [.pair (i64) (.pair (i64) (.pair (i64) (i64))), i64, i64] [.d (.pair (i64) (i64)), .d (i64)] x = epiRatS x := by kernel_rfl
theorem epiRatS_ok : epiRatS_con.ok Try.prog 41 := fn_ok (con := epiRatS_con) (mkEnv_ok (cons := [(45, okEpiS_con), (47, inS_con), (69, l07RatioS_con)]) ⟨okEpiS_ok, inS_ok, l07RatioS_ok, trivial⟩ []) Try.func41 rfl (by kernel_rfl) (by exact trivial) (fun x y h => (epiRatS_run x).trans h)

def toEpiL : (Int × Int × Int × Int) → Option ((Int × Int × Int × Int)) :=
fun x => some (x.1, x.snd.1, x.snd.snd.1, x.snd.snd.2)
def toEpiL_con : Con := ⟨[.pair (i64) (.pair (i64) (.pair (i64) (i64)))], [.d (.pair (i64) (.pair (i64) (.pair (i64) (i64))))], toEpiL⟩
theorem toEpiL_run (x : Dens [.pair (i64) (.pair (i64) (.pair (i64) (i64)))]) : runFn (mkEnv [] []) Try.f15 [.pair (i64) (.pair (i64) (.pair (i64) (i64)))] [.d (.pair (i64) (.pair (i64) (.pair (i64) (i64))))] x = toEpiL x := by kernel_rfl
theorem toEpiL_ok : toEpiL_con.ok Try.prog 15 := fn_ok (con := toEpiL_con) (mkEnv_ok (cons := []) trivial []) Try.func15 rfl (by kernel_rfl) (by exact trivial) (fun x y h => (toEpiL_run x).trans h)

def toRatL : (Int × Int) → Option ((Int × Int)) :=
fun x => some (x.1, x.2)
def toRatL_con : Con := ⟨[.pair (i64) (i64)], [.d (.pair (i64) (i64))], toRatL⟩
theorem toRatL_run (x : Dens [.pair (i64) (i64)]) : runFn (mkEnv [] []) Try.f23 [.pair (i64) (i64)] [.d (.pair (i64) (i64))] x = toRatL x := by kernel_rfl
theorem toRatL_ok : toRatL_con.ok Try.prog 23 := fn_ok (con := toRatL_con) (mkEnv_ok (cons := []) trivial []) Try.func23 rfl (by kernel_rfl) (by exact trivial) (fun x y h => (toRatL_run x).trans h)

def eqRatL : (Int × Int) × (Int × Int) → Option (Bool) :=
fun x => br (x.fst.1 != x.snd.1) (some false) (br (x.fst.2 != x.snd.2) (some false) (some true))
def eqRatL_con : Con := ⟨[.pair (i64) (i64), .pair (i64) (i64)], [.d (.bool)], eqRatL⟩
theorem eqRatL_run (x : Dens [.pair (i64) (i64), .pair (i64) (i64)]) : runFn (mkEnv [] []) Try.f25 [.pair (i64) (i64), .pair (i64) (i64)] [.d (.bool)] x = eqRatL x := by kernel_rfl
theorem eqRatL_ok : eqRatL_con.ok Try.prog 25 := fn_ok (con := eqRatL_con) (mkEnv_ok (cons := []) trivial []) Try.func25 rfl (by kernel_rfl) (by exact trivial) (fun x y h => (eqRatL_run x).trans h)

def lawSun : (Int × Int × Int × Int) × (Int × Int) × (Int × Int) → Option (Bool) :=
fun x =>
  ob (toEpiL (x.fst.1, x.fst.snd.1, x.fst.snd.snd.1, x.fst.snd.snd.2)) fun y =>
    ob (toRatL (x.snd.fst.1, x.snd.fst.2)) fun y_1 =>
      ob (toRatL (x.snd.snd.1, x.snd.snd.2)) fun y_2 =>
        ob (sunS ((y.1, y.snd.1, y.snd.snd.1, y.snd.snd.2), (y_1.1, y_1.2), y_2.1, y_2.2)) fun y =>
          ob (toEpiL (x.fst.1, x.fst.snd.1, x.fst.snd.snd.1, x.fst.snd.snd.2)) fun y_3 =>
            ob (toRatL (x.snd.fst.1, x.snd.fst.2)) fun y_4 =>
              ob (toRatL (x.snd.snd.1, x.snd.snd.2)) fun y_5 =>
                ob (sunI ((y_3.1, y_3.snd.1, y_3.snd.snd.1, y_3.snd.snd.2), (y_4.1, y_4.2), y_5.1, y_5.2)) fun y_6 =>
                  ob (eqRatL ((y_6.fst.1, y_6.fst.2), y.fst.1, y.fst.2)) fun y_7 =>
                    br (!y_7) (some false) (br (y_6.2 != y.2) (some false) (some true))
def lawSun_con : Con := ⟨[.pair (i64) (.pair (i64) (.pair (i64) (i64))), .pair (i64) (i64), .pair (i64) (i64)], [.d (.bool)], lawSun⟩
theorem lawSun_run (x : Dens [.pair (i64) (.pair (i64) (.pair (i64) (i64))), .pair (i64) (i64), .pair (i64) (i64)]) : runFn (mkEnv [(15, toEpiL_con), (23, toRatL_con), (39, sunS_con), (40, sunI_con), (25, eqRatL_con)] []) Try.f11 [.pair (i64) (.pair (i64) (.pair (i64) (i64))), .pair (i64) (i64), .pair (i64) (i64)] [.d (.bool)] x = lawSun x := by kernel_rfl
theorem lawSun_ok : lawSun_con.ok Try.prog 11 := fn_ok (con := lawSun_con) (mkEnv_ok (cons := [(15, toEpiL_con), (23, toRatL_con), (39, sunS_con), (40, sunI_con), (25, eqRatL_con)]) ⟨toEpiL_ok, toRatL_ok, sunS_ok, sunI_ok, eqRatL_ok, trivial⟩ []) Try.func11 rfl (by kernel_rfl) (by exact trivial) (fun x y h => (lawSun_run x).trans h)

def lawRing : (Int × Int × Int × Int) × (Int × Int) × (Int × Int) → Option (Bool) :=
fun x =>
  ob (toEpiL (x.fst.1, x.fst.snd.1, x.fst.snd.snd.1, x.fst.snd.snd.2)) fun y =>
    ob (toRatL (x.snd.fst.1, x.snd.fst.2)) fun y_1 =>
      ob (toRatL (x.snd.snd.1, x.snd.snd.2)) fun y_2 =>
        ob (ringS ((y.1, y.snd.1, y.snd.snd.1, y.snd.snd.2), (y_1.1, y_1.2), y_2.1, y_2.2)) fun y =>
          ob (toEpiL (x.fst.1, x.fst.snd.1, x.fst.snd.snd.1, x.fst.snd.snd.2)) fun y_3 =>
            ob (toRatL (x.snd.fst.1, x.snd.fst.2)) fun y_4 =>
              ob (toRatL (x.snd.snd.1, x.snd.snd.2)) fun y_5 =>
                ob (ringI ((y_3.1, y_3.snd.1, y_3.snd.snd.1, y_3.snd.snd.2), (y_4.1, y_4.2), y_5.1, y_5.2)) fun y_6 =>
                  ob (eqRatL ((y_6.fst.1, y_6.fst.2), y.fst.1, y.fst.2)) fun y_7 =>
                    br (!y_7) (some false) (br (y_6.2 != y.2) (some false) (some true))
def lawRing_con : Con := ⟨[.pair (i64) (.pair (i64) (.pair (i64) (i64))), .pair (i64) (i64), .pair (i64) (i64)], [.d (.bool)], lawRing⟩
theorem lawRing_run (x : Dens [.pair (i64) (.pair (i64) (.pair (i64) (i64))), .pair (i64) (i64), .pair (i64) (i64)]) : runFn (mkEnv [(15, toEpiL_con), (23, toRatL_con), (37, ringS_con), (38, ringI_con), (25, eqRatL_con)] []) Try.f10 [.pair (i64) (.pair (i64) (.pair (i64) (i64))), .pair (i64) (i64), .pair (i64) (i64)] [.d (.bool)] x = lawRing x := by kernel_rfl
theorem lawRing_ok : lawRing_con.ok Try.prog 10 := fn_ok (con := lawRing_con) (mkEnv_ok (cons := [(15, toEpiL_con), (23, toRatL_con), (37, ringS_con), (38, ringI_con), (25, eqRatL_con)]) ⟨toEpiL_ok, toRatL_ok, ringS_ok, ringI_ok, eqRatL_ok, trivial⟩ []) Try.func10 rfl (by kernel_rfl) (by exact trivial) (fun x y h => (lawRing_run x).trans h)

def lawPlanet : (Int × Int × Int × Int) × (Int × Int) × (Int × Int) → Option (Bool) :=
fun x =>
  ob (toEpiL (x.fst.1, x.fst.snd.1, x.fst.snd.snd.1, x.fst.snd.snd.2)) fun y =>
    ob (toRatL (x.snd.fst.1, x.snd.fst.2)) fun y_1 =>
      ob (toRatL (x.snd.snd.1, x.snd.snd.2)) fun y_2 =>
        ob (planetS ((y.1, y.snd.1, y.snd.snd.1, y.snd.snd.2), (y_1.1, y_1.2), y_2.1, y_2.2)) fun y =>
          ob (toEpiL (x.fst.1, x.fst.snd.1, x.fst.snd.snd.1, x.fst.snd.snd.2)) fun y_3 =>
            ob (toRatL (x.snd.fst.1, x.snd.fst.2)) fun y_4 =>
              ob (toRatL (x.snd.snd.1, x.snd.snd.2)) fun y_5 =>
                ob (planetI ((y_3.1, y_3.snd.1, y_3.snd.snd.1, y_3.snd.snd.2), (y_4.1, y_4.2), y_5.1, y_5.2)) fun y_6 =>
                  ob (eqRatL ((y_6.fst.1, y_6.fst.2), y.fst.1, y.fst.2)) fun y_7 =>
                    br (!y_7) (some false) (br (y_6.2 != y.2) (some false) (some true))
def lawPlanet_con : Con := ⟨[.pair (i64) (.pair (i64) (.pair (i64) (i64))), .pair (i64) (i64), .pair (i64) (i64)], [.d (.bool)], lawPlanet⟩
theorem lawPlanet_run (x : Dens [.pair (i64) (.pair (i64) (.pair (i64) (i64))), .pair (i64) (i64), .pair (i64) (i64)]) : runFn (mkEnv [(15, toEpiL_con), (23, toRatL_con), (35, planetS_con), (36, planetI_con), (25, eqRatL_con)] []) Try.f9 [.pair (i64) (.pair (i64) (.pair (i64) (i64))), .pair (i64) (i64), .pair (i64) (i64)] [.d (.bool)] x = lawPlanet x := by kernel_rfl
theorem lawPlanet_ok : lawPlanet_con.ok Try.prog 9 := fn_ok (con := lawPlanet_con) (mkEnv_ok (cons := [(15, toEpiL_con), (23, toRatL_con), (35, planetS_con), (36, planetI_con), (25, eqRatL_con)]) ⟨toEpiL_ok, toRatL_ok, planetS_ok, planetI_ok, eqRatL_ok, trivial⟩ []) Try.func9 rfl (by kernel_rfl) (by exact trivial) (fun x y h => (lawPlanet_run x).trans h)

def lawCarrier : (Int × Int × Int × Int) × (Int × Int) × (Int × Int) → Option (Bool) :=
fun x =>
  ob (toEpiL (x.fst.1, x.fst.snd.1, x.fst.snd.snd.1, x.fst.snd.snd.2)) fun y =>
    ob (toRatL (x.snd.fst.1, x.snd.fst.2)) fun y_1 =>
      ob (toRatL (x.snd.snd.1, x.snd.snd.2)) fun y_2 =>
        ob (carrierS ((y.1, y.snd.1, y.snd.snd.1, y.snd.snd.2), (y_1.1, y_1.2), y_2.1, y_2.2)) fun y =>
          ob (toEpiL (x.fst.1, x.fst.snd.1, x.fst.snd.snd.1, x.fst.snd.snd.2)) fun y_3 =>
            ob (toRatL (x.snd.fst.1, x.snd.fst.2)) fun y_4 =>
              ob (toRatL (x.snd.snd.1, x.snd.snd.2)) fun y_5 =>
                ob (carrierI ((y_3.1, y_3.snd.1, y_3.snd.snd.1, y_3.snd.snd.2), (y_4.1, y_4.2), y_5.1, y_5.2))
                  fun y_6 =>
                  ob (eqRatL ((y_6.fst.1, y_6.fst.2), y.fst.1, y.fst.2)) fun y_7 =>
                    br (!y_7) (some false) (br (y_6.2 != y.2) (some false) (some true))
def lawCarrier_con : Con := ⟨[.pair (i64) (.pair (i64) (.pair (i64) (i64))), .pair (i64) (i64), .pair (i64) (i64)], [.d (.bool)], lawCarrier⟩
theorem lawCarrier_run (x : Dens [.pair (i64) (.pair (i64) (.pair (i64) (i64))), .pair (i64) (i64), .pair (i64) (i64)]) : runFn (mkEnv [(15, toEpiL_con), (23, toRatL_con), (33, carrierS_con), (34, carrierI_con), (25, eqRatL_con)] []) Try.f8 [.pair (i64) (.pair (i64) (.pair (i64) (i64))), .pair (i64) (i64), .pair (i64) (i64)] [.d (.bool)] x = lawCarrier x := by kernel_rfl
theorem lawCarrier_ok : lawCarrier_con.ok Try.prog 8 := fn_ok (con := lawCarrier_con) (mkEnv_ok (cons := [(15, toEpiL_con), (23, toRatL_con), (33, carrierS_con), (34, carrierI_con), (25, eqRatL_con)]) ⟨toEpiL_ok, toRatL_ok, carrierS_ok, carrierI_ok, eqRatL_ok, trivial⟩ []) Try.func8 rfl (by kernel_rfl) (by exact trivial) (fun x y h => (lawCarrier_run x).trans h)

def lawEpiRat : (Int × Int × Int × Int) × Int × Int → Option (Bool) :=
fun x =>
  ob (toEpiL (x.fst.1, x.fst.snd.1, x.fst.snd.snd.1, x.fst.snd.snd.2)) fun y =>
    ob (epiRatS ((y.1, y.snd.1, y.snd.snd.1, y.snd.snd.2), x.snd.1, x.snd.2)) fun y =>
      ob (toEpiL (x.fst.1, x.fst.snd.1, x.fst.snd.snd.1, x.fst.snd.snd.2)) fun y_1 =>
        ob (epiRatI ((y_1.1, y_1.snd.1, y_1.snd.snd.1, y_1.snd.snd.2), x.snd.1, x.snd.2)) fun y_2 =>
          ob (eqRatL ((y_2.fst.1, y_2.fst.2), y.fst.1, y.fst.2)) fun y_3 =>
            br (!y_3) (some false) (br (y_2.2 != y.2) (some false) (some true))
def lawEpiRat_con : Con := ⟨[.pair (i64) (.pair (i64) (.pair (i64) (i64))), i64, i64], [.d (.bool)], lawEpiRat⟩
theorem lawEpiRat_run (x : Dens [.pair (i64) (.pair (i64) (.pair (i64) (i64))), i64, i64]) : runFn (mkEnv [(15, toEpiL_con), (41, epiRatS_con), (42, epiRatI_con), (25, eqRatL_con)] []) Try.f12 [.pair (i64) (.pair (i64) (.pair (i64) (i64))), i64, i64] [.d (.bool)] x = lawEpiRat x := by kernel_rfl
theorem lawEpiRat_ok : lawEpiRat_con.ok Try.prog 12 := fn_ok (con := lawEpiRat_con) (mkEnv_ok (cons := [(15, toEpiL_con), (41, epiRatS_con), (42, epiRatI_con), (25, eqRatL_con)]) ⟨toEpiL_ok, epiRatS_ok, epiRatI_ok, eqRatL_ok, trivial⟩ []) Try.func12 rfl (by kernel_rfl) (by exact trivial) (fun x y h => (lawEpiRat_run x).trans h)

end Rx
end Go.Proofs.Ytaaieejhbpdmoaa
