/- What the functions of RxFnSp come to, and their contracts. No conditions. -/
import Derived.Test.YthehdbedojcpdaaRxEnv
import Derived.Test.YthehdbedojcpdaaRxSrc
import Derived.Test.YthehdbedojcpdaaRxSpeeds
namespace Go.Proofs.Ythehdbedojcpdaa
namespace Rx
open Go

noncomputable section
def oneW : (List (Int) × Int × Int) × Int → Option ((Bool) × ((List (Int) × Int × Int) × Int)) :=
fun x =>
  ob (pickS ((x.fst.1, x.fst.snd.1, x.fst.snd.2), x.2)) fun y =>
    some (y.1 == (0 : Int), (y.snd.fst.1, y.snd.fst.snd.1, y.snd.fst.snd.2), x.2)
def oneW_con : MCon := ⟨[.box 146 (.pair (.slice (.int .u8)) (.pair (i64) (u64))), .v (.d (i64))], [.d (.bool)], oneW⟩
theorem oneW_run (x : ADens [.box 146 (.pair (.slice (.int .u8)) (.pair (i64) (u64))), .v (.d (i64))]) : runFnM (mkEnvM [] [(111, pickS_con)] []) Try.f113 [.box 146 (.pair (.slice (.int .u8)) (.pair (i64) (u64))), .v (.d (i64))] [.d (.bool)] x = oneW x := by kernel_rfl
theorem oneW_ok : oneW_con.ok Try.prog 113 := fnM_ok (con := oneW_con) (mkEnvM_ok (cons := []) (mcons := [(111, pickS_con)]) trivial ⟨pickS_ok, trivial⟩ []) Try.func113 rfl (by kernel_rfl) (by exact trivial) (fun x y h => (oneW_run x).trans h)

def namesWS : Unit → Option (List (ByteArray)) :=
fun x =>
  some
    [(⟨⟨[(103 : UInt8), (114 : UInt8), (101 : UInt8), (97 : UInt8), (116 : UInt8)]⟩⟩ : ByteArray),
      (⟨⟨[(99 : UInt8), (101 : UInt8), (110 : UInt8), (116 : UInt8), (101 : UInt8), (114 : UInt8)]⟩⟩ : ByteArray),
      (⟨⟨[(116 : UInt8), (104 : UInt8), (105 : UInt8), (114 : UInt8), (100 : UInt8)]⟩⟩ : ByteArray),
      (⟨⟨[(101 : UInt8), (115 : UInt8), (99 : UInt8), (97 : UInt8), (112 : UInt8), (101 : UInt8)]⟩⟩ : ByteArray),
      (⟨⟨[(99 : UInt8), (97 : UInt8), (110 : UInt8), (110 : UInt8), (111 : UInt8), (110 : UInt8)]⟩⟩ : ByteArray),
      (⟨⟨[(104 : UInt8), (111 : UInt8), (117 : UInt8), (114 : UInt8)]⟩⟩ : ByteArray),
      (⟨⟨[(109 : UInt8), (105 : UInt8), (110 : UInt8), (117 : UInt8), (116 : UInt8), (101 : UInt8)]⟩⟩ : ByteArray),
      (⟨⟨[(115 : UInt8), (116 : UInt8), (114 : UInt8), (105 : UInt8), (107 : UInt8), (101 : UInt8)]⟩⟩ : ByteArray),
      (⟨⟨[(119 : UInt8), (97 : UInt8), (114 : UInt8), (110 : UInt8)]⟩⟩ : ByteArray),
      (⟨⟨[(102 : UInt8), (108 : UInt8), (121 : UInt8)]⟩⟩ : ByteArray),
      (⟨⟨[(109 : UInt8), (111 : UInt8), (111 : UInt8), (110 : UInt8)]⟩⟩ : ByteArray),
      (⟨⟨[(100 : UInt8), (97 : UInt8), (116 : UInt8), (101 : UInt8)]⟩⟩ : ByteArray),
      (⟨⟨[(97 : UInt8)]⟩⟩ : ByteArray), (⟨⟨[(98 : UInt8)]⟩⟩ : ByteArray),
      (⟨⟨[(99 : UInt8)]⟩⟩ : ByteArray), (⟨⟨[(100 : UInt8)]⟩⟩ : ByteArray)]
def namesWS_con : Con := ⟨[], [.row 9 (.str)], namesWS⟩
theorem namesWS_run (x : Dens []) : runFn (mkEnv [] []) Try.f110 [] [.row 9 (.str)] x = namesWS x := by kernel_rfl
theorem namesWS_ok : namesWS_con.ok Try.prog 110 := fn_ok (con := namesWS_con) (mkEnv_ok (cons := []) trivial []) Try.func110 rfl (by kernel_rfl) (by exact trivial) (fun x y h => (namesWS_run x).trans h)

def drawWN_vars : Vars := [(0, .box 2 146 (.pair (.slice (.int .u8)) (.pair (i64) (u64)))), (4, .box 0 33 (.pair (.slice (.pair (.str) (.slice (i64)))) (.slice (.pair (i64) (.pair (i64) (.pair (i64) (i64))))))), (5, .boxR 33 (.pair (.row 52 (.pair (.str) (.slice (i64)))) (.row 44 (.pair (i64) (.pair (i64) (.pair (i64) (i64))))))), (6, .row 0 9 (.str)), (7, .val (i64)), (8, .val (i64)), (9, .boxR 52 (.pair (.d (.str)) (.row 2 (i64)))), (10, .val (i64)), (11, .val (i64))]
def drawWN_step : (List (Int) × Int × Int) × (List ((ByteArray × List (Int))) × List ((Int × Int × Int × Int))) × (List ((ByteArray × List (Int))) × List ((Int × Int × Int × Int))) × List (ByteArray) × Int × Int × (ByteArray × List (Int)) × Int × Int → Option (LRes × ((List (Int) × Int × Int) × (List ((ByteArray × List (Int))) × List ((Int × Int × Int × Int))) × (List ((ByteArray × List (Int))) × List ((Int × Int × Int × Int))) × List (ByteArray) × Int × Int × (ByteArray × List (Int)) × Int × Int)) :=
fun x =>
  br (decide (x.snd.snd.snd.snd.snd.snd.snd.2 < x.snd.snd.snd.snd.snd.snd.snd.1))
    (ob
      (amongS
        ((x.fst.1, x.fst.snd.1, x.fst.snd.2),
          [(64 : Int), (8 : Int), (60 : Int), (10 : Int), (12 : Int), (48 : Int), (30 : Int), (239 : Int)]))
      fun y =>
      br (decide (List.length x.snd.snd.snd.snd.snd.snd.fst.2 + [y.1].length ≤ (4294967296 : Nat)))
        (some
          (LRes.next, (y.snd.fst.1, y.snd.fst.snd.1, y.snd.fst.snd.2), (x.snd.fst.1, x.snd.fst.2),
            (x.snd.snd.fst.1, x.snd.snd.fst.2), x.snd.snd.snd.1, x.snd.snd.snd.snd.1, x.snd.snd.snd.snd.snd.1,
            (x.snd.snd.snd.snd.snd.snd.fst.1, x.snd.snd.snd.snd.snd.snd.fst.2 ++ [y.1]),
            x.snd.snd.snd.snd.snd.snd.snd.1, IntKind.i64.wrap (x.snd.snd.snd.snd.snd.snd.snd.2 + (1 : Int))))
        none)
    (some
      (LRes.out, (x.fst.1, x.fst.snd.1, x.fst.snd.2), (x.snd.fst.1, x.snd.fst.2), (x.snd.snd.fst.1, x.snd.snd.fst.2),
        x.snd.snd.snd.1, x.snd.snd.snd.snd.1, x.snd.snd.snd.snd.snd.1,
        (x.snd.snd.snd.snd.snd.snd.fst.1, x.snd.snd.snd.snd.snd.snd.fst.2), x.snd.snd.snd.snd.snd.snd.snd.1,
        x.snd.snd.snd.snd.snd.snd.snd.2))
def drawWN_fuel : (List (Int) × Int × Int) × (List ((ByteArray × List (Int))) × List ((Int × Int × Int × Int))) × (List ((ByteArray × List (Int))) × List ((Int × Int × Int × Int))) × List (ByteArray) × Int × Int × (ByteArray × List (Int)) × Int × Int → Nat := fun s => (s.2.2.2.2.2.2.2.1 - s.2.2.2.2.2.2.2.2).toNat + 1
def drawWN : (List (Int) × Int × Int) × (List ((ByteArray × List (Int))) × List ((Int × Int × Int × Int))) × (List ((ByteArray × List (Int))) × List ((Int × Int × Int × Int))) × List (ByteArray) × Int × Int × (ByteArray × List (Int)) × Int × Int → Option ((List (Int) × Int × Int) × (List ((ByteArray × List (Int))) × List ((Int × Int × Int × Int))) × (List ((ByteArray × List (Int))) × List ((Int × Int × Int × Int))) × List (ByteArray) × Int × Int × (ByteArray × List (Int)) × Int × Int) := fun s => iterP drawWN_step (drawWN_fuel s) s
def drawWN_L : LoopC := ⟨drawWN_vars, 2, .plain drawWN⟩
noncomputable def drawWN_key : Nat := key (loopIn (loopAt Try.f83 0) 0)
theorem drawWN_stepok (x : drawWN_vars.den) : stepOf (mkEnvM [] [(112, amongS_con)] []) Try.f83.ntmps drawWN_vars 2 (loopIn (loopAt Try.f83 0) 0) x = drawWN_step x := by kernel_rfl
theorem drawWN_ok : LoopOK Try.prog Try.f83.ntmps drawWN_L (loopIn (loopAt Try.f83 0) 0)   := iterP_loop (n := Try.f83.ntmps) (vs := drawWN_vars) (out := 2) (body := loopIn (loopAt Try.f83 0) 0) (mkEnvM_ok (cons := []) (mcons := [(112, amongS_con)]) trivial ⟨amongS_ok, trivial⟩ []) drawWN_step drawWN_fuel (by exact trivial) drawWN_stepok

def drawWL_vars : Vars := [(0, .box 2 146 (.pair (.slice (.int .u8)) (.pair (i64) (u64)))), (4, .box 0 33 (.pair (.slice (.pair (.str) (.slice (i64)))) (.slice (.pair (i64) (.pair (i64) (.pair (i64) (i64))))))), (5, .boxR 33 (.pair (.row 52 (.pair (.str) (.slice (i64)))) (.row 44 (.pair (i64) (.pair (i64) (.pair (i64) (i64))))))), (6, .row 0 9 (.str)), (7, .val (i64)), (8, .val (i64))]
def drawWL_step : (List (Int) × Int × Int) × (List ((ByteArray × List (Int))) × List ((Int × Int × Int × Int))) × (List ((ByteArray × List (Int))) × List ((Int × Int × Int × Int))) × List (ByteArray) × Int × Int → Option (LRes × ((List (Int) × Int × Int) × (List ((ByteArray × List (Int))) × List ((Int × Int × Int × Int))) × (List ((ByteArray × List (Int))) × List ((Int × Int × Int × Int))) × List (ByteArray) × Int × Int)) :=
fun x =>
  br (decide (x.snd.snd.snd.snd.2 < x.snd.snd.snd.snd.1))
    (ob (idx x.snd.snd.snd.1 x.snd.snd.snd.snd.2) fun x_1 =>
      ob (List.get?Internal x.snd.snd.snd.1 (Int.toNat x.snd.snd.snd.snd.2)) fun x_2 =>
        ob (pickS ((x.fst.1, x.fst.snd.1, x.fst.snd.2), (3 : Int))) fun y =>
          ob
            (drawWN
              ((y.snd.fst.1, y.snd.fst.snd.1, y.snd.fst.snd.2), (x.snd.fst.1, x.snd.fst.2),
                (x.snd.snd.fst.1, x.snd.snd.fst.2), x.snd.snd.snd.1, x.snd.snd.snd.snd.1, x.snd.snd.snd.snd.2,
                (x_2, []), IntKind.i64.wrap ((1 : Int) + y.1), (0 : Int)))
            fun r =>
            br
              (decide
                (List.length r.snd.snd.fst.1 +
                    [(r.snd.snd.snd.snd.snd.snd.fst.1, r.snd.snd.snd.snd.snd.snd.fst.2)].length ≤
                  (4294967296 : Nat)))
              (br (decide ((0 : Int) < r.snd.snd.snd.snd.snd.1))
                (ob (oneW ((r.fst.1, r.fst.snd.1, r.fst.snd.2), (12 : Int))) fun y =>
                  br (!y.1)
                    (ob (pickS ((y.snd.fst.1, y.snd.fst.snd.1, y.snd.fst.snd.2), r.snd.snd.snd.snd.snd.1)) fun y =>
                      ob
                        (idx (r.snd.snd.fst.1 ++ [(r.snd.snd.snd.snd.snd.snd.fst.1, r.snd.snd.snd.snd.snd.snd.fst.2)])
                          y.1)
                        fun x =>
                        ob
                          ((r.snd.snd.fst.1 ++
                                [(r.snd.snd.snd.snd.snd.snd.fst.1, r.snd.snd.snd.snd.snd.snd.fst.2)]).get?Internal
                            (Int.toNat y.1))
                          fun x =>
                          ob (pickS ((y.snd.fst.1, y.snd.fst.snd.1, y.snd.fst.snd.2), (↑(List.length x.2) : Int)))
                            fun y_1 =>
                            ob
                              (pickS
                                ((y_1.snd.fst.1, y_1.snd.fst.snd.1, y_1.snd.fst.snd.2),
                                  (↑(List.length r.snd.snd.snd.snd.snd.snd.fst.2) : Int)))
                              fun y_2 =>
                              ob (oneW ((y_2.snd.fst.1, y_2.snd.fst.snd.1, y_2.snd.fst.snd.2), (3 : Int))) fun y_3 =>
                                br y_3.1
                                  (br
                                    (decide
                                      (List.length r.snd.snd.fst.2 +
                                          [(r.snd.snd.snd.snd.snd.1, y_2.1, y.1, y_1.1)].length ≤
                                        (4294967296 : Nat)))
                                    (some
                                      (LRes.next, (y_3.snd.fst.1, y_3.snd.fst.snd.1, y_3.snd.fst.snd.2),
                                        (r.snd.fst.1, r.snd.fst.2),
                                        (r.snd.snd.fst.1 ++
                                            [(r.snd.snd.snd.snd.snd.snd.fst.1, r.snd.snd.snd.snd.snd.snd.fst.2)],
                                          r.snd.snd.fst.2 ++ [(r.snd.snd.snd.snd.snd.1, y_2.1, y.1, y_1.1)]),
                                        r.snd.snd.snd.1, r.snd.snd.snd.snd.1,
                                        IntKind.i64.wrap (r.snd.snd.snd.snd.snd.1 + (1 : Int))))
                                    none)
                                  (br
                                    (decide
                                      (List.length r.snd.snd.fst.2 +
                                          [(y.1, y_1.1, r.snd.snd.snd.snd.snd.1, y_2.1)].length ≤
                                        (4294967296 : Nat)))
                                    (some
                                      (LRes.next, (y_3.snd.fst.1, y_3.snd.fst.snd.1, y_3.snd.fst.snd.2),
                                        (r.snd.fst.1, r.snd.fst.2),
                                        (r.snd.snd.fst.1 ++
                                            [(r.snd.snd.snd.snd.snd.snd.fst.1, r.snd.snd.snd.snd.snd.snd.fst.2)],
                                          r.snd.snd.fst.2 ++ [(y.1, y_1.1, r.snd.snd.snd.snd.snd.1, y_2.1)]),
                                        r.snd.snd.snd.1, r.snd.snd.snd.snd.1,
                                        IntKind.i64.wrap (r.snd.snd.snd.snd.snd.1 + (1 : Int))))
                                    none))
                    (some
                      (LRes.next, (y.snd.fst.1, y.snd.fst.snd.1, y.snd.fst.snd.2), (r.snd.fst.1, r.snd.fst.2),
                        (r.snd.snd.fst.1 ++ [(r.snd.snd.snd.snd.snd.snd.fst.1, r.snd.snd.snd.snd.snd.snd.fst.2)],
                          r.snd.snd.fst.2),
                        r.snd.snd.snd.1, r.snd.snd.snd.snd.1, IntKind.i64.wrap (r.snd.snd.snd.snd.snd.1 + (1 : Int)))))
                (some
                  (LRes.next, (r.fst.1, r.fst.snd.1, r.fst.snd.2), (r.snd.fst.1, r.snd.fst.2),
                    (r.snd.snd.fst.1 ++ [(r.snd.snd.snd.snd.snd.snd.fst.1, r.snd.snd.snd.snd.snd.snd.fst.2)],
                      r.snd.snd.fst.2),
                    r.snd.snd.snd.1, r.snd.snd.snd.snd.1, IntKind.i64.wrap (r.snd.snd.snd.snd.snd.1 + (1 : Int)))))
              none)
    (some
      (LRes.out, (x.fst.1, x.fst.snd.1, x.fst.snd.2), (x.snd.fst.1, x.snd.fst.2), (x.snd.snd.fst.1, x.snd.snd.fst.2),
        x.snd.snd.snd.1, x.snd.snd.snd.snd.1, x.snd.snd.snd.snd.2))
def drawWL_fuel : (List (Int) × Int × Int) × (List ((ByteArray × List (Int))) × List ((Int × Int × Int × Int))) × (List ((ByteArray × List (Int))) × List ((Int × Int × Int × Int))) × List (ByteArray) × Int × Int → Nat := fun s => (s.2.2.2.2.1 - s.2.2.2.2.2).toNat + 1
def drawWL : (List (Int) × Int × Int) × (List ((ByteArray × List (Int))) × List ((Int × Int × Int × Int))) × (List ((ByteArray × List (Int))) × List ((Int × Int × Int × Int))) × List (ByteArray) × Int × Int → Option ((List (Int) × Int × Int) × (List ((ByteArray × List (Int))) × List ((Int × Int × Int × Int))) × (List ((ByteArray × List (Int))) × List ((Int × Int × Int × Int))) × List (ByteArray) × Int × Int) := fun s => iterP drawWL_step (drawWL_fuel s) s
def drawWL_L : LoopC := ⟨drawWL_vars, 0, .plain drawWL⟩
noncomputable def drawWL_key : Nat := key (loopAt Try.f83 0)
theorem drawWL_stepok (x : drawWL_vars.den) : stepOf (frzE [(13, [9])] (mkEnvM [] [(111, pickS_con), (113, oneW_con)] [(drawWN_key, drawWN_L)])) Try.f83.ntmps drawWL_vars 0 (loopAt Try.f83 0) x = drawWL_step x := by kernel_rfl
theorem drawWL_ok : LoopOK Try.prog Try.f83.ntmps drawWL_L (loopAt Try.f83 0)   := iterP_loop (n := Try.f83.ntmps) (vs := drawWL_vars) (out := 0) (body := loopAt Try.f83 0) (frzE_ok (f := [(13, [9])]) (mkEnvM_ok (cons := []) (mcons := [(111, pickS_con), (113, oneW_con)]) trivial ⟨pickS_ok, oneW_ok, trivial⟩ [(drawWN_key, drawWN_L)])) drawWL_step drawWL_fuel (by exact ⟨drawWN_ok, trivial⟩) drawWL_stepok

def drawWS : (List (Int) × Int × Int) × Int → Option (((List ((ByteArray × List (Int))) × List ((Int × Int × Int × Int)))) × ((List (Int) × Int × Int) × Int)) :=
fun x =>
  ob (namesWS PUnit.unit) fun y =>
    ob (pickS ((x.fst.1, x.fst.snd.1, x.fst.snd.2), x.2)) fun y_1 =>
      ob
        (drawWL
          ((y_1.snd.fst.1, y_1.snd.fst.snd.1, y_1.snd.fst.snd.2), ([], []), ([], []), y,
            IntKind.i64.wrap ((1 : Int) + y_1.1), (0 : Int)))
        fun r =>
        br (decide ((2 : Int) < (↑(List.length r.snd.snd.fst.1) : Int)))
          (ob (oneW ((r.fst.1, r.fst.snd.1, r.fst.snd.2), (4 : Int))) fun y =>
            br y.1
              (ob
                (knownS
                  ((r.snd.snd.fst.1, r.snd.snd.fst.2), ((0 : Int), (0 : Int), (2 : Int), (0 : Int)),
                    (↑(List.length r.snd.snd.fst.2) : Int)))
                fun y_2 =>
                br (!y_2)
                  (br
                    (decide
                      (List.length r.snd.snd.fst.2 + [((0 : Int), (0 : Int), (2 : Int), (0 : Int))].length ≤
                        (4294967296 : Nat)))
                    (some
                      ((r.snd.snd.fst.1, r.snd.snd.fst.2 ++ [((0 : Int), (0 : Int), (2 : Int), (0 : Int))]),
                        (y.snd.fst.1, y.snd.fst.snd.1, y.snd.fst.snd.2), x.2))
                    none)
                  (some ((r.snd.snd.fst.1, r.snd.snd.fst.2), (y.snd.fst.1, y.snd.fst.snd.1, y.snd.fst.snd.2), x.2)))
              (some ((r.snd.snd.fst.1, r.snd.snd.fst.2), (y.snd.fst.1, y.snd.fst.snd.1, y.snd.fst.snd.2), x.2)))
          (some ((r.snd.snd.fst.1, r.snd.snd.fst.2), (r.fst.1, r.fst.snd.1, r.fst.snd.2), x.2))
def drawWS_con : MCon := ⟨[.box 146 (.pair (.slice (.int .u8)) (.pair (i64) (u64))), .v (.d (i64))], [.pair (.row 52 (.pair (.str) (.slice (i64)))) (.row 44 (.pair (i64) (.pair (i64) (.pair (i64) (i64)))))], drawWS⟩
theorem drawWS_run (x : ADens [.box 146 (.pair (.slice (.int .u8)) (.pair (i64) (u64))), .v (.d (i64))]) : runFnM (mkEnvM [(57, knownS_con), (110, namesWS_con)] [(111, pickS_con), (113, oneW_con)] [(drawWL_key, drawWL_L)]) Try.f83 [.box 146 (.pair (.slice (.int .u8)) (.pair (i64) (u64))), .v (.d (i64))] [.pair (.row 52 (.pair (.str) (.slice (i64)))) (.row 44 (.pair (i64) (.pair (i64) (.pair (i64) (i64)))))] x = drawWS x := by kernel_rfl
theorem drawWS_ok : drawWS_con.ok Try.prog 83 := fnM_ok (con := drawWS_con) (mkEnvM_ok (cons := [(57, knownS_con), (110, namesWS_con)]) (mcons := [(111, pickS_con), (113, oneW_con)]) ⟨knownS_ok, namesWS_ok, trivial⟩ ⟨pickS_ok, oneW_ok, trivial⟩ [(drawWL_key, drawWL_L)]) Try.func83 rfl (by kernel_rfl) (by exact ⟨drawWL_ok, trivial⟩) (fun x y h => (drawWS_run x).trans h)

def a2WorksS : List (Int) → Option ((List ((ByteArray × List (Int))) × List ((Int × Int × Int × Int)))) :=
fun x => ob (fromS x) fun y => ob (drawWS ((y.1, y.snd.1, y.snd.2), (7 : Int))) fun y => some (y.fst.1, y.fst.2)
def a2WorksS_con : Con := ⟨[.slice (.int .u8)], [.pair (.row 52 (.pair (.str) (.slice (i64)))) (.row 44 (.pair (i64) (.pair (i64) (.pair (i64) (i64)))))], a2WorksS⟩
theorem a2WorksS_run (x : Dens [.slice (.int .u8)]) : runFn (mkEnvM [(84, fromS_con)] [(83, drawWS_con)] []) Try.f39 [.slice (.int .u8)] [.pair (.row 52 (.pair (.str) (.slice (i64)))) (.row 44 (.pair (i64) (.pair (i64) (.pair (i64) (i64)))))] x = a2WorksS x := by kernel_rfl
theorem a2WorksS_ok : a2WorksS_con.ok Try.prog 39 := fn_ok (con := a2WorksS_con) (mkEnvM_ok (cons := [(84, fromS_con)]) (mcons := [(83, drawWS_con)]) ⟨fromS_ok, trivial⟩ ⟨drawWS_ok, trivial⟩ []) Try.func39 rfl (by kernel_rfl) (by exact trivial) (fun x y h => (a2WorksS_run x).trans h)

def a2LongW : List (Int) × List (Int) → Option (Bool) :=
fun x =>
  br (decide ((3000 : Int) < (↑x.1.length : Int))) (some true) (some (decide ((3000 : Int) < (↑x.2.length : Int))))
def a2LongW_con : Con := ⟨[.slice (.int .u8), .slice (.int .u8)], [.d (.bool)], a2LongW⟩
theorem a2LongW_run (x : Dens [.slice (.int .u8), .slice (.int .u8)]) : runFn (mkEnv [] []) Try.f38 [.slice (.int .u8), .slice (.int .u8)] [.d (.bool)] x = a2LongW x := by kernel_rfl
theorem a2LongW_ok : a2LongW_con.ok Try.prog 38 := fn_ok (con := a2LongW_con) (mkEnv_ok (cons := []) trivial []) Try.func38 rfl (by kernel_rfl) (by exact trivial) (fun x y h => (a2LongW_run x).trans h)

def a2AtW : List (Int) × Int × Int → Option (Int) :=
fun x =>
  br (decide ((↑x.1.length : Int) ≤ x.snd.1)) (some (0 : Int))
    (br (decide (x.snd.2 < (1 : Int))) (some (0 : Int))
      (ob (idx x.1 x.snd.1) fun y => br (x.snd.2 == (0 : Int)) none (some ((IntKind.i64.wrap y).tmod x.snd.2))))
def a2AtW_con : Con := ⟨[.slice (.int .u8), i64, i64], [.d (i64)], a2AtW⟩
theorem a2AtW_run (x : Dens [.slice (.int .u8), i64, i64]) : runFn (mkEnv [] []) Try.f42 [.slice (.int .u8), i64, i64] [.d (i64)] x = a2AtW x := by kernel_rfl
theorem a2AtW_ok : a2AtW_con.ok Try.prog 42 := fn_ok (con := a2AtW_con) (mkEnv_ok (cons := []) trivial []) Try.func42 rfl (by kernel_rfl) (by exact trivial) (fun x y h => (a2AtW_run x).trans h)

def validRatS : (Int × Int) → Option (Bool) :=
fun x => ob (okRatS (x.1, x.2)) fun y => some y
def validRatS_con : Con := ⟨[.pair (i64) (i64)], [.d (.bool)], validRatS⟩
theorem validRatS_run (x : Dens [.pair (i64) (i64)]) : runFn (mkEnv [(85, okRatS_con)] []) Try.f40 [.pair (i64) (i64)] [.d (.bool)] x = validRatS x := by kernel_rfl
theorem validRatS_ok : validRatS_con.ok Try.prog 40 := fn_ok (con := validRatS_con) (mkEnv_ok (cons := [(85, okRatS_con)]) ⟨okRatS_ok, trivial⟩ []) Try.func40 rfl (by kernel_rfl) (by exact trivial) (fun x y h => (validRatS_run x).trans h)

def fnSpA_vars : Vars := [(1, .val (.slice (.int .u8))), (4, .val (.bool)), (5, .boxR 33 (.pair (.row 52 (.pair (.str) (.slice (i64)))) (.row 44 (.pair (i64) (.pair (i64) (.pair (i64) (i64))))))), (6, .row 0 72 (.pair (i64) (i64))), (8, .val (i64))]
def fnSpA_step : List (Int) × Bool × (List ((ByteArray × List (Int))) × List ((Int × Int × Int × Int))) × List ((Int × Int)) × Int → Option (LRes × (List (Int) × Bool × (List ((ByteArray × List (Int))) × List ((Int × Int × Int × Int))) × List ((Int × Int)) × Int)) :=
fun x =>
  br (decide (x.snd.snd.snd.2 < (↑(List.length x.snd.snd.snd.1) : Int)))
    (ob (idx x.snd.snd.snd.1 x.snd.snd.snd.2) fun x_1 =>
      ob (List.get?Internal x.snd.snd.snd.1 (Int.toNat x.snd.snd.snd.2)) fun x_2 =>
        ob (validRatS (x_2.1, x_2.2)) fun y =>
          br (!y) (some (LRes.ret, x.1, false, (x.snd.snd.fst.1, x.snd.snd.fst.2), x.snd.snd.snd.1, x.snd.snd.snd.2))
            (ob (idx x.snd.snd.snd.1 x.snd.snd.snd.2) fun x_3 =>
              ob (List.get?Internal x.snd.snd.snd.1 (Int.toNat x.snd.snd.snd.2)) fun x_4 =>
                br (x_4.1 == (0 : Int))
                  (some (LRes.ret, x.1, false, (x.snd.snd.fst.1, x.snd.snd.fst.2), x.snd.snd.snd.1, x.snd.snd.snd.2))
                  (some
                    (LRes.next, x.1, x.snd.1, (x.snd.snd.fst.1, x.snd.snd.fst.2), x.snd.snd.snd.1,
                      IntKind.i64.wrap (x.snd.snd.snd.2 + (1 : Int))))))
    (some (LRes.out, x.1, x.snd.1, (x.snd.snd.fst.1, x.snd.snd.fst.2), x.snd.snd.snd.1, x.snd.snd.snd.2))
def fnSpA_fuel : List (Int) × Bool × (List ((ByteArray × List (Int))) × List ((Int × Int × Int × Int))) × List ((Int × Int)) × Int → Nat := fun s => (s.2.2.2.1.length - s.2.2.2.2.toNat) + 1
def fnSpA : List (Int) × Bool × (List ((ByteArray × List (Int))) × List ((Int × Int × Int × Int))) × List ((Int × Int)) × Int → Option (Bool × (List (Int) × Bool × (List ((ByteArray × List (Int))) × List ((Int × Int × Int × Int))) × List ((Int × Int)) × Int)) := fun s => iter fnSpA_step (fnSpA_fuel s) s
def fnSpA_L : LoopC := ⟨fnSpA_vars, 0, .two fnSpA⟩
noncomputable def fnSpA_key : Nat := key (loopAt Try.f8 0)
theorem fnSpA_stepok (x : fnSpA_vars.den) : stepOf (mkEnv [(40, validRatS_con)] []) Try.f8.ntmps fnSpA_vars 0 (loopAt Try.f8 0) x = fnSpA_step x := by kernel_rfl
theorem fnSpA_ok : LoopOK Try.prog Try.f8.ntmps fnSpA_L (loopAt Try.f8 0)   := iter_loop (n := Try.f8.ntmps) (vs := fnSpA_vars) (out := 0) (body := loopAt Try.f8 0) (mkEnv_ok (cons := [(40, validRatS_con)]) ⟨validRatS_ok, trivial⟩ []) fnSpA_step fnSpA_fuel (by exact trivial) fnSpA_stepok

def fnSpB_vars : Vars := [(1, .val (.slice (.int .u8))), (4, .val (.bool)), (5, .boxR 33 (.pair (.row 52 (.pair (.str) (.slice (i64)))) (.row 44 (.pair (i64) (.pair (i64) (.pair (i64) (i64))))))), (6, .row 0 72 (.pair (i64) (i64))), (9, .val (i64))]
def fnSpB_step : List (Int) × Bool × (List ((ByteArray × List (Int))) × List ((Int × Int × Int × Int))) × List ((Int × Int)) × Int → Option (LRes × (List (Int) × Bool × (List ((ByteArray × List (Int))) × List ((Int × Int × Int × Int))) × List ((Int × Int)) × Int)) :=
fun x =>
  br (decide (x.snd.snd.snd.2 < (↑(List.length x.snd.snd.fst.2) : Int)))
    (ob (idx x.snd.snd.fst.2 x.snd.snd.snd.2) fun x_1 =>
      ob (List.get?Internal x.snd.snd.fst.2 (Int.toNat x.snd.snd.snd.2)) fun x_2 =>
        ob (idx x.snd.snd.snd.1 x_2.1) fun x_3 =>
          ob (List.get?Internal x.snd.snd.snd.1 (Int.toNat x_2.1)) fun x_4 =>
            ob (idx x.snd.snd.fst.1 x_2.1) fun x_5 =>
              ob (List.get?Internal x.snd.snd.fst.1 (Int.toNat x_2.1)) fun x_6 =>
                ob (idx x_6.2 x_2.snd.1) fun y =>
                  ob (mulRatS ((x_4.1, x_4.2), y, (1 : Int))) fun y =>
                    ob (idx x.snd.snd.snd.1 x_2.snd.snd.1) fun x_7 =>
                      ob (List.get?Internal x.snd.snd.snd.1 (Int.toNat x_2.snd.snd.1)) fun x_8 =>
                        ob (idx x.snd.snd.fst.1 x_2.snd.snd.1) fun x_9 =>
                          ob (List.get?Internal x.snd.snd.fst.1 (Int.toNat x_2.snd.snd.1)) fun x_10 =>
                            ob (idx x_10.2 x_2.snd.snd.2) fun y_1 =>
                              ob (mulRatS ((x_8.1, x_8.2), IntKind.i64.wrap ((0 : Int) - y_1), (1 : Int))) fun y_2 =>
                                br (y.2 == (0 : Int))
                                  (br (y_2.2 == (0 : Int))
                                    (br (!(y.fst.1 == y_2.fst.1 && y.fst.2 == y_2.fst.2))
                                      (some
                                        (LRes.ret, x.1, false, (x.snd.snd.fst.1, x.snd.snd.fst.2), x.snd.snd.snd.1,
                                          x.snd.snd.snd.2))
                                      (some
                                        (LRes.next, x.1, x.snd.1, (x.snd.snd.fst.1, x.snd.snd.fst.2), x.snd.snd.snd.1,
                                          IntKind.i64.wrap (x.snd.snd.snd.2 + (1 : Int)))))
                                    (some
                                      (LRes.next, x.1, x.snd.1, (x.snd.snd.fst.1, x.snd.snd.fst.2), x.snd.snd.snd.1,
                                        IntKind.i64.wrap (x.snd.snd.snd.2 + (1 : Int)))))
                                  (some
                                    (LRes.next, x.1, x.snd.1, (x.snd.snd.fst.1, x.snd.snd.fst.2), x.snd.snd.snd.1,
                                      IntKind.i64.wrap (x.snd.snd.snd.2 + (1 : Int)))))
    (some (LRes.out, x.1, x.snd.1, (x.snd.snd.fst.1, x.snd.snd.fst.2), x.snd.snd.snd.1, x.snd.snd.snd.2))
def fnSpB_fuel : List (Int) × Bool × (List ((ByteArray × List (Int))) × List ((Int × Int × Int × Int))) × List ((Int × Int)) × Int → Nat := fun s => (s.2.2.1.2.length - s.2.2.2.2.toNat) + 1
def fnSpB : List (Int) × Bool × (List ((ByteArray × List (Int))) × List ((Int × Int × Int × Int))) × List ((Int × Int)) × Int → Option (Bool × (List (Int) × Bool × (List ((ByteArray × List (Int))) × List ((Int × Int × Int × Int))) × List ((Int × Int)) × Int)) := fun s => iter fnSpB_step (fnSpB_fuel s) s
def fnSpB_L : LoopC := ⟨fnSpB_vars, 2, .two fnSpB⟩
noncomputable def fnSpB_key : Nat := key (loopAt Try.f8 1)
theorem fnSpB_stepok (x : fnSpB_vars.den) : stepOf (mkEnv [(41, mulRatS_con)] []) Try.f8.ntmps fnSpB_vars 2 (loopAt Try.f8 1) x = fnSpB_step x := by kernel_rfl
theorem fnSpB_ok : LoopOK Try.prog Try.f8.ntmps fnSpB_L (loopAt Try.f8 1)   := iter_loop (n := Try.f8.ntmps) (vs := fnSpB_vars) (out := 2) (body := loopAt Try.f8 1) (mkEnv_ok (cons := [(41, mulRatS_con)]) ⟨mulRatS_ok, trivial⟩ []) fnSpB_step fnSpB_fuel (by exact trivial) fnSpB_stepok

def fnSpC_vars : Vars := [(4, .val (.bool)), (6, .row 0 72 (.pair (i64) (i64))), (15, .val (i64)), (16, .row 0 72 (.pair (i64) (i64))), (18, .val (i64))]
def fnSpC_step : Bool × List ((Int × Int)) × Int × List ((Int × Int)) × Int → Option (LRes × (Bool × List ((Int × Int)) × Int × List ((Int × Int)) × Int)) :=
fun x =>
  br (decide (x.snd.snd.snd.2 < (↑(List.length x.snd.1) : Int)))
    (ob (idx x.snd.snd.snd.1 x.snd.snd.snd.2) fun x_1 =>
      ob (List.get?Internal x.snd.snd.snd.1 (Int.toNat x.snd.snd.snd.2)) fun x_2 =>
        ob (idx x.snd.1 x.snd.snd.1) fun x_3 =>
          ob (List.get?Internal x.snd.1 (Int.toNat x.snd.snd.1)) fun x_4 =>
            ob (mulRatS ((x_2.1, x_2.2), x_4.1, x_4.2)) fun y =>
              br (y.2 == (0 : Int))
                (ob (idx x.snd.1 x.snd.snd.snd.2) fun x_5 =>
                  ob (List.get?Internal x.snd.1 (Int.toNat x.snd.snd.snd.2)) fun x_6 =>
                    br (!(y.fst.1 == x_6.1 && y.fst.2 == x_6.2))
                      (some (LRes.ret, false, x.snd.1, x.snd.snd.1, x.snd.snd.snd.1, x.snd.snd.snd.2))
                      (some
                        (LRes.next, x.1, x.snd.1, x.snd.snd.1, x.snd.snd.snd.1,
                          IntKind.i64.wrap (x.snd.snd.snd.2 + (1 : Int)))))
                (some
                  (LRes.next, x.1, x.snd.1, x.snd.snd.1, x.snd.snd.snd.1,
                    IntKind.i64.wrap (x.snd.snd.snd.2 + (1 : Int)))))
    (some (LRes.out, x.1, x.snd.1, x.snd.snd.1, x.snd.snd.snd.1, x.snd.snd.snd.2))
def fnSpC_fuel : Bool × List ((Int × Int)) × Int × List ((Int × Int)) × Int → Nat := fun s => (s.2.1.length - s.2.2.2.2.toNat) + 1
def fnSpC : Bool × List ((Int × Int)) × Int × List ((Int × Int)) × Int → Option (Bool × (Bool × List ((Int × Int)) × Int × List ((Int × Int)) × Int)) := fun s => iter fnSpC_step (fnSpC_fuel s) s
def fnSpC_L : LoopC := ⟨fnSpC_vars, 4, .two fnSpC⟩
noncomputable def fnSpC_key : Nat := key (loopAt Try.f8 2)
theorem fnSpC_stepok (x : fnSpC_vars.den) : stepOf (mkEnv [(41, mulRatS_con)] []) Try.f8.ntmps fnSpC_vars 4 (loopAt Try.f8 2) x = fnSpC_step x := by kernel_rfl
theorem fnSpC_ok : LoopOK Try.prog Try.f8.ntmps fnSpC_L (loopAt Try.f8 2)   := iter_loop (n := Try.f8.ntmps) (vs := fnSpC_vars) (out := 4) (body := loopAt Try.f8 2) (mkEnv_ok (cons := [(41, mulRatS_con)]) ⟨mulRatS_ok, trivial⟩ []) fnSpC_step fnSpC_fuel (by exact trivial) fnSpC_stepok

def fnSp : List (Int) × List (Int) → Option (Bool) :=
fun x =>
  ob (a2LongW (x.1, x.2)) fun y =>
    br y (some true)
      (ob (a2WorksS x.1) fun y =>
        ob (speedsOI ((y.1, y.2), (0 : Int))) fun y_1 =>
          br (y_1.2 != (0 : Int))
            (br (y_1.2 == (6 : Int)) (some true) (br (y_1.2 == (10 : Int)) (some true) (some (y_1.2 == (2 : Int)))))
            (br ((↑(List.length y_1.1) : Int) != (↑(List.length y.1) : Int)) (some false)
              (br (decide ((↑(List.length y_1.1) : Int) < (1 : Int))) (some false)
                (ob (idx y_1.1 (0 : Int)) fun x_1 =>
                  ob (List.get?Internal y_1.1 (Int.toNat (0 : Int))) fun x_2 =>
                    br (!(x_2.1 == (1 : Int) && x_2.2 == (1 : Int))) (some false)
                      (ob (fnSpA (x.2, false, (y.1, y.2), y_1.1, (0 : Int))) fun r =>
                        br r.1
                          (ob
                            (fnSpB
                              (r.snd.1, r.snd.snd.1, (r.snd.snd.snd.fst.1, r.snd.snd.snd.fst.2), r.snd.snd.snd.snd.1,
                                (0 : Int)))
                            fun r =>
                            br r.1
                              (ob (a2AtW (r.snd.1, (0 : Int), (↑(List.length r.snd.snd.snd.snd.1) : Int))) fun y =>
                                ob (speedsOI ((r.snd.snd.snd.fst.1, r.snd.snd.snd.fst.2), y)) fun y_2 =>
                                  br (y_2.2 != (0 : Int)) (some (y_2.2 == (2 : Int)))
                                    (br ((↑(List.length y_2.1) : Int) != (↑(List.length r.snd.snd.snd.snd.1) : Int))
                                      (some false)
                                      (ob (fnSpC (r.snd.snd.1, r.snd.snd.snd.snd.1, y, y_2.1, (0 : Int))) fun r =>
                                        br r.1 (some true) (some r.snd.1))))
                              (some r.snd.snd.1))
                          (some r.snd.snd.1))))))
def fnSp_con : Con := ⟨[.slice (.int .u8), .slice (.int .u8)], [.d (.bool)], fnSp⟩
theorem fnSp_run (x : Dens [.slice (.int .u8), .slice (.int .u8)]) : runFn (mkEnv [(38, a2LongW_con), (39, a2WorksS_con), (34, speedsOI_con), (42, a2AtW_con)] [(fnSpA_key, fnSpA_L), (fnSpB_key, fnSpB_L), (fnSpC_key, fnSpC_L)]) Try.f8 [.slice (.int .u8), .slice (.int .u8)] [.d (.bool)] x = fnSp x := by kernel_rfl
theorem fnSp_ok : fnSp_con.ok Try.prog 8 := fn_ok (con := fnSp_con) (mkEnv_ok (cons := [(38, a2LongW_con), (39, a2WorksS_con), (34, speedsOI_con), (42, a2AtW_con)]) ⟨a2LongW_ok, a2WorksS_ok, speedsOI_ok, a2AtW_ok, trivial⟩ [(fnSpA_key, fnSpA_L), (fnSpB_key, fnSpB_L), (fnSpC_key, fnSpC_L)]) Try.func8 rfl (by kernel_rfl) (by exact ⟨fnSpA_ok, fnSpB_ok, fnSpC_ok, trivial⟩) (fun x y h => (fnSp_run x).trans h)

end
end Rx
end Go.Proofs.Ythehdbedojcpdaa
