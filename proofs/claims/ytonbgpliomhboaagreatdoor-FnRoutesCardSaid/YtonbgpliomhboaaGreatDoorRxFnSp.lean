/- What the functions of RxFnSp come to, and their contracts. No conditions. -/
import Derived.Test.YtonbgpliomhboaaGreatDoorRxEnv
import Derived.Test.YtonbgpliomhboaaGreatDoorRxSrcLaw
import Derived.Test.YtonbgpliomhboaaGreatDoorRxSpeedsLaw
namespace Go.Proofs.YtonbgpliomhboaaGreatDoor
namespace Rx
open Go

noncomputable section
def oneW : (List (Int) × Int × Int) × Int → Option ((Bool) × ((List (Int) × Int × Int) × Int)) :=
fun x =>
  ob (pickS ((x.fst.1, x.fst.snd.1, x.fst.snd.2), x.2)) fun y =>
    some (y.1 == (0 : Int), (y.snd.fst.1, y.snd.fst.snd.1, y.snd.fst.snd.2), x.2)
def oneW_con : MCon := ⟨[.box 114 (.pair (.slice (.int .u8)) (.pair (i64) (u64))), .v (.d (i64))], [.d (.bool)], oneW⟩
theorem oneW_run (x : ADens [.box 114 (.pair (.slice (.int .u8)) (.pair (i64) (u64))), .v (.d (i64))]) : runFnM (mkEnvM [] [(65, pickS_con)] []) Tryz.f67 [.box 114 (.pair (.slice (.int .u8)) (.pair (i64) (u64))), .v (.d (i64))] [.d (.bool)] x = oneW x := by kernel_rfl
theorem oneW_ok : oneW_con.ok Tryz.prog 67 := fnM_ok (con := oneW_con) (mkEnvM_ok (cons := []) (mcons := [(65, pickS_con)]) trivial ⟨pickS_ok, trivial⟩ []) Tryz.func67 rfl (by kernel_rfl) (by exact trivial) (fun x y h => (oneW_run x).trans h)

def namesWS : Unit → Option (List (ByteArray)) :=
fun x =>
  some
    [(⟨⟨[(103 : UInt8), (114 : UInt8), (101 : UInt8), (97 : UInt8), (116 : UInt8)]⟩⟩ : ByteArray),
      (⟨⟨[(99 : UInt8), (101 : UInt8), (110 : UInt8), (116 : UInt8), (101 : UInt8), (114 : UInt8)]⟩⟩ : ByteArray),
      (⟨⟨[(116 : UInt8), (104 : UInt8), (105 : UInt8), (114 : UInt8), (100 : UInt8)]⟩⟩ : ByteArray),
      (⟨⟨[(101 : UInt8), (115 : UInt8), (99 : UInt8), (97 : UInt8), (112 : UInt8), (101 : UInt8)]⟩⟩ : ByteArray),
      (⟨⟨[(99 : UInt8), (97 : UInt8), (110 : UInt8), (110 : UInt8), (111 : UInt8), (110 : UInt8)]⟩⟩ : ByteArray),
      (⟨⟨[(104 : UInt8), (111 : UInt8), (117 : UInt8), (114 : UInt8)]⟩⟩ : ByteArray),
      (⟨⟨[(109 : UInt8), (105 : UInt8), (110 : UInt8), (117 : UInt8), (116 : UInt8), (101 : UInt8)]⟩⟩ : ByteArray),
      (⟨⟨[(115 : UInt8), (116 : UInt8), (114 : UInt8), (105 : UInt8), (107 : UInt8), (101 : UInt8)]⟩⟩ : ByteArray),
      (⟨⟨[(119 : UInt8), (97 : UInt8), (114 : UInt8), (110 : UInt8)]⟩⟩ : ByteArray),
      (⟨⟨[(102 : UInt8), (108 : UInt8), (121 : UInt8)]⟩⟩ : ByteArray),
      (⟨⟨[(109 : UInt8), (111 : UInt8), (111 : UInt8), (110 : UInt8)]⟩⟩ : ByteArray),
      (⟨⟨[(100 : UInt8), (97 : UInt8), (116 : UInt8), (101 : UInt8)]⟩⟩ : ByteArray),
      (⟨⟨[(97 : UInt8)]⟩⟩ : ByteArray), (⟨⟨[(98 : UInt8)]⟩⟩ : ByteArray),
      (⟨⟨[(99 : UInt8)]⟩⟩ : ByteArray), (⟨⟨[(100 : UInt8)]⟩⟩ : ByteArray)]
def namesWS_con : Con := ⟨[], [.row 9 (.str)], namesWS⟩
theorem namesWS_run (x : Dens []) : runFn (mkEnv [] []) Tryz.f64 [] [.row 9 (.str)] x = namesWS x := by kernel_rfl
theorem namesWS_ok : namesWS_con.ok Tryz.prog 64 := fn_ok (con := namesWS_con) (mkEnv_ok (cons := []) trivial []) Tryz.func64 rfl (by kernel_rfl) (by exact trivial) (fun x y h => (namesWS_run x).trans h)

def drawWN_vars : Vars := [(0, .box 2 114 (.pair (.slice (.int .u8)) (.pair (i64) (u64)))), (4, .box 0 25 (.pair (.slice (.pair (.str) (.slice (i64)))) (.slice (.pair (i64) (.pair (i64) (.pair (i64) (i64))))))), (5, .boxR 0 25 (.pair (.row 56 (.pair (.str) (.slice (i64)))) (.row 61 (.pair (i64) (.pair (i64) (.pair (i64) (i64))))))), (6, .row 0 9 (.str)), (7, .val (i64)), (8, .val (i64)), (9, .boxR 0 56 (.pair (.d (.str)) (.row 2 (i64)))), (10, .val (i64)), (11, .val (i64))]
def drawWN_step : (List (Int) × Int × Int) × (List ((ByteArray × List (Int))) × List ((Int × Int × Int × Int))) × (List ((ByteArray × List (Int))) × List ((Int × Int × Int × Int))) × List (ByteArray) × Int × Int × (ByteArray × List (Int)) × Int × Int → Option (LRes × ((List (Int) × Int × Int) × (List ((ByteArray × List (Int))) × List ((Int × Int × Int × Int))) × (List ((ByteArray × List (Int))) × List ((Int × Int × Int × Int))) × List (ByteArray) × Int × Int × (ByteArray × List (Int)) × Int × Int)) :=
fun x =>
  br (decide (x.snd.snd.snd.snd.snd.snd.snd.2 < x.snd.snd.snd.snd.snd.snd.snd.1))
    (ob
      (amongS
        ((x.fst.1, x.fst.snd.1, x.fst.snd.2),
          [(64 : Int), (8 : Int), (60 : Int), (10 : Int), (12 : Int), (48 : Int), (30 : Int), (239 : Int)]))
      fun y =>
      br (decide (List.length x.snd.snd.snd.snd.snd.snd.fst.2 + [y.1].length ≤ (4294967296 : Nat)))
        (some
          (LRes.next, (y.snd.fst.1, y.snd.fst.snd.1, y.snd.fst.snd.2), (x.snd.fst.1, x.snd.fst.2),
            (x.snd.snd.fst.1, x.snd.snd.fst.2), x.snd.snd.snd.1, x.snd.snd.snd.snd.1, x.snd.snd.snd.snd.snd.1,
            (x.snd.snd.snd.snd.snd.snd.fst.1, x.snd.snd.snd.snd.snd.snd.fst.2 ++ [y.1]),
            x.snd.snd.snd.snd.snd.snd.snd.1, IntKind.i64.wrap (x.snd.snd.snd.snd.snd.snd.snd.2 + (1 : Int))))
        none)
    (some
      (LRes.out, (x.fst.1, x.fst.snd.1, x.fst.snd.2), (x.snd.fst.1, x.snd.fst.2), (x.snd.snd.fst.1, x.snd.snd.fst.2),
        x.snd.snd.snd.1, x.snd.snd.snd.snd.1, x.snd.snd.snd.snd.snd.1,
        (x.snd.snd.snd.snd.snd.snd.fst.1, x.snd.snd.snd.snd.snd.snd.fst.2), x.snd.snd.snd.snd.snd.snd.snd.1,
        x.snd.snd.snd.snd.snd.snd.snd.2))
def drawWN_fuel : (List (Int) × Int × Int) × (List ((ByteArray × List (Int))) × List ((Int × Int × Int × Int))) × (List ((ByteArray × List (Int))) × List ((Int × Int × Int × Int))) × List (ByteArray) × Int × Int × (ByteArray × List (Int)) × Int × Int → Nat := fun s => (s.2.2.2.2.2.2.2.1 - s.2.2.2.2.2.2.2.2).toNat + 1
def drawWN : (List (Int) × Int × Int) × (List ((ByteArray × List (Int))) × List ((Int × Int × Int × Int))) × (List ((ByteArray × List (Int))) × List ((Int × Int × Int × Int))) × List (ByteArray) × Int × Int × (ByteArray × List (Int)) × Int × Int → Option ((List (Int) × Int × Int) × (List ((ByteArray × List (Int))) × List ((Int × Int × Int × Int))) × (List ((ByteArray × List (Int))) × List ((Int × Int × Int × Int))) × List (ByteArray) × Int × Int × (ByteArray × List (Int)) × Int × Int) := fun s => iterP drawWN_step (drawWN_fuel s) s
def drawWN_L : LoopC := ⟨drawWN_vars, 2, .plain drawWN⟩
noncomputable def drawWN_key : Nat := key (loopIn (loopAt Tryz.f32 0) 0)
theorem drawWN_stepok (x : drawWN_vars.den) : stepOf (mkEnvM [] [(66, amongS_con)] []) Tryz.f32.ntmps drawWN_vars 2 (loopIn (loopAt Tryz.f32 0) 0) x = drawWN_step x := by kernel_rfl
theorem drawWN_ok : LoopOK Tryz.prog Tryz.f32.ntmps drawWN_L (loopIn (loopAt Tryz.f32 0) 0)   := iterP_loop (n := Tryz.f32.ntmps) (vs := drawWN_vars) (out := 2) (body := loopIn (loopAt Tryz.f32 0) 0) (mkEnvM_ok (cons := []) (mcons := [(66, amongS_con)]) trivial ⟨amongS_ok, trivial⟩ []) drawWN_step drawWN_fuel (by exact trivial) drawWN_stepok

def drawWL_vars : Vars := [(0, .box 2 114 (.pair (.slice (.int .u8)) (.pair (i64) (u64)))), (4, .box 0 25 (.pair (.slice (.pair (.str) (.slice (i64)))) (.slice (.pair (i64) (.pair (i64) (.pair (i64) (i64))))))), (5, .boxR 0 25 (.pair (.row 56 (.pair (.str) (.slice (i64)))) (.row 61 (.pair (i64) (.pair (i64) (.pair (i64) (i64))))))), (6, .row 0 9 (.str)), (7, .val (i64)), (8, .val (i64))]
def drawWL_step : (List (Int) × Int × Int) × (List ((ByteArray × List (Int))) × List ((Int × Int × Int × Int))) × (List ((ByteArray × List (Int))) × List ((Int × Int × Int × Int))) × List (ByteArray) × Int × Int → Option (LRes × ((List (Int) × Int × Int) × (List ((ByteArray × List (Int))) × List ((Int × Int × Int × Int))) × (List ((ByteArray × List (Int))) × List ((Int × Int × Int × Int))) × List (ByteArray) × Int × Int)) :=
fun x =>
  br (decide (x.snd.snd.snd.snd.2 < x.snd.snd.snd.snd.1))
    (ob (idx x.snd.snd.snd.1 x.snd.snd.snd.snd.2) fun x_1 =>
      ob (List.get?Internal x.snd.snd.snd.1 (Int.toNat x.snd.snd.snd.snd.2)) fun x_2 =>
        ob (pickS ((x.fst.1, x.fst.snd.1, x.fst.snd.2), (3 : Int))) fun y =>
          ob
            (drawWN
              ((y.snd.fst.1, y.snd.fst.snd.1, y.snd.fst.snd.2), (x.snd.fst.1, x.snd.fst.2),
                (x.snd.snd.fst.1, x.snd.snd.fst.2), x.snd.snd.snd.1, x.snd.snd.snd.snd.1, x.snd.snd.snd.snd.2,
                (x_2, []), IntKind.i64.wrap ((1 : Int) + y.1), (0 : Int)))
            fun r =>
            br
              (decide
                (List.length r.snd.snd.fst.1 +
                    [(r.snd.snd.snd.snd.snd.snd.fst.1, r.snd.snd.snd.snd.snd.snd.fst.2)].length ≤
                  (4294967296 : Nat)))
              (br (decide ((0 : Int) < r.snd.snd.snd.snd.snd.1))
                (ob (oneW ((r.fst.1, r.fst.snd.1, r.fst.snd.2), (12 : Int))) fun y =>
                  br (!y.1)
                    (ob (pickS ((y.snd.fst.1, y.snd.fst.snd.1, y.snd.fst.snd.2), r.snd.snd.snd.snd.snd.1)) fun y =>
                      ob
                        (idx (r.snd.snd.fst.1 ++ [(r.snd.snd.snd.snd.snd.snd.fst.1, r.snd.snd.snd.snd.snd.snd.fst.2)])
                          y.1)
                        fun x =>
                        ob
                          ((r.snd.snd.fst.1 ++
                                [(r.snd.snd.snd.snd.snd.snd.fst.1, r.snd.snd.snd.snd.snd.snd.fst.2)]).get?Internal
                            (Int.toNat y.1))
                          fun x =>
                          ob (pickS ((y.snd.fst.1, y.snd.fst.snd.1, y.snd.fst.snd.2), (↑(List.length x.2) : Int)))
                            fun y_1 =>
                            ob
                              (pickS
                                ((y_1.snd.fst.1, y_1.snd.fst.snd.1, y_1.snd.fst.snd.2),
                                  (↑(List.length r.snd.snd.snd.snd.snd.snd.fst.2) : Int)))
                              fun y_2 =>
                              ob (oneW ((y_2.snd.fst.1, y_2.snd.fst.snd.1, y_2.snd.fst.snd.2), (3 : Int))) fun y_3 =>
                                br y_3.1
                                  (br
                                    (decide
                                      (List.length r.snd.snd.fst.2 +
                                          [(r.snd.snd.snd.snd.snd.1, y_2.1, y.1, y_1.1)].length ≤
                                        (4294967296 : Nat)))
                                    (some
                                      (LRes.next, (y_3.snd.fst.1, y_3.snd.fst.snd.1, y_3.snd.fst.snd.2),
                                        (r.snd.fst.1, r.snd.fst.2),
                                        (r.snd.snd.fst.1 ++
                                            [(r.snd.snd.snd.snd.snd.snd.fst.1, r.snd.snd.snd.snd.snd.snd.fst.2)],
                                          r.snd.snd.fst.2 ++ [(r.snd.snd.snd.snd.snd.1, y_2.1, y.1, y_1.1)]),
                                        r.snd.snd.snd.1, r.snd.snd.snd.snd.1,
                                        IntKind.i64.wrap (r.snd.snd.snd.snd.snd.1 + (1 : Int))))
                                    none)
                                  (br
                                    (decide
                                      (List.length r.snd.snd.fst.2 +
                                          [(y.1, y_1.1, r.snd.snd.snd.snd.snd.1, y_2.1)].length ≤
                                        (4294967296 : Nat)))
                                    (some
                                      (LRes.next, (y_3.snd.fst.1, y_3.snd.fst.snd.1, y_3.snd.fst.snd.2),
                                        (r.snd.fst.1, r.snd.fst.2),
                                        (r.snd.snd.fst.1 ++
                                            [(r.snd.snd.snd.snd.snd.snd.fst.1, r.snd.snd.snd.snd.snd.snd.fst.2)],
                                          r.snd.snd.fst.2 ++ [(y.1, y_1.1, r.snd.snd.snd.snd.snd.1, y_2.1)]),
                                        r.snd.snd.snd.1, r.snd.snd.snd.snd.1,
                                        IntKind.i64.wrap (r.snd.snd.snd.snd.snd.1 + (1 : Int))))
                                    none))
                    (some
                      (LRes.next, (y.snd.fst.1, y.snd.fst.snd.1, y.snd.fst.snd.2), (r.snd.fst.1, r.snd.fst.2),
                        (r.snd.snd.fst.1 ++ [(r.snd.snd.snd.snd.snd.snd.fst.1, r.snd.snd.snd.snd.snd.snd.fst.2)],
                          r.snd.snd.fst.2),
                        r.snd.snd.snd.1, r.snd.snd.snd.snd.1, IntKind.i64.wrap (r.snd.snd.snd.snd.snd.1 + (1 : Int)))))
                (some
                  (LRes.next, (r.fst.1, r.fst.snd.1, r.fst.snd.2), (r.snd.fst.1, r.snd.fst.2),
                    (r.snd.snd.fst.1 ++ [(r.snd.snd.snd.snd.snd.snd.fst.1, r.snd.snd.snd.snd.snd.snd.fst.2)],
                      r.snd.snd.fst.2),
                    r.snd.snd.snd.1, r.snd.snd.snd.snd.1, IntKind.i64.wrap (r.snd.snd.snd.snd.snd.1 + (1 : Int)))))
              none)
    (some
      (LRes.out, (x.fst.1, x.fst.snd.1, x.fst.snd.2), (x.snd.fst.1, x.snd.fst.2), (x.snd.snd.fst.1, x.snd.snd.fst.2),
        x.snd.snd.snd.1, x.snd.snd.snd.snd.1, x.snd.snd.snd.snd.2))
def drawWL_fuel : (List (Int) × Int × Int) × (List ((ByteArray × List (Int))) × List ((Int × Int × Int × Int))) × (List ((ByteArray × List (Int))) × List ((Int × Int × Int × Int))) × List (ByteArray) × Int × Int → Nat := fun s => (s.2.2.2.2.1 - s.2.2.2.2.2).toNat + 1
def drawWL : (List (Int) × Int × Int) × (List ((ByteArray × List (Int))) × List ((Int × Int × Int × Int))) × (List ((ByteArray × List (Int))) × List ((Int × Int × Int × Int))) × List (ByteArray) × Int × Int → Option ((List (Int) × Int × Int) × (List ((ByteArray × List (Int))) × List ((Int × Int × Int × Int))) × (List ((ByteArray × List (Int))) × List ((Int × Int × Int × Int))) × List (ByteArray) × Int × Int) := fun s => iterP drawWL_step (drawWL_fuel s) s
def drawWL_L : LoopC := ⟨drawWL_vars, 0, .plain drawWL⟩
noncomputable def drawWL_key : Nat := key (loopAt Tryz.f32 0)
theorem drawWL_stepok (x : drawWL_vars.den) : stepOf (frzE [(13, [9])] (mkEnvM [] [(65, pickS_con), (67, oneW_con)] [(drawWN_key, drawWN_L)])) Tryz.f32.ntmps drawWL_vars 0 (loopAt Tryz.f32 0) x = drawWL_step x := by kernel_rfl
theorem drawWL_ok : LoopOK Tryz.prog Tryz.f32.ntmps drawWL_L (loopAt Tryz.f32 0)   := iterP_loop (n := Tryz.f32.ntmps) (vs := drawWL_vars) (out := 0) (body := loopAt Tryz.f32 0) (frzE_ok (f := [(13, [9])]) (mkEnvM_ok (cons := []) (mcons := [(65, pickS_con), (67, oneW_con)]) trivial ⟨pickS_ok, oneW_ok, trivial⟩ [(drawWN_key, drawWN_L)])) drawWL_step drawWL_fuel (by exact ⟨drawWN_ok, trivial⟩) drawWL_stepok

def drawWS : (List (Int) × Int × Int) × Int → Option (((List ((ByteArray × List (Int))) × List ((Int × Int × Int × Int)))) × ((List (Int) × Int × Int) × Int)) :=
fun x =>
  ob (namesWS PUnit.unit) fun y =>
    ob (pickS ((x.fst.1, x.fst.snd.1, x.fst.snd.2), x.2)) fun y_1 =>
      ob
        (drawWL
          ((y_1.snd.fst.1, y_1.snd.fst.snd.1, y_1.snd.fst.snd.2), ([], []), ([], []), y,
            IntKind.i64.wrap ((1 : Int) + y_1.1), (0 : Int)))
        fun r =>
        br (decide ((2 : Int) < (↑(List.length r.snd.snd.fst.1) : Int)))
          (ob (oneW ((r.fst.1, r.fst.snd.1, r.fst.snd.2), (4 : Int))) fun y =>
            br y.1
              (ob
                (knownS
                  ((r.snd.snd.fst.1, r.snd.snd.fst.2), ((0 : Int), (0 : Int), (2 : Int), (0 : Int)),
                    (↑(List.length r.snd.snd.fst.2) : Int)))
                fun y_2 =>
                br (!y_2)
                  (br
                    (decide
                      (List.length r.snd.snd.fst.2 + [((0 : Int), (0 : Int), (2 : Int), (0 : Int))].length ≤
                        (4294967296 : Nat)))
                    (some
                      ((r.snd.snd.fst.1, r.snd.snd.fst.2 ++ [((0 : Int), (0 : Int), (2 : Int), (0 : Int))]),
                        (y.snd.fst.1, y.snd.fst.snd.1, y.snd.fst.snd.2), x.2))
                    none)
                  (some ((r.snd.snd.fst.1, r.snd.snd.fst.2), (y.snd.fst.1, y.snd.fst.snd.1, y.snd.fst.snd.2), x.2)))
              (some ((r.snd.snd.fst.1, r.snd.snd.fst.2), (y.snd.fst.1, y.snd.fst.snd.1, y.snd.fst.snd.2), x.2)))
          (some ((r.snd.snd.fst.1, r.snd.snd.fst.2), (r.fst.1, r.fst.snd.1, r.fst.snd.2), x.2))
def drawWS_con : MCon := ⟨[.box 114 (.pair (.slice (.int .u8)) (.pair (i64) (u64))), .v (.d (i64))], [.pair (.row 56 (.pair (.str) (.slice (i64)))) (.row 61 (.pair (i64) (.pair (i64) (.pair (i64) (i64)))))], drawWS⟩
theorem drawWS_run (x : ADens [.box 114 (.pair (.slice (.int .u8)) (.pair (i64) (u64))), .v (.d (i64))]) : runFnM (mkEnvM [(68, knownS_con), (64, namesWS_con)] [(65, pickS_con), (67, oneW_con)] [(drawWL_key, drawWL_L)]) Tryz.f32 [.box 114 (.pair (.slice (.int .u8)) (.pair (i64) (u64))), .v (.d (i64))] [.pair (.row 56 (.pair (.str) (.slice (i64)))) (.row 61 (.pair (i64) (.pair (i64) (.pair (i64) (i64)))))] x = drawWS x := by kernel_rfl
theorem drawWS_ok : drawWS_con.ok Tryz.prog 32 := fnM_ok (con := drawWS_con) (mkEnvM_ok (cons := [(68, knownS_con), (64, namesWS_con)]) (mcons := [(65, pickS_con), (67, oneW_con)]) ⟨knownS_ok, namesWS_ok, trivial⟩ ⟨pickS_ok, oneW_ok, trivial⟩ [(drawWL_key, drawWL_L)]) Tryz.func32 rfl (by kernel_rfl) (by exact ⟨drawWL_ok, trivial⟩) (fun x y h => (drawWS_run x).trans h)

def a2WorksS : List (Int) → Option ((List ((ByteArray × List (Int))) × List ((Int × Int × Int × Int)))) :=
fun x => ob (fromS x) fun y => ob (drawWS ((y.1, y.snd.1, y.snd.2), (7 : Int))) fun y => some (y.fst.1, y.fst.2)
def a2WorksS_con : Con := ⟨[.slice (.int .u8)], [.pair (.row 56 (.pair (.str) (.slice (i64)))) (.row 61 (.pair (i64) (.pair (i64) (.pair (i64) (i64)))))], a2WorksS⟩
theorem a2WorksS_run (x : Dens [.slice (.int .u8)]) : runFn (mkEnvM [(33, fromS_con)] [(32, drawWS_con)] []) Tryz.f11 [.slice (.int .u8)] [.pair (.row 56 (.pair (.str) (.slice (i64)))) (.row 61 (.pair (i64) (.pair (i64) (.pair (i64) (i64)))))] x = a2WorksS x := by kernel_rfl
theorem a2WorksS_ok : a2WorksS_con.ok Tryz.prog 11 := fn_ok (con := a2WorksS_con) (mkEnvM_ok (cons := [(33, fromS_con)]) (mcons := [(32, drawWS_con)]) ⟨fromS_ok, trivial⟩ ⟨drawWS_ok, trivial⟩ []) Tryz.func11 rfl (by kernel_rfl) (by exact trivial) (fun x y h => (a2WorksS_run x).trans h)

def a2LongW : List (Int) × List (Int) → Option (Bool) :=
fun x =>
  br (decide ((3000 : Int) < (↑x.1.length : Int))) (some true) (some (decide ((3000 : Int) < (↑x.2.length : Int))))
def a2LongW_con : Con := ⟨[.slice (.int .u8), .slice (.int .u8)], [.d (.bool)], a2LongW⟩
theorem a2LongW_run (x : Dens [.slice (.int .u8), .slice (.int .u8)]) : runFn (mkEnv [] []) Tryz.f10 [.slice (.int .u8), .slice (.int .u8)] [.d (.bool)] x = a2LongW x := by kernel_rfl
theorem a2LongW_ok : a2LongW_con.ok Tryz.prog 10 := fn_ok (con := a2LongW_con) (mkEnv_ok (cons := []) trivial []) Tryz.func10 rfl (by kernel_rfl) (by exact trivial) (fun x y h => (a2LongW_run x).trans h)

def a2AtW : List (Int) × Int × Int → Option (Int) :=
fun x =>
  br (decide ((↑x.1.length : Int) ≤ x.snd.1)) (some (0 : Int))
    (br (decide (x.snd.2 < (1 : Int))) (some (0 : Int))
      (ob (idx x.1 x.snd.1) fun y => br (x.snd.2 == (0 : Int)) none (some ((IntKind.i64.wrap y).tmod x.snd.2))))
def a2AtW_con : Con := ⟨[.slice (.int .u8), i64, i64], [.d (i64)], a2AtW⟩
theorem a2AtW_run (x : Dens [.slice (.int .u8), i64, i64]) : runFn (mkEnv [] []) Tryz.f12 [.slice (.int .u8), i64, i64] [.d (i64)] x = a2AtW x := by kernel_rfl
theorem a2AtW_ok : a2AtW_con.ok Tryz.prog 12 := fn_ok (con := a2AtW_con) (mkEnv_ok (cons := []) trivial []) Tryz.func12 rfl (by kernel_rfl) (by exact trivial) (fun x y h => (a2AtW_run x).trans h)






end
end Rx
end Go.Proofs.YtonbgpliomhboaaGreatDoor
