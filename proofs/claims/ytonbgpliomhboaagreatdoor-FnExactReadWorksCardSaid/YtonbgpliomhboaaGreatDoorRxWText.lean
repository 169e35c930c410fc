/- What the functions of RxWText come to, and their contracts. No conditions. -/
import Derived.Test.YtonbgpliomhboaaGreatDoorRxEnv
import Derived.Test.YtonbgpliomhboaaGreatDoorRxText
import Derived.Test.YtonbgpliomhboaaGreatDoorRxWorks
import Derived.Test.YtonbgpliomhboaaGreatDoorRxBld
namespace Go.Proofs.YtonbgpliomhboaaGreatDoor
namespace Rx
open Go

noncomputable section
def wtIT_vars : Vars := [(1, .box 0 25 (.pair (.slice (.pair (.str) (.slice (i64)))) (.slice (.pair (i64) (.pair (i64) (.pair (i64) (i64))))))), (3, .obj (.bld 84 5)), (14, .val (.slice (.pair (.str) (.slice (i64))))), (15, .val (i64)), (16, .val (i64)), (25, .val (.slice (i64))), (26, .val (i64)), (27, .val (i64))]
def wtIT_step : (List ((ByteArray × List (Int))) × List ((Int × Int × Int × Int))) × ByteArray × List ((ByteArray × List (Int))) × Int × Int × List (Int) × Int × Int → Option (LRes × ((List ((ByteArray × List (Int))) × List ((Int × Int × Int × Int))) × ByteArray × List ((ByteArray × List (Int))) × Int × Int × List (Int) × Int × Int)) :=
fun x =>
  br (decide (x.snd.snd.snd.snd.snd.snd.2 < x.snd.snd.snd.snd.snd.snd.1))
    (ob (idx x.snd.snd.snd.snd.snd.1 x.snd.snd.snd.snd.snd.snd.2) fun y =>
      ob (decI y) fun y =>
        br (decide ((⟨⟨[(32 : UInt8)]⟩⟩ : ByteArray).size + ByteArray.size y ≤ (9223372036854775807 : Nat)))
          (br
            (decide
              (ByteArray.size x.snd.1 + ((⟨⟨[(32 : UInt8)]⟩⟩ : ByteArray) ++ y).size ≤ (140737488355328 : Nat)))
            (some
              (LRes.next, (x.fst.1, x.fst.2), x.snd.1 ++ ((⟨⟨[(32 : UInt8)]⟩⟩ : ByteArray) ++ y), x.snd.snd.1,
                x.snd.snd.snd.1, x.snd.snd.snd.snd.1, x.snd.snd.snd.snd.snd.1, x.snd.snd.snd.snd.snd.snd.1,
                IntKind.i64.wrap (x.snd.snd.snd.snd.snd.snd.2 + (1 : Int))))
            none)
          none)
    (some
      (LRes.out, (x.fst.1, x.fst.2), x.snd.1, x.snd.snd.1, x.snd.snd.snd.1, x.snd.snd.snd.snd.1,
        x.snd.snd.snd.snd.snd.1, x.snd.snd.snd.snd.snd.snd.1, x.snd.snd.snd.snd.snd.snd.2))
def wtIT_fuel : (List ((ByteArray × List (Int))) × List ((Int × Int × Int × Int))) × ByteArray × List ((ByteArray × List (Int))) × Int × Int × List (Int) × Int × Int → Nat := fun s => (s.2.2.2.2.2.2.1 - s.2.2.2.2.2.2.2).toNat + 1
def wtIT : (List ((ByteArray × List (Int))) × List ((Int × Int × Int × Int))) × ByteArray × List ((ByteArray × List (Int))) × Int × Int × List (Int) × Int × Int → Option ((List ((ByteArray × List (Int))) × List ((Int × Int × Int × Int))) × ByteArray × List ((ByteArray × List (Int))) × Int × Int × List (Int) × Int × Int) := fun s => iterP wtIT_step (wtIT_fuel s) s
def wtIT_L : LoopC := ⟨wtIT_vars, 2, .plain wtIT⟩
noncomputable def wtIT_key : Nat := key (loopIn (loopAt Tryz.f17 0) 0)
theorem wtIT_stepok (x : wtIT_vars.den) : stepOf (bldE 84 5 42 44 (mkEnv [(43, decI_con)] [])) Tryz.f17.ntmps wtIT_vars 2 (loopIn (loopAt Tryz.f17 0) 0) x = wtIT_step x := by kernel_rfl
theorem wtIT_ok : LoopOK Tryz.prog Tryz.f17.ntmps wtIT_L (loopIn (loopAt Tryz.f17 0) 0)   := iterP_loop (n := Tryz.f17.ntmps) (vs := wtIT_vars) (out := 2) (body := loopIn (loopAt Tryz.f17 0) 0) (bldE_ok (mkEnv_ok (cons := [(43, decI_con)]) ⟨decI_ok, trivial⟩ []) blt_ok blw_ok bls_ok) wtIT_step wtIT_fuel (by exact trivial) wtIT_stepok

def wtIA_vars : Vars := [(1, .box 0 25 (.pair (.slice (.pair (.str) (.slice (i64)))) (.slice (.pair (i64) (.pair (i64) (.pair (i64) (i64))))))), (3, .obj (.bld 84 5)), (14, .val (.slice (.pair (.str) (.slice (i64))))), (15, .val (i64)), (16, .val (i64))]
def wtIA_step : (List ((ByteArray × List (Int))) × List ((Int × Int × Int × Int))) × ByteArray × List ((ByteArray × List (Int))) × Int × Int → Option (LRes × ((List ((ByteArray × List (Int))) × List ((Int × Int × Int × Int))) × ByteArray × List ((ByteArray × List (Int))) × Int × Int)) :=
fun x =>
  br (decide (x.snd.snd.snd.2 < x.snd.snd.snd.1))
    (ob (idx x.snd.snd.1 x.snd.snd.snd.2) fun y =>
      br
        (decide
          ((⟨⟨[(97 : UInt8), (114 : UInt8), (98 : UInt8), (111 : UInt8), (114 : UInt8), (32 : UInt8)]⟩⟩ : ByteArray).size +
              ByteArray.size y.1 ≤
            (9223372036854775807 : Nat)))
        (br
          (decide
            (ByteArray.size x.snd.1 +
                ((⟨⟨[(97 : UInt8), (114 : UInt8), (98 : UInt8), (111 : UInt8), (114 : UInt8), (32 : UInt8)]⟩⟩ : ByteArray) ++
                    y.1).size ≤
              (140737488355328 : Nat)))
          (ob
            (wtIT
              ((x.fst.1, x.fst.2),
                x.snd.1 ++
                  ((⟨⟨[(97 : UInt8), (114 : UInt8), (98 : UInt8), (111 : UInt8), (114 : UInt8), (32 : UInt8)]⟩⟩ : ByteArray) ++
                    y.1),
                x.snd.snd.1, x.snd.snd.snd.1, x.snd.snd.snd.2, y.2, (↑(List.length y.2) : Int), (0 : Int)))
            fun r =>
            br
              (decide
                (ByteArray.size r.snd.1 + (⟨⟨[(10 : UInt8)]⟩⟩ : ByteArray).size ≤ (140737488355328 : Nat)))
              (some
                (LRes.next, (r.fst.1, r.fst.2), r.snd.1 ++ (⟨⟨[(10 : UInt8)]⟩⟩ : ByteArray), r.snd.snd.1,
                  r.snd.snd.snd.1, IntKind.i64.wrap (r.snd.snd.snd.snd.1 + (1 : Int))))
              none)
          none)
        none)
    (some (LRes.out, (x.fst.1, x.fst.2), x.snd.1, x.snd.snd.1, x.snd.snd.snd.1, x.snd.snd.snd.2))
def wtIA_fuel : (List ((ByteArray × List (Int))) × List ((Int × Int × Int × Int))) × ByteArray × List ((ByteArray × List (Int))) × Int × Int → Nat := fun s => (s.2.2.2.1 - s.2.2.2.2).toNat + 1
def wtIA : (List ((ByteArray × List (Int))) × List ((Int × Int × Int × Int))) × ByteArray × List ((ByteArray × List (Int))) × Int × Int → Option ((List ((ByteArray × List (Int))) × List ((Int × Int × Int × Int))) × ByteArray × List ((ByteArray × List (Int))) × Int × Int) := fun s => iterP wtIA_step (wtIA_fuel s) s
def wtIA_L : LoopC := ⟨wtIA_vars, 0, .plain wtIA⟩
noncomputable def wtIA_key : Nat := key (loopAt Tryz.f17 0)
theorem wtIA_stepok (x : wtIA_vars.den) : stepOf (bldE 84 5 42 44 (mkEnv [] [(wtIT_key, wtIT_L)])) Tryz.f17.ntmps wtIA_vars 0 (loopAt Tryz.f17 0) x = wtIA_step x := by kernel_rfl
theorem wtIA_ok : LoopOK Tryz.prog Tryz.f17.ntmps wtIA_L (loopAt Tryz.f17 0)   := iterP_loop (n := Tryz.f17.ntmps) (vs := wtIA_vars) (out := 0) (body := loopAt Tryz.f17 0) (bldE_ok (mkEnv_ok (cons := []) trivial [(wtIT_key, wtIT_L)]) blt_ok blw_ok bls_ok) wtIA_step wtIA_fuel (by exact ⟨wtIT_ok, trivial⟩) wtIA_stepok

def wtIM_vars : Vars := [(1, .box 0 25 (.pair (.slice (.pair (.str) (.slice (i64)))) (.slice (.pair (i64) (.pair (i64) (.pair (i64) (i64))))))), (3, .obj (.bld 84 5)), (39, .val (.slice (.pair (i64) (.pair (i64) (.pair (i64) (i64)))))), (40, .val (i64)), (41, .val (i64))]
def wtIM_step : (List ((ByteArray × List (Int))) × List ((Int × Int × Int × Int))) × ByteArray × List ((Int × Int × Int × Int)) × Int × Int → Option (LRes × ((List ((ByteArray × List (Int))) × List ((Int × Int × Int × Int))) × ByteArray × List ((Int × Int × Int × Int)) × Int × Int)) :=
fun x =>
  br (decide (x.snd.snd.snd.2 < x.snd.snd.snd.1))
    (ob (idx x.snd.snd.1 x.snd.snd.snd.2) fun y =>
      ob (idx x.fst.1 y.1) fun y_1 =>
        br
          (decide
            ((⟨⟨[(109 : UInt8), (101 : UInt8), (115 : UInt8), (104 : UInt8), (32 : UInt8)]⟩⟩ : ByteArray).size +
                ByteArray.size y_1.1 ≤
              (9223372036854775807 : Nat)))
          (br
            (decide
              (((⟨⟨[(109 : UInt8), (101 : UInt8), (115 : UInt8), (104 : UInt8), (32 : UInt8)]⟩⟩ : ByteArray) ++
                      y_1.1).size +
                  (⟨⟨[(32 : UInt8)]⟩⟩ : ByteArray).size ≤
                (9223372036854775807 : Nat)))
            (ob (decI y.snd.1) fun y_2 =>
              br
                (decide
                  (((⟨⟨[(109 : UInt8), (101 : UInt8), (115 : UInt8), (104 : UInt8), (32 : UInt8)]⟩⟩ : ByteArray) ++
                            y_1.1 ++
                          (⟨⟨[(32 : UInt8)]⟩⟩ : ByteArray)).size +
                      ByteArray.size y_2 ≤
                    (9223372036854775807 : Nat)))
                (br
                  (decide
                    (((⟨⟨[(109 : UInt8), (101 : UInt8), (115 : UInt8), (104 : UInt8), (32 : UInt8)]⟩⟩ : ByteArray) ++
                                y_1.1 ++
                              (⟨⟨[(32 : UInt8)]⟩⟩ : ByteArray) ++
                            y_2).size +
                        (⟨⟨[(32 : UInt8)]⟩⟩ : ByteArray).size ≤
                      (9223372036854775807 : Nat)))
                  (ob (idx x.fst.1 y.snd.snd.1) fun y_3 =>
                    br
                      (decide
                        (((⟨⟨[(109 : UInt8), (101 : UInt8), (115 : UInt8), (104 : UInt8), (32 : UInt8)]⟩⟩ : ByteArray) ++
                                      y_1.1 ++
                                    (⟨⟨[(32 : UInt8)]⟩⟩ : ByteArray) ++
                                  y_2 ++
                                (⟨⟨[(32 : UInt8)]⟩⟩ : ByteArray)).size +
                            ByteArray.size y_3.1 ≤
                          (9223372036854775807 : Nat)))
                      (br
                        (decide
                          (((⟨⟨[(109 : UInt8), (101 : UInt8), (115 : UInt8), (104 : UInt8), (32 : UInt8)]⟩⟩ : ByteArray) ++
                                          y_1.1 ++
                                        (⟨⟨[(32 : UInt8)]⟩⟩ : ByteArray) ++
                                      y_2 ++
                                    (⟨⟨[(32 : UInt8)]⟩⟩ : ByteArray) ++
                                  y_3.1).size +
                              (⟨⟨[(32 : UInt8)]⟩⟩ : ByteArray).size ≤
                            (9223372036854775807 : Nat)))
                        (ob (decI y.snd.snd.2) fun y =>
                          br
                            (decide
                              (((⟨⟨[(109 : UInt8), (101 : UInt8), (115 : UInt8), (104 : UInt8), (32 : UInt8)]⟩⟩ : ByteArray) ++
                                                y_1.1 ++
                                              (⟨⟨[(32 : UInt8)]⟩⟩ : ByteArray) ++
                                            y_2 ++
                                          (⟨⟨[(32 : UInt8)]⟩⟩ : ByteArray) ++
                                        y_3.1 ++
                                      (⟨⟨[(32 : UInt8)]⟩⟩ : ByteArray)).size +
                                  ByteArray.size y ≤
                                (9223372036854775807 : Nat)))
                            (br
                              (decide
                                (((⟨⟨[(109 : UInt8), (101 : UInt8), (115 : UInt8), (104 : UInt8), (32 : UInt8)]⟩⟩ : ByteArray) ++
                                                    y_1.1 ++
                                                  (⟨⟨[(32 : UInt8)]⟩⟩ : ByteArray) ++
                                                y_2 ++
                                              (⟨⟨[(32 : UInt8)]⟩⟩ : ByteArray) ++
                                            y_3.1 ++
                                          (⟨⟨[(32 : UInt8)]⟩⟩ : ByteArray) ++
                                        y).size +
                                    (⟨⟨[(10 : UInt8)]⟩⟩ : ByteArray).size ≤
                                  (9223372036854775807 : Nat)))
                              (br
                                (decide
                                  (ByteArray.size x.snd.1 +
                                      ((⟨⟨[(109 : UInt8), (101 : UInt8), (115 : UInt8), (104 : UInt8), (32 : UInt8)]⟩⟩ : ByteArray) ++
                                                        y_1.1 ++
                                                      (⟨⟨[(32 : UInt8)]⟩⟩ : ByteArray) ++
                                                    y_2 ++
                                                  (⟨⟨[(32 : UInt8)]⟩⟩ : ByteArray) ++
                                                y_3.1 ++
                                              (⟨⟨[(32 : UInt8)]⟩⟩ : ByteArray) ++
                                            y ++
                                          (⟨⟨[(10 : UInt8)]⟩⟩ : ByteArray)).size ≤
                                    (140737488355328 : Nat)))
                                (some
                                  (LRes.next, (x.fst.1, x.fst.2),
                                    x.snd.1 ++
                                      ((⟨⟨[(109 : UInt8), (101 : UInt8), (115 : UInt8), (104 : UInt8), (32 : UInt8)]⟩⟩ : ByteArray) ++
                                                      y_1.1 ++
                                                    (⟨⟨[(32 : UInt8)]⟩⟩ : ByteArray) ++
                                                  y_2 ++
                                                (⟨⟨[(32 : UInt8)]⟩⟩ : ByteArray) ++
                                              y_3.1 ++
                                            (⟨⟨[(32 : UInt8)]⟩⟩ : ByteArray) ++
                                          y ++
                                        (⟨⟨[(10 : UInt8)]⟩⟩ : ByteArray)),
                                    x.snd.snd.1, x.snd.snd.snd.1, IntKind.i64.wrap (x.snd.snd.snd.2 + (1 : Int))))
                                none)
                              none)
                            none)
                        none)
                      none)
                  none)
                none)
            none)
          none)
    (some (LRes.out, (x.fst.1, x.fst.2), x.snd.1, x.snd.snd.1, x.snd.snd.snd.1, x.snd.snd.snd.2))
def wtIM_fuel : (List ((ByteArray × List (Int))) × List ((Int × Int × Int × Int))) × ByteArray × List ((Int × Int × Int × Int)) × Int × Int → Nat := fun s => (s.2.2.2.1 - s.2.2.2.2).toNat + 1
def wtIM : (List ((ByteArray × List (Int))) × List ((Int × Int × Int × Int))) × ByteArray × List ((Int × Int × Int × Int)) × Int × Int → Option ((List ((ByteArray × List (Int))) × List ((Int × Int × Int × Int))) × ByteArray × List ((Int × Int × Int × Int)) × Int × Int) := fun s => iterP wtIM_step (wtIM_fuel s) s
def wtIM_L : LoopC := ⟨wtIM_vars, 4, .plain wtIM⟩
noncomputable def wtIM_key : Nat := key (loopAt Tryz.f17 1)
theorem wtIM_stepok (x : wtIM_vars.den) : stepOf (bldE 84 5 42 44 (mkEnv [(43, decI_con)] [])) Tryz.f17.ntmps wtIM_vars 4 (loopAt Tryz.f17 1) x = wtIM_step x := by kernel_rfl
theorem wtIM_ok : LoopOK Tryz.prog Tryz.f17.ntmps wtIM_L (loopAt Tryz.f17 1)   := iterP_loop (n := Tryz.f17.ntmps) (vs := wtIM_vars) (out := 4) (body := loopAt Tryz.f17 1) (bldE_ok (mkEnv_ok (cons := [(43, decI_con)]) ⟨decI_ok, trivial⟩ []) blt_ok blw_ok bls_ok) wtIM_step wtIM_fuel (by exact trivial) wtIM_stepok

def wtI : (List ((ByteArray × List (Int))) × List ((Int × Int × Int × Int))) → Option (ByteArray) :=
fun x =>
  ob (validWI (x.1, x.2)) fun y =>
    br (!y) (some (⟨⟨[]⟩⟩ : ByteArray))
      (ob (wtIA ((x.1, x.2), (⟨⟨[]⟩⟩ : ByteArray), x.1, (↑x.1.length : Int), (0 : Int))) fun r =>
        ob (wtIM ((r.fst.1, r.fst.2), r.snd.1, r.fst.2, (↑(List.length r.fst.2) : Int), (0 : Int))) fun r =>
          some r.snd.1)
def wtI_con : Con := ⟨[.pair (.slice (.pair (.str) (.slice (i64)))) (.slice (.pair (i64) (.pair (i64) (.pair (i64) (i64)))))], [.d (.str)], wtI⟩
theorem wtI_run (x : Dens [.pair (.slice (.pair (.str) (.slice (i64)))) (.slice (.pair (i64) (.pair (i64) (.pair (i64) (i64)))))]) : runFn (bldE 84 5 42 44 (mkEnv [(25, validWI_con)] [(wtIA_key, wtIA_L), (wtIM_key, wtIM_L)])) Tryz.f17 [.pair (.slice (.pair (.str) (.slice (i64)))) (.slice (.pair (i64) (.pair (i64) (.pair (i64) (i64)))))] [.d (.str)] x = wtI x := by kernel_rfl
theorem wtI_ok : wtI_con.ok Tryz.prog 17 := fn_ok (con := wtI_con) (bldE_ok (mkEnv_ok (cons := [(25, validWI_con)]) ⟨validWI_ok, trivial⟩ [(wtIA_key, wtIA_L), (wtIM_key, wtIM_L)]) blt_ok blw_ok bls_ok) Tryz.func17 rfl (by kernel_rfl) (by exact ⟨wtIA_ok, wtIM_ok, trivial⟩) (fun x y h => (wtI_run x).trans h)







end
end Rx
end Go.Proofs.YtonbgpliomhboaaGreatDoor
