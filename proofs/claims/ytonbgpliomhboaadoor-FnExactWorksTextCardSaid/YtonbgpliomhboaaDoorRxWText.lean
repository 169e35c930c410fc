/- What the functions of RxWText come to, and their contracts. No conditions. -/
import Derived.Test.YtonbgpliomhboaaDoorRxEnv
import Derived.Test.YtonbgpliomhboaaDoorRxText
import Derived.Test.YtonbgpliomhboaaDoorRxWorks
import Derived.Test.YtonbgpliomhboaaDoorRxBld
namespace Go.Proofs.YtonbgpliomhboaaDoor
namespace Rx
open Go

noncomputable section
def wtIT_vars : Vars := [(1, .box 0 31 (.pair (.slice (.pair (.str) (.slice (i64)))) (.slice (.pair (i64) (.pair (i64) (.pair (i64) (i64))))))), (3, .obj (.bld 46 5)), (14, .val (.slice (.pair (.str) (.slice (i64))))), (15, .val (i64)), (16, .val (i64)), (25, .val (.slice (i64))), (26, .val (i64)), (27, .val (i64))]
def wtIT_step : (List ((ByteArray × List (Int))) × List ((Int × Int × Int × Int))) × ByteArray × List ((ByteArray × List (Int))) × Int × Int × List (Int) × Int × Int → Option (LRes × ((List ((ByteArray × List (Int))) × List ((Int × Int × Int × Int))) × ByteArray × List ((ByteArray × List (Int))) × Int × Int × List (Int) × Int × Int)) :=
fun x =>
  br (decide (x.snd.snd.snd.snd.snd.snd.2 < x.snd.snd.snd.snd.snd.snd.1))
    (ob (idx x.snd.snd.snd.snd.snd.1 x.snd.snd.snd.snd.snd.snd.2) fun y =>
      ob (decI y) fun y =>
        br (decide ((⟨⟨[(32 : UInt8)]⟩⟩ : ByteArray).size + ByteArray.size y ≤ (9223372036854775807 : Nat)))
          (br
            (decide
              (ByteArray.size x.snd.1 + ((⟨⟨[(32 : UInt8)]⟩⟩ : ByteArray) ++ y).size ≤ (140737488355328 : Nat)))
            (some
              (LRes.next, (x.fst.1, x.fst.2), x.snd.1 ++ ((⟨⟨[(32 : UInt8)]⟩⟩ : ByteArray) ++ y), x.snd.snd.1,
                x.snd.snd.snd.1, x.snd.snd.snd.snd.1, x.snd.snd.snd.snd.snd.1, x.snd.snd.snd.snd.snd.snd.1,
                IntKind.i64.wrap (x.snd.snd.snd.snd.snd.snd.2 + (1 : Int))))
            none)
          none)
    (some
      (LRes.out, (x.fst.1, x.fst.2), x.snd.1, x.snd.snd.1, x.snd.snd.snd.1, x.snd.snd.snd.snd.1,
        x.snd.snd.snd.snd.snd.1, x.snd.snd.snd.snd.snd.snd.1, x.snd.snd.snd.snd.snd.snd.2))
def wtIT_fuel : (List ((ByteArray × List (Int))) × List ((Int × Int × Int × Int))) × ByteArray × List ((ByteArray × List (Int))) × Int × Int × List (Int) × Int × Int → Nat := fun s => (s.2.2.2.2.2.2.1 - s.2.2.2.2.2.2.2).toNat + 1
def wtIT : (List ((ByteArray × List (Int))) × List ((Int × Int × Int × Int))) × ByteArray × List ((ByteArray × List (Int))) × Int × Int × List (Int) × Int × Int → Option ((List ((ByteArray × List (Int))) × List ((Int × Int × Int × Int))) × ByteArray × List ((ByteArray × List (Int))) × Int × Int × List (Int) × Int × Int) := fun s => iterP wtIT_step (wtIT_fuel s) s
def wtIT_L : LoopC := ⟨wtIT_vars, 2, .plain wtIT⟩
noncomputable def wtIT_key : Nat := key (loopIn (loopAt Tryd.f7 0) 0)
theorem wtIT_stepok (x : wtIT_vars.den) : stepOf (bldE 46 5 16 18 (mkEnv [(17, decI_con)] [])) Tryd.f7.ntmps wtIT_vars 2 (loopIn (loopAt Tryd.f7 0) 0) x = wtIT_step x := by kernel_rfl
theorem wtIT_ok : LoopOK Tryd.prog Tryd.f7.ntmps wtIT_L (loopIn (loopAt Tryd.f7 0) 0)   := iterP_loop (n := Tryd.f7.ntmps) (vs := wtIT_vars) (out := 2) (body := loopIn (loopAt Tryd.f7 0) 0) (bldE_ok (mkEnv_ok (cons := [(17, decI_con)]) ⟨decI_ok, trivial⟩ []) blt_ok blw_ok bls_ok) wtIT_step wtIT_fuel (by exact trivial) wtIT_stepok

def wtIA_vars : Vars := [(1, .box 0 31 (.pair (.slice (.pair (.str) (.slice (i64)))) (.slice (.pair (i64) (.pair (i64) (.pair (i64) (i64))))))), (3, .obj (.bld 46 5)), (14, .val (.slice (.pair (.str) (.slice (i64))))), (15, .val (i64)), (16, .val (i64))]
def wtIA_step : (List ((ByteArray × List (Int))) × List ((Int × Int × Int × Int))) × ByteArray × List ((ByteArray × List (Int))) × Int × Int → Option (LRes × ((List ((ByteArray × List (Int))) × List ((Int × Int × Int × Int))) × ByteArray × List ((ByteArray × List (Int))) × Int × Int)) :=
fun x =>
  br (decide (x.snd.snd.snd.2 < x.snd.snd.snd.1))
    (ob (idx x.snd.snd.1 x.snd.snd.snd.2) fun y =>
      br
        (decide
          ((⟨⟨[(97 : UInt8), (114 : UInt8), (98 : UInt8), (111 : UInt8), (114 : UInt8), (32 : UInt8)]⟩⟩ : ByteArray).size +
              ByteArray.size y.1 ≤
            (9223372036854775807 : Nat)))
        (br
          (decide
            (ByteArray.size x.snd.1 +
                ((⟨⟨[(97 : UInt8), (114 : UInt8), (98 : UInt8), (111 : UInt8), (114 : UInt8), (32 : UInt8)]⟩⟩ : ByteArray) ++
                    y.1).size ≤
              (140737488355328 : Nat)))
          (ob
            (wtIT
              ((x.fst.1, x.fst.2),
                x.snd.1 ++
                  ((⟨⟨[(97 : UInt8), (114 : UInt8), (98 : UInt8), (111 : UInt8), (114 : UInt8), (32 : UInt8)]⟩⟩ : ByteArray) ++
                    y.1),
                x.snd.snd.1, x.snd.snd.snd.1, x.snd.snd.snd.2, y.2, (↑(List.length y.2) : Int), (0 : Int)))
            fun r =>
            br
              (decide
                (ByteArray.size r.snd.1 + (⟨⟨[(10 : UInt8)]⟩⟩ : ByteArray).size ≤ (140737488355328 : Nat)))
              (some
                (LRes.next, (r.fst.1, r.fst.2), r.snd.1 ++ (⟨⟨[(10 : UInt8)]⟩⟩ : ByteArray), r.snd.snd.1,
                  r.snd.snd.snd.1, IntKind.i64.wrap (r.snd.snd.snd.snd.1 + (1 : Int))))
              none)
          none)
        none)
    (some (LRes.out, (x.fst.1, x.fst.2), x.snd.1, x.snd.snd.1, x.snd.snd.snd.1, x.snd.snd.snd.2))
def wtIA_fuel : (List ((ByteArray × List (Int))) × List ((Int × Int × Int × Int))) × ByteArray × List ((ByteArray × List (Int))) × Int × Int → Nat := fun s => (s.2.2.2.1 - s.2.2.2.2).toNat + 1
def wtIA : (List ((ByteArray × List (Int))) × List ((Int × Int × Int × Int))) × ByteArray × List ((ByteArray × List (Int))) × Int × Int → Option ((List ((ByteArray × List (Int))) × List ((Int × Int × Int × Int))) × ByteArray × List ((ByteArray × List (Int))) × Int × Int) := fun s => iterP wtIA_step (wtIA_fuel s) s
def wtIA_L : LoopC := ⟨wtIA_vars, 0, .plain wtIA⟩
noncomputable def wtIA_key : Nat := key (loopAt Tryd.f7 0)
theorem wtIA_stepok (x : wtIA_vars.den) : stepOf (bldE 46 5 16 18 (mkEnv [] [(wtIT_key, wtIT_L)])) Tryd.f7.ntmps wtIA_vars 0 (loopAt Tryd.f7 0) x = wtIA_step x := by kernel_rfl
theorem wtIA_ok : LoopOK Tryd.prog Tryd.f7.ntmps wtIA_L (loopAt Tryd.f7 0)   := iterP_loop (n := Tryd.f7.ntmps) (vs := wtIA_vars) (out := 0) (body := loopAt Tryd.f7 0) (bldE_ok (mkEnv_ok (cons := []) trivial [(wtIT_key, wtIT_L)]) blt_ok blw_ok bls_ok) wtIA_step wtIA_fuel (by exact ⟨wtIT_ok, trivial⟩) wtIA_stepok

def wtIM_vars : Vars := [(1, .box 0 31 (.pair (.slice (.pair (.str) (.slice (i64)))) (.slice (.pair (i64) (.pair (i64) (.pair (i64) (i64))))))), (3, .obj (.bld 46 5)), (39, .val (.slice (.pair (i64) (.pair (i64) (.pair (i64) (i64)))))), (40, .val (i64)), (41, .val (i64))]
def wtIM_step : (List ((ByteArray × List (Int))) × List ((Int × Int × Int × Int))) × ByteArray × List ((Int × Int × Int × Int)) × Int × Int → Option (LRes × ((List ((ByteArray × List (Int))) × List ((Int × Int × Int × Int))) × ByteArray × List ((Int × Int × Int × Int)) × Int × Int)) :=
fun x =>
  br (decide (x.snd.snd.snd.2 < x.snd.snd.snd.1))
    (ob (idx x.snd.snd.1 x.snd.snd.snd.2) fun y =>
      ob (idx x.fst.1 y.1) fun y_1 =>
        br
          (decide
            ((⟨⟨[(109 : UInt8), (101 : UInt8), (115 : UInt8), (104 : UInt8), (32 : UInt8)]⟩⟩ : ByteArray).size +
                ByteArray.size y_1.1 ≤
              (9223372036854775807 : Nat)))
          (br
            (decide
              (((⟨⟨[(109 : UInt8), (101 : UInt8), (115 : UInt8), (104 : UInt8), (32 : UInt8)]⟩⟩ : ByteArray) ++
                      y_1.1).size +
                  (⟨⟨[(32 : UInt8)]⟩⟩ : ByteArray).size ≤
                (9223372036854775807 : Nat)))
            (ob (decI y.snd.1) fun y_2 =>
              br
                (decide
                  (((⟨⟨[(109 : UInt8), (101 : UInt8), (115 : UInt8), (104 : UInt8), (32 : UInt8)]⟩⟩ : ByteArray) ++
                            y_1.1 ++
                          (⟨⟨[(32 : UInt8)]⟩⟩ : ByteArray)).size +
                      ByteArray.size y_2 ≤
                    (9223372036854775807 : Nat)))
                (br
                  (decide
                    (((⟨⟨[(109 : UInt8), (101 : UInt8), (115 : UInt8), (104 : UInt8), (32 : UInt8)]⟩⟩ : ByteArray) ++
                                y_1.1 ++
                              (⟨⟨[(32 : UInt8)]⟩⟩ : ByteArray) ++
                            y_2).size +
                        (⟨⟨[(32 : UInt8)]⟩⟩ : ByteArray).size ≤
                      (9223372036854775807 : Nat)))
                  (ob (idx x.fst.1 y.snd.snd.1) fun y_3 =>
                    br
                      (decide
                        (((⟨⟨[(109 : UInt8), (101 : UInt8), (115 : UInt8), (104 : UInt8), (32 : UInt8)]⟩⟩ : ByteArray) ++
                                      y_1.1 ++
                                    (⟨⟨[(32 : UInt8)]⟩⟩ : ByteArray) ++
                                  y_2 ++
                                (⟨⟨[(32 : UInt8)]⟩⟩ : ByteArray)).size +
                            ByteArray.size y_3.1 ≤
                          (9223372036854775807 : Nat)))
                      (br
                        (decide
                          (((⟨⟨[(109 : UInt8), (101 : UInt8), (115 : UInt8), (104 : UInt8), (32 : UInt8)]⟩⟩ : ByteArray) ++
                                          y_1.1 ++
                                        (⟨⟨[(32 : UInt8)]⟩⟩ : ByteArray) ++
                                      y_2 ++
                                    (⟨⟨[(32 : UInt8)]⟩⟩ : ByteArray) ++
                                  y_3.1).size +
                              (⟨⟨[(32 : UInt8)]⟩⟩ : ByteArray).size ≤
                            (9223372036854775807 : Nat)))
                        (ob (decI y.snd.snd.2) fun y =>
                          br
                            (decide
                              (((⟨⟨[(109 : UInt8), (101 : UInt8), (115 : UInt8), (104 : UInt8), (32 : UInt8)]⟩⟩ : ByteArray) ++
                                                y_1.1 ++
                                              (⟨⟨[(32 : UInt8)]⟩⟩ : ByteArray) ++
                                            y_2 ++
                                          (⟨⟨[(32 : UInt8)]⟩⟩ : ByteArray) ++
                                        y_3.1 ++
                                      (⟨⟨[(32 : UInt8)]⟩⟩ : ByteArray)).size +
                                  ByteArray.size y ≤
                                (9223372036854775807 : Nat)))
                            (br
                              (decide
                                (((⟨⟨[(109 : UInt8), (101 : UInt8), (115 : UInt8), (104 : UInt8), (32 : UInt8)]⟩⟩ : ByteArray) ++
                                                    y_1.1 ++
                                                  (⟨⟨[(32 : UInt8)]⟩⟩ : ByteArray) ++
                                                y_2 ++
                                              (⟨⟨[(32 : UInt8)]⟩⟩ : ByteArray) ++
                                            y_3.1 ++
                                          (⟨⟨[(32 : UInt8)]⟩⟩ : ByteArray) ++
                                        y).size +
                                    (⟨⟨[(10 : UInt8)]⟩⟩ : ByteArray).size ≤
                                  (9223372036854775807 : Nat)))
                              (br
                                (decide
                                  (ByteArray.size x.snd.1 +
                                      ((⟨⟨[(109 : UInt8), (101 : UInt8), (115 : UInt8), (104 : UInt8), (32 : UInt8)]⟩⟩ : ByteArray) ++
                                                        y_1.1 ++
                                                      (⟨⟨[(32 : UInt8)]⟩⟩ : ByteArray) ++
                                                    y_2 ++
                                                  (⟨⟨[(32 : UInt8)]⟩⟩ : ByteArray) ++
                                                y_3.1 ++
                                              (⟨⟨[(32 : UInt8)]⟩⟩ : ByteArray) ++
                                            y ++
                                          (⟨⟨[(10 : UInt8)]⟩⟩ : ByteArray)).size ≤
                                    (140737488355328 : Nat)))
                                (some
                                  (LRes.next, (x.fst.1, x.fst.2),
                                    x.snd.1 ++
                                      ((⟨⟨[(109 : UInt8), (101 : UInt8), (115 : UInt8), (104 : UInt8), (32 : UInt8)]⟩⟩ : ByteArray) ++
                                                      y_1.1 ++
                                                    (⟨⟨[(32 : UInt8)]⟩⟩ : ByteArray) ++
                                                  y_2 ++
                                                (⟨⟨[(32 : UInt8)]⟩⟩ : ByteArray) ++
                                              y_3.1 ++
                                            (⟨⟨[(32 : UInt8)]⟩⟩ : ByteArray) ++
                                          y ++
                                        (⟨⟨[(10 : UInt8)]⟩⟩ : ByteArray)),
                                    x.snd.snd.1, x.snd.snd.snd.1, IntKind.i64.wrap (x.snd.snd.snd.2 + (1 : Int))))
                                none)
                              none)
                            none)
                        none)
                      none)
                  none)
                none)
            none)
          none)
    (some (LRes.out, (x.fst.1, x.fst.2), x.snd.1, x.snd.snd.1, x.snd.snd.snd.1, x.snd.snd.snd.2))
def wtIM_fuel : (List ((ByteArray × List (Int))) × List ((Int × Int × Int × Int))) × ByteArray × List ((Int × Int × Int × Int)) × Int × Int → Nat := fun s => (s.2.2.2.1 - s.2.2.2.2).toNat + 1
def wtIM : (List ((ByteArray × List (Int))) × List ((Int × Int × Int × Int))) × ByteArray × List ((Int × Int × Int × Int)) × Int × Int → Option ((List ((ByteArray × List (Int))) × List ((Int × Int × Int × Int))) × ByteArray × List ((Int × Int × Int × Int)) × Int × Int) := fun s => iterP wtIM_step (wtIM_fuel s) s
def wtIM_L : LoopC := ⟨wtIM_vars, 4, .plain wtIM⟩
noncomputable def wtIM_key : Nat := key (loopAt Tryd.f7 1)
theorem wtIM_stepok (x : wtIM_vars.den) : stepOf (bldE 46 5 16 18 (mkEnv [(17, decI_con)] [])) Tryd.f7.ntmps wtIM_vars 4 (loopAt Tryd.f7 1) x = wtIM_step x := by kernel_rfl
theorem wtIM_ok : LoopOK Tryd.prog Tryd.f7.ntmps wtIM_L (loopAt Tryd.f7 1)   := iterP_loop (n := Tryd.f7.ntmps) (vs := wtIM_vars) (out := 4) (body := loopAt Tryd.f7 1) (bldE_ok (mkEnv_ok (cons := [(17, decI_con)]) ⟨decI_ok, trivial⟩ []) blt_ok blw_ok bls_ok) wtIM_step wtIM_fuel (by exact trivial) wtIM_stepok

def wtI : (List ((ByteArray × List (Int))) × List ((Int × Int × Int × Int))) → Option (ByteArray) :=
fun x =>
  ob (validWI (x.1, x.2)) fun y =>
    br (!y) (some (⟨⟨[]⟩⟩ : ByteArray))
      (ob (wtIA ((x.1, x.2), (⟨⟨[]⟩⟩ : ByteArray), x.1, (↑x.1.length : Int), (0 : Int))) fun r =>
        ob (wtIM ((r.fst.1, r.fst.2), r.snd.1, r.fst.2, (↑(List.length r.fst.2) : Int), (0 : Int))) fun r =>
          some r.snd.1)
def wtI_con : Con := ⟨[.pair (.slice (.pair (.str) (.slice (i64)))) (.slice (.pair (i64) (.pair (i64) (.pair (i64) (i64)))))], [.d (.str)], wtI⟩
theorem wtI_run (x : Dens [.pair (.slice (.pair (.str) (.slice (i64)))) (.slice (.pair (i64) (.pair (i64) (.pair (i64) (i64)))))]) : runFn (bldE 46 5 16 18 (mkEnv [(15, validWI_con)] [(wtIA_key, wtIA_L), (wtIM_key, wtIM_L)])) Tryd.f7 [.pair (.slice (.pair (.str) (.slice (i64)))) (.slice (.pair (i64) (.pair (i64) (.pair (i64) (i64)))))] [.d (.str)] x = wtI x := by kernel_rfl
theorem wtI_ok : wtI_con.ok Tryd.prog 7 := fn_ok (con := wtI_con) (bldE_ok (mkEnv_ok (cons := [(15, validWI_con)]) ⟨validWI_ok, trivial⟩ [(wtIA_key, wtIA_L), (wtIM_key, wtIM_L)]) blt_ok blw_ok bls_ok) Tryd.func7 rfl (by kernel_rfl) (by exact ⟨wtIA_ok, wtIM_ok, trivial⟩) (fun x y h => (wtI_run x).trans h)

def wtST_vars : Vars := [(0, .val (.ref (.pair (.slice (.pair (.str) (.slice (i64)))) (.slice (.pair (i64) (.pair (i64) (.pair (i64) (i64)))))))), (3, .val (.str)), (4, .val (i64)), (5, .val (i64))]
def wtST_step : (List ((ByteArray × List (Int))) × List ((Int × Int × Int × Int))) × ByteArray × Int × Int → Option (LRes × ((List ((ByteArray × List (Int))) × List ((Int × Int × Int × Int))) × ByteArray × Int × Int)) :=
fun x =>
  ob (idx x.fst.1 x.snd.snd.1) fun y =>
    br (decide (x.snd.snd.2 < (↑(List.length y.2) : Int)))
      (ob (idx x.fst.1 x.snd.snd.1) fun y =>
        ob (idx y.2 x.snd.snd.2) fun y =>
          ob (decT y) fun y =>
            br (decide ((⟨⟨[(32 : UInt8)]⟩⟩ : ByteArray).size + ByteArray.size y ≤ (9223372036854775807 : Nat)))
              (br
                (decide
                  (ByteArray.size x.snd.1 + ((⟨⟨[(32 : UInt8)]⟩⟩ : ByteArray) ++ y).size ≤
                    (9223372036854775807 : Nat)))
                (some
                  (LRes.next, x.1, x.snd.1 ++ ((⟨⟨[(32 : UInt8)]⟩⟩ : ByteArray) ++ y), x.snd.snd.1,
                    IntKind.i64.wrap (x.snd.snd.2 + (1 : Int))))
                none)
              none)
      (some (LRes.out, x.1, x.snd.1, x.snd.snd.1, x.snd.snd.2))
def wtST_fuel : (List ((ByteArray × List (Int))) × List ((Int × Int × Int × Int))) × ByteArray × Int × Int → Nat := fun s => ((s.1.1[s.2.2.1.toNat]?).getD (ByteArray.empty, [])).2.length + 1
def wtST : (List ((ByteArray × List (Int))) × List ((Int × Int × Int × Int))) × ByteArray × Int × Int → Option ((List ((ByteArray × List (Int))) × List ((Int × Int × Int × Int))) × ByteArray × Int × Int) := fun s => iterP wtST_step (wtST_fuel s) s
def wtST_L : LoopC := ⟨wtST_vars, 2, .plain wtST⟩
noncomputable def wtST_key : Nat := key (loopIn (loopAt Tryd.f12 0) 0)
theorem wtST_stepok (x : wtST_vars.den) : stepOf (mkEnv [(26, decT_con)] []) Tryd.f12.ntmps wtST_vars 2 (loopIn (loopAt Tryd.f12 0) 0) x = wtST_step x := by kernel_rfl
theorem wtST_ok : LoopOK Tryd.prog Tryd.f12.ntmps wtST_L (loopIn (loopAt Tryd.f12 0) 0)   := iterP_loop (n := Tryd.f12.ntmps) (vs := wtST_vars) (out := 2) (body := loopIn (loopAt Tryd.f12 0) 0) (mkEnv_ok (cons := [(26, decT_con)]) ⟨decT_ok, trivial⟩ []) wtST_step wtST_fuel (by exact trivial) wtST_stepok

def wtSA_vars : Vars := [(0, .val (.ref (.pair (.slice (.pair (.str) (.slice (i64)))) (.slice (.pair (i64) (.pair (i64) (.pair (i64) (i64)))))))), (3, .val (.str)), (4, .val (i64))]
def wtSA_step : (List ((ByteArray × List (Int))) × List ((Int × Int × Int × Int))) × ByteArray × Int → Option (LRes × ((List ((ByteArray × List (Int))) × List ((Int × Int × Int × Int))) × ByteArray × Int)) :=
fun x =>
  br (decide (x.snd.2 < (↑(List.length x.fst.1) : Int)))
    (ob (idx x.fst.1 x.snd.2) fun y =>
      br
        (decide
          ((⟨⟨[(97 : UInt8), (114 : UInt8), (98 : UInt8), (111 : UInt8), (114 : UInt8), (32 : UInt8)]⟩⟩ : ByteArray).size +
              ByteArray.size y.1 ≤
            (9223372036854775807 : Nat)))
        (br
          (decide
            (ByteArray.size x.snd.1 +
                ((⟨⟨[(97 : UInt8), (114 : UInt8), (98 : UInt8), (111 : UInt8), (114 : UInt8), (32 : UInt8)]⟩⟩ : ByteArray) ++
                    y.1).size ≤
              (9223372036854775807 : Nat)))
          (ob
            (wtST
              (x.1,
                x.snd.1 ++
                  ((⟨⟨[(97 : UInt8), (114 : UInt8), (98 : UInt8), (111 : UInt8), (114 : UInt8), (32 : UInt8)]⟩⟩ : ByteArray) ++
                    y.1),
                x.snd.2, (0 : Int)))
            fun r =>
            br
              (decide
                (ByteArray.size r.snd.1 + (⟨⟨[(10 : UInt8)]⟩⟩ : ByteArray).size ≤ (9223372036854775807 : Nat)))
              (some
                (LRes.next, r.1, r.snd.1 ++ (⟨⟨[(10 : UInt8)]⟩⟩ : ByteArray),
                  IntKind.i64.wrap (r.snd.snd.1 + (1 : Int))))
              none)
          none)
        none)
    (some (LRes.out, x.1, x.snd.1, x.snd.2))
def wtSA_fuel : (List ((ByteArray × List (Int))) × List ((Int × Int × Int × Int))) × ByteArray × Int → Nat := fun s => (s.1.1.length - s.2.2.toNat) + 1
def wtSA : (List ((ByteArray × List (Int))) × List ((Int × Int × Int × Int))) × ByteArray × Int → Option ((List ((ByteArray × List (Int))) × List ((Int × Int × Int × Int))) × ByteArray × Int) := fun s => iterP wtSA_step (wtSA_fuel s) s
def wtSA_L : LoopC := ⟨wtSA_vars, 0, .plain wtSA⟩
noncomputable def wtSA_key : Nat := key (loopAt Tryd.f12 0)
theorem wtSA_stepok (x : wtSA_vars.den) : stepOf (mkEnv [] [(wtST_key, wtST_L)]) Tryd.f12.ntmps wtSA_vars 0 (loopAt Tryd.f12 0) x = wtSA_step x := by kernel_rfl
theorem wtSA_ok : LoopOK Tryd.prog Tryd.f12.ntmps wtSA_L (loopAt Tryd.f12 0)   := iterP_loop (n := Tryd.f12.ntmps) (vs := wtSA_vars) (out := 0) (body := loopAt Tryd.f12 0) (mkEnv_ok (cons := []) trivial [(wtST_key, wtST_L)]) wtSA_step wtSA_fuel (by exact ⟨wtST_ok, trivial⟩) wtSA_stepok

def wtSM_vars : Vars := [(0, .val (.ref (.pair (.slice (.pair (.str) (.slice (i64)))) (.slice (.pair (i64) (.pair (i64) (.pair (i64) (i64)))))))), (3, .val (.str)), (6, .val (i64))]
def wtSM_step : (List ((ByteArray × List (Int))) × List ((Int × Int × Int × Int))) × ByteArray × Int → Option (LRes × ((List ((ByteArray × List (Int))) × List ((Int × Int × Int × Int))) × ByteArray × Int)) :=
fun x =>
  br (decide (x.snd.2 < (↑(List.length x.fst.2) : Int)))
    (ob (idx x.fst.2 x.snd.2) fun y =>
      ob (idx x.fst.1 y.1) fun y_1 =>
        br
          (decide
            ((⟨⟨[(109 : UInt8), (101 : UInt8), (115 : UInt8), (104 : UInt8), (32 : UInt8)]⟩⟩ : ByteArray).size +
                ByteArray.size y_1.1 ≤
              (9223372036854775807 : Nat)))
          (br
            (decide
              (((⟨⟨[(109 : UInt8), (101 : UInt8), (115 : UInt8), (104 : UInt8), (32 : UInt8)]⟩⟩ : ByteArray) ++
                      y_1.1).size +
                  (⟨⟨[(32 : UInt8)]⟩⟩ : ByteArray).size ≤
                (9223372036854775807 : Nat)))
            (ob (decT y.snd.1) fun y_2 =>
              br
                (decide
                  (((⟨⟨[(109 : UInt8), (101 : UInt8), (115 : UInt8), (104 : UInt8), (32 : UInt8)]⟩⟩ : ByteArray) ++
                            y_1.1 ++
                          (⟨⟨[(32 : UInt8)]⟩⟩ : ByteArray)).size +
                      ByteArray.size y_2 ≤
                    (9223372036854775807 : Nat)))
                (br
                  (decide
                    (((⟨⟨[(109 : UInt8), (101 : UInt8), (115 : UInt8), (104 : UInt8), (32 : UInt8)]⟩⟩ : ByteArray) ++
                                y_1.1 ++
                              (⟨⟨[(32 : UInt8)]⟩⟩ : ByteArray) ++
                            y_2).size +
                        (⟨⟨[(32 : UInt8)]⟩⟩ : ByteArray).size ≤
                      (9223372036854775807 : Nat)))
                  (ob (idx x.fst.1 y.snd.snd.1) fun y_3 =>
                    br
                      (decide
                        (((⟨⟨[(109 : UInt8), (101 : UInt8), (115 : UInt8), (104 : UInt8), (32 : UInt8)]⟩⟩ : ByteArray) ++
                                      y_1.1 ++
                                    (⟨⟨[(32 : UInt8)]⟩⟩ : ByteArray) ++
                                  y_2 ++
                                (⟨⟨[(32 : UInt8)]⟩⟩ : ByteArray)).size +
                            ByteArray.size y_3.1 ≤
                          (9223372036854775807 : Nat)))
                      (br
                        (decide
                          (((⟨⟨[(109 : UInt8), (101 : UInt8), (115 : UInt8), (104 : UInt8), (32 : UInt8)]⟩⟩ : ByteArray) ++
                                          y_1.1 ++
                                        (⟨⟨[(32 : UInt8)]⟩⟩ : ByteArray) ++
                                      y_2 ++
                                    (⟨⟨[(32 : UInt8)]⟩⟩ : ByteArray) ++
                                  y_3.1).size +
                              (⟨⟨[(32 : UInt8)]⟩⟩ : ByteArray).size ≤
                            (9223372036854775807 : Nat)))
                        (ob (decT y.snd.snd.2) fun y =>
                          br
                            (decide
                              (((⟨⟨[(109 : UInt8), (101 : UInt8), (115 : UInt8), (104 : UInt8), (32 : UInt8)]⟩⟩ : ByteArray) ++
                                                y_1.1 ++
                                              (⟨⟨[(32 : UInt8)]⟩⟩ : ByteArray) ++
                                            y_2 ++
                                          (⟨⟨[(32 : UInt8)]⟩⟩ : ByteArray) ++
                                        y_3.1 ++
                                      (⟨⟨[(32 : UInt8)]⟩⟩ : ByteArray)).size +
                                  ByteArray.size y ≤
                                (9223372036854775807 : Nat)))
                            (br
                              (decide
                                (((⟨⟨[(109 : UInt8), (101 : UInt8), (115 : UInt8), (104 : UInt8), (32 : UInt8)]⟩⟩ : ByteArray) ++
                                                    y_1.1 ++
                                                  (⟨⟨[(32 : UInt8)]⟩⟩ : ByteArray) ++
                                                y_2 ++
                                              (⟨⟨[(32 : UInt8)]⟩⟩ : ByteArray) ++
                                            y_3.1 ++
                                          (⟨⟨[(32 : UInt8)]⟩⟩ : ByteArray) ++
                                        y).size +
                                    (⟨⟨[(10 : UInt8)]⟩⟩ : ByteArray).size ≤
                                  (9223372036854775807 : Nat)))
                              (br
                                (decide
                                  (ByteArray.size x.snd.1 +
                                      ((⟨⟨[(109 : UInt8), (101 : UInt8), (115 : UInt8), (104 : UInt8), (32 : UInt8)]⟩⟩ : ByteArray) ++
                                                        y_1.1 ++
                                                      (⟨⟨[(32 : UInt8)]⟩⟩ : ByteArray) ++
                                                    y_2 ++
                                                  (⟨⟨[(32 : UInt8)]⟩⟩ : ByteArray) ++
                                                y_3.1 ++
                                              (⟨⟨[(32 : UInt8)]⟩⟩ : ByteArray) ++
                                            y ++
                                          (⟨⟨[(10 : UInt8)]⟩⟩ : ByteArray)).size ≤
                                    (9223372036854775807 : Nat)))
                                (some
                                  (LRes.next, x.1,
                                    x.snd.1 ++
                                      ((⟨⟨[(109 : UInt8), (101 : UInt8), (115 : UInt8), (104 : UInt8), (32 : UInt8)]⟩⟩ : ByteArray) ++
                                                      y_1.1 ++
                                                    (⟨⟨[(32 : UInt8)]⟩⟩ : ByteArray) ++
                                                  y_2 ++
                                                (⟨⟨[(32 : UInt8)]⟩⟩ : ByteArray) ++
                                              y_3.1 ++
                                            (⟨⟨[(32 : UInt8)]⟩⟩ : ByteArray) ++
                                          y ++
                                        (⟨⟨[(10 : UInt8)]⟩⟩ : ByteArray)),
                                    IntKind.i64.wrap (x.snd.2 + (1 : Int))))
                                none)
                              none)
                            none)
                        none)
                      none)
                  none)
                none)
            none)
          none)
    (some (LRes.out, x.1, x.snd.1, x.snd.2))
def wtSM_fuel : (List ((ByteArray × List (Int))) × List ((Int × Int × Int × Int))) × ByteArray × Int → Nat := fun s => (s.1.2.length - s.2.2.toNat) + 1
def wtSM : (List ((ByteArray × List (Int))) × List ((Int × Int × Int × Int))) × ByteArray × Int → Option ((List ((ByteArray × List (Int))) × List ((Int × Int × Int × Int))) × ByteArray × Int) := fun s => iterP wtSM_step (wtSM_fuel s) s
def wtSM_L : LoopC := ⟨wtSM_vars, 4, .plain wtSM⟩
noncomputable def wtSM_key : Nat := key (loopAt Tryd.f12 1)
theorem wtSM_stepok (x : wtSM_vars.den) : stepOf (mkEnv [(26, decT_con)] []) Tryd.f12.ntmps wtSM_vars 4 (loopAt Tryd.f12 1) x = wtSM_step x := by kernel_rfl
theorem wtSM_ok : LoopOK Tryd.prog Tryd.f12.ntmps wtSM_L (loopAt Tryd.f12 1)   := iterP_loop (n := Tryd.f12.ntmps) (vs := wtSM_vars) (out := 4) (body := loopAt Tryd.f12 1) (mkEnv_ok (cons := [(26, decT_con)]) ⟨decT_ok, trivial⟩ []) wtSM_step wtSM_fuel (by exact trivial) wtSM_stepok

def wtS : (List ((ByteArray × List (Int))) × List ((Int × Int × Int × Int))) → Option (ByteArray) :=
fun x =>
  ob (wtSA (x, (⟨⟨[]⟩⟩ : ByteArray), (0 : Int))) fun r =>
    ob (wtSM (r.1, r.snd.1, (0 : Int))) fun r => some r.snd.1
def wtS_con : Con := ⟨[.ref (.pair (.slice (.pair (.str) (.slice (i64)))) (.slice (.pair (i64) (.pair (i64) (.pair (i64) (i64))))))], [.d (.str)], wtS⟩
theorem wtS_run (x : Dens [.ref (.pair (.slice (.pair (.str) (.slice (i64)))) (.slice (.pair (i64) (.pair (i64) (.pair (i64) (i64))))))]) : runFn (mkEnv [] [(wtSA_key, wtSA_L), (wtSM_key, wtSM_L)]) Tryd.f12 [.ref (.pair (.slice (.pair (.str) (.slice (i64)))) (.slice (.pair (i64) (.pair (i64) (.pair (i64) (i64))))))] [.d (.str)] x = wtS x := by kernel_rfl
theorem wtS_ok : wtS_con.ok Tryd.prog 12 := fn_ok (con := wtS_con) (mkEnv_ok (cons := []) trivial [(wtSA_key, wtSA_L), (wtSM_key, wtSM_L)]) Tryd.func12 rfl (by kernel_rfl) (by exact ⟨wtSA_ok, wtSM_ok, trivial⟩) (fun x y h => (wtS_run x).trans h)

def wtOS : (List ((ByteArray × List (Int))) × List ((Int × Int × Int × Int))) → Option (ByteArray) :=
fun x => ob (okWS (x.1, x.2)) fun y => br (!y) (some (⟨⟨[]⟩⟩ : ByteArray)) (ob (wtS (x.1, x.2)) fun y => some y)
def wtOS_con : Con := ⟨[.pair (.slice (.pair (.str) (.slice (i64)))) (.slice (.pair (i64) (.pair (i64) (.pair (i64) (i64)))))], [.d (.str)], wtOS⟩
theorem wtOS_run (x : Dens [.pair (.slice (.pair (.str) (.slice (i64)))) (.slice (.pair (i64) (.pair (i64) (.pair (i64) (i64)))))]) : runFn (mkEnv [(11, okWS_con), (12, wtS_con)] []) Tryd.f5 [.pair (.slice (.pair (.str) (.slice (i64)))) (.slice (.pair (i64) (.pair (i64) (.pair (i64) (i64)))))] [.d (.str)] x = wtOS x := by kernel_rfl
theorem wtOS_ok : wtOS_con.ok Tryd.prog 5 := fn_ok (con := wtOS_con) (mkEnv_ok (cons := [(11, okWS_con), (12, wtS_con)]) ⟨okWS_ok, wtS_ok, trivial⟩ []) Tryd.func5 rfl (by kernel_rfl) (by exact trivial) (fun x y h => (wtOS_run x).trans h)

def lawWText : (List ((ByteArray × List (Int))) × List ((Int × Int × Int × Int))) → Option (Bool) :=
fun x =>
  ob (szWorksL ((x.1, x.2), (1048576 : Int))) fun y =>
    br (decide (y < (0 : Int))) (some true)
      (ob (toWorksL (x.1, x.2)) fun y =>
        ob (wtOS (y.1, y.2)) fun y =>
          ob (toWorksL (x.1, x.2)) fun y_1 =>
            ob (wtI (y_1.1, y_1.2)) fun y_2 =>
              br (!ByteArray.toList y_2 == ByteArray.toList y) (some false)
                (ob (toWorksL (x.1, x.2)) fun y =>
                  ob (eqWorksL ((y_1.1, y_1.2), y.1, y.2)) fun y => br (!y) (some false) (some true)))
def lawWText_con : Con := ⟨[.pair (.slice (.pair (.str) (.slice (i64)))) (.slice (.pair (i64) (.pair (i64) (.pair (i64) (i64)))))], [.d (.bool)], lawWText⟩
theorem lawWText_run (x : Dens [.pair (.slice (.pair (.str) (.slice (i64)))) (.slice (.pair (i64) (.pair (i64) (.pair (i64) (i64)))))]) : runFn (mkEnv [(4, szWorksL_con), (6, toWorksL_con), (5, wtOS_con), (7, wtI_con), (8, eqWorksL_con)] []) Tryd.f3 [.pair (.slice (.pair (.str) (.slice (i64)))) (.slice (.pair (i64) (.pair (i64) (.pair (i64) (i64)))))] [.d (.bool)] x = lawWText x := by kernel_rfl
theorem lawWText_ok : lawWText_con.ok Tryd.prog 3 := fn_ok (con := lawWText_con) (mkEnv_ok (cons := [(4, szWorksL_con), (6, toWorksL_con), (5, wtOS_con), (7, wtI_con), (8, eqWorksL_con)]) ⟨szWorksL_ok, toWorksL_ok, wtOS_ok, wtI_ok, eqWorksL_ok, trivial⟩ []) Tryd.func3 rfl (by kernel_rfl) (by exact trivial) (fun x y h => (lawWText_run x).trans h)

end
end Rx
end Go.Proofs.YtonbgpliomhboaaDoor
