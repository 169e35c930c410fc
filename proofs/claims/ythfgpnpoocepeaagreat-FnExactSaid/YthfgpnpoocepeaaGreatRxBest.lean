/- What the functions of RxBest come to, and their contracts. No conditions. -/
import Derived.Test.YthfgpnpoocepeaaGreatRxEnv
import Derived.Test.YthfgpnpoocepeaaGreatRxSearch
namespace Go.Proofs.YthfgpnpoocepeaaGreat
namespace Rx
open Go

noncomputable section
def nearBI : Int × Int × (Int × Int) → Option (Int) :=
fun x => ob (cmpI (IntKind.i64.wrap (x.1 * x.snd.snd.1), IntKind.i64.wrap (x.snd.1 * x.snd.snd.2))) fun y => some y
def nearBI_con : Con := ⟨[i64, i64, .ref (.pair (i64) (i64))], [.d (i64)], nearBI⟩
theorem nearBI_run (x : Dens [i64, i64, .ref (.pair (i64) (i64))]) : runFn (mkEnv [(61, cmpI_con)] []) Tryz.f74 [i64, i64, .ref (.pair (i64) (i64))] [.d (i64)] x = nearBI x := by kernel_rfl
theorem nearBI_ok : nearBI_con.ok Tryz.prog 74 := fn_ok (con := nearBI_con) (mkEnv_ok (cons := [(61, cmpI_con)]) ⟨cmpI_ok, trivial⟩ []) Tryz.func74 rfl (by kernel_rfl) (by exact trivial) (fun x y h => (nearBI_run x).trans h)

def bsearchL_vars : Vars := [(0, .val (.slice (i64))), (1, .val (i64)), (2, .val (.clo 74 (.pair (i64) (i64)))), (8, .val (i64)), (9, .val (i64)), (10, .val (i64))]
def bsearchL_step : List (Int) × Int × (Int × Int) × Int × Int × Int → Option (LRes × (List (Int) × Int × (Int × Int) × Int × Int × Int)) :=
fun x =>
  br (decide (x.snd.snd.snd.snd.1 < x.snd.snd.snd.snd.2))
    (ob
      (idx x.1
        (IntKind.i64.wrap
          (shrI IntKind.u64 (IntKind.u64.wrap (IntKind.i64.wrap (x.snd.snd.snd.snd.1 + x.snd.snd.snd.snd.2)))
            (1 : Int))))
      fun y =>
      ob (nearBI (y, x.snd.1, x.snd.snd.1)) fun y =>
        br (decide (y < (0 : Int)))
          (some
            (LRes.next, x.1, x.snd.1, x.snd.snd.1, x.snd.snd.snd.1,
              IntKind.i64.wrap
                (IntKind.i64.wrap
                    (shrI IntKind.u64 (IntKind.u64.wrap (IntKind.i64.wrap (x.snd.snd.snd.snd.1 + x.snd.snd.snd.snd.2)))
                      (1 : Int)) +
                  (1 : Int)),
              x.snd.snd.snd.snd.2))
          (some
            (LRes.next, x.1, x.snd.1, x.snd.snd.1, x.snd.snd.snd.1, x.snd.snd.snd.snd.1,
              IntKind.i64.wrap
                (shrI IntKind.u64 (IntKind.u64.wrap (IntKind.i64.wrap (x.snd.snd.snd.snd.1 + x.snd.snd.snd.snd.2)))
                  (1 : Int)))))
    (some (LRes.out, x.1, x.snd.1, x.snd.snd.1, x.snd.snd.snd.1, x.snd.snd.snd.snd.1, x.snd.snd.snd.snd.2))
def bsearchL_fuel : List (Int) × Int × (Int × Int) × Int × Int × Int → Nat := fun s => (s.2.2.2.2.2 - s.2.2.2.2.1).toNat + 1
def bsearchL : List (Int) × Int × (Int × Int) × Int × Int × Int → Option (List (Int) × Int × (Int × Int) × Int × Int × Int) := fun s => iterP bsearchL_step (bsearchL_fuel s) s
def bsearchL_L : LoopC := ⟨bsearchL_vars, 0, .plain bsearchL⟩
noncomputable def bsearchL_key : Nat := key (loopAt Tryz.f73 0)
theorem bsearchL_stepok (x : bsearchL_vars.den) : stepOf (mkEnv [(74, nearBI_con)] []) Tryz.f73.ntmps bsearchL_vars 0 (loopAt Tryz.f73 0) x = bsearchL_step x := by kernel_rfl
theorem bsearchL_ok : LoopOK Tryz.prog Tryz.f73.ntmps bsearchL_L (loopAt Tryz.f73 0)   := iterP_loop (n := Tryz.f73.ntmps) (vs := bsearchL_vars) (out := 0) (body := loopAt Tryz.f73 0) (mkEnv_ok (cons := [(74, nearBI_con)]) ⟨nearBI_ok, trivial⟩ []) bsearchL_step bsearchL_fuel (by exact trivial) bsearchL_stepok

def bsearch : List (Int) × Int × (Int × Int) → Option (Int × Bool) :=
fun x =>
  ob (bsearchL (x.1, x.snd.1, x.snd.2, (↑x.1.length : Int), (0 : Int), (↑x.1.length : Int))) fun r =>
    br (decide (r.snd.snd.snd.snd.1 < r.snd.snd.snd.1))
      (ob (idx r.1 r.snd.snd.snd.snd.1) fun y =>
        ob (nearBI (y, r.snd.1, r.snd.snd.1)) fun y => some (r.snd.snd.snd.snd.1, y == (0 : Int)))
      (some (r.snd.snd.snd.snd.1, false))
def bsearch_con : Con := ⟨[.slice (i64), i64, .clo 74 (.pair (i64) (i64))], [.d (i64), .d (.bool)], bsearch⟩
theorem bsearch_run (x : Dens [.slice (i64), i64, .clo 74 (.pair (i64) (i64))]) : runFn (mkEnv [(74, nearBI_con)] [(bsearchL_key, bsearchL_L)]) Tryz.f73 [.slice (i64), i64, .clo 74 (.pair (i64) (i64))] [.d (i64), .d (.bool)] x = bsearch x := by kernel_rfl
theorem bsearch_ok : bsearch_con.ok Tryz.prog 73 := fn_ok (con := bsearch_con) (mkEnv_ok (cons := [(74, nearBI_con)]) ⟨nearBI_ok, trivial⟩ [(bsearchL_key, bsearchL_L)]) Tryz.func73 rfl (by kernel_rfl) (by exact ⟨bsearchL_ok, trivial⟩) (fun x y h => (bsearch_run x).trans h)

def missI : Int × Int × (Int × Int) → Option ((Int × Int × Int)) :=
fun x =>
  ob (absI (IntKind.i64.wrap (IntKind.i64.wrap (x.1 * x.snd.snd.2) - IntKind.i64.wrap (x.snd.1 * x.snd.snd.1))))
    fun y => some (x.1, x.snd.1, y)
def missI_con : Con := ⟨[i64, i64, .pair (i64) (i64)], [.d (.pair (i64) (.pair (i64) (i64)))], missI⟩
theorem missI_run (x : Dens [i64, i64, .pair (i64) (i64)]) : runFn (mkEnv [(78, absI_con)] []) Tryz.f75 [i64, i64, .pair (i64) (i64)] [.d (.pair (i64) (.pair (i64) (i64)))] x = missI x := by kernel_rfl
theorem missI_ok : missI_con.ok Tryz.prog 75 := fn_ok (con := missI_con) (mkEnv_ok (cons := [(78, absI_con)]) ⟨absI_ok, trivial⟩ []) Tryz.func75 rfl (by kernel_rfl) (by exact trivial) (fun x y h => (missI_run x).trans h)

def missC : (Int × Int × Int) × (Int × Int × Int) → Option (Int) :=
fun x =>
  ob (cmpI (IntKind.i64.wrap (x.fst.snd.2 * x.snd.snd.1), IntKind.i64.wrap (x.snd.snd.2 * x.fst.snd.1))) fun y => some y
def missC_con : Con := ⟨[.pair (i64) (.pair (i64) (i64)), .pair (i64) (.pair (i64) (i64))], [.d (i64)], missC⟩
theorem missC_run (x : Dens [.pair (i64) (.pair (i64) (i64)), .pair (i64) (.pair (i64) (i64))]) : runFn (mkEnv [(61, cmpI_con)] []) Tryz.f76 [.pair (i64) (.pair (i64) (i64)), .pair (i64) (.pair (i64) (i64))] [.d (i64)] x = missC x := by kernel_rfl
theorem missC_ok : missC_con.ok Tryz.prog 76 := fn_ok (con := missC_con) (mkEnv_ok (cons := [(61, cmpI_con)]) ⟨cmpI_ok, trivial⟩ []) Tryz.func76 rfl (by kernel_rfl) (by exact trivial) (fun x y h => (missC_run x).trans h)

def bestL00_vars : Vars := [(2, .box 0 27 (.pair (i64) (i64))), (5, .boxR 0 69 (.pair (.row 2 (i64)) (.mp true 66 (.slice (i64))))), (6, .boxR 0 69 (.pair (.row 2 (i64)) (.mp true 66 (.slice (i64))))), (7, .row 0 114 (.pair (i64) (.pair (i64) (i64)))), (9, .val (i64)), (10, .val (i64)), (12, .val (i64)), (37, .same 5 (.pair (.row 2 (i64)) (.mp true 66 (.slice (i64)))) 0), (38, .val (i64)), (39, .val (i64))]
def bestL00_step : (Int × Int) × (List (Int) × List (Int × List (List (Int)))) × (List (Int) × List (Int × List (List (Int)))) × List ((Int × Int × Int)) × Int × Int × Int × Unit × Int × Int → Option (LRes × ((Int × Int) × (List (Int) × List (Int × List (List (Int)))) × (List (Int) × List (Int × List (List (Int)))) × List ((Int × Int × Int)) × Int × Int × Int × Unit × Int × Int)) :=
fun x =>
  br (decide (x.snd.snd.snd.snd.snd.snd.1 ≤ x.snd.snd.snd.snd.snd.1))
    (br (decide (x.snd.snd.snd.snd.snd.snd.1 < (↑(List.length x.snd.snd.fst.1) : Int)))
      (ob (idx x.snd.snd.fst.1 x.snd.snd.snd.snd.snd.snd.1) fun x_1 =>
        ob (List.get?Internal x.snd.snd.fst.1 (Int.toNat x.snd.snd.snd.snd.snd.snd.1)) fun x_2 =>
          ob (missI (x.snd.snd.snd.snd.1, x_2, x.fst.1, x.fst.2)) fun y =>
            br (decide ((0 : Int) < (↑(List.length x.snd.snd.snd.1) : Int)))
              (ob (idx x.snd.snd.snd.1 (0 : Int)) fun x_3 =>
                ob (List.get?Internal x.snd.snd.snd.1 (Int.toNat (0 : Int))) fun x_4 =>
                  ob (missC ((y.1, y.snd.1, y.snd.2), x_4.1, x_4.snd.1, x_4.snd.2)) fun y_1 =>
                    br (decide (y_1 < (0 : Int)))
                      (br (decide ([(y.1, y.snd.1, y.snd.2)].length ≤ (4294967296 : Nat)))
                        (some
                          (LRes.next, (x.fst.1, x.fst.2), (x.snd.fst.1, x.snd.fst.2),
                            (x.snd.snd.fst.1, x.snd.snd.fst.2), [(y.1, y.snd.1, y.snd.2)], x.snd.snd.snd.snd.1,
                            x.snd.snd.snd.snd.snd.1, IntKind.i64.wrap (x.snd.snd.snd.snd.snd.snd.1 + (1 : Int)),
                            PUnit.unit, x.snd.snd.snd.snd.snd.snd.snd.snd.1, x.snd.snd.snd.snd.snd.snd.snd.snd.2))
                        none)
                      (br ((↑(List.length x.snd.snd.snd.1) : Int) == (0 : Int))
                        (br
                          (decide (List.length x.snd.snd.snd.1 + [(y.1, y.snd.1, y.snd.2)].length ≤ (4294967296 : Nat)))
                          (some
                            (LRes.next, (x.fst.1, x.fst.2), (x.snd.fst.1, x.snd.fst.2),
                              (x.snd.snd.fst.1, x.snd.snd.fst.2), x.snd.snd.snd.1 ++ [(y.1, y.snd.1, y.snd.2)],
                              x.snd.snd.snd.snd.1, x.snd.snd.snd.snd.snd.1,
                              IntKind.i64.wrap (x.snd.snd.snd.snd.snd.snd.1 + (1 : Int)), PUnit.unit,
                              x.snd.snd.snd.snd.snd.snd.snd.snd.1, x.snd.snd.snd.snd.snd.snd.snd.snd.2))
                          none)
                        (ob (idx x.snd.snd.snd.1 (0 : Int)) fun x_5 =>
                          ob (List.get?Internal x.snd.snd.snd.1 (Int.toNat (0 : Int))) fun x_6 =>
                            ob (missC ((y.1, y.snd.1, y.snd.2), x_6.1, x_6.snd.1, x_6.snd.2)) fun y_2 =>
                              br (y_2 == (0 : Int))
                                (br
                                  (decide
                                    (List.length x.snd.snd.snd.1 + [(y.1, y.snd.1, y.snd.2)].length ≤
                                      (4294967296 : Nat)))
                                  (some
                                    (LRes.next, (x.fst.1, x.fst.2), (x.snd.fst.1, x.snd.fst.2),
                                      (x.snd.snd.fst.1, x.snd.snd.fst.2), x.snd.snd.snd.1 ++ [(y.1, y.snd.1, y.snd.2)],
                                      x.snd.snd.snd.snd.1, x.snd.snd.snd.snd.snd.1,
                                      IntKind.i64.wrap (x.snd.snd.snd.snd.snd.snd.1 + (1 : Int)), PUnit.unit,
                                      x.snd.snd.snd.snd.snd.snd.snd.snd.1, x.snd.snd.snd.snd.snd.snd.snd.snd.2))
                                  none)
                                (some
                                  (LRes.next, (x.fst.1, x.fst.2), (x.snd.fst.1, x.snd.fst.2),
                                    (x.snd.snd.fst.1, x.snd.snd.fst.2), x.snd.snd.snd.1, x.snd.snd.snd.snd.1,
                                    x.snd.snd.snd.snd.snd.1, IntKind.i64.wrap (x.snd.snd.snd.snd.snd.snd.1 + (1 : Int)),
                                    PUnit.unit, x.snd.snd.snd.snd.snd.snd.snd.snd.1,
                                    x.snd.snd.snd.snd.snd.snd.snd.snd.2)))))
              (br ((↑(List.length x.snd.snd.snd.1) : Int) == (0 : Int))
                (br (decide (List.length x.snd.snd.snd.1 + [(y.1, y.snd.1, y.snd.2)].length ≤ (4294967296 : Nat)))
                  (some
                    (LRes.next, (x.fst.1, x.fst.2), (x.snd.fst.1, x.snd.fst.2), (x.snd.snd.fst.1, x.snd.snd.fst.2),
                      x.snd.snd.snd.1 ++ [(y.1, y.snd.1, y.snd.2)], x.snd.snd.snd.snd.1, x.snd.snd.snd.snd.snd.1,
                      IntKind.i64.wrap (x.snd.snd.snd.snd.snd.snd.1 + (1 : Int)), PUnit.unit,
                      x.snd.snd.snd.snd.snd.snd.snd.snd.1, x.snd.snd.snd.snd.snd.snd.snd.snd.2))
                  none)
                (ob (idx x.snd.snd.snd.1 (0 : Int)) fun x_3 =>
                  ob (List.get?Internal x.snd.snd.snd.1 (Int.toNat (0 : Int))) fun x_4 =>
                    ob (missC ((y.1, y.snd.1, y.snd.2), x_4.1, x_4.snd.1, x_4.snd.2)) fun y_1 =>
                      br (y_1 == (0 : Int))
                        (br
                          (decide (List.length x.snd.snd.snd.1 + [(y.1, y.snd.1, y.snd.2)].length ≤ (4294967296 : Nat)))
                          (some
                            (LRes.next, (x.fst.1, x.fst.2), (x.snd.fst.1, x.snd.fst.2),
                              (x.snd.snd.fst.1, x.snd.snd.fst.2), x.snd.snd.snd.1 ++ [(y.1, y.snd.1, y.snd.2)],
                              x.snd.snd.snd.snd.1, x.snd.snd.snd.snd.snd.1,
                              IntKind.i64.wrap (x.snd.snd.snd.snd.snd.snd.1 + (1 : Int)), PUnit.unit,
                              x.snd.snd.snd.snd.snd.snd.snd.snd.1, x.snd.snd.snd.snd.snd.snd.snd.snd.2))
                          none)
                        (some
                          (LRes.next, (x.fst.1, x.fst.2), (x.snd.fst.1, x.snd.fst.2),
                            (x.snd.snd.fst.1, x.snd.snd.fst.2), x.snd.snd.snd.1, x.snd.snd.snd.snd.1,
                            x.snd.snd.snd.snd.snd.1, IntKind.i64.wrap (x.snd.snd.snd.snd.snd.snd.1 + (1 : Int)),
                            PUnit.unit, x.snd.snd.snd.snd.snd.snd.snd.snd.1, x.snd.snd.snd.snd.snd.snd.snd.snd.2)))))
      (some
        (LRes.out, (x.fst.1, x.fst.2), (x.snd.fst.1, x.snd.fst.2), (x.snd.snd.fst.1, x.snd.snd.fst.2), x.snd.snd.snd.1,
          x.snd.snd.snd.snd.1, x.snd.snd.snd.snd.snd.1, x.snd.snd.snd.snd.snd.snd.1, PUnit.unit,
          x.snd.snd.snd.snd.snd.snd.snd.snd.1, x.snd.snd.snd.snd.snd.snd.snd.snd.2)))
    (some
      (LRes.out, (x.fst.1, x.fst.2), (x.snd.fst.1, x.snd.fst.2), (x.snd.snd.fst.1, x.snd.snd.fst.2), x.snd.snd.snd.1,
        x.snd.snd.snd.snd.1, x.snd.snd.snd.snd.snd.1, x.snd.snd.snd.snd.snd.snd.1, PUnit.unit,
        x.snd.snd.snd.snd.snd.snd.snd.snd.1, x.snd.snd.snd.snd.snd.snd.snd.snd.2))
def bestL00_fuel : (Int × Int) × (List (Int) × List (Int × List (List (Int)))) × (List (Int) × List (Int × List (List (Int)))) × List ((Int × Int × Int)) × Int × Int × Int × Unit × Int × Int → Nat := fun s => (s.2.2.2.2.2.1 + 1 - s.2.2.2.2.2.2.1).toNat + 1
def bestL00 : (Int × Int) × (List (Int) × List (Int × List (List (Int)))) × (List (Int) × List (Int × List (List (Int)))) × List ((Int × Int × Int)) × Int × Int × Int × Unit × Int × Int → Option ((Int × Int) × (List (Int) × List (Int × List (List (Int)))) × (List (Int) × List (Int × List (List (Int)))) × List ((Int × Int × Int)) × Int × Int × Int × Unit × Int × Int) := fun s => iterP bestL00_step (bestL00_fuel s) s
def bestL00_L : LoopC := ⟨bestL00_vars, 2, .plain bestL00⟩
noncomputable def bestL00_key : Nat := key (loopIn (loopAt Tryz.f40 0) 0)
theorem bestL00_stepok (x : bestL00_vars.den) : stepOf (mkEnv [(75, missI_con), (76, missC_con)] []) Tryz.f40.ntmps bestL00_vars 2 (loopIn (loopAt Tryz.f40 0) 0) x = bestL00_step x := by kernel_rfl
theorem bestL00_ok : LoopOK Tryz.prog Tryz.f40.ntmps bestL00_L (loopIn (loopAt Tryz.f40 0) 0)   := iterP_loop (n := Tryz.f40.ntmps) (vs := bestL00_vars) (out := 2) (body := loopIn (loopAt Tryz.f40 0) 0) (mkEnv_ok (cons := [(75, missI_con), (76, missC_con)]) ⟨missI_ok, missC_ok, trivial⟩ []) bestL00_step bestL00_fuel (by exact trivial) bestL00_stepok

def bestL0_vars : Vars := [(2, .box 0 27 (.pair (i64) (i64))), (5, .boxR 0 69 (.pair (.row 2 (i64)) (.mp true 66 (.slice (i64))))), (6, .boxR 0 69 (.pair (.row 2 (i64)) (.mp true 66 (.slice (i64))))), (7, .row 0 114 (.pair (i64) (.pair (i64) (i64)))), (37, .same 5 (.pair (.row 2 (i64)) (.mp true 66 (.slice (i64)))) 0), (38, .val (i64)), (39, .val (i64))]
def bestL0_step : (Int × Int) × (List (Int) × List (Int × List (List (Int)))) × (List (Int) × List (Int × List (List (Int)))) × List ((Int × Int × Int)) × Unit × Int × Int → Option (LRes × ((Int × Int) × (List (Int) × List (Int × List (List (Int)))) × (List (Int) × List (Int × List (List (Int)))) × List ((Int × Int × Int)) × Unit × Int × Int)) :=
fun x =>
  br (decide (x.snd.snd.snd.snd.snd.2 < x.snd.snd.snd.snd.snd.1))
    (ob (idx x.snd.fst.1 x.snd.snd.snd.snd.snd.2) fun x_1 =>
      ob (List.get?Internal x.snd.fst.1 (Int.toNat x.snd.snd.snd.snd.snd.2)) fun x_2 =>
        ob (bsearch (x.snd.snd.fst.1, x_2, x.fst.1, x.fst.2)) fun y =>
          ob
            (bestL00
              ((x.fst.1, x.fst.2), (x.snd.fst.1, x.snd.fst.2), (x.snd.snd.fst.1, x.snd.snd.fst.2), x.snd.snd.snd.1, x_2,
                y.1,
                br (decide (IntKind.i64.wrap (y.1 - (1 : Int)) < (0 : Int))) (0 : Int)
                  (IntKind.i64.wrap (y.1 - (1 : Int))),
                PUnit.unit, x.snd.snd.snd.snd.snd.1, x.snd.snd.snd.snd.snd.2))
            fun r =>
            some
              (LRes.next, (r.fst.1, r.fst.2), (r.snd.fst.1, r.snd.fst.2), (r.snd.snd.fst.1, r.snd.snd.fst.2),
                r.snd.snd.snd.1, PUnit.unit, r.snd.snd.snd.snd.snd.snd.snd.snd.1,
                IntKind.i64.wrap (r.snd.snd.snd.snd.snd.snd.snd.snd.2 + (1 : Int))))
    (some
      (LRes.out, (x.fst.1, x.fst.2), (x.snd.fst.1, x.snd.fst.2), (x.snd.snd.fst.1, x.snd.snd.fst.2), x.snd.snd.snd.1,
        PUnit.unit, x.snd.snd.snd.snd.snd.1, x.snd.snd.snd.snd.snd.2))
def bestL0_fuel : (Int × Int) × (List (Int) × List (Int × List (List (Int)))) × (List (Int) × List (Int × List (List (Int)))) × List ((Int × Int × Int)) × Unit × Int × Int → Nat := fun s => (s.2.2.2.2.2.1 - s.2.2.2.2.2.2).toNat + 1
def bestL0 : (Int × Int) × (List (Int) × List (Int × List (List (Int)))) × (List (Int) × List (Int × List (List (Int)))) × List ((Int × Int × Int)) × Unit × Int × Int → Option ((Int × Int) × (List (Int) × List (Int × List (List (Int)))) × (List (Int) × List (Int × List (List (Int)))) × List ((Int × Int × Int)) × Unit × Int × Int) := fun s => iterP bestL0_step (bestL0_fuel s) s
def bestL0_L : LoopC := ⟨bestL0_vars, 0, .plain bestL0⟩
noncomputable def bestL0_key : Nat := key (loopAt Tryz.f40 0)
theorem bestL0_stepok (x : bestL0_vars.den) : stepOf (mkEnv [(73, bsearch_con)] [(bestL00_key, bestL00_L)]) Tryz.f40.ntmps bestL0_vars 0 (loopAt Tryz.f40 0) x = bestL0_step x := by kernel_rfl
theorem bestL0_ok : LoopOK Tryz.prog Tryz.f40.ntmps bestL0_L (loopAt Tryz.f40 0)   := iterP_loop (n := Tryz.f40.ntmps) (vs := bestL0_vars) (out := 0) (body := loopAt Tryz.f40 0) (mkEnv_ok (cons := [(73, bsearch_con)]) ⟨bsearch_ok, trivial⟩ [(bestL00_key, bestL00_L)]) bestL0_step bestL0_fuel (by exact ⟨bestL00_ok, trivial⟩) bestL0_stepok

def bestL100_vars : Vars := [(5, .boxR 0 69 (.pair (.row 2 (i64)) (.mp true 66 (.slice (i64))))), (6, .boxR 0 69 (.pair (.row 2 (i64)) (.mp true 66 (.slice (i64))))), (14, .obj (.nrow 64 (.pair (i64) (i64)))), (16, .box 0 114 (.pair (i64) (.pair (i64) (i64)))), (18, .val (.slice (i64))), (101, .row 0 114 (.pair (i64) (.pair (i64) (i64)))), (102, .val (i64)), (103, .val (i64)), (111, .val (.slice (.slice (i64)))), (112, .val (i64)), (113, .val (i64)), (121, .val (.slice (.slice (i64)))), (122, .val (i64)), (123, .val (i64))]
def bestL100_step : (List (Int) × List (Int × List (List (Int)))) × (List (Int) × List (Int × List (List (Int)))) × Option (List ((Int × Int))) × (Int × Int × Int) × List (Int) × List ((Int × Int × Int)) × Int × Int × List (List (Int)) × Int × Int × List (List (Int)) × Int × Int → Option (LRes × ((List (Int) × List (Int × List (List (Int)))) × (List (Int) × List (Int × List (List (Int)))) × Option (List ((Int × Int))) × (Int × Int × Int) × List (Int) × List ((Int × Int × Int)) × Int × Int × List (List (Int)) × Int × Int × List (List (Int)) × Int × Int)) :=
fun x =>
  br
    (decide (x.snd.snd.snd.snd.snd.snd.snd.snd.snd.snd.snd.snd.2 < x.snd.snd.snd.snd.snd.snd.snd.snd.snd.snd.snd.snd.1))
    (ob (idx x.snd.snd.snd.snd.snd.snd.snd.snd.snd.snd.snd.1 x.snd.snd.snd.snd.snd.snd.snd.snd.snd.snd.snd.snd.2)
      fun y =>
      ob (canonI6 (x.snd.snd.snd.snd.1, y)) fun y =>
        br (Option.isNone x.snd.snd.1)
          (br (List.isEmpty y) none
            (some
              (LRes.next, (x.fst.1, x.fst.2), (x.snd.fst.1, x.snd.fst.2), some y,
                (x.snd.snd.snd.fst.1, x.snd.snd.snd.fst.snd.1, x.snd.snd.snd.fst.snd.2), x.snd.snd.snd.snd.1,
                x.snd.snd.snd.snd.snd.1, x.snd.snd.snd.snd.snd.snd.1, x.snd.snd.snd.snd.snd.snd.snd.1,
                x.snd.snd.snd.snd.snd.snd.snd.snd.1, x.snd.snd.snd.snd.snd.snd.snd.snd.snd.1,
                x.snd.snd.snd.snd.snd.snd.snd.snd.snd.snd.1, x.snd.snd.snd.snd.snd.snd.snd.snd.snd.snd.snd.1,
                x.snd.snd.snd.snd.snd.snd.snd.snd.snd.snd.snd.snd.1,
                IntKind.i64.wrap (x.snd.snd.snd.snd.snd.snd.snd.snd.snd.snd.snd.snd.2 + (1 : Int)))))
          (ob (cmpTrI (y, Option.getD x.snd.snd.1 [])) fun y_1 =>
            br (decide (y_1 < (0 : Int)))
              (br (List.isEmpty y) none
                (some
                  (LRes.next, (x.fst.1, x.fst.2), (x.snd.fst.1, x.snd.fst.2), some y,
                    (x.snd.snd.snd.fst.1, x.snd.snd.snd.fst.snd.1, x.snd.snd.snd.fst.snd.2), x.snd.snd.snd.snd.1,
                    x.snd.snd.snd.snd.snd.1, x.snd.snd.snd.snd.snd.snd.1, x.snd.snd.snd.snd.snd.snd.snd.1,
                    x.snd.snd.snd.snd.snd.snd.snd.snd.1, x.snd.snd.snd.snd.snd.snd.snd.snd.snd.1,
                    x.snd.snd.snd.snd.snd.snd.snd.snd.snd.snd.1, x.snd.snd.snd.snd.snd.snd.snd.snd.snd.snd.snd.1,
                    x.snd.snd.snd.snd.snd.snd.snd.snd.snd.snd.snd.snd.1,
                    IntKind.i64.wrap (x.snd.snd.snd.snd.snd.snd.snd.snd.snd.snd.snd.snd.2 + (1 : Int)))))
              (some
                (LRes.next, (x.fst.1, x.fst.2), (x.snd.fst.1, x.snd.fst.2),
                  match x.snd.snd.1 with
                  | some x => some x
                  | none => none,
                  (x.snd.snd.snd.fst.1, x.snd.snd.snd.fst.snd.1, x.snd.snd.snd.fst.snd.2), x.snd.snd.snd.snd.1,
                  x.snd.snd.snd.snd.snd.1, x.snd.snd.snd.snd.snd.snd.1, x.snd.snd.snd.snd.snd.snd.snd.1,
                  x.snd.snd.snd.snd.snd.snd.snd.snd.1, x.snd.snd.snd.snd.snd.snd.snd.snd.snd.1,
                  x.snd.snd.snd.snd.snd.snd.snd.snd.snd.snd.1, x.snd.snd.snd.snd.snd.snd.snd.snd.snd.snd.snd.1,
                  x.snd.snd.snd.snd.snd.snd.snd.snd.snd.snd.snd.snd.1,
                  IntKind.i64.wrap (x.snd.snd.snd.snd.snd.snd.snd.snd.snd.snd.snd.snd.2 + (1 : Int))))))
    (some
      (LRes.out, (x.fst.1, x.fst.2), (x.snd.fst.1, x.snd.fst.2),
        match x.snd.snd.1 with
        | some x => some x
        | none => none,
        (x.snd.snd.snd.fst.1, x.snd.snd.snd.fst.snd.1, x.snd.snd.snd.fst.snd.2), x.snd.snd.snd.snd.1,
        x.snd.snd.snd.snd.snd.1, x.snd.snd.snd.snd.snd.snd.1, x.snd.snd.snd.snd.snd.snd.snd.1,
        x.snd.snd.snd.snd.snd.snd.snd.snd.1, x.snd.snd.snd.snd.snd.snd.snd.snd.snd.1,
        x.snd.snd.snd.snd.snd.snd.snd.snd.snd.snd.1, x.snd.snd.snd.snd.snd.snd.snd.snd.snd.snd.snd.1,
        x.snd.snd.snd.snd.snd.snd.snd.snd.snd.snd.snd.snd.1, x.snd.snd.snd.snd.snd.snd.snd.snd.snd.snd.snd.snd.2))
def bestL100_fuel : (List (Int) × List (Int × List (List (Int)))) × (List (Int) × List (Int × List (List (Int)))) × Option (List ((Int × Int))) × (Int × Int × Int) × List (Int) × List ((Int × Int × Int)) × Int × Int × List (List (Int)) × Int × Int × List (List (Int)) × Int × Int → Nat := fun s => (s.2.2.2.2.2.2.2.2.2.2.2.2.1 - s.2.2.2.2.2.2.2.2.2.2.2.2.2).toNat + 1
def bestL100 : (List (Int) × List (Int × List (List (Int)))) × (List (Int) × List (Int × List (List (Int)))) × Option (List ((Int × Int))) × (Int × Int × Int) × List (Int) × List ((Int × Int × Int)) × Int × Int × List (List (Int)) × Int × Int × List (List (Int)) × Int × Int → Option ((List (Int) × List (Int × List (List (Int)))) × (List (Int) × List (Int × List (List (Int)))) × Option (List ((Int × Int))) × (Int × Int × Int) × List (Int) × List ((Int × Int × Int)) × Int × Int × List (List (Int)) × Int × Int × List (List (Int)) × Int × Int) := fun s => iterP bestL100_step (bestL100_fuel s) s
def bestL100_L : LoopC := ⟨bestL100_vars, 8, .plain bestL100⟩
noncomputable def bestL100_key : Nat := key (loopIn (loopIn (loopAt Tryz.f40 1) 0) 0)
theorem bestL100_stepok (x : bestL100_vars.den) : stepOf (mkEnv [(29, canonI6_con), (31, cmpTrI_con)] []) Tryz.f40.ntmps bestL100_vars 8 (loopIn (loopIn (loopAt Tryz.f40 1) 0) 0) x = bestL100_step x := by kernel_rfl
theorem bestL100_ok : LoopOK Tryz.prog Tryz.f40.ntmps bestL100_L (loopIn (loopIn (loopAt Tryz.f40 1) 0) 0)   := iterP_loop (n := Tryz.f40.ntmps) (vs := bestL100_vars) (out := 8) (body := loopIn (loopIn (loopAt Tryz.f40 1) 0) 0) (mkEnv_ok (cons := [(29, canonI6_con), (31, cmpTrI_con)]) ⟨canonI6_ok, cmpTrI_ok, trivial⟩ []) bestL100_step bestL100_fuel (by exact trivial) bestL100_stepok

def bestL10_vars : Vars := [(5, .boxR 0 69 (.pair (.row 2 (i64)) (.mp true 66 (.slice (i64))))), (6, .boxR 0 69 (.pair (.row 2 (i64)) (.mp true 66 (.slice (i64))))), (14, .obj (.nrow 64 (.pair (i64) (i64)))), (16, .box 0 114 (.pair (i64) (.pair (i64) (i64)))), (101, .row 0 114 (.pair (i64) (.pair (i64) (i64)))), (102, .val (i64)), (103, .val (i64)), (111, .val (.slice (.slice (i64)))), (112, .val (i64)), (113, .val (i64))]
def bestL10_step : (List (Int) × List (Int × List (List (Int)))) × (List (Int) × List (Int × List (List (Int)))) × Option (List ((Int × Int))) × (Int × Int × Int) × List ((Int × Int × Int)) × Int × Int × List (List (Int)) × Int × Int → Option (LRes × ((List (Int) × List (Int × List (List (Int)))) × (List (Int) × List (Int × List (List (Int)))) × Option (List ((Int × Int))) × (Int × Int × Int) × List ((Int × Int × Int)) × Int × Int × List (List (Int)) × Int × Int)) :=
fun x =>
  br (decide (x.snd.snd.snd.snd.snd.snd.snd.snd.2 < x.snd.snd.snd.snd.snd.snd.snd.snd.1))
    (ob (idx x.snd.snd.snd.snd.snd.snd.snd.1 x.snd.snd.snd.snd.snd.snd.snd.snd.2) fun y =>
      ob
        (bestL100
          ((x.fst.1, x.fst.2), (x.snd.fst.1, x.snd.fst.2),
            match x.snd.snd.1 with
            | some x => some x
            | none => none,
            (x.snd.snd.snd.fst.1, x.snd.snd.snd.fst.snd.1, x.snd.snd.snd.fst.snd.2), y, x.snd.snd.snd.snd.1,
            x.snd.snd.snd.snd.snd.1, x.snd.snd.snd.snd.snd.snd.1, x.snd.snd.snd.snd.snd.snd.snd.1,
            x.snd.snd.snd.snd.snd.snd.snd.snd.1, x.snd.snd.snd.snd.snd.snd.snd.snd.2,
            getM x.snd.fst.2 x.snd.snd.snd.fst.snd.1, (↑(getM x.snd.fst.2 x.snd.snd.snd.fst.snd.1).length : Int),
            (0 : Int)))
        fun r =>
        some
          (LRes.next, (r.fst.1, r.fst.2), (r.snd.fst.1, r.snd.fst.2),
            match r.snd.snd.1 with
            | some x => some x
            | none => none,
            (r.snd.snd.snd.fst.1, r.snd.snd.snd.fst.snd.1, r.snd.snd.snd.fst.snd.2), r.snd.snd.snd.snd.snd.1,
            r.snd.snd.snd.snd.snd.snd.1, r.snd.snd.snd.snd.snd.snd.snd.1, r.snd.snd.snd.snd.snd.snd.snd.snd.1,
            r.snd.snd.snd.snd.snd.snd.snd.snd.snd.1,
            IntKind.i64.wrap (r.snd.snd.snd.snd.snd.snd.snd.snd.snd.snd.1 + (1 : Int))))
    (some
      (LRes.out, (x.fst.1, x.fst.2), (x.snd.fst.1, x.snd.fst.2),
        match x.snd.snd.1 with
        | some x => some x
        | none => none,
        (x.snd.snd.snd.fst.1, x.snd.snd.snd.fst.snd.1, x.snd.snd.snd.fst.snd.2), x.snd.snd.snd.snd.1,
        x.snd.snd.snd.snd.snd.1, x.snd.snd.snd.snd.snd.snd.1, x.snd.snd.snd.snd.snd.snd.snd.1,
        x.snd.snd.snd.snd.snd.snd.snd.snd.1, x.snd.snd.snd.snd.snd.snd.snd.snd.2))
def bestL10_fuel : (List (Int) × List (Int × List (List (Int)))) × (List (Int) × List (Int × List (List (Int)))) × Option (List ((Int × Int))) × (Int × Int × Int) × List ((Int × Int × Int)) × Int × Int × List (List (Int)) × Int × Int → Nat := fun s => (s.2.2.2.2.2.2.2.2.1 - s.2.2.2.2.2.2.2.2.2).toNat + 1
def bestL10 : (List (Int) × List (Int × List (List (Int)))) × (List (Int) × List (Int × List (List (Int)))) × Option (List ((Int × Int))) × (Int × Int × Int) × List ((Int × Int × Int)) × Int × Int × List (List (Int)) × Int × Int → Option ((List (Int) × List (Int × List (List (Int)))) × (List (Int) × List (Int × List (List (Int)))) × Option (List ((Int × Int))) × (Int × Int × Int) × List ((Int × Int × Int)) × Int × Int × List (List (Int)) × Int × Int) := fun s => iterP bestL10_step (bestL10_fuel s) s
def bestL10_L : LoopC := ⟨bestL10_vars, 6, .plain bestL10⟩
noncomputable def bestL10_key : Nat := key (loopIn (loopAt Tryz.f40 1) 0)
theorem bestL10_stepok (x : bestL10_vars.den) : stepOf (mkEnv [] [(bestL100_key, bestL100_L)]) Tryz.f40.ntmps bestL10_vars 6 (loopIn (loopAt Tryz.f40 1) 0) x = bestL10_step x := by kernel_rfl
theorem bestL10_ok : LoopOK Tryz.prog Tryz.f40.ntmps bestL10_L (loopIn (loopAt Tryz.f40 1) 0)   := iterP_loop (n := Tryz.f40.ntmps) (vs := bestL10_vars) (out := 6) (body := loopIn (loopAt Tryz.f40 1) 0) (mkEnv_ok (cons := []) trivial [(bestL100_key, bestL100_L)]) bestL10_step bestL10_fuel (by exact ⟨bestL100_ok, trivial⟩) bestL10_stepok

def bestL1_vars : Vars := [(5, .boxR 0 69 (.pair (.row 2 (i64)) (.mp true 66 (.slice (i64))))), (6, .boxR 0 69 (.pair (.row 2 (i64)) (.mp true 66 (.slice (i64))))), (14, .obj (.nrow 64 (.pair (i64) (i64)))), (101, .row 0 114 (.pair (i64) (.pair (i64) (i64)))), (102, .val (i64)), (103, .val (i64))]
def bestL1_step : (List (Int) × List (Int × List (List (Int)))) × (List (Int) × List (Int × List (List (Int)))) × Option (List ((Int × Int))) × List ((Int × Int × Int)) × Int × Int → Option (LRes × ((List (Int) × List (Int × List (List (Int)))) × (List (Int) × List (Int × List (List (Int)))) × Option (List ((Int × Int))) × List ((Int × Int × Int)) × Int × Int)) :=
fun x =>
  br (decide (x.snd.snd.snd.snd.2 < x.snd.snd.snd.snd.1))
    (ob (idx x.snd.snd.snd.1 x.snd.snd.snd.snd.2) fun x_1 =>
      ob (List.get?Internal x.snd.snd.snd.1 (Int.toNat x.snd.snd.snd.snd.2)) fun x_2 =>
        ob
          (bestL10
            ((x.fst.1, x.fst.2), (x.snd.fst.1, x.snd.fst.2),
              match x.snd.snd.1 with
              | some x => some x
              | none => none,
              (x_2.1, x_2.snd.1, x_2.snd.2), x.snd.snd.snd.1, x.snd.snd.snd.snd.1, x.snd.snd.snd.snd.2,
              getM x.fst.2 x_2.1, (↑(getM x.fst.2 x_2.1).length : Int), (0 : Int)))
          fun r =>
          some
            (LRes.next, (r.fst.1, r.fst.2), (r.snd.fst.1, r.snd.fst.2),
              match r.snd.snd.1 with
              | some x => some x
              | none => none,
              r.snd.snd.snd.snd.1, r.snd.snd.snd.snd.snd.1, IntKind.i64.wrap (r.snd.snd.snd.snd.snd.snd.1 + (1 : Int))))
    (some
      (LRes.out, (x.fst.1, x.fst.2), (x.snd.fst.1, x.snd.fst.2),
        match x.snd.snd.1 with
        | some x => some x
        | none => none,
        x.snd.snd.snd.1, x.snd.snd.snd.snd.1, x.snd.snd.snd.snd.2))
def bestL1_fuel : (List (Int) × List (Int × List (List (Int)))) × (List (Int) × List (Int × List (List (Int)))) × Option (List ((Int × Int))) × List ((Int × Int × Int)) × Int × Int → Nat := fun s => (s.2.2.2.2.1 - s.2.2.2.2.2).toNat + 1
def bestL1 : (List (Int) × List (Int × List (List (Int)))) × (List (Int) × List (Int × List (List (Int)))) × Option (List ((Int × Int))) × List ((Int × Int × Int)) × Int × Int → Option ((List (Int) × List (Int × List (List (Int)))) × (List (Int) × List (Int × List (List (Int)))) × Option (List ((Int × Int))) × List ((Int × Int × Int)) × Int × Int) := fun s => iterP bestL1_step (bestL1_fuel s) s
def bestL1_L : LoopC := ⟨bestL1_vars, 4, .plain bestL1⟩
noncomputable def bestL1_key : Nat := key (loopAt Tryz.f40 1)
theorem bestL1_stepok (x : bestL1_vars.den) : stepOf (mkEnv [] [(bestL10_key, bestL10_L)]) Tryz.f40.ntmps bestL1_vars 4 (loopAt Tryz.f40 1) x = bestL1_step x := by kernel_rfl
theorem bestL1_ok : LoopOK Tryz.prog Tryz.f40.ntmps bestL1_L (loopAt Tryz.f40 1)   := iterP_loop (n := Tryz.f40.ntmps) (vs := bestL1_vars) (out := 4) (body := loopAt Tryz.f40 1) (mkEnv_ok (cons := []) trivial [(bestL10_key, bestL10_L)]) bestL1_step bestL1_fuel (by exact ⟨bestL10_ok, trivial⟩) bestL1_stepok

def bestI : (Int × Int) × (Int × Int × Int × Int × Int) → Option (List ((Int × Int))) :=
fun x =>
  ob (setsI (x.snd.1, x.snd.snd.1, x.snd.snd.snd.snd.2)) fun y =>
    ob (setsI (x.snd.snd.snd.1, x.snd.snd.snd.snd.1, x.snd.snd.snd.snd.2)) fun y_1 =>
      ob
        (bestL0 ((x.fst.1, x.fst.2), (y.1, y.2), (y_1.1, y_1.2), [], PUnit.unit, (↑(List.length y.1) : Int), (0 : Int)))
        fun r =>
        ob
          (bestL1
            ((r.snd.fst.1, r.snd.fst.2), (r.snd.snd.fst.1, r.snd.snd.fst.2), none, r.snd.snd.snd.1,
              (↑(List.length r.snd.snd.snd.1) : Int), (0 : Int)))
          fun r => some (Option.getD r.snd.snd.1 [])
def bestI_con : Con := ⟨[.pair (i64) (i64), .pair (i64) (.pair (i64) (.pair (i64) (.pair (i64) (i64))))], [.row 64 (.pair (i64) (i64))], bestI⟩
theorem bestI_run (x : Dens [.pair (i64) (i64), .pair (i64) (.pair (i64) (.pair (i64) (.pair (i64) (i64))))]) : runFn (mkEnv [(28, setsI_con)] [(bestL0_key, bestL0_L), (bestL1_key, bestL1_L)]) Tryz.f40 [.pair (i64) (i64), .pair (i64) (.pair (i64) (.pair (i64) (.pair (i64) (i64))))] [.row 64 (.pair (i64) (i64))] x = bestI x := by kernel_rfl
theorem bestI_ok : bestI_con.ok Tryz.prog 40 := fn_ok (con := bestI_con) (mkEnv_ok (cons := [(28, setsI_con)]) ⟨setsI_ok, trivial⟩ [(bestL0_key, bestL0_L), (bestL1_key, bestL1_L)]) Tryz.func40 rfl (by kernel_rfl) (by exact ⟨bestL0_ok, bestL1_ok, trivial⟩) (fun x y h => (bestI_run x).trans h)

def bestTI : (Int × Int) × (Int × Int × Int × Int × Int) → Option ((List ((Int × Int)) × (Int × Int)) × Int) :=
fun x =>
  ob (askI ((x.fst.1, x.fst.2), x.snd.1, x.snd.snd.1, x.snd.snd.snd.1, x.snd.snd.snd.snd.1, x.snd.snd.snd.snd.2))
    fun y =>
    br (y != (0 : Int)) (some (([], (0 : Int), (0 : Int)), y))
      (ob (bestI ((x.fst.1, x.fst.2), x.snd.1, x.snd.snd.1, x.snd.snd.snd.1, x.snd.snd.snd.snd.1, x.snd.snd.snd.snd.2))
        fun y =>
        ob (errorI (y, x.fst.1, x.fst.2)) fun y_1 =>
          br (y_1.2 != (0 : Int)) (some (([], (0 : Int), (0 : Int)), y_1.2))
            (some ((y, y_1.fst.1, y_1.fst.2), (0 : Int))))
def bestTI_con : Con := ⟨[.pair (i64) (i64), .pair (i64) (.pair (i64) (.pair (i64) (.pair (i64) (i64))))], [.pair (.row 64 (.pair (i64) (i64))) (.d (.pair (i64) (i64))), .d (i64)], bestTI⟩
theorem bestTI_run (x : Dens [.pair (i64) (i64), .pair (i64) (.pair (i64) (.pair (i64) (.pair (i64) (i64))))]) : runFn (mkEnv [(27, askI_con), (40, bestI_con), (41, errorI_con)] []) Tryz.f13 [.pair (i64) (i64), .pair (i64) (.pair (i64) (.pair (i64) (.pair (i64) (i64))))] [.pair (.row 64 (.pair (i64) (i64))) (.d (.pair (i64) (i64))), .d (i64)] x = bestTI x := by kernel_rfl
theorem bestTI_ok : bestTI_con.ok Tryz.prog 13 := fn_ok (con := bestTI_con) (mkEnv_ok (cons := [(27, askI_con), (40, bestI_con), (41, errorI_con)]) ⟨askI_ok, bestI_ok, errorI_ok, trivial⟩ []) Tryz.func13 rfl (by kernel_rfl) (by exact trivial) (fun x y h => (bestTI_run x).trans h)

end
end Rx
end Go.Proofs.YthfgpnpoocepeaaGreat
