/- What the functions of RxFnEpic come to, and their contracts. No conditions. -/
import Derived.Test.YtfapjkcmoefilaaDoorRxEnv
import Derived.Test.YtfapjkcmoefilaaDoorRxDrawEpi
import Derived.Test.YtfapjkcmoefilaaDoorRxRead
namespace Go.Proofs.YtfapjkcmoefilaaDoor
namespace Rx
open Go

noncomputable section
def fnEpicP_vars : Vars := [(2, .val (.bool)), (3, .box 0 25 (.pair (i64) (.pair (i64) (.pair (i64) (i64))))), (12, .val (i64)), (13, .val (i64))]
def fnEpicP_step : Bool × (Int × Int × Int × Int) × Int × Int → Option (LRes × (Bool × (Int × Int × Int × Int) × Int × Int)) :=
fun x =>
  br (decide (x.snd.snd.2 < (3 : Int)))
    (ob (epiRatI ((x.snd.fst.1, x.snd.fst.snd.1, x.snd.fst.snd.snd.1, x.snd.fst.snd.snd.2), x.snd.snd.1, x.snd.snd.2))
      fun y =>
      ob (epiRatI ((x.snd.fst.1, x.snd.fst.snd.1, x.snd.fst.snd.snd.1, x.snd.fst.snd.snd.2), x.snd.snd.2, x.snd.snd.1))
        fun y_1 =>
        br (x.snd.snd.1 == x.snd.snd.2)
          (br (y.2 != (2 : Int))
            (some
              (LRes.ret, false, (x.snd.fst.1, x.snd.fst.snd.1, x.snd.fst.snd.snd.1, x.snd.fst.snd.snd.2), x.snd.snd.1,
                x.snd.snd.2))
            (some
              (LRes.next, x.1, (x.snd.fst.1, x.snd.fst.snd.1, x.snd.fst.snd.snd.1, x.snd.fst.snd.snd.2), x.snd.snd.1,
                IntKind.i64.wrap (x.snd.snd.2 + (1 : Int)))))
          (ob (mulRatS ((y.fst.1, y.fst.2), y_1.fst.1, y_1.fst.2)) fun y_2 =>
            br (y.2 != (0 : Int))
              (some
                (LRes.ret, false, (x.snd.fst.1, x.snd.fst.snd.1, x.snd.fst.snd.snd.1, x.snd.fst.snd.snd.2), x.snd.snd.1,
                  x.snd.snd.2))
              (br (y_1.2 != (0 : Int))
                (some
                  (LRes.ret, false, (x.snd.fst.1, x.snd.fst.snd.1, x.snd.fst.snd.snd.1, x.snd.fst.snd.snd.2),
                    x.snd.snd.1, x.snd.snd.2))
                (br (y_2.2 != (0 : Int))
                  (some
                    (LRes.ret, false, (x.snd.fst.1, x.snd.fst.snd.1, x.snd.fst.snd.snd.1, x.snd.fst.snd.snd.2),
                      x.snd.snd.1, x.snd.snd.2))
                  (br (!(y_2.fst.1 == (1 : Int) && y_2.fst.2 == (1 : Int)))
                    (some
                      (LRes.ret, false, (x.snd.fst.1, x.snd.fst.snd.1, x.snd.fst.snd.snd.1, x.snd.fst.snd.snd.2),
                        x.snd.snd.1, x.snd.snd.2))
                    (some
                      (LRes.next, x.1, (x.snd.fst.1, x.snd.fst.snd.1, x.snd.fst.snd.snd.1, x.snd.fst.snd.snd.2),
                        x.snd.snd.1, IntKind.i64.wrap (x.snd.snd.2 + (1 : Int)))))))))
    (some
      (LRes.out, x.1, (x.snd.fst.1, x.snd.fst.snd.1, x.snd.fst.snd.snd.1, x.snd.fst.snd.snd.2), x.snd.snd.1,
        x.snd.snd.2))
def fnEpicP_fuel : Bool × (Int × Int × Int × Int) × Int × Int → Nat := fun s => (3 - s.2.2.2).toNat + 1
def fnEpicP : Bool × (Int × Int × Int × Int) × Int × Int → Option (Bool × (Bool × (Int × Int × Int × Int) × Int × Int)) := fun s => iter fnEpicP_step (fnEpicP_fuel s) s
def fnEpicP_L : LoopC := ⟨fnEpicP_vars, 2, .two fnEpicP⟩
noncomputable def fnEpicP_key : Nat := key (loopIn (loopAt Tryd.f5 0) 0)
theorem fnEpicP_stepok (x : fnEpicP_vars.den) : stepOf (mkEnv [(20, epiRatI_con), (21, mulRatS_con)] []) Tryd.f5.ntmps fnEpicP_vars 2 (loopIn (loopAt Tryd.f5 0) 0) x = fnEpicP_step x := by kernel_rfl
theorem fnEpicP_ok : LoopOK Tryd.prog Tryd.f5.ntmps fnEpicP_L (loopIn (loopAt Tryd.f5 0) 0)   := iter_loop (n := Tryd.f5.ntmps) (vs := fnEpicP_vars) (out := 2) (body := loopIn (loopAt Tryd.f5 0) 0) (mkEnv_ok (cons := [(20, epiRatI_con), (21, mulRatS_con)]) ⟨epiRatI_ok, mulRatS_ok, trivial⟩ []) fnEpicP_step fnEpicP_fuel (by exact trivial) fnEpicP_stepok

def fnEpicL_vars : Vars := [(2, .val (.bool)), (3, .box 0 25 (.pair (i64) (.pair (i64) (.pair (i64) (i64))))), (12, .val (i64))]
def fnEpicL_step : Bool × (Int × Int × Int × Int) × Int → Option (LRes × (Bool × (Int × Int × Int × Int) × Int)) :=
fun x =>
  br (decide (x.snd.2 < (3 : Int)))
    (ob (fnEpicP (x.1, (x.snd.fst.1, x.snd.fst.snd.1, x.snd.fst.snd.snd.1, x.snd.fst.snd.snd.2), x.snd.2, (0 : Int)))
      fun r =>
      br r.1
        (some
          (LRes.next, r.snd.1, (r.snd.snd.fst.1, r.snd.snd.fst.snd.1, r.snd.snd.fst.snd.snd.1, r.snd.snd.fst.snd.snd.2),
            IntKind.i64.wrap (r.snd.snd.snd.1 + (1 : Int))))
        (some
          (LRes.ret, r.snd.1, (r.snd.snd.fst.1, r.snd.snd.fst.snd.1, r.snd.snd.fst.snd.snd.1, r.snd.snd.fst.snd.snd.2),
            r.snd.snd.snd.1)))
    (some (LRes.out, x.1, (x.snd.fst.1, x.snd.fst.snd.1, x.snd.fst.snd.snd.1, x.snd.fst.snd.snd.2), x.snd.2))
def fnEpicL_fuel : Bool × (Int × Int × Int × Int) × Int → Nat := fun s => (3 - s.2.2).toNat + 1
def fnEpicL : Bool × (Int × Int × Int × Int) × Int → Option (Bool × (Bool × (Int × Int × Int × Int) × Int)) := fun s => iter fnEpicL_step (fnEpicL_fuel s) s
def fnEpicL_L : LoopC := ⟨fnEpicL_vars, 0, .two fnEpicL⟩
noncomputable def fnEpicL_key : Nat := key (loopAt Tryd.f5 0)
theorem fnEpicL_stepok (x : fnEpicL_vars.den) : stepOf (mkEnv [(20, epiRatI_con), (21, mulRatS_con)] [(fnEpicP_key, fnEpicP_L)]) Tryd.f5.ntmps fnEpicL_vars 0 (loopAt Tryd.f5 0) x = fnEpicL_step x := by kernel_rfl
theorem fnEpicL_ok : LoopOK Tryd.prog Tryd.f5.ntmps fnEpicL_L (loopAt Tryd.f5 0)   := iter_loop (n := Tryd.f5.ntmps) (vs := fnEpicL_vars) (out := 0) (body := loopAt Tryd.f5 0) (mkEnv_ok (cons := [(20, epiRatI_con), (21, mulRatS_con)]) ⟨epiRatI_ok, mulRatS_ok, trivial⟩ [(fnEpicP_key, fnEpicP_L)]) fnEpicL_step fnEpicL_fuel (by exact ⟨fnEpicP_ok, trivial⟩) fnEpicL_stepok

def fnEpic : List (Int) → Option (Bool) :=
fun x =>
  ob (a2Long (x, [])) fun y =>
    br y (some true)
      (ob (a2EpiS x) fun y =>
        ob
          (ringI
            ((y.fst.1, y.fst.snd.1, y.fst.snd.snd.1, y.fst.snd.snd.2), (y.snd.fst.1, y.snd.fst.2), y.snd.snd.1,
              y.snd.snd.2))
          fun y_1 =>
          br (y_1.2 == (0 : Int))
            (ob
              (sunI
                ((y.fst.1, y.fst.snd.1, y.fst.snd.snd.1, y.fst.snd.snd.2), (y_1.fst.1, y_1.fst.2), y.snd.snd.1,
                  y.snd.snd.2))
              fun y_2 =>
              ob
                (carrierI
                  ((y.fst.1, y.fst.snd.1, y.fst.snd.snd.1, y.fst.snd.snd.2), (y.snd.fst.1, y.snd.fst.2), y_1.fst.1,
                    y_1.fst.2))
                fun y_3 =>
                br (y_2.2 == (0 : Int))
                  (br (!(y_2.fst.1 == y.snd.fst.1 && y_2.fst.2 == y.snd.fst.2)) (some false)
                    (br (y_3.2 == (0 : Int))
                      (br (!(y_3.fst.1 == y.snd.snd.1 && y_3.fst.2 == y.snd.snd.2)) (some false)
                        (br (y_2.2 != (0 : Int))
                          (br (y_2.2 != (2 : Int)) (some false)
                            (br (y_3.2 != (0 : Int))
                              (br (y_3.2 != (2 : Int)) (some false)
                                (ob
                                  (fnEpicL (false, (y.fst.1, y.fst.snd.1, y.fst.snd.snd.1, y.fst.snd.snd.2), (0 : Int)))
                                  fun r =>
                                  br r.1
                                    (ob
                                      (epiTextI
                                        (r.snd.snd.fst.1, r.snd.snd.fst.snd.1, r.snd.snd.fst.snd.snd.1,
                                          r.snd.snd.fst.snd.snd.2))
                                      fun y =>
                                      ob (readEpiI y) fun y =>
                                        br y.2
                                          (br
                                            (y.fst.1 == r.snd.snd.fst.1 &&
                                              (y.fst.snd.1 == r.snd.snd.fst.snd.1 &&
                                                (y.fst.snd.snd.1 == r.snd.snd.fst.snd.snd.1 &&
                                                  y.fst.snd.snd.2 == r.snd.snd.fst.snd.snd.2)))
                                            (ob
                                              (faultsI
                                                (r.snd.snd.fst.1, r.snd.snd.fst.snd.1, r.snd.snd.fst.snd.snd.1,
                                                  r.snd.snd.fst.snd.snd.2))
                                              fun y => some ((↑(List.length y) : Int) == (0 : Int)))
                                            (some false))
                                          (some false))
                                    (some r.snd.1)))
                              (ob (fnEpicL (false, (y.fst.1, y.fst.snd.1, y.fst.snd.snd.1, y.fst.snd.snd.2), (0 : Int)))
                                fun r =>
                                br r.1
                                  (ob
                                    (epiTextI
                                      (r.snd.snd.fst.1, r.snd.snd.fst.snd.1, r.snd.snd.fst.snd.snd.1,
                                        r.snd.snd.fst.snd.snd.2))
                                    fun y =>
                                    ob (readEpiI y) fun y =>
                                      br y.2
                                        (br
                                          (y.fst.1 == r.snd.snd.fst.1 &&
                                            (y.fst.snd.1 == r.snd.snd.fst.snd.1 &&
                                              (y.fst.snd.snd.1 == r.snd.snd.fst.snd.snd.1 &&
                                                y.fst.snd.snd.2 == r.snd.snd.fst.snd.snd.2)))
                                          (ob
                                            (faultsI
                                              (r.snd.snd.fst.1, r.snd.snd.fst.snd.1, r.snd.snd.fst.snd.snd.1,
                                                r.snd.snd.fst.snd.snd.2))
                                            fun y => some ((↑(List.length y) : Int) == (0 : Int)))
                                          (some false))
                                        (some false))
                                  (some r.snd.1))))
                          (br (y_3.2 != (0 : Int))
                            (br (y_3.2 != (2 : Int)) (some false)
                              (ob (fnEpicL (false, (y.fst.1, y.fst.snd.1, y.fst.snd.snd.1, y.fst.snd.snd.2), (0 : Int)))
                                fun r =>
                                br r.1
                                  (ob
                                    (epiTextI
                                      (r.snd.snd.fst.1, r.snd.snd.fst.snd.1, r.snd.snd.fst.snd.snd.1,
                                        r.snd.snd.fst.snd.snd.2))
                                    fun y =>
                                    ob (readEpiI y) fun y =>
                                      br y.2
                                        (br
                                          (y.fst.1 == r.snd.snd.fst.1 &&
                                            (y.fst.snd.1 == r.snd.snd.fst.snd.1 &&
                                              (y.fst.snd.snd.1 == r.snd.snd.fst.snd.snd.1 &&
                                                y.fst.snd.snd.2 == r.snd.snd.fst.snd.snd.2)))
                                          (ob
                                            (faultsI
                                              (r.snd.snd.fst.1, r.snd.snd.fst.snd.1, r.snd.snd.fst.snd.snd.1,
                                                r.snd.snd.fst.snd.snd.2))
                                            fun y => some ((↑(List.length y) : Int) == (0 : Int)))
                                          (some false))
                                        (some false))
                                  (some r.snd.1)))
                            (ob (fnEpicL (false, (y.fst.1, y.fst.snd.1, y.fst.snd.snd.1, y.fst.snd.snd.2), (0 : Int)))
                              fun r =>
                              br r.1
                                (ob
                                  (epiTextI
                                    (r.snd.snd.fst.1, r.snd.snd.fst.snd.1, r.snd.snd.fst.snd.snd.1,
                                      r.snd.snd.fst.snd.snd.2))
                                  fun y =>
                                  ob (readEpiI y) fun y =>
                                    br y.2
                                      (br
                                        (y.fst.1 == r.snd.snd.fst.1 &&
                                          (y.fst.snd.1 == r.snd.snd.fst.snd.1 &&
                                            (y.fst.snd.snd.1 == r.snd.snd.fst.snd.snd.1 &&
                                              y.fst.snd.snd.2 == r.snd.snd.fst.snd.snd.2)))
                                        (ob
                                          (faultsI
                                            (r.snd.snd.fst.1, r.snd.snd.fst.snd.1, r.snd.snd.fst.snd.snd.1,
                                              r.snd.snd.fst.snd.snd.2))
                                          fun y => some ((↑(List.length y) : Int) == (0 : Int)))
                                        (some false))
                                      (some false))
                                (some r.snd.1)))))
                      (br (y_2.2 != (0 : Int))
                        (br (y_2.2 != (2 : Int)) (some false)
                          (br (y_3.2 != (0 : Int))
                            (br (y_3.2 != (2 : Int)) (some false)
                              (ob (fnEpicL (false, (y.fst.1, y.fst.snd.1, y.fst.snd.snd.1, y.fst.snd.snd.2), (0 : Int)))
                                fun r =>
                                br r.1
                                  (ob
                                    (epiTextI
                                      (r.snd.snd.fst.1, r.snd.snd.fst.snd.1, r.snd.snd.fst.snd.snd.1,
                                        r.snd.snd.fst.snd.snd.2))
                                    fun y =>
                                    ob (readEpiI y) fun y =>
                                      br y.2
                                        (br
                                          (y.fst.1 == r.snd.snd.fst.1 &&
                                            (y.fst.snd.1 == r.snd.snd.fst.snd.1 &&
                                              (y.fst.snd.snd.1 == r.snd.snd.fst.snd.snd.1 &&
                                                y.fst.snd.snd.2 == r.snd.snd.fst.snd.snd.2)))
                                          (ob
                                            (faultsI
                                              (r.snd.snd.fst.1, r.snd.snd.fst.snd.1, r.snd.snd.fst.snd.snd.1,
                                                r.snd.snd.fst.snd.snd.2))
                                            fun y => some ((↑(List.length y) : Int) == (0 : Int)))
                                          (some false))
                                        (some false))
                                  (some r.snd.1)))
                            (ob (fnEpicL (false, (y.fst.1, y.fst.snd.1, y.fst.snd.snd.1, y.fst.snd.snd.2), (0 : Int)))
                              fun r =>
                              br r.1
                                (ob
                                  (epiTextI
                                    (r.snd.snd.fst.1, r.snd.snd.fst.snd.1, r.snd.snd.fst.snd.snd.1,
                                      r.snd.snd.fst.snd.snd.2))
                                  fun y =>
                                  ob (readEpiI y) fun y =>
                                    br y.2
                                      (br
                                        (y.fst.1 == r.snd.snd.fst.1 &&
                                          (y.fst.snd.1 == r.snd.snd.fst.snd.1 &&
                                            (y.fst.snd.snd.1 == r.snd.snd.fst.snd.snd.1 &&
                                              y.fst.snd.snd.2 == r.snd.snd.fst.snd.snd.2)))
                                        (ob
                                          (faultsI
                                            (r.snd.snd.fst.1, r.snd.snd.fst.snd.1, r.snd.snd.fst.snd.snd.1,
                                              r.snd.snd.fst.snd.snd.2))
                                          fun y => some ((↑(List.length y) : Int) == (0 : Int)))
                                        (some false))
                                      (some false))
                                (some r.snd.1))))
                        (br (y_3.2 != (0 : Int))
                          (br (y_3.2 != (2 : Int)) (some false)
                            (ob (fnEpicL (false, (y.fst.1, y.fst.snd.1, y.fst.snd.snd.1, y.fst.snd.snd.2), (0 : Int)))
                              fun r =>
                              br r.1
                                (ob
                                  (epiTextI
                                    (r.snd.snd.fst.1, r.snd.snd.fst.snd.1, r.snd.snd.fst.snd.snd.1,
                                      r.snd.snd.fst.snd.snd.2))
                                  fun y =>
                                  ob (readEpiI y) fun y =>
                                    br y.2
                                      (br
                                        (y.fst.1 == r.snd.snd.fst.1 &&
                                          (y.fst.snd.1 == r.snd.snd.fst.snd.1 &&
                                            (y.fst.snd.snd.1 == r.snd.snd.fst.snd.snd.1 &&
                                              y.fst.snd.snd.2 == r.snd.snd.fst.snd.snd.2)))
                                        (ob
                                          (faultsI
                                            (r.snd.snd.fst.1, r.snd.snd.fst.snd.1, r.snd.snd.fst.snd.snd.1,
                                              r.snd.snd.fst.snd.snd.2))
                                          fun y => some ((↑(List.length y) : Int) == (0 : Int)))
                                        (some false))
                                      (some false))
                                (some r.snd.1)))
                          (ob (fnEpicL (false, (y.fst.1, y.fst.snd.1, y.fst.snd.snd.1, y.fst.snd.snd.2), (0 : Int)))
                            fun r =>
                            br r.1
                              (ob
                                (epiTextI
                                  (r.snd.snd.fst.1, r.snd.snd.fst.snd.1, r.snd.snd.fst.snd.snd.1,
                                    r.snd.snd.fst.snd.snd.2))
                                fun y =>
                                ob (readEpiI y) fun y =>
                                  br y.2
                                    (br
                                      (y.fst.1 == r.snd.snd.fst.1 &&
                                        (y.fst.snd.1 == r.snd.snd.fst.snd.1 &&
                                          (y.fst.snd.snd.1 == r.snd.snd.fst.snd.snd.1 &&
                                            y.fst.snd.snd.2 == r.snd.snd.fst.snd.snd.2)))
                                      (ob
                                        (faultsI
                                          (r.snd.snd.fst.1, r.snd.snd.fst.snd.1, r.snd.snd.fst.snd.snd.1,
                                            r.snd.snd.fst.snd.snd.2))
                                        fun y => some ((↑(List.length y) : Int) == (0 : Int)))
                                      (some false))
                                    (some false))
                              (some r.snd.1))))))
                  (br (y_3.2 == (0 : Int))
                    (br (!(y_3.fst.1 == y.snd.snd.1 && y_3.fst.2 == y.snd.snd.2)) (some false)
                      (br (y_2.2 != (0 : Int))
                        (br (y_2.2 != (2 : Int)) (some false)
                          (br (y_3.2 != (0 : Int))
                            (br (y_3.2 != (2 : Int)) (some false)
                              (ob (fnEpicL (false, (y.fst.1, y.fst.snd.1, y.fst.snd.snd.1, y.fst.snd.snd.2), (0 : Int)))
                                fun r =>
                                br r.1
                                  (ob
                                    (epiTextI
                                      (r.snd.snd.fst.1, r.snd.snd.fst.snd.1, r.snd.snd.fst.snd.snd.1,
                                        r.snd.snd.fst.snd.snd.2))
                                    fun y =>
                                    ob (readEpiI y) fun y =>
                                      br y.2
                                        (br
                                          (y.fst.1 == r.snd.snd.fst.1 &&
                                            (y.fst.snd.1 == r.snd.snd.fst.snd.1 &&
                                              (y.fst.snd.snd.1 == r.snd.snd.fst.snd.snd.1 &&
                                                y.fst.snd.snd.2 == r.snd.snd.fst.snd.snd.2)))
                                          (ob
                                            (faultsI
                                              (r.snd.snd.fst.1, r.snd.snd.fst.snd.1, r.snd.snd.fst.snd.snd.1,
                                                r.snd.snd.fst.snd.snd.2))
                                            fun y => some ((↑(List.length y) : Int) == (0 : Int)))
                                          (some false))
                                        (some false))
                                  (some r.snd.1)))
                            (ob (fnEpicL (false, (y.fst.1, y.fst.snd.1, y.fst.snd.snd.1, y.fst.snd.snd.2), (0 : Int)))
                              fun r =>
                              br r.1
                                (ob
                                  (epiTextI
                                    (r.snd.snd.fst.1, r.snd.snd.fst.snd.1, r.snd.snd.fst.snd.snd.1,
                                      r.snd.snd.fst.snd.snd.2))
                                  fun y =>
                                  ob (readEpiI y) fun y =>
                                    br y.2
                                      (br
                                        (y.fst.1 == r.snd.snd.fst.1 &&
                                          (y.fst.snd.1 == r.snd.snd.fst.snd.1 &&
                                            (y.fst.snd.snd.1 == r.snd.snd.fst.snd.snd.1 &&
                                              y.fst.snd.snd.2 == r.snd.snd.fst.snd.snd.2)))
                                        (ob
                                          (faultsI
                                            (r.snd.snd.fst.1, r.snd.snd.fst.snd.1, r.snd.snd.fst.snd.snd.1,
                                              r.snd.snd.fst.snd.snd.2))
                                          fun y => some ((↑(List.length y) : Int) == (0 : Int)))
                                        (some false))
                                      (some false))
                                (some r.snd.1))))
                        (br (y_3.2 != (0 : Int))
                          (br (y_3.2 != (2 : Int)) (some false)
                            (ob (fnEpicL (false, (y.fst.1, y.fst.snd.1, y.fst.snd.snd.1, y.fst.snd.snd.2), (0 : Int)))
                              fun r =>
                              br r.1
                                (ob
                                  (epiTextI
                                    (r.snd.snd.fst.1, r.snd.snd.fst.snd.1, r.snd.snd.fst.snd.snd.1,
                                      r.snd.snd.fst.snd.snd.2))
                                  fun y =>
                                  ob (readEpiI y) fun y =>
                                    br y.2
                                      (br
                                        (y.fst.1 == r.snd.snd.fst.1 &&
                                          (y.fst.snd.1 == r.snd.snd.fst.snd.1 &&
                                            (y.fst.snd.snd.1 == r.snd.snd.fst.snd.snd.1 &&
                                              y.fst.snd.snd.2 == r.snd.snd.fst.snd.snd.2)))
                                        (ob
                                          (faultsI
                                            (r.snd.snd.fst.1, r.snd.snd.fst.snd.1, r.snd.snd.fst.snd.snd.1,
                                              r.snd.snd.fst.snd.snd.2))
                                          fun y => some ((↑(List.length y) : Int) == (0 : Int)))
                                        (some false))
                                      (some false))
                                (some r.snd.1)))
                          (ob (fnEpicL (false, (y.fst.1, y.fst.snd.1, y.fst.snd.snd.1, y.fst.snd.snd.2), (0 : Int)))
                            fun r =>
                            br r.1
                              (ob
                                (epiTextI
                                  (r.snd.snd.fst.1, r.snd.snd.fst.snd.1, r.snd.snd.fst.snd.snd.1,
                                    r.snd.snd.fst.snd.snd.2))
                                fun y =>
                                ob (readEpiI y) fun y =>
                                  br y.2
                                    (br
                                      (y.fst.1 == r.snd.snd.fst.1 &&
                                        (y.fst.snd.1 == r.snd.snd.fst.snd.1 &&
                                          (y.fst.snd.snd.1 == r.snd.snd.fst.snd.snd.1 &&
                                            y.fst.snd.snd.2 == r.snd.snd.fst.snd.snd.2)))
                                      (ob
                                        (faultsI
                                          (r.snd.snd.fst.1, r.snd.snd.fst.snd.1, r.snd.snd.fst.snd.snd.1,
                                            r.snd.snd.fst.snd.snd.2))
                                        fun y => some ((↑(List.length y) : Int) == (0 : Int)))
                                      (some false))
                                    (some false))
                              (some r.snd.1)))))
                    (br (y_2.2 != (0 : Int))
                      (br (y_2.2 != (2 : Int)) (some false)
                        (br (y_3.2 != (0 : Int))
                          (br (y_3.2 != (2 : Int)) (some false)
                            (ob (fnEpicL (false, (y.fst.1, y.fst.snd.1, y.fst.snd.snd.1, y.fst.snd.snd.2), (0 : Int)))
                              fun r =>
                              br r.1
                                (ob
                                  (epiTextI
                                    (r.snd.snd.fst.1, r.snd.snd.fst.snd.1, r.snd.snd.fst.snd.snd.1,
                                      r.snd.snd.fst.snd.snd.2))
                                  fun y =>
                                  ob (readEpiI y) fun y =>
                                    br y.2
                                      (br
                                        (y.fst.1 == r.snd.snd.fst.1 &&
                                          (y.fst.snd.1 == r.snd.snd.fst.snd.1 &&
                                            (y.fst.snd.snd.1 == r.snd.snd.fst.snd.snd.1 &&
                                              y.fst.snd.snd.2 == r.snd.snd.fst.snd.snd.2)))
                                        (ob
                                          (faultsI
                                            (r.snd.snd.fst.1, r.snd.snd.fst.snd.1, r.snd.snd.fst.snd.snd.1,
                                              r.snd.snd.fst.snd.snd.2))
                                          fun y => some ((↑(List.length y) : Int) == (0 : Int)))
                                        (some false))
                                      (some false))
                                (some r.snd.1)))
                          (ob (fnEpicL (false, (y.fst.1, y.fst.snd.1, y.fst.snd.snd.1, y.fst.snd.snd.2), (0 : Int)))
                            fun r =>
                            br r.1
                              (ob
                                (epiTextI
                                  (r.snd.snd.fst.1, r.snd.snd.fst.snd.1, r.snd.snd.fst.snd.snd.1,
                                    r.snd.snd.fst.snd.snd.2))
                                fun y =>
                                ob (readEpiI y) fun y =>
                                  br y.2
                                    (br
                                      (y.fst.1 == r.snd.snd.fst.1 &&
                                        (y.fst.snd.1 == r.snd.snd.fst.snd.1 &&
                                          (y.fst.snd.snd.1 == r.snd.snd.fst.snd.snd.1 &&
                                            y.fst.snd.snd.2 == r.snd.snd.fst.snd.snd.2)))
                                      (ob
                                        (faultsI
                                          (r.snd.snd.fst.1, r.snd.snd.fst.snd.1, r.snd.snd.fst.snd.snd.1,
                                            r.snd.snd.fst.snd.snd.2))
                                        fun y => some ((↑(List.length y) : Int) == (0 : Int)))
                                      (some false))
                                    (some false))
                              (some r.snd.1))))
                      (br (y_3.2 != (0 : Int))
                        (br (y_3.2 != (2 : Int)) (some false)
                          (ob (fnEpicL (false, (y.fst.1, y.fst.snd.1, y.fst.snd.snd.1, y.fst.snd.snd.2), (0 : Int)))
                            fun r =>
                            br r.1
                              (ob
                                (epiTextI
                                  (r.snd.snd.fst.1, r.snd.snd.fst.snd.1, r.snd.snd.fst.snd.snd.1,
                                    r.snd.snd.fst.snd.snd.2))
                                fun y =>
                                ob (readEpiI y) fun y =>
                                  br y.2
                                    (br
                                      (y.fst.1 == r.snd.snd.fst.1 &&
                                        (y.fst.snd.1 == r.snd.snd.fst.snd.1 &&
                                          (y.fst.snd.snd.1 == r.snd.snd.fst.snd.snd.1 &&
                                            y.fst.snd.snd.2 == r.snd.snd.fst.snd.snd.2)))
                                      (ob
                                        (faultsI
                                          (r.snd.snd.fst.1, r.snd.snd.fst.snd.1, r.snd.snd.fst.snd.snd.1,
                                            r.snd.snd.fst.snd.snd.2))
                                        fun y => some ((↑(List.length y) : Int) == (0 : Int)))
                                      (some false))
                                    (some false))
                              (some r.snd.1)))
                        (ob (fnEpicL (false, (y.fst.1, y.fst.snd.1, y.fst.snd.snd.1, y.fst.snd.snd.2), (0 : Int)))
                          fun r =>
                          br r.1
                            (ob
                              (epiTextI
                                (r.snd.snd.fst.1, r.snd.snd.fst.snd.1, r.snd.snd.fst.snd.snd.1,
                                  r.snd.snd.fst.snd.snd.2))
                              fun y =>
                              ob (readEpiI y) fun y =>
                                br y.2
                                  (br
                                    (y.fst.1 == r.snd.snd.fst.1 &&
                                      (y.fst.snd.1 == r.snd.snd.fst.snd.1 &&
                                        (y.fst.snd.snd.1 == r.snd.snd.fst.snd.snd.1 &&
                                          y.fst.snd.snd.2 == r.snd.snd.fst.snd.snd.2)))
                                    (ob
                                      (faultsI
                                        (r.snd.snd.fst.1, r.snd.snd.fst.snd.1, r.snd.snd.fst.snd.snd.1,
                                          r.snd.snd.fst.snd.snd.2))
                                      fun y => some ((↑(List.length y) : Int) == (0 : Int)))
                                    (some false))
                                  (some false))
                            (some r.snd.1))))))
            (ob (fnEpicL (false, (y.fst.1, y.fst.snd.1, y.fst.snd.snd.1, y.fst.snd.snd.2), (0 : Int))) fun r =>
              br r.1
                (ob (epiTextI (r.snd.snd.fst.1, r.snd.snd.fst.snd.1, r.snd.snd.fst.snd.snd.1, r.snd.snd.fst.snd.snd.2))
                  fun y =>
                  ob (readEpiI y) fun y =>
                    br y.2
                      (br
                        (y.fst.1 == r.snd.snd.fst.1 &&
                          (y.fst.snd.1 == r.snd.snd.fst.snd.1 &&
                            (y.fst.snd.snd.1 == r.snd.snd.fst.snd.snd.1 && y.fst.snd.snd.2 == r.snd.snd.fst.snd.snd.2)))
                        (ob
                          (faultsI
                            (r.snd.snd.fst.1, r.snd.snd.fst.snd.1, r.snd.snd.fst.snd.snd.1, r.snd.snd.fst.snd.snd.2))
                          fun y => some ((↑(List.length y) : Int) == (0 : Int)))
                        (some false))
                      (some false))
                (some r.snd.1)))
def fnEpic_con : Con := ⟨[.slice (.int .u8)], [.d (.bool)], fnEpic⟩
theorem fnEpic_run (x : Dens [.slice (.int .u8)]) : runFn (mkEnv [(15, a2Long_con), (16, a2EpiS_con), (17, ringI_con), (18, sunI_con), (19, carrierI_con), (11, epiTextI_con), (13, readEpiI_con), (22, faultsI_con)] [(fnEpicL_key, fnEpicL_L)]) Tryd.f5 [.slice (.int .u8)] [.d (.bool)] x = fnEpic x := by kernel_rfl
theorem fnEpic_ok : fnEpic_con.ok Tryd.prog 5 := fn_ok (con := fnEpic_con) (mkEnv_ok (cons := [(15, a2Long_con), (16, a2EpiS_con), (17, ringI_con), (18, sunI_con), (19, carrierI_con), (11, epiTextI_con), (13, readEpiI_con), (22, faultsI_con)]) ⟨a2Long_ok, a2EpiS_ok, ringI_ok, sunI_ok, carrierI_ok, epiTextI_ok, readEpiI_ok, faultsI_ok, trivial⟩ [(fnEpicL_key, fnEpicL_L)]) Tryd.func5 rfl (by kernel_rfl) (by exact ⟨fnEpicL_ok, trivial⟩) (fun x y h => (fnEpic_run x).trans h)

end
end Rx
end Go.Proofs.YtfapjkcmoefilaaDoor
