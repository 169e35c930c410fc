/- What the functions of RxFnEpis come to, and their contracts. No conditions. -/
import Derived.Test.YtaaieejhbpdmoaaRxEnv
import Derived.Test.YtaaieejhbpdmoaaRxDrawEpi
import Derived.Test.YtaaieejhbpdmoaaRxEpis
namespace Go.Proofs.Ytaaieejhbpdmoaa
namespace Rx
open Go

def cageI : (Int × Int) × (Int × Int) → Option ((Int × Int) × Int) :=
fun x =>
  ob (addRatI ((x.fst.1, x.fst.2), x.snd.1, x.snd.2)) fun y =>
    br (y.2 != (0 : Int)) (some (((0 : Int), (0 : Int)), y.2))
      (ob (mulRatI ((y.fst.1, y.fst.2), (1 : Int), (2 : Int))) fun y => some ((y.fst.1, y.fst.2), y.2))
def cageI_con : Con := ⟨[.pair (i64) (i64), .pair (i64) (i64)], [.d (.pair (i64) (i64)), .d (i64)], cageI⟩
theorem cageI_run (x : Dens [.pair (i64) (i64), .pair (i64) (i64)]) : runFn (mkEnv [(57, addRatI_con), (61, mulRatI_con)] []) Try.f27 [.pair (i64) (i64), .pair (i64) (i64)] [.d (.pair (i64) (i64)), .d (i64)] x = cageI x := by kernel_rfl
theorem cageI_ok : cageI_con.ok Try.prog 27 := fn_ok (con := cageI_con) (mkEnv_ok (cons := [(57, addRatI_con), (61, mulRatI_con)]) ⟨addRatI_ok, mulRatI_ok, trivial⟩ []) Try.func27 rfl (by kernel_rfl) (by exact trivial) (fun x y h => (cageI_run x).trans h)

def sideI : (Int × Int) × (Int × Int) → Option ((Int × Int) × Int) :=
fun x =>
  ob (validRatI (x.snd.1, x.snd.2)) fun y =>
    br (!y) (some (((0 : Int), (0 : Int)), (1 : Int)))
      (ob (addRatI ((x.fst.1, x.fst.2), x.fst.1, x.fst.2)) fun y =>
        br (y.2 != (0 : Int)) (some (((0 : Int), (0 : Int)), y.2))
          (ob (subRatI ((y.fst.1, y.fst.2), x.snd.1, x.snd.2)) fun y => some ((y.fst.1, y.fst.2), y.2)))
def sideI_con : Con := ⟨[.pair (i64) (i64), .pair (i64) (i64)], [.d (.pair (i64) (i64)), .d (i64)], sideI⟩
theorem sideI_run (x : Dens [.pair (i64) (i64), .pair (i64) (i64)]) : runFn (mkEnv [(56, validRatI_con), (57, addRatI_con), (58, subRatI_con)] []) Try.f24 [.pair (i64) (i64), .pair (i64) (i64)] [.d (.pair (i64) (i64)), .d (i64)] x = sideI x := by kernel_rfl
theorem sideI_ok : sideI_con.ok Try.prog 24 := fn_ok (con := sideI_con) (mkEnv_ok (cons := [(56, validRatI_con), (57, addRatI_con), (58, subRatI_con)]) ⟨validRatI_ok, addRatI_ok, subRatI_ok, trivial⟩ []) Try.func24 rfl (by kernel_rfl) (by exact trivial) (fun x y h => (sideI_run x).trans h)

def fnEpisL_vars : Vars := [(2, .val (.bool)), (3, .box 0 25 (.pair (i64) (.pair (i64) (.pair (i64) (i64))))), (4, .box 0 34 (.pair (i64) (i64))), (5, .box 0 34 (.pair (i64) (i64))), (6, .box 0 34 (.pair (i64) (i64))), (8, .row 0 25 (.pair (i64) (.pair (i64) (.pair (i64) (i64))))), (9, .val (i64)), (10, .val (.bool)), (11, .val (i64))]
def fnEpisL_step : Bool × (Int × Int × Int × Int) × (Int × Int) × (Int × Int) × (Int × Int) × List ((Int × Int × Int × Int)) × Int × Bool × Int → Option (LRes × (Bool × (Int × Int × Int × Int) × (Int × Int) × (Int × Int) × (Int × Int) × List ((Int × Int × Int × Int)) × Int × Bool × Int)) :=
fun x =>
  br (decide (x.snd.snd.snd.snd.snd.snd.snd.2 < (↑(List.length x.snd.snd.snd.snd.snd.1) : Int)))
    (ob (idx x.snd.snd.snd.snd.snd.1 x.snd.snd.snd.snd.snd.snd.snd.2) fun x_1 =>
      ob (List.get?Internal x.snd.snd.snd.snd.snd.1 (Int.toNat x.snd.snd.snd.snd.snd.snd.snd.2)) fun x_2 =>
        ob (epiRatS ((x_2.1, x_2.snd.1, x_2.snd.snd.1, x_2.snd.snd.2), (0 : Int), (2 : Int))) fun y =>
          br (y.2 != (0 : Int))
            (some
              (LRes.ret, false, (x.snd.fst.1, x.snd.fst.snd.1, x.snd.fst.snd.snd.1, x.snd.fst.snd.snd.2),
                (x.snd.snd.fst.1, x.snd.snd.fst.2), (x.snd.snd.snd.fst.1, x.snd.snd.snd.fst.2),
                (x.snd.snd.snd.snd.fst.1, x.snd.snd.snd.snd.fst.2), x.snd.snd.snd.snd.snd.1,
                x.snd.snd.snd.snd.snd.snd.1, x.snd.snd.snd.snd.snd.snd.snd.1, x.snd.snd.snd.snd.snd.snd.snd.2))
            (br (!(y.fst.1 == x.snd.snd.snd.snd.fst.1 && y.fst.2 == x.snd.snd.snd.snd.fst.2))
              (some
                (LRes.ret, false, (x.snd.fst.1, x.snd.fst.snd.1, x.snd.fst.snd.snd.1, x.snd.fst.snd.snd.2),
                  (x.snd.snd.fst.1, x.snd.snd.fst.2), (x.snd.snd.snd.fst.1, x.snd.snd.snd.fst.2),
                  (x.snd.snd.snd.snd.fst.1, x.snd.snd.snd.snd.fst.2), x.snd.snd.snd.snd.snd.1,
                  x.snd.snd.snd.snd.snd.snd.1, x.snd.snd.snd.snd.snd.snd.snd.1, x.snd.snd.snd.snd.snd.snd.snd.2))
              (ob (idx x.snd.snd.snd.snd.snd.1 x.snd.snd.snd.snd.snd.snd.snd.2) fun x_3 =>
                ob (List.get?Internal x.snd.snd.snd.snd.snd.1 (Int.toNat x.snd.snd.snd.snd.snd.snd.snd.2)) fun x_4 =>
                  br (x_4.snd.snd.2 != x.snd.fst.snd.snd.2)
                    (some
                      (LRes.ret, false, (x.snd.fst.1, x.snd.fst.snd.1, x.snd.fst.snd.snd.1, x.snd.fst.snd.snd.2),
                        (x.snd.snd.fst.1, x.snd.snd.fst.2), (x.snd.snd.snd.fst.1, x.snd.snd.snd.fst.2),
                        (x.snd.snd.snd.snd.fst.1, x.snd.snd.snd.snd.fst.2), x.snd.snd.snd.snd.snd.1,
                        x.snd.snd.snd.snd.snd.snd.1, x.snd.snd.snd.snd.snd.snd.snd.1, x.snd.snd.snd.snd.snd.snd.snd.2))
                    (br x.snd.snd.snd.snd.snd.snd.snd.1
                      (some
                        (LRes.next, x.1, (x.snd.fst.1, x.snd.fst.snd.1, x.snd.fst.snd.snd.1, x.snd.fst.snd.snd.2),
                          (x.snd.snd.fst.1, x.snd.snd.fst.2), (x.snd.snd.snd.fst.1, x.snd.snd.snd.fst.2),
                          (x.snd.snd.snd.snd.fst.1, x.snd.snd.snd.snd.fst.2), x.snd.snd.snd.snd.snd.1,
                          x.snd.snd.snd.snd.snd.snd.1, true,
                          IntKind.i64.wrap (x.snd.snd.snd.snd.snd.snd.snd.2 + (1 : Int))))
                      (ob (idx x.snd.snd.snd.snd.snd.1 x.snd.snd.snd.snd.snd.snd.snd.2) fun x_5 =>
                        ob (List.get?Internal x.snd.snd.snd.snd.snd.1 (Int.toNat x.snd.snd.snd.snd.snd.snd.snd.2))
                          fun x_6 =>
                          some
                            (LRes.next, x.1, (x.snd.fst.1, x.snd.fst.snd.1, x.snd.fst.snd.snd.1, x.snd.fst.snd.snd.2),
                              (x.snd.snd.fst.1, x.snd.snd.fst.2), (x.snd.snd.snd.fst.1, x.snd.snd.snd.fst.2),
                              (x.snd.snd.snd.snd.fst.1, x.snd.snd.snd.snd.fst.2), x.snd.snd.snd.snd.snd.1,
                              x.snd.snd.snd.snd.snd.snd.1,
                              x_6.1 == x.snd.fst.1 &&
                                (x_6.snd.1 == x.snd.fst.snd.1 &&
                                  (x_6.snd.snd.1 == x.snd.fst.snd.snd.1 && x_6.snd.snd.2 == x.snd.fst.snd.snd.2)),
                              IntKind.i64.wrap (x.snd.snd.snd.snd.snd.snd.snd.2 + (1 : Int))))))))
    (some
      (LRes.out, x.1, (x.snd.fst.1, x.snd.fst.snd.1, x.snd.fst.snd.snd.1, x.snd.fst.snd.snd.2),
        (x.snd.snd.fst.1, x.snd.snd.fst.2), (x.snd.snd.snd.fst.1, x.snd.snd.snd.fst.2),
        (x.snd.snd.snd.snd.fst.1, x.snd.snd.snd.snd.fst.2), x.snd.snd.snd.snd.snd.1, x.snd.snd.snd.snd.snd.snd.1,
        x.snd.snd.snd.snd.snd.snd.snd.1, x.snd.snd.snd.snd.snd.snd.snd.2))
def fnEpisL_fuel : Bool × (Int × Int × Int × Int) × (Int × Int) × (Int × Int) × (Int × Int) × List ((Int × Int × Int × Int)) × Int × Bool × Int → Nat := fun s => (s.2.2.2.2.2.1.length - s.2.2.2.2.2.2.2.2.toNat) + 1
def fnEpisL : Bool × (Int × Int × Int × Int) × (Int × Int) × (Int × Int) × (Int × Int) × List ((Int × Int × Int × Int)) × Int × Bool × Int → Option (Bool × (Bool × (Int × Int × Int × Int) × (Int × Int) × (Int × Int) × (Int × Int) × List ((Int × Int × Int × Int)) × Int × Bool × Int)) := fun s => iter fnEpisL_step (fnEpisL_fuel s) s
def fnEpisL_L : LoopC := ⟨fnEpisL_vars, 0, .two fnEpisL⟩
noncomputable def fnEpisL_key : Nat := key (loopAt Try.f13 0)
theorem fnEpisL_stepok (x : fnEpisL_vars.den) : stepOf (mkEnv [(41, epiRatS_con)] []) Try.f13.ntmps fnEpisL_vars 0 (loopAt Try.f13 0) x = fnEpisL_step x := by kernel_rfl
theorem fnEpisL_ok : LoopOK Try.prog Try.f13.ntmps fnEpisL_L (loopAt Try.f13 0)   := iter_loop (n := Try.f13.ntmps) (vs := fnEpisL_vars) (out := 0) (body := loopAt Try.f13 0) (mkEnv_ok (cons := [(41, epiRatS_con)]) ⟨epiRatS_ok, trivial⟩ []) fnEpisL_step fnEpisL_fuel (by exact trivial) fnEpisL_stepok

def fnEpis : List (Int) → Option (Bool) :=
fun x =>
  ob (a2Long (x, [])) fun y =>
    br y (some true)
      (ob (a2EpiS x) fun y =>
        ob (epiRatS ((y.fst.1, y.fst.snd.1, y.fst.snd.snd.1, y.fst.snd.snd.2), (0 : Int), (2 : Int))) fun y_1 =>
          ob
            (episI
              ((y_1.fst.1, y_1.fst.2), br (decide (y.fst.snd.snd.1 < y.fst.1)) y.fst.snd.snd.1 y.fst.1,
                br (decide (y.fst.1 < y.fst.snd.snd.1)) y.fst.snd.snd.1 y.fst.1, y.fst.snd.snd.2))
            fun y_2 =>
            ob
              (fnEpisL
                (false, (y.fst.1, y.fst.snd.1, y.fst.snd.snd.1, y.fst.snd.snd.2), (y.snd.fst.1, y.snd.fst.2),
                  (y.snd.snd.1, y.snd.snd.2), (y_1.fst.1, y_1.fst.2), y_2.1, y_2.2, false, (0 : Int)))
              fun r =>
              br r.1
                (br (r.snd.snd.snd.snd.snd.snd.snd.1 != (5 : Int))
                  (br (r.snd.snd.snd.snd.snd.snd.snd.1 != (0 : Int)) (some false)
                    (br (!r.snd.snd.snd.snd.snd.snd.snd.snd.1) (some false)
                      (ob
                        (cageI
                          ((r.snd.snd.snd.fst.1, r.snd.snd.snd.fst.2), r.snd.snd.snd.snd.fst.1,
                            r.snd.snd.snd.snd.fst.2))
                        fun y =>
                        br (y.2 != (0 : Int)) (some (y.2 == (2 : Int)))
                          (ob (sideI ((y.fst.1, y.fst.2), r.snd.snd.snd.fst.1, r.snd.snd.snd.fst.2)) fun y =>
                            br (y.2 == (2 : Int)) (some true)
                              (br (y.2 == (0 : Int))
                                (some (y.fst.1 == r.snd.snd.snd.snd.fst.1 && y.fst.2 == r.snd.snd.snd.snd.fst.2))
                                (some false))))))
                  (ob
                    (cageI
                      ((r.snd.snd.snd.fst.1, r.snd.snd.snd.fst.2), r.snd.snd.snd.snd.fst.1, r.snd.snd.snd.snd.fst.2))
                    fun y =>
                    br (y.2 != (0 : Int)) (some (y.2 == (2 : Int)))
                      (ob (sideI ((y.fst.1, y.fst.2), r.snd.snd.snd.fst.1, r.snd.snd.snd.fst.2)) fun y =>
                        br (y.2 == (2 : Int)) (some true)
                          (br (y.2 == (0 : Int))
                            (some (y.fst.1 == r.snd.snd.snd.snd.fst.1 && y.fst.2 == r.snd.snd.snd.snd.fst.2))
                            (some false)))))
                (some r.snd.1))
def fnEpis_con : Con := ⟨[.slice (.int .u8)], [.d (.bool)], fnEpis⟩
theorem fnEpis_run (x : Dens [.slice (.int .u8)]) : runFn (mkEnv [(43, a2Long_con), (44, a2EpiS_con), (41, epiRatS_con), (29, episI_con), (27, cageI_con), (24, sideI_con)] [(fnEpisL_key, fnEpisL_L)]) Try.f13 [.slice (.int .u8)] [.d (.bool)] x = fnEpis x := by kernel_rfl
theorem fnEpis_ok : fnEpis_con.ok Try.prog 13 := fn_ok (con := fnEpis_con) (mkEnv_ok (cons := [(43, a2Long_con), (44, a2EpiS_con), (41, epiRatS_con), (29, episI_con), (27, cageI_con), (24, sideI_con)]) ⟨a2Long_ok, a2EpiS_ok, epiRatS_ok, episI_ok, cageI_ok, sideI_ok, trivial⟩ [(fnEpisL_key, fnEpisL_L)]) Try.func13 rfl (by kernel_rfl) (by exact ⟨fnEpisL_ok, trivial⟩) (fun x y h => (fnEpis_run x).trans h)

end Rx
end Go.Proofs.Ytaaieejhbpdmoaa
