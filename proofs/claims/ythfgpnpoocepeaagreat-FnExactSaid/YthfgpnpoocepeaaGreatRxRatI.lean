/- What the functions of RxRatI come to, and their contracts. No conditions. -/
import Derived.Test.YthfgpnpoocepeaaGreatRxEnv
namespace Go.Proofs.YthfgpnpoocepeaaGreat
namespace Rx
open Go

def withinI : Int × Int × Int → Option (Bool) :=
fun x => br (decide (x.snd.1 ≤ x.1)) (some (decide (x.1 ≤ x.snd.2))) (some false)
def withinI_con : Con := ⟨[i64, i64, i64], [.d (.bool)], withinI⟩
theorem withinI_run (x : Dens [i64, i64, i64]) : runFn (mkEnv [] []) Tryz.f84 [i64, i64, i64] [.d (.bool)] x = withinI x := by kernel_rfl
theorem withinI_ok : withinI_con.ok Tryz.prog 84 := fn_ok (con := withinI_con) (mkEnv_ok (cons := []) trivial []) Tryz.func84 rfl (by kernel_rfl) (by exact trivial) (fun x y h => (withinI_run x).trans h)

def toothedI : Int → Option (Bool) :=
fun x => ob (withinI (x, (6 : Int), (240 : Int))) fun y => some y
def toothedI_con : Con := ⟨[i64], [.d (.bool)], toothedI⟩
theorem toothedI_run (x : Dens [i64]) : runFn (mkEnv [(84, withinI_con)] []) Tryz.f102 [i64] [.d (.bool)] x = toothedI x := by kernel_rfl
theorem toothedI_ok : toothedI_con.ok Tryz.prog 102 := fn_ok (con := toothedI_con) (mkEnv_ok (cons := [(84, withinI_con)]) ⟨withinI_ok, trivial⟩ []) Tryz.func102 rfl (by kernel_rfl) (by exact trivial) (fun x y h => (toothedI_run x).trans h)

def magI : Int → Option (Int) :=
fun x =>
  br (decide (x < (0 : Int))) (some (IntKind.u64.wrap ((0 : Int) - IntKind.u64.wrap x))) (some (IntKind.u64.wrap x))
def magI_con : Con := ⟨[i64], [.d (u64)], magI⟩
theorem magI_run (x : Dens [i64]) : runFn (mkEnv [] []) Tryz.f136 [i64] [.d (u64)] x = magI x := by kernel_rfl
theorem magI_ok : magI_con.ok Tryz.prog 136 := fn_ok (con := magI_con) (mkEnv_ok (cons := []) trivial []) Tryz.func136 rfl (by kernel_rfl) (by exact trivial) (fun x y h => (magI_run x).trans h)

def gcdIL_vars : Vars := [(0, .val (i64)), (1, .val (i64))]
def gcdIL_step : Int × Int → Option (LRes × (Int × Int)) :=
fun x =>
  br (x.2 != (0 : Int)) (br (x.2 == (0 : Int)) none (some (LRes.next, x.2, x.1.tmod x.2))) (some (LRes.out, x.1, x.2))
def gcdIL_fuel : Int × Int → Nat := fun s => s.2.natAbs + 1
def gcdIL : Int × Int → Option (Int × Int) := fun s => iterP gcdIL_step (gcdIL_fuel s) s
def gcdIL_L : LoopC := ⟨gcdIL_vars, 0, .plain gcdIL⟩
noncomputable def gcdIL_key : Nat := key (loopAt Tryz.f85 0)
theorem gcdIL_stepok (x : gcdIL_vars.den) : stepOf (mkEnv [] []) Tryz.f85.ntmps gcdIL_vars 0 (loopAt Tryz.f85 0) x = gcdIL_step x := by kernel_rfl
theorem gcdIL_ok : LoopOK Tryz.prog Tryz.f85.ntmps gcdIL_L (loopAt Tryz.f85 0)   := iterP_loop (n := Tryz.f85.ntmps) (vs := gcdIL_vars) (out := 0) (body := loopAt Tryz.f85 0) (mkEnv_ok (cons := []) trivial []) gcdIL_step gcdIL_fuel (by exact trivial) gcdIL_stepok

def gcdI : Int × Int → Option (Int) :=
fun x =>
  ob (gcdIL (x.1, x.2)) fun r => br (decide (r.1 < (0 : Int))) (some (IntKind.i64.wrap ((0 : Int) - r.1))) (some r.1)
def gcdI_con : Con := ⟨[i64, i64], [.d (i64)], gcdI⟩
theorem gcdI_run (x : Dens [i64, i64]) : runFn (mkEnv [] [(gcdIL_key, gcdIL_L)]) Tryz.f85 [i64, i64] [.d (i64)] x = gcdI x := by kernel_rfl
theorem gcdI_ok : gcdI_con.ok Tryz.prog 85 := fn_ok (con := gcdI_con) (mkEnv_ok (cons := []) trivial [(gcdIL_key, gcdIL_L)]) Tryz.func85 rfl (by kernel_rfl) (by exact ⟨gcdIL_ok, trivial⟩) (fun x y h => (gcdI_run x).trans h)

def redIL_vars : Vars := [(0, .val (i64)), (1, .val (i64)), (4, .box 0 27 (.pair (i64) (i64))), (6, .val (u64)), (7, .val (u64)), (8, .val (u64)), (9, .val (u64))]
def redIL_step : Int × Int × (Int × Int) × Int × Int × Int × Int → Option (LRes × (Int × Int × (Int × Int) × Int × Int × Int × Int)) :=
fun x =>
  br (x.snd.snd.snd.snd.snd.2 != (0 : Int))
    (br (x.snd.snd.snd.snd.snd.2 == (0 : Int)) none
      (some
        (LRes.next, x.1, x.snd.1, (x.snd.snd.fst.1, x.snd.snd.fst.2), x.snd.snd.snd.1, x.snd.snd.snd.snd.1,
          x.snd.snd.snd.snd.snd.2, Int.tmod x.snd.snd.snd.snd.snd.1 x.snd.snd.snd.snd.snd.2)))
    (some
      (LRes.out, x.1, x.snd.1, (x.snd.snd.fst.1, x.snd.snd.fst.2), x.snd.snd.snd.1, x.snd.snd.snd.snd.1,
        x.snd.snd.snd.snd.snd.1, x.snd.snd.snd.snd.snd.2))
def redIL_fuel : Int × Int × (Int × Int) × Int × Int × Int × Int → Nat := fun s => s.2.2.2.2.2.2.natAbs + 1
def redIL : Int × Int × (Int × Int) × Int × Int × Int × Int → Option (Int × Int × (Int × Int) × Int × Int × Int × Int) := fun s => iterP redIL_step (redIL_fuel s) s
def redIL_L : LoopC := ⟨redIL_vars, 0, .plain redIL⟩
noncomputable def redIL_key : Nat := key (loopAt Tryz.f132 0)
theorem redIL_stepok (x : redIL_vars.den) : stepOf (mkEnv [] []) Tryz.f132.ntmps redIL_vars 0 (loopAt Tryz.f132 0) x = redIL_step x := by kernel_rfl
theorem redIL_ok : LoopOK Tryz.prog Tryz.f132.ntmps redIL_L (loopAt Tryz.f132 0)   := iterP_loop (n := Tryz.f132.ntmps) (vs := redIL_vars) (out := 0) (body := loopAt Tryz.f132 0) (mkEnv_ok (cons := []) trivial []) redIL_step redIL_fuel (by exact trivial) redIL_stepok

def redI : Int × Int → Option ((Int × Int) × Bool) :=
fun x =>
  ob (magI x.1) fun y =>
    ob (magI x.2) fun y_1 =>
      ob (redIL (x.1, x.2, ((0 : Int), (0 : Int)), y, y_1, y, y_1)) fun r =>
        br (r.snd.snd.snd.snd.snd.1 == (0 : Int)) none
          (br (r.snd.snd.snd.snd.snd.1 == (0 : Int)) none
            (br (decide ((1000000000 : Int) < IntKind.u64.wrap (Int.tdiv r.snd.snd.snd.1 r.snd.snd.snd.snd.snd.1)))
              (some (((0 : Int), (0 : Int)), false))
              (br
                (decide ((1000000000 : Int) < IntKind.u64.wrap (Int.tdiv r.snd.snd.snd.snd.1 r.snd.snd.snd.snd.snd.1)))
                (some (((0 : Int), (0 : Int)), false))
                (br (!decide (r.1 < (0 : Int)) == decide (r.snd.1 < (0 : Int)))
                  (some
                    ((IntKind.i64.wrap
                          ((0 : Int) -
                            IntKind.i64.wrap (IntKind.u64.wrap (Int.tdiv r.snd.snd.snd.1 r.snd.snd.snd.snd.snd.1))),
                        IntKind.i64.wrap (IntKind.u64.wrap (Int.tdiv r.snd.snd.snd.snd.1 r.snd.snd.snd.snd.snd.1))),
                      true))
                  (some
                    ((IntKind.i64.wrap (IntKind.u64.wrap (Int.tdiv r.snd.snd.snd.1 r.snd.snd.snd.snd.snd.1)),
                        IntKind.i64.wrap (IntKind.u64.wrap (Int.tdiv r.snd.snd.snd.snd.1 r.snd.snd.snd.snd.snd.1))),
                      true))))))
def redI_con : Con := ⟨[i64, i64], [.d (.pair (i64) (i64)), .d (.bool)], redI⟩
theorem redI_run (x : Dens [i64, i64]) : runFn (mkEnv [(136, magI_con)] [(redIL_key, redIL_L)]) Tryz.f132 [i64, i64] [.d (.pair (i64) (i64)), .d (.bool)] x = redI x := by kernel_rfl
theorem redI_ok : redI_con.ok Tryz.prog 132 := fn_ok (con := redI_con) (mkEnv_ok (cons := [(136, magI_con)]) ⟨magI_ok, trivial⟩ [(redIL_key, redIL_L)]) Tryz.func132 rfl (by kernel_rfl) (by exact ⟨redIL_ok, trivial⟩) (fun x y h => (redI_run x).trans h)

def validRatI : (Int × Int) → Option (Bool) :=
fun x =>
  ob (withinI (x.2, (1 : Int), (1000000000 : Int))) fun y =>
    br y
      (ob (withinI (x.1, (-1000000000 : Int), (1000000000 : Int))) fun y =>
        br y (ob (gcdI (x.1, x.2)) fun y => some (y == (1 : Int))) (some false))
      (some false)
def validRatI_con : Con := ⟨[.pair (i64) (i64)], [.d (.bool)], validRatI⟩
theorem validRatI_run (x : Dens [.pair (i64) (i64)]) : runFn (mkEnv [(84, withinI_con), (85, gcdI_con)] []) Tryz.f53 [.pair (i64) (i64)] [.d (.bool)] x = validRatI x := by kernel_rfl
theorem validRatI_ok : validRatI_con.ok Tryz.prog 53 := fn_ok (con := validRatI_con) (mkEnv_ok (cons := [(84, withinI_con), (85, gcdI_con)]) ⟨withinI_ok, gcdI_ok, trivial⟩ []) Tryz.func53 rfl (by kernel_rfl) (by exact trivial) (fun x y h => (validRatI_run x).trans h)

def makeRatI : Int × Int → Option ((Int × Int) × Int) :=
fun x =>
  br (x.2 == (0 : Int)) (some (((0 : Int), (0 : Int)), (6 : Int)))
    (ob (redI (x.1, x.2)) fun y =>
      br (!y.2) (some (((0 : Int), (0 : Int)), (2 : Int))) (some ((y.fst.1, y.fst.2), (0 : Int))))
def makeRatI_con : Con := ⟨[i64, i64], [.d (.pair (i64) (i64)), .d (i64)], makeRatI⟩
theorem makeRatI_run (x : Dens [i64, i64]) : runFn (mkEnv [(132, redI_con)] []) Tryz.f124 [i64, i64] [.d (.pair (i64) (i64)), .d (i64)] x = makeRatI x := by kernel_rfl
theorem makeRatI_ok : makeRatI_con.ok Tryz.prog 124 := fn_ok (con := makeRatI_con) (mkEnv_ok (cons := [(132, redI_con)]) ⟨redI_ok, trivial⟩ []) Tryz.func124 rfl (by kernel_rfl) (by exact trivial) (fun x y h => (makeRatI_run x).trans h)

def subRatI : (Int × Int) × (Int × Int) → Option ((Int × Int) × Int) :=
fun x =>
  ob (validRatI (x.fst.1, x.fst.2)) fun y =>
    br (!y) (some (((0 : Int), (0 : Int)), (1 : Int)))
      (ob (validRatI (x.snd.1, x.snd.2)) fun y =>
        br (!y) (some (((0 : Int), (0 : Int)), (1 : Int)))
          (ob
            (makeRatI
              (IntKind.i64.wrap (IntKind.i64.wrap (x.fst.1 * x.snd.2) - IntKind.i64.wrap (x.snd.1 * x.fst.2)),
                IntKind.i64.wrap (x.fst.2 * x.snd.2)))
            fun y => some ((y.fst.1, y.fst.2), y.2)))
def subRatI_con : Con := ⟨[.pair (i64) (i64), .pair (i64) (i64)], [.d (.pair (i64) (i64)), .d (i64)], subRatI⟩
theorem subRatI_run (x : Dens [.pair (i64) (i64), .pair (i64) (i64)]) : runFn (mkEnv [(53, validRatI_con), (124, makeRatI_con)] []) Tryz.f104 [.pair (i64) (i64), .pair (i64) (i64)] [.d (.pair (i64) (i64)), .d (i64)] x = subRatI x := by kernel_rfl
theorem subRatI_ok : subRatI_con.ok Tryz.prog 104 := fn_ok (con := subRatI_con) (mkEnv_ok (cons := [(53, validRatI_con), (124, makeRatI_con)]) ⟨validRatI_ok, makeRatI_ok, trivial⟩ []) Tryz.func104 rfl (by kernel_rfl) (by exact trivial) (fun x y h => (subRatI_run x).trans h)

def mulRatI : (Int × Int) × (Int × Int) → Option ((Int × Int) × Int) :=
fun x =>
  ob (validRatI (x.fst.1, x.fst.2)) fun y =>
    br (!y) (some (((0 : Int), (0 : Int)), (1 : Int)))
      (ob (validRatI (x.snd.1, x.snd.2)) fun y =>
        br (!y) (some (((0 : Int), (0 : Int)), (1 : Int)))
          (ob (makeRatI (IntKind.i64.wrap (x.fst.1 * x.snd.1), IntKind.i64.wrap (x.fst.2 * x.snd.2))) fun y =>
            some ((y.fst.1, y.fst.2), y.2)))
def mulRatI_con : Con := ⟨[.pair (i64) (i64), .pair (i64) (i64)], [.d (.pair (i64) (i64)), .d (i64)], mulRatI⟩
theorem mulRatI_run (x : Dens [.pair (i64) (i64), .pair (i64) (i64)]) : runFn (mkEnv [(53, validRatI_con), (124, makeRatI_con)] []) Tryz.f125 [.pair (i64) (i64), .pair (i64) (i64)] [.d (.pair (i64) (i64)), .d (i64)] x = mulRatI x := by kernel_rfl
theorem mulRatI_ok : mulRatI_con.ok Tryz.prog 125 := fn_ok (con := mulRatI_con) (mkEnv_ok (cons := [(53, validRatI_con), (124, makeRatI_con)]) ⟨validRatI_ok, makeRatI_ok, trivial⟩ []) Tryz.func125 rfl (by kernel_rfl) (by exact trivial) (fun x y h => (mulRatI_run x).trans h)

end Rx
end Go.Proofs.YthfgpnpoocepeaaGreat
