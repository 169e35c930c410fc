/- What the functions of RxRatS come to, and their contracts. No conditions. -/
import Derived.Test.YthfgpnpoocepeaaGreatRxEnv
namespace Go.Proofs.YthfgpnpoocepeaaGreat
namespace Rx
open Go

def inS : Int × Int × Int → Option (Bool) :=
fun x => br (decide (x.snd.1 ≤ x.1)) (some (decide (x.1 ≤ x.snd.2))) (some false)
def inS_con : Con := ⟨[i64, i64, i64], [.d (.bool)], inS⟩
theorem inS_run (x : Dens [i64, i64, i64]) : runFn (mkEnv [] []) Tryz.f38 [i64, i64, i64] [.d (.bool)] x = inS x := by kernel_rfl
theorem inS_ok : inS_con.ok Tryz.prog 38 := fn_ok (con := inS_con) (mkEnv_ok (cons := []) trivial []) Tryz.func38 rfl (by kernel_rfl) (by exact trivial) (fun x y h => (inS_run x).trans h)

def teethS : Int → Option (Bool) :=
fun x => ob (inS (x, (6 : Int), (240 : Int))) fun y => some y
def teethS_con : Con := ⟨[i64], [.d (.bool)], teethS⟩
theorem teethS_run (x : Dens [i64]) : runFn (mkEnv [(38, inS_con)] []) Tryz.f99 [i64] [.d (.bool)] x = teethS x := by kernel_rfl
theorem teethS_ok : teethS_con.ok Tryz.prog 99 := fn_ok (con := teethS_con) (mkEnv_ok (cons := [(38, inS_con)]) ⟨inS_ok, trivial⟩ []) Tryz.func99 rfl (by kernel_rfl) (by exact trivial) (fun x y h => (teethS_run x).trans h)

def partS : Int → Option (Int) :=
fun x =>
  br (decide (x < (0 : Int))) (some (IntKind.u64.wrap ((0 : Int) - IntKind.u64.wrap x))) (some (IntKind.u64.wrap x))
def partS_con : Con := ⟨[i64], [.d (u64)], partS⟩
theorem partS_run (x : Dens [i64]) : runFn (mkEnv [] []) Tryz.f83 [i64] [.d (u64)] x = partS x := by kernel_rfl
theorem partS_ok : partS_con.ok Tryz.prog 83 := fn_ok (con := partS_con) (mkEnv_ok (cons := []) trivial []) Tryz.func83 rfl (by kernel_rfl) (by exact trivial) (fun x y h => (partS_run x).trans h)

def sizeS : Int → Option (Int) :=
fun x => br (decide (x < (0 : Int))) (some (IntKind.i64.wrap ((0 : Int) - x))) (some x)
def sizeS_con : Con := ⟨[i64], [.d (i64)], sizeS⟩
theorem sizeS_run (x : Dens [i64]) : runFn (mkEnv [] []) Tryz.f34 [i64] [.d (i64)] x = sizeS x := by kernel_rfl
theorem sizeS_ok : sizeS_con.ok Tryz.prog 34 := fn_ok (con := sizeS_con) (mkEnv_ok (cons := []) trivial []) Tryz.func34 rfl (by kernel_rfl) (by exact trivial) (fun x y h => (sizeS_run x).trans h)

def gcdSL_vars : Vars := [(0, .val (i64)), (1, .val (i64))]
def gcdSL_step : Int × Int → Option (LRes × (Int × Int)) :=
fun x =>
  br (decide ((0 : Int) < x.2)) (br (x.2 == (0 : Int)) none (some (LRes.next, x.2, x.1.tmod x.2)))
    (some (LRes.out, x.1, x.2))
def gcdSL_fuel : Int × Int → Nat := fun s => s.2.natAbs + 1
def gcdSL : Int × Int → Option (Int × Int) := fun s => iterP gcdSL_step (gcdSL_fuel s) s
def gcdSL_L : LoopC := ⟨gcdSL_vars, 0, .plain gcdSL⟩
noncomputable def gcdSL_key : Nat := key (loopAt Tryz.f51 0)
theorem gcdSL_stepok (x : gcdSL_vars.den) : stepOf (mkEnv [] []) Tryz.f51.ntmps gcdSL_vars 0 (loopAt Tryz.f51 0) x = gcdSL_step x := by kernel_rfl
theorem gcdSL_ok : LoopOK Tryz.prog Tryz.f51.ntmps gcdSL_L (loopAt Tryz.f51 0)   := iterP_loop (n := Tryz.f51.ntmps) (vs := gcdSL_vars) (out := 0) (body := loopAt Tryz.f51 0) (mkEnv_ok (cons := []) trivial []) gcdSL_step gcdSL_fuel (by exact trivial) gcdSL_stepok

def gcdS : Int × Int → Option (Int) :=
fun x => ob (gcdSL (x.1, x.2)) fun r => some r.1
def gcdS_con : Con := ⟨[i64, i64], [.d (i64)], gcdS⟩
theorem gcdS_run (x : Dens [i64, i64]) : runFn (mkEnv [] [(gcdSL_key, gcdSL_L)]) Tryz.f51 [i64, i64] [.d (i64)] x = gcdS x := by kernel_rfl
theorem gcdS_ok : gcdS_con.ok Tryz.prog 51 := fn_ok (con := gcdS_con) (mkEnv_ok (cons := []) trivial [(gcdSL_key, gcdSL_L)]) Tryz.func51 rfl (by kernel_rfl) (by exact ⟨gcdSL_ok, trivial⟩) (fun x y h => (gcdS_run x).trans h)

def mkSL_vars : Vars := [(0, .val (i64)), (1, .val (i64)), (4, .box 0 27 (.pair (i64) (i64))), (6, .val (u64)), (7, .val (u64)), (8, .val (u64)), (9, .val (u64))]
def mkSL_step : Int × Int × (Int × Int) × Int × Int × Int × Int → Option (LRes × (Int × Int × (Int × Int) × Int × Int × Int × Int)) :=
fun x =>
  br (decide ((0 : Int) < x.snd.snd.snd.snd.snd.2))
    (br (x.snd.snd.snd.snd.snd.2 == (0 : Int)) none
      (some
        (LRes.next, x.1, x.snd.1, (x.snd.snd.fst.1, x.snd.snd.fst.2), x.snd.snd.snd.1, x.snd.snd.snd.snd.1,
          x.snd.snd.snd.snd.snd.2, Int.tmod x.snd.snd.snd.snd.snd.1 x.snd.snd.snd.snd.snd.2)))
    (some
      (LRes.out, x.1, x.snd.1, (x.snd.snd.fst.1, x.snd.snd.fst.2), x.snd.snd.snd.1, x.snd.snd.snd.snd.1,
        x.snd.snd.snd.snd.snd.1, x.snd.snd.snd.snd.snd.2))
def mkSL_fuel : Int × Int × (Int × Int) × Int × Int × Int × Int → Nat := fun s => s.2.2.2.2.2.2.natAbs + 1
def mkSL : Int × Int × (Int × Int) × Int × Int × Int × Int → Option (Int × Int × (Int × Int) × Int × Int × Int × Int) := fun s => iterP mkSL_step (mkSL_fuel s) s
def mkSL_L : LoopC := ⟨mkSL_vars, 0, .plain mkSL⟩
noncomputable def mkSL_key : Nat := key (loopAt Tryz.f49 0)
theorem mkSL_stepok (x : mkSL_vars.den) : stepOf (mkEnv [] []) Tryz.f49.ntmps mkSL_vars 0 (loopAt Tryz.f49 0) x = mkSL_step x := by kernel_rfl
theorem mkSL_ok : LoopOK Tryz.prog Tryz.f49.ntmps mkSL_L (loopAt Tryz.f49 0)   := iterP_loop (n := Tryz.f49.ntmps) (vs := mkSL_vars) (out := 0) (body := loopAt Tryz.f49 0) (mkEnv_ok (cons := []) trivial []) mkSL_step mkSL_fuel (by exact trivial) mkSL_stepok

def mkS : Int × Int → Option ((Int × Int) × Bool) :=
fun x =>
  ob (partS x.1) fun y =>
    ob (partS x.2) fun y_1 =>
      ob (mkSL (x.1, x.2, ((0 : Int), (0 : Int)), y, y_1, y, y_1)) fun r =>
        br (r.snd.snd.snd.snd.snd.1 == (0 : Int)) none
          (br (r.snd.snd.snd.snd.snd.1 == (0 : Int)) none
            (br (decide ((1000000000 : Int) < IntKind.u64.wrap (Int.tdiv r.snd.snd.snd.1 r.snd.snd.snd.snd.snd.1)))
              (some (((0 : Int), (0 : Int)), false))
              (br
                (decide ((1000000000 : Int) < IntKind.u64.wrap (Int.tdiv r.snd.snd.snd.snd.1 r.snd.snd.snd.snd.snd.1)))
                (some (((0 : Int), (0 : Int)), false))
                (br (!decide (r.1 < (0 : Int)) == decide (r.snd.1 < (0 : Int)))
                  (some
                    ((IntKind.i64.wrap
                          ((0 : Int) -
                            IntKind.i64.wrap (IntKind.u64.wrap (Int.tdiv r.snd.snd.snd.1 r.snd.snd.snd.snd.snd.1))),
                        IntKind.i64.wrap (IntKind.u64.wrap (Int.tdiv r.snd.snd.snd.snd.1 r.snd.snd.snd.snd.snd.1))),
                      true))
                  (some
                    ((IntKind.i64.wrap (IntKind.u64.wrap (Int.tdiv r.snd.snd.snd.1 r.snd.snd.snd.snd.snd.1)),
                        IntKind.i64.wrap (IntKind.u64.wrap (Int.tdiv r.snd.snd.snd.snd.1 r.snd.snd.snd.snd.snd.1))),
                      true))))))
def mkS_con : Con := ⟨[i64, i64], [.d (.pair (i64) (i64)), .d (.bool)], mkS⟩
theorem mkS_run (x : Dens [i64, i64]) : runFn (mkEnv [(83, partS_con)] [(mkSL_key, mkSL_L)]) Tryz.f49 [i64, i64] [.d (.pair (i64) (i64)), .d (.bool)] x = mkS x := by kernel_rfl
theorem mkS_ok : mkS_con.ok Tryz.prog 49 := fn_ok (con := mkS_con) (mkEnv_ok (cons := [(83, partS_con)]) ⟨partS_ok, trivial⟩ [(mkSL_key, mkSL_L)]) Tryz.func49 rfl (by kernel_rfl) (by exact ⟨mkSL_ok, trivial⟩) (fun x y h => (mkS_run x).trans h)

def okRatS : (Int × Int) → Option (Bool) :=
fun x =>
  ob (inS (x.2, (1 : Int), (1000000000 : Int))) fun y =>
    br y
      (ob (inS (x.1, (-1000000000 : Int), (1000000000 : Int))) fun y =>
        br y (ob (sizeS x.1) fun y => ob (gcdS (y, x.2)) fun y => some (y == (1 : Int))) (some false))
      (some false)
def okRatS_con : Con := ⟨[.pair (i64) (i64)], [.d (.bool)], okRatS⟩
theorem okRatS_run (x : Dens [.pair (i64) (i64)]) : runFn (mkEnv [(38, inS_con), (34, sizeS_con), (51, gcdS_con)] []) Tryz.f24 [.pair (i64) (i64)] [.d (.bool)] x = okRatS x := by kernel_rfl
theorem okRatS_ok : okRatS_con.ok Tryz.prog 24 := fn_ok (con := okRatS_con) (mkEnv_ok (cons := [(38, inS_con), (34, sizeS_con), (51, gcdS_con)]) ⟨inS_ok, sizeS_ok, gcdS_ok, trivial⟩ []) Tryz.func24 rfl (by kernel_rfl) (by exact trivial) (fun x y h => (okRatS_run x).trans h)

def negS : (Int × Int) → Option ((Int × Int)) :=
fun x => some (IntKind.i64.wrap ((0 : Int) - x.1), x.2)
def negS_con : Con := ⟨[.pair (i64) (i64)], [.d (.pair (i64) (i64))], negS⟩
theorem negS_run (x : Dens [.pair (i64) (i64)]) : runFn (mkEnv [] []) Tryz.f69 [.pair (i64) (i64)] [.d (.pair (i64) (i64))] x = negS x := by kernel_rfl
theorem negS_ok : negS_con.ok Tryz.prog 69 := fn_ok (con := negS_con) (mkEnv_ok (cons := []) trivial []) Tryz.func69 rfl (by kernel_rfl) (by exact trivial) (fun x y h => (negS_run x).trans h)

def addS : (Int × Int) × (Int × Int) → Option ((Int × Int) × Bool) :=
fun x =>
  ob
    (mkS
      (IntKind.i64.wrap (IntKind.i64.wrap (x.fst.1 * x.snd.2) + IntKind.i64.wrap (x.snd.1 * x.fst.2)),
        IntKind.i64.wrap (x.fst.2 * x.snd.2)))
    fun y => some ((y.fst.1, y.fst.2), y.2)
def addS_con : Con := ⟨[.pair (i64) (i64), .pair (i64) (i64)], [.d (.pair (i64) (i64)), .d (.bool)], addS⟩
theorem addS_run (x : Dens [.pair (i64) (i64), .pair (i64) (i64)]) : runFn (mkEnv [(49, mkS_con)] []) Tryz.f68 [.pair (i64) (i64), .pair (i64) (i64)] [.d (.pair (i64) (i64)), .d (.bool)] x = addS x := by kernel_rfl
theorem addS_ok : addS_con.ok Tryz.prog 68 := fn_ok (con := addS_con) (mkEnv_ok (cons := [(49, mkS_con)]) ⟨mkS_ok, trivial⟩ []) Tryz.func68 rfl (by kernel_rfl) (by exact trivial) (fun x y h => (addS_run x).trans h)

def mulS : (Int × Int) × (Int × Int) → Option ((Int × Int) × Bool) :=
fun x =>
  ob (mkS (IntKind.i64.wrap (x.fst.1 * x.snd.1), IntKind.i64.wrap (x.fst.2 * x.snd.2))) fun y =>
    some ((y.fst.1, y.fst.2), y.2)
def mulS_con : Con := ⟨[.pair (i64) (i64), .pair (i64) (i64)], [.d (.pair (i64) (i64)), .d (.bool)], mulS⟩
theorem mulS_run (x : Dens [.pair (i64) (i64), .pair (i64) (i64)]) : runFn (mkEnv [(49, mkS_con)] []) Tryz.f100 [.pair (i64) (i64), .pair (i64) (i64)] [.d (.pair (i64) (i64)), .d (.bool)] x = mulS x := by kernel_rfl
theorem mulS_ok : mulS_con.ok Tryz.prog 100 := fn_ok (con := mulS_con) (mkEnv_ok (cons := [(49, mkS_con)]) ⟨mkS_ok, trivial⟩ []) Tryz.func100 rfl (by kernel_rfl) (by exact trivial) (fun x y h => (mulS_run x).trans h)

def wholeS : Int → Option ((Int × Int)) :=
fun x => some (x, (1 : Int))
def wholeS_con : Con := ⟨[i64], [.d (.pair (i64) (i64))], wholeS⟩
theorem wholeS_run (x : Dens [i64]) : runFn (mkEnv [] []) Tryz.f50 [i64] [.d (.pair (i64) (i64))] x = wholeS x := by kernel_rfl
theorem wholeS_ok : wholeS_con.ok Tryz.prog 50 := fn_ok (con := wholeS_con) (mkEnv_ok (cons := []) trivial []) Tryz.func50 rfl (by kernel_rfl) (by exact trivial) (fun x y h => (wholeS_run x).trans h)

end Rx
end Go.Proofs.YthfgpnpoocepeaaGreat
