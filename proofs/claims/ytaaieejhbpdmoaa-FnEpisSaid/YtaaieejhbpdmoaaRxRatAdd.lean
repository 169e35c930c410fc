/- What the sum of ratios comes to. No conditions. -/
import Derived.Test.YtaaieejhbpdmoaaRxEnv
import Derived.Test.YtaaieejhbpdmoaaRxRatI
import Derived.Test.YtaaieejhbpdmoaaRxRatS
namespace Go.Proofs.Ytaaieejhbpdmoaa
namespace Rx
open Go

def codeS : (Int × Int) × Bool → Option ((Int × Int) × Int) :=
fun x => br (!x.2) (some (((0 : Int), (0 : Int)), (2 : Int))) (some ((x.fst.1, x.fst.2), (0 : Int)))
def codeS_con : Con := ⟨[.pair (i64) (i64), .bool], [.d (.pair (i64) (i64)), .d (i64)], codeS⟩
theorem codeS_run (x : Dens [.pair (i64) (i64), .bool]) : runFn (mkEnv [] []) Try.f65 [.pair (i64) (i64), .bool] [.d (.pair (i64) (i64)), .d (i64)] x = codeS x := by kernel_rfl
theorem codeS_ok : codeS_con.ok Try.prog 65 := fn_ok (con := codeS_con) (mkEnv_ok (cons := []) trivial []) Try.func65 rfl (by kernel_rfl) (by exact trivial) (fun x y h => (codeS_run x).trans h)

def addRatI : (Int × Int) × (Int × Int) → Option ((Int × Int) × Int) :=
fun x =>
  ob (validRatI (x.fst.1, x.fst.2)) fun y =>
    br (!y) (some (((0 : Int), (0 : Int)), (1 : Int)))
      (ob (validRatI (x.snd.1, x.snd.2)) fun y =>
        br (!y) (some (((0 : Int), (0 : Int)), (1 : Int)))
          (ob
            (makeRatI
              (IntKind.i64.wrap (IntKind.i64.wrap (x.fst.1 * x.snd.2) + IntKind.i64.wrap (x.snd.1 * x.fst.2)),
                IntKind.i64.wrap (x.fst.2 * x.snd.2)))
            fun y => some ((y.fst.1, y.fst.2), y.2)))
def addRatI_con : Con := ⟨[.pair (i64) (i64), .pair (i64) (i64)], [.d (.pair (i64) (i64)), .d (i64)], addRatI⟩
theorem addRatI_run (x : Dens [.pair (i64) (i64), .pair (i64) (i64)]) : runFn (mkEnv [(56, validRatI_con), (66, makeRatI_con)] []) Try.f57 [.pair (i64) (i64), .pair (i64) (i64)] [.d (.pair (i64) (i64)), .d (i64)] x = addRatI x := by kernel_rfl
theorem addRatI_ok : addRatI_con.ok Try.prog 57 := fn_ok (con := addRatI_con) (mkEnv_ok (cons := [(56, validRatI_con), (66, makeRatI_con)]) ⟨validRatI_ok, makeRatI_ok, trivial⟩ []) Try.func57 rfl (by kernel_rfl) (by exact trivial) (fun x y h => (addRatI_run x).trans h)

def addRatS : (Int × Int) × (Int × Int) → Option ((Int × Int) × Int) :=
fun x =>
  ob (okRatS (x.fst.1, x.fst.2)) fun y =>
    br (!y) (some (((0 : Int), (0 : Int)), (1 : Int)))
      (ob (okRatS (x.snd.1, x.snd.2)) fun y =>
        br (!y) (some (((0 : Int), (0 : Int)), (1 : Int)))
          (ob (addS ((x.fst.1, x.fst.2), x.snd.1, x.snd.2)) fun y =>
            ob (codeS ((y.fst.1, y.fst.2), y.2)) fun y => some ((y.fst.1, y.fst.2), y.2)))
def addRatS_con : Con := ⟨[.pair (i64) (i64), .pair (i64) (i64)], [.d (.pair (i64) (i64)), .d (i64)], addRatS⟩
theorem addRatS_run (x : Dens [.pair (i64) (i64), .pair (i64) (i64)]) : runFn (mkEnv [(53, okRatS_con), (54, addS_con), (65, codeS_con)] []) Try.f59 [.pair (i64) (i64), .pair (i64) (i64)] [.d (.pair (i64) (i64)), .d (i64)] x = addRatS x := by kernel_rfl
theorem addRatS_ok : addRatS_con.ok Try.prog 59 := fn_ok (con := addRatS_con) (mkEnv_ok (cons := [(53, okRatS_con), (54, addS_con), (65, codeS_con)]) ⟨okRatS_ok, addS_ok, codeS_ok, trivial⟩ []) Try.func59 rfl (by kernel_rfl) (by exact trivial) (fun x y h => (addRatS_run x).trans h)

def subRatS : (Int × Int) × (Int × Int) → Option ((Int × Int) × Int) :=
fun x =>
  ob (okRatS (x.fst.1, x.fst.2)) fun y =>
    br (!y) (some (((0 : Int), (0 : Int)), (1 : Int)))
      (ob (okRatS (x.snd.1, x.snd.2)) fun y =>
        br (!y) (some (((0 : Int), (0 : Int)), (1 : Int)))
          (ob (negS (x.snd.1, x.snd.2)) fun y =>
            ob (addS ((x.fst.1, x.fst.2), y.1, y.2)) fun y =>
              ob (codeS ((y.fst.1, y.fst.2), y.2)) fun y => some ((y.fst.1, y.fst.2), y.2)))
def subRatS_con : Con := ⟨[.pair (i64) (i64), .pair (i64) (i64)], [.d (.pair (i64) (i64)), .d (i64)], subRatS⟩
theorem subRatS_run (x : Dens [.pair (i64) (i64), .pair (i64) (i64)]) : runFn (mkEnv [(53, okRatS_con), (54, addS_con), (75, negS_con), (65, codeS_con)] []) Try.f55 [.pair (i64) (i64), .pair (i64) (i64)] [.d (.pair (i64) (i64)), .d (i64)] x = subRatS x := by kernel_rfl
theorem subRatS_ok : subRatS_con.ok Try.prog 55 := fn_ok (con := subRatS_con) (mkEnv_ok (cons := [(53, okRatS_con), (54, addS_con), (75, negS_con), (65, codeS_con)]) ⟨okRatS_ok, addS_ok, negS_ok, codeS_ok, trivial⟩ []) Try.func55 rfl (by kernel_rfl) (by exact trivial) (fun x y h => (subRatS_run x).trans h)

def mulRatS : (Int × Int) × (Int × Int) → Option ((Int × Int) × Int) :=
fun x =>
  ob (okRatS (x.fst.1, x.fst.2)) fun y =>
    br (!y) (some (((0 : Int), (0 : Int)), (1 : Int)))
      (ob (okRatS (x.snd.1, x.snd.2)) fun y =>
        br (!y) (some (((0 : Int), (0 : Int)), (1 : Int)))
          (ob (mulS ((x.fst.1, x.fst.2), x.snd.1, x.snd.2)) fun y =>
            ob (codeS ((y.fst.1, y.fst.2), y.2)) fun y => some ((y.fst.1, y.fst.2), y.2)))
def mulRatS_con : Con := ⟨[.pair (i64) (i64), .pair (i64) (i64)], [.d (.pair (i64) (i64)), .d (i64)], mulRatS⟩
theorem mulRatS_run (x : Dens [.pair (i64) (i64), .pair (i64) (i64)]) : runFn (mkEnv [(53, okRatS_con), (64, mulS_con), (65, codeS_con)] []) Try.f60 [.pair (i64) (i64), .pair (i64) (i64)] [.d (.pair (i64) (i64)), .d (i64)] x = mulRatS x := by kernel_rfl
theorem mulRatS_ok : mulRatS_con.ok Try.prog 60 := fn_ok (con := mulRatS_con) (mkEnv_ok (cons := [(53, okRatS_con), (64, mulS_con), (65, codeS_con)]) ⟨okRatS_ok, mulS_ok, codeS_ok, trivial⟩ []) Try.func60 rfl (by kernel_rfl) (by exact trivial) (fun x y h => (mulRatS_run x).trans h)

end Rx
end Go.Proofs.Ytaaieejhbpdmoaa
