/- What the functions of RxSrc come to, and their contracts. No conditions. -/
import Derived.Test.YthehdbedojcpdaaRxEnv
namespace Go.Proofs.Ythehdbedojcpdaa
namespace Rx
open Go

def nextS : (List (Int) × Int × Int) → Option ((Int) × ((List (Int) × Int × Int))) :=
fun x =>
  br (decide (x.snd.1 < (↑x.1.length : Int)))
    (ob (idx x.1 x.snd.1) fun y =>
      br (decide (IntKind.i64.wrap (x.snd.1 + (1 : Int)) ≤ (↑x.1.length : Int)))
        (some
          (IntKind.i64.wrap y, x.1, IntKind.i64.wrap (x.snd.1 + (1 : Int)),
            IntKind.u64.wrap
              (IntKind.u64.wrap
                  (IntKind.u64.wrap (x.snd.2 * (6364136223846793005 : Int)) + IntKind.u64.wrap (IntKind.i64.wrap y)) +
                (1442695040888963407 : Int))))
        (some
          (IntKind.i64.wrap
              (andI IntKind.u64
                (shrI IntKind.u64
                  (IntKind.u64.wrap
                    (IntKind.u64.wrap
                        (IntKind.u64.wrap (x.snd.2 * (6364136223846793005 : Int)) +
                          IntKind.u64.wrap (IntKind.i64.wrap y)) +
                      (1442695040888963407 : Int)))
                  (40 : Int))
                (255 : Int)),
            x.1, IntKind.i64.wrap (x.snd.1 + (1 : Int)),
            IntKind.u64.wrap
              (IntKind.u64.wrap
                  (IntKind.u64.wrap (x.snd.2 * (6364136223846793005 : Int)) + IntKind.u64.wrap (IntKind.i64.wrap y)) +
                (1442695040888963407 : Int)))))
    (br (decide (IntKind.i64.wrap (x.snd.1 + (1 : Int)) ≤ (↑x.1.length : Int)))
      (some
        ((0 : Int), x.1, IntKind.i64.wrap (x.snd.1 + (1 : Int)),
          IntKind.u64.wrap
            (IntKind.u64.wrap (IntKind.u64.wrap (x.snd.2 * (6364136223846793005 : Int)) + IntKind.u64.wrap (0 : Int)) +
              (1442695040888963407 : Int))))
      (some
        (IntKind.i64.wrap
            (andI IntKind.u64
              (shrI IntKind.u64
                (IntKind.u64.wrap
                  (IntKind.u64.wrap
                      (IntKind.u64.wrap (x.snd.2 * (6364136223846793005 : Int)) + IntKind.u64.wrap (0 : Int)) +
                    (1442695040888963407 : Int)))
                (40 : Int))
              (255 : Int)),
          x.1, IntKind.i64.wrap (x.snd.1 + (1 : Int)),
          IntKind.u64.wrap
            (IntKind.u64.wrap (IntKind.u64.wrap (x.snd.2 * (6364136223846793005 : Int)) + IntKind.u64.wrap (0 : Int)) +
              (1442695040888963407 : Int)))))
def nextS_con : MCon := ⟨[.box 146 (.pair (.slice (.int .u8)) (.pair (i64) (u64)))], [.d (i64)], nextS⟩
theorem nextS_run (x : ADens [.box 146 (.pair (.slice (.int .u8)) (.pair (i64) (u64)))]) : runFnM (mkEnv [] []) Try.f122 [.box 146 (.pair (.slice (.int .u8)) (.pair (i64) (u64)))] [.d (i64)] x = nextS x := by kernel_rfl
theorem nextS_ok : nextS_con.ok Try.prog 122 := fnM_ok (con := nextS_con) (mkEnv_ok (cons := []) trivial []) Try.func122 rfl (by kernel_rfl) (by exact trivial) (fun x y h => (nextS_run x).trans h)

def pickS : (List (Int) × Int × Int) × Int → Option ((Int) × ((List (Int) × Int × Int) × Int)) :=
fun x =>
  br (decide (x.2 ≤ (1 : Int))) (some ((0 : Int), (x.fst.1, x.fst.snd.1, x.fst.snd.2), x.2))
    (ob (nextS (x.fst.1, x.fst.snd.1, x.fst.snd.2)) fun y =>
      br (decide ((200 : Int) < x.2))
        (ob (nextS (y.snd.1, y.snd.snd.1, y.snd.snd.2)) fun y_1 =>
          br (x.2 == (0 : Int)) none
            (some
              ((IntKind.i64.wrap (IntKind.i64.wrap (y.1 * (256 : Int)) + y_1.1)).tmod x.2,
                (y_1.snd.1, y_1.snd.snd.1, y_1.snd.snd.2), x.2)))
        (br (x.2 == (0 : Int)) none (some (Int.tmod y.1 x.2, (y.snd.1, y.snd.snd.1, y.snd.snd.2), x.2))))
def pickS_con : MCon := ⟨[.box 146 (.pair (.slice (.int .u8)) (.pair (i64) (u64))), .v (.d (i64))], [.d (i64)], pickS⟩
theorem pickS_run (x : ADens [.box 146 (.pair (.slice (.int .u8)) (.pair (i64) (u64))), .v (.d (i64))]) : runFnM (mkEnvM [] [(122, nextS_con)] []) Try.f111 [.box 146 (.pair (.slice (.int .u8)) (.pair (i64) (u64))), .v (.d (i64))] [.d (i64)] x = pickS x := by kernel_rfl
theorem pickS_ok : pickS_con.ok Try.prog 111 := fnM_ok (con := pickS_con) (mkEnvM_ok (cons := []) (mcons := [(122, nextS_con)]) trivial ⟨nextS_ok, trivial⟩ []) Try.func111 rfl (by kernel_rfl) (by exact trivial) (fun x y h => (pickS_run x).trans h)

def amongS : (List (Int) × Int × Int) × List (Int) → Option ((Int) × ((List (Int) × Int × Int) × List (Int))) :=
fun x =>
  ob (pickS ((x.fst.1, x.fst.snd.1, x.fst.snd.2), (↑x.2.length : Int))) fun y =>
    ob (idx x.2 y.1) fun y_1 => some (y_1, (y.snd.fst.1, y.snd.fst.snd.1, y.snd.fst.snd.2), x.2)
def amongS_con : MCon := ⟨[.box 146 (.pair (.slice (.int .u8)) (.pair (i64) (u64))), .v (.d (.slice (i64)))], [.d (i64)], amongS⟩
theorem amongS_run (x : ADens [.box 146 (.pair (.slice (.int .u8)) (.pair (i64) (u64))), .v (.d (.slice (i64)))]) : runFnM (mkEnvM [] [(111, pickS_con)] []) Try.f112 [.box 146 (.pair (.slice (.int .u8)) (.pair (i64) (u64))), .v (.d (.slice (i64)))] [.d (i64)] x = amongS x := by kernel_rfl
theorem amongS_ok : amongS_con.ok Try.prog 112 := fnM_ok (con := amongS_con) (mkEnvM_ok (cons := []) (mcons := [(111, pickS_con)]) trivial ⟨pickS_ok, trivial⟩ []) Try.func112 rfl (by kernel_rfl) (by exact trivial) (fun x y h => (amongS_run x).trans h)

def fromS : List (Int) → Option ((List (Int) × Int × Int)) :=
fun x => some (x, (0 : Int), (0 : Int))
def fromS_con : Con := ⟨[.slice (.int .u8)], [.box 146 (.pair (.slice (.int .u8)) (.pair (i64) (u64)))], fromS⟩
theorem fromS_run (x : Dens [.slice (.int .u8)]) : runFn (mkEnv [] []) Try.f84 [.slice (.int .u8)] [.box 146 (.pair (.slice (.int .u8)) (.pair (i64) (u64)))] x = fromS x := by kernel_rfl
theorem fromS_ok : fromS_con.ok Try.prog 84 := fn_ok (con := fromS_con) (mkEnv_ok (cons := []) trivial []) Try.func84 rfl (by kernel_rfl) (by exact trivial) (fun x y h => (fromS_run x).trans h)

end Rx
end Go.Proofs.Ythehdbedojcpdaa
