/- What the functions of RxDrawEpi come to, and their contracts. No conditions. -/
import Derived.Test.YtfapjkcmoefilaaDoorRxEnv
import Derived.Test.YtfapjkcmoefilaaDoorRxSrc
import Derived.Test.YtfapjkcmoefilaaDoorRxEpi
namespace Go.Proofs.YtfapjkcmoefilaaDoor
namespace Rx
open Go

def drawEpiSL_vars : Vars := [(0, .box 2 138 (.pair (.slice (.int .u8)) (.pair (i64) (u64)))), (2, .box 0 25 (.pair (i64) (.pair (i64) (.pair (i64) (i64))))), (5, .box 0 25 (.pair (i64) (.pair (i64) (.pair (i64) (i64)))))]
def drawEpiSL_step : (List (Int) × Int × Int) × (Int × Int × Int × Int) × (Int × Int × Int × Int) → Option (LRes × ((List (Int) × Int × Int) × (Int × Int × Int × Int) × (Int × Int × Int × Int))) :=
fun x =>
  ob (okEpiS (x.snd.snd.1, x.snd.snd.snd.1, x.snd.snd.snd.snd.1, x.snd.snd.snd.snd.2)) fun y =>
    br (!y)
      (br (decide (IntKind.i64.wrap (x.snd.snd.snd.snd.2 - (1 : Int)) < (1 : Int)))
        (some
          (LRes.ret, (x.fst.1, x.fst.snd.1, x.fst.snd.2), ((24 : Int), (48 : Int), (12 : Int), (4 : Int)), x.snd.snd.1,
            x.snd.snd.snd.1, x.snd.snd.snd.snd.1, IntKind.i64.wrap (x.snd.snd.snd.snd.2 - (1 : Int))))
        (some
          (LRes.next, (x.fst.1, x.fst.snd.1, x.fst.snd.2),
            (x.snd.fst.1, x.snd.fst.snd.1, x.snd.fst.snd.snd.1, x.snd.fst.snd.snd.2), x.snd.snd.1, x.snd.snd.snd.1,
            x.snd.snd.snd.snd.1, IntKind.i64.wrap (x.snd.snd.snd.snd.2 - (1 : Int)))))
      (some
        (LRes.out, (x.fst.1, x.fst.snd.1, x.fst.snd.2),
          (x.snd.fst.1, x.snd.fst.snd.1, x.snd.fst.snd.snd.1, x.snd.fst.snd.snd.2), x.snd.snd.1, x.snd.snd.snd.1,
          x.snd.snd.snd.snd.1, x.snd.snd.snd.snd.2))
def drawEpiSL_fuel : (List (Int) × Int × Int) × (Int × Int × Int × Int) × (Int × Int × Int × Int) → Nat := fun s => s.2.2.2.2.2.toNat + 2
def drawEpiSL : (List (Int) × Int × Int) × (Int × Int × Int × Int) × (Int × Int × Int × Int) → Option (Bool × ((List (Int) × Int × Int) × (Int × Int × Int × Int) × (Int × Int × Int × Int))) := fun s => iter drawEpiSL_step (drawEpiSL_fuel s) s
def drawEpiSL_L : LoopC := ⟨drawEpiSL_vars, 0, .two drawEpiSL⟩
noncomputable def drawEpiSL_key : Nat := key (loopAt Tryd.f50 0)
theorem drawEpiSL_stepok (x : drawEpiSL_vars.den) : stepOf (mkEnv [(38, okEpiS_con)] []) Tryd.f50.ntmps drawEpiSL_vars 0 (loopAt Tryd.f50 0) x = drawEpiSL_step x := by kernel_rfl
theorem drawEpiSL_ok : LoopOK Tryd.prog Tryd.f50.ntmps drawEpiSL_L (loopAt Tryd.f50 0)   := iter_loop (n := Tryd.f50.ntmps) (vs := drawEpiSL_vars) (out := 0) (body := loopAt Tryd.f50 0) (mkEnv_ok (cons := [(38, okEpiS_con)]) ⟨okEpiS_ok, trivial⟩ []) drawEpiSL_step drawEpiSL_fuel (by exact trivial) drawEpiSL_stepok

def drawEpiS : (List (Int) × Int × Int) → Option (((Int × Int × Int × Int)) × ((List (Int) × Int × Int))) :=
fun x =>
  ob (amongS ((x.1, x.snd.1, x.snd.2), [(24 : Int), (30 : Int), (18 : Int), (36 : Int), (60 : Int), (100 : Int)]))
    fun y =>
    ob
      (amongS
        ((y.snd.fst.1, y.snd.fst.snd.1, y.snd.fst.snd.2),
          [(12 : Int), (15 : Int), (18 : Int), (20 : Int), (24 : Int), (60 : Int)]))
      fun y_1 =>
      ob (pickS ((y_1.snd.fst.1, y_1.snd.fst.snd.1, y_1.snd.fst.snd.2), (6 : Int))) fun y_2 =>
        ob
          (drawEpiSL
            ((y_2.snd.fst.1, y_2.snd.fst.snd.1, y_2.snd.fst.snd.2), ((0 : Int), (0 : Int), (0 : Int), (0 : Int)), y.1,
              IntKind.i64.wrap (y.1 + IntKind.i64.wrap ((2 : Int) * y_1.1)), y_1.1,
              IntKind.i64.wrap ((1 : Int) + y_2.1)))
          fun r =>
          br r.1
            (some
              ((r.snd.snd.snd.1, r.snd.snd.snd.snd.1, r.snd.snd.snd.snd.snd.1, r.snd.snd.snd.snd.snd.2), r.snd.fst.1,
                r.snd.fst.snd.1, r.snd.fst.snd.2))
            (some
              ((r.snd.snd.fst.1, r.snd.snd.fst.snd.1, r.snd.snd.fst.snd.snd.1, r.snd.snd.fst.snd.snd.2), r.snd.fst.1,
                r.snd.fst.snd.1, r.snd.fst.snd.2))
def drawEpiS_con : MCon := ⟨[.box 138 (.pair (.slice (.int .u8)) (.pair (i64) (u64)))], [.d (.pair (i64) (.pair (i64) (.pair (i64) (i64))))], drawEpiS⟩
theorem drawEpiS_run (x : ADens [.box 138 (.pair (.slice (.int .u8)) (.pair (i64) (u64)))]) : runFnM (mkEnvM [(38, okEpiS_con)] [(95, pickS_con), (94, amongS_con)] [(drawEpiSL_key, drawEpiSL_L)]) Tryd.f50 [.box 138 (.pair (.slice (.int .u8)) (.pair (i64) (u64)))] [.d (.pair (i64) (.pair (i64) (.pair (i64) (i64))))] x = drawEpiS x := by kernel_rfl
theorem drawEpiS_ok : drawEpiS_con.ok Tryd.prog 50 := fnM_ok (con := drawEpiS_con) (mkEnvM_ok (cons := [(38, okEpiS_con)]) (mcons := [(95, pickS_con), (94, amongS_con)]) ⟨okEpiS_ok, trivial⟩ ⟨pickS_ok, amongS_ok, trivial⟩ [(drawEpiSL_key, drawEpiSL_L)]) Tryd.func50 rfl (by kernel_rfl) (by exact ⟨drawEpiSL_ok, trivial⟩) (fun x y h => (drawEpiS_run x).trans h)

def drawRatS : (List (Int) × Int × Int) → Option (((Int × Int)) × ((List (Int) × Int × Int))) :=
fun x =>
  ob (pickS ((x.1, x.snd.1, x.snd.2), (100 : Int))) fun y =>
    ob (pickS ((y.snd.fst.1, y.snd.fst.snd.1, y.snd.fst.snd.2), (30 : Int))) fun y_1 =>
      ob (pickS ((y_1.snd.fst.1, y_1.snd.fst.snd.1, y_1.snd.fst.snd.2), (8 : Int))) fun y_2 =>
        br (y_2.1 == (0 : Int))
          (ob
            (amongS
              ((y_2.snd.fst.1, y_2.snd.fst.snd.1, y_2.snd.fst.snd.2),
                [(1000000000 : Int), (-1000000000 : Int), (999999937 : Int), (0 : Int), (1461 : Int),
                  (29530589 : Int)]))
            fun y =>
            ob (mkS (y.1, IntKind.i64.wrap ((1 : Int) + y_1.1))) fun y_3 =>
              some ((y_3.fst.1, y_3.fst.2), y.snd.fst.1, y.snd.fst.snd.1, y.snd.fst.snd.2))
          (br (y_2.1 == (1 : Int))
            (ob
              (amongS
                ((y_2.snd.fst.1, y_2.snd.fst.snd.1, y_2.snd.fst.snd.2),
                  [(1000000000 : Int), (999999937 : Int), (4 : Int), (1000000 : Int)]))
              fun y_3 =>
              ob (mkS (IntKind.i64.wrap (y.1 - (40 : Int)), y_3.1)) fun y =>
                some ((y.fst.1, y.fst.2), y_3.snd.fst.1, y_3.snd.fst.snd.1, y_3.snd.fst.snd.2))
            (ob (mkS (IntKind.i64.wrap (y.1 - (40 : Int)), IntKind.i64.wrap ((1 : Int) + y_1.1))) fun y =>
              some ((y.fst.1, y.fst.2), y_2.snd.fst.1, y_2.snd.fst.snd.1, y_2.snd.fst.snd.2)))
def drawRatS_con : MCon := ⟨[.box 138 (.pair (.slice (.int .u8)) (.pair (i64) (u64)))], [.d (.pair (i64) (i64))], drawRatS⟩
theorem drawRatS_run (x : ADens [.box 138 (.pair (.slice (.int .u8)) (.pair (i64) (u64)))]) : runFnM (mkEnvM [(96, mkS_con)] [(95, pickS_con), (94, amongS_con)] []) Tryd.f51 [.box 138 (.pair (.slice (.int .u8)) (.pair (i64) (u64)))] [.d (.pair (i64) (i64))] x = drawRatS x := by kernel_rfl
theorem drawRatS_ok : drawRatS_con.ok Tryd.prog 51 := fnM_ok (con := drawRatS_con) (mkEnvM_ok (cons := [(96, mkS_con)]) (mcons := [(95, pickS_con), (94, amongS_con)]) ⟨mkS_ok, trivial⟩ ⟨pickS_ok, amongS_ok, trivial⟩ []) Tryd.func51 rfl (by kernel_rfl) (by exact trivial) (fun x y h => (drawRatS_run x).trans h)

def a2EpiS : List (Int) → Option ((Int × Int × Int × Int) × (Int × Int) × (Int × Int)) :=
fun x =>
  ob (fromS x) fun y =>
    ob (drawEpiS (y.1, y.snd.1, y.snd.2)) fun y =>
      ob (drawRatS (y.snd.1, y.snd.snd.1, y.snd.snd.2)) fun y_1 =>
        ob (drawRatS (y_1.snd.1, y_1.snd.snd.1, y_1.snd.snd.2)) fun y_2 =>
          some ((y.fst.1, y.fst.snd.1, y.fst.snd.snd.1, y.fst.snd.snd.2), (y_1.fst.1, y_1.fst.2), y_2.fst.1, y_2.fst.2)
def a2EpiS_con : Con := ⟨[.slice (.int .u8)], [.d (.pair (i64) (.pair (i64) (.pair (i64) (i64)))), .d (.pair (i64) (i64)), .d (.pair (i64) (i64))], a2EpiS⟩
theorem a2EpiS_run (x : Dens [.slice (.int .u8)]) : runFn (mkEnvM [(49, fromS_con)] [(50, drawEpiS_con), (51, drawRatS_con)] []) Tryd.f16 [.slice (.int .u8)] [.d (.pair (i64) (.pair (i64) (.pair (i64) (i64)))), .d (.pair (i64) (i64)), .d (.pair (i64) (i64))] x = a2EpiS x := by kernel_rfl
theorem a2EpiS_ok : a2EpiS_con.ok Tryd.prog 16 := fn_ok (con := a2EpiS_con) (mkEnvM_ok (cons := [(49, fromS_con)]) (mcons := [(50, drawEpiS_con), (51, drawRatS_con)]) ⟨fromS_ok, trivial⟩ ⟨drawEpiS_ok, drawRatS_ok, trivial⟩ []) Tryd.func16 rfl (by kernel_rfl) (by exact trivial) (fun x y h => (a2EpiS_run x).trans h)

def a2Long : List (Int) × List (Int) → Option (Bool) :=
fun x =>
  br (decide ((3000 : Int) < (↑x.1.length : Int))) (some true) (some (decide ((3000 : Int) < (↑x.2.length : Int))))
def a2Long_con : Con := ⟨[.slice (.int .u8), .slice (.int .u8)], [.d (.bool)], a2Long⟩
theorem a2Long_run (x : Dens [.slice (.int .u8), .slice (.int .u8)]) : runFn (mkEnv [] []) Tryd.f15 [.slice (.int .u8), .slice (.int .u8)] [.d (.bool)] x = a2Long x := by kernel_rfl
theorem a2Long_ok : a2Long_con.ok Tryd.prog 15 := fn_ok (con := a2Long_con) (mkEnv_ok (cons := []) trivial []) Tryd.func15 rfl (by kernel_rfl) (by exact trivial) (fun x y h => (a2Long_run x).trans h)

end Rx
end Go.Proofs.YtfapjkcmoefilaaDoor
