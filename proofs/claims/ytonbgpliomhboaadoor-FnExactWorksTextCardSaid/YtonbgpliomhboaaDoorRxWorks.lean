/- What the functions of RxWorks come to, and their contracts. No conditions. -/
import Derived.Test.YtonbgpliomhboaaDoorRxEnv
import Derived.Test.YtonbgpliomhboaaDoorRxSites
namespace Go.Proofs.YtonbgpliomhboaaDoor
namespace Rx
open Go

def toIntSL_vars : Vars := [(0, .val (.slice (i64))), (3, .row 0 2 (i64)), (4, .val (i64))]
def toIntSL_step : List (Int) × List (Int) × Int → Option (LRes × (List (Int) × List (Int) × Int)) :=
fun x =>
  br (decide (x.snd.2 < (↑x.1.length : Int)))
    (ob (idx x.1 x.snd.2) fun y =>
      ob (idx x.snd.1 x.snd.2) fun x_1 =>
        ob (List.get?Internal x.snd.1 (Int.toNat x.snd.2)) fun x_2 =>
          some (LRes.next, x.1, List.set x.snd.1 (Int.toNat x.snd.2) y, IntKind.i64.wrap (x.snd.2 + (1 : Int))))
    (some (LRes.out, x.1, x.snd.1, x.snd.2))
def toIntSL_fuel : List (Int) × List (Int) × Int → Nat := fun s => (s.1.length - s.2.2.toNat) + 1
def toIntSL : List (Int) × List (Int) × Int → Option (List (Int) × List (Int) × Int) := fun s => iterP toIntSL_step (toIntSL_fuel s) s
def toIntSL_L : LoopC := ⟨toIntSL_vars, 0, .plain toIntSL⟩
noncomputable def toIntSL_key : Nat := key (loopAt Tryd.f43 0)
theorem toIntSL_stepok (x : toIntSL_vars.den) : stepOf (mkEnv [] []) Tryd.f43.ntmps toIntSL_vars 0 (loopAt Tryd.f43 0) x = toIntSL_step x := by kernel_rfl
theorem toIntSL_ok : LoopOK Tryd.prog Tryd.f43.ntmps toIntSL_L (loopAt Tryd.f43 0)   := iterP_loop (n := Tryd.f43.ntmps) (vs := toIntSL_vars) (out := 0) (body := loopAt Tryd.f43 0) (mkEnv_ok (cons := []) trivial []) toIntSL_step toIntSL_fuel (by exact trivial) toIntSL_stepok

def toIntS : List (Int) → Option (List (Int)) :=
fun x =>
  br
    (decide
      ((0 : Int) ≤ (↑x.length : Int) ∧ (↑x.length : Int) = (↑x.length : Int) ∧ (↑x.length : Int) ≤ (1048576 : Int)))
    (ob (toIntSL (x, List.replicate (↑x.length : Int).toNat (0 : Int), (0 : Int))) fun r => some r.snd.1) none
def toIntS_con : Con := ⟨[.slice (i64)], [.row 2 (i64)], toIntS⟩
theorem toIntS_run (x : Dens [.slice (i64)]) : runFn (mkEnv [] [(toIntSL_key, toIntSL_L)]) Tryd.f43 [.slice (i64)] [.row 2 (i64)] x = toIntS x := by kernel_rfl
theorem toIntS_ok : toIntS_con.ok Tryd.prog 43 := fn_ok (con := toIntS_con) (mkEnv_ok (cons := []) trivial [(toIntSL_key, toIntSL_L)]) Tryd.func43 rfl (by kernel_rfl) (by exact ⟨toIntSL_ok, trivial⟩) (fun x y h => (toIntS_run x).trans h)

def toArborL : (ByteArray × List (Int)) → Option ((ByteArray × List (Int))) :=
fun x => ob (toIntS x.2) fun y => some (x.1, y)
def toArborL_con : Con := ⟨[.pair (.str) (.slice (i64))], [.d (.pair (.str) (.slice (i64)))], toArborL⟩
theorem toArborL_run (x : Dens [.pair (.str) (.slice (i64))]) : runFn (mkEnv [(43, toIntS_con)] []) Tryd.f27 [.pair (.str) (.slice (i64))] [.d (.pair (.str) (.slice (i64)))] x = toArborL x := by kernel_rfl
theorem toArborL_ok : toArborL_con.ok Tryd.prog 27 := fn_ok (con := toArborL_con) (mkEnv_ok (cons := [(43, toIntS_con)]) ⟨toIntS_ok, trivial⟩ []) Tryd.func27 rfl (by kernel_rfl) (by exact trivial) (fun x y h => (toArborL_run x).trans h)

def toArborSL_vars : Vars := [(0, .val (.slice (.pair (.str) (.slice (i64))))), (3, .row 0 49 (.pair (.str) (.slice (i64)))), (4, .val (i64))]
def toArborSL_step : List ((ByteArray × List (Int))) × List ((ByteArray × List (Int))) × Int → Option (LRes × (List ((ByteArray × List (Int))) × List ((ByteArray × List (Int))) × Int)) :=
fun x =>
  br (decide (x.snd.2 < (↑x.1.length : Int)))
    (ob (idx x.1 x.snd.2) fun y =>
      ob (toArborL (y.1, y.2)) fun y =>
        ob (idx x.snd.1 x.snd.2) fun x_1 =>
          ob (List.get?Internal x.snd.1 (Int.toNat x.snd.2)) fun x_2 =>
            some
              (LRes.next, x.1, List.set x.snd.1 (Int.toNat x.snd.2) (y.1, y.2), IntKind.i64.wrap (x.snd.2 + (1 : Int))))
    (some (LRes.out, x.1, x.snd.1, x.snd.2))
def toArborSL_fuel : List ((ByteArray × List (Int))) × List ((ByteArray × List (Int))) × Int → Nat := fun s => (s.1.length - s.2.2.toNat) + 1
def toArborSL : List ((ByteArray × List (Int))) × List ((ByteArray × List (Int))) × Int → Option (List ((ByteArray × List (Int))) × List ((ByteArray × List (Int))) × Int) := fun s => iterP toArborSL_step (toArborSL_fuel s) s
def toArborSL_L : LoopC := ⟨toArborSL_vars, 0, .plain toArborSL⟩
noncomputable def toArborSL_key : Nat := key (loopAt Tryd.f13 0)
theorem toArborSL_stepok (x : toArborSL_vars.den) : stepOf (mkEnv [(27, toArborL_con)] []) Tryd.f13.ntmps toArborSL_vars 0 (loopAt Tryd.f13 0) x = toArborSL_step x := by kernel_rfl
theorem toArborSL_ok : LoopOK Tryd.prog Tryd.f13.ntmps toArborSL_L (loopAt Tryd.f13 0)   := iterP_loop (n := Tryd.f13.ntmps) (vs := toArborSL_vars) (out := 0) (body := loopAt Tryd.f13 0) (mkEnv_ok (cons := [(27, toArborL_con)]) ⟨toArborL_ok, trivial⟩ []) toArborSL_step toArborSL_fuel (by exact trivial) toArborSL_stepok

def toArborS : List ((ByteArray × List (Int))) → Option (List ((ByteArray × List (Int)))) :=
fun x =>
  br
    (decide
      ((0 : Int) ≤ (↑x.length : Int) ∧ (↑x.length : Int) = (↑x.length : Int) ∧ (↑x.length : Int) ≤ (1048576 : Int)))
    (ob (toArborSL (x, List.replicate (↑x.length : Int).toNat ((⟨⟨[]⟩⟩ : ByteArray), []), (0 : Int))) fun r =>
      some r.snd.1)
    none
def toArborS_con : Con := ⟨[.slice (.pair (.str) (.slice (i64)))], [.row 49 (.pair (.str) (.slice (i64)))], toArborS⟩
theorem toArborS_run (x : Dens [.slice (.pair (.str) (.slice (i64)))]) : runFn (mkEnv [] [(toArborSL_key, toArborSL_L)]) Tryd.f13 [.slice (.pair (.str) (.slice (i64)))] [.row 49 (.pair (.str) (.slice (i64)))] x = toArborS x := by kernel_rfl
theorem toArborS_ok : toArborS_con.ok Tryd.prog 13 := fn_ok (con := toArborS_con) (mkEnv_ok (cons := []) trivial [(toArborSL_key, toArborSL_L)]) Tryd.func13 rfl (by kernel_rfl) (by exact ⟨toArborSL_ok, trivial⟩) (fun x y h => (toArborS_run x).trans h)

def toMeshL : (Int × Int × Int × Int) → Option ((Int × Int × Int × Int)) :=
fun x => some (x.1, x.snd.1, x.snd.snd.1, x.snd.snd.2)
def toMeshL_con : Con := ⟨[.pair (i64) (.pair (i64) (.pair (i64) (i64)))], [.d (.pair (i64) (.pair (i64) (.pair (i64) (i64))))], toMeshL⟩
theorem toMeshL_run (x : Dens [.pair (i64) (.pair (i64) (.pair (i64) (i64)))]) : runFn (mkEnv [] []) Tryd.f28 [.pair (i64) (.pair (i64) (.pair (i64) (i64)))] [.d (.pair (i64) (.pair (i64) (.pair (i64) (i64))))] x = toMeshL x := by kernel_rfl
theorem toMeshL_ok : toMeshL_con.ok Tryd.prog 28 := fn_ok (con := toMeshL_con) (mkEnv_ok (cons := []) trivial []) Tryd.func28 rfl (by kernel_rfl) (by exact trivial) (fun x y h => (toMeshL_run x).trans h)

def toMeshSL_vars : Vars := [(0, .val (.slice (.pair (i64) (.pair (i64) (.pair (i64) (i64)))))), (3, .row 0 56 (.pair (i64) (.pair (i64) (.pair (i64) (i64))))), (4, .val (i64))]
def toMeshSL_step : List ((Int × Int × Int × Int)) × List ((Int × Int × Int × Int)) × Int → Option (LRes × (List ((Int × Int × Int × Int)) × List ((Int × Int × Int × Int)) × Int)) :=
fun x =>
  br (decide (x.snd.2 < (↑x.1.length : Int)))
    (ob (idx x.1 x.snd.2) fun y =>
      ob (toMeshL (y.1, y.snd.1, y.snd.snd.1, y.snd.snd.2)) fun y =>
        ob (idx x.snd.1 x.snd.2) fun x_1 =>
          ob (List.get?Internal x.snd.1 (Int.toNat x.snd.2)) fun x_2 =>
            some
              (LRes.next, x.1, List.set x.snd.1 (Int.toNat x.snd.2) (y.1, y.snd.1, y.snd.snd.1, y.snd.snd.2),
                IntKind.i64.wrap (x.snd.2 + (1 : Int))))
    (some (LRes.out, x.1, x.snd.1, x.snd.2))
def toMeshSL_fuel : List ((Int × Int × Int × Int)) × List ((Int × Int × Int × Int)) × Int → Nat := fun s => (s.1.length - s.2.2.toNat) + 1
def toMeshSL : List ((Int × Int × Int × Int)) × List ((Int × Int × Int × Int)) × Int → Option (List ((Int × Int × Int × Int)) × List ((Int × Int × Int × Int)) × Int) := fun s => iterP toMeshSL_step (toMeshSL_fuel s) s
def toMeshSL_L : LoopC := ⟨toMeshSL_vars, 0, .plain toMeshSL⟩
noncomputable def toMeshSL_key : Nat := key (loopAt Tryd.f14 0)
theorem toMeshSL_stepok (x : toMeshSL_vars.den) : stepOf (mkEnv [(28, toMeshL_con)] []) Tryd.f14.ntmps toMeshSL_vars 0 (loopAt Tryd.f14 0) x = toMeshSL_step x := by kernel_rfl
theorem toMeshSL_ok : LoopOK Tryd.prog Tryd.f14.ntmps toMeshSL_L (loopAt Tryd.f14 0)   := iterP_loop (n := Tryd.f14.ntmps) (vs := toMeshSL_vars) (out := 0) (body := loopAt Tryd.f14 0) (mkEnv_ok (cons := [(28, toMeshL_con)]) ⟨toMeshL_ok, trivial⟩ []) toMeshSL_step toMeshSL_fuel (by exact trivial) toMeshSL_stepok

def toMeshS : List ((Int × Int × Int × Int)) → Option (List ((Int × Int × Int × Int))) :=
fun x =>
  br
    (decide
      ((0 : Int) ≤ (↑x.length : Int) ∧ (↑x.length : Int) = (↑x.length : Int) ∧ (↑x.length : Int) ≤ (1048576 : Int)))
    (ob (toMeshSL (x, List.replicate (↑x.length : Int).toNat ((0 : Int), (0 : Int), (0 : Int), (0 : Int)), (0 : Int)))
      fun r => some r.snd.1)
    none
def toMeshS_con : Con := ⟨[.slice (.pair (i64) (.pair (i64) (.pair (i64) (i64))))], [.row 56 (.pair (i64) (.pair (i64) (.pair (i64) (i64))))], toMeshS⟩
theorem toMeshS_run (x : Dens [.slice (.pair (i64) (.pair (i64) (.pair (i64) (i64))))]) : runFn (mkEnv [] [(toMeshSL_key, toMeshSL_L)]) Tryd.f14 [.slice (.pair (i64) (.pair (i64) (.pair (i64) (i64))))] [.row 56 (.pair (i64) (.pair (i64) (.pair (i64) (i64))))] x = toMeshS x := by kernel_rfl
theorem toMeshS_ok : toMeshS_con.ok Tryd.prog 14 := fn_ok (con := toMeshS_con) (mkEnv_ok (cons := []) trivial [(toMeshSL_key, toMeshSL_L)]) Tryd.func14 rfl (by kernel_rfl) (by exact ⟨toMeshSL_ok, trivial⟩) (fun x y h => (toMeshS_run x).trans h)

def toWorksL : (List ((ByteArray × List (Int))) × List ((Int × Int × Int × Int))) → Option ((List ((ByteArray × List (Int))) × List ((Int × Int × Int × Int)))) :=
fun x => ob (toArborS x.1) fun y => ob (toMeshS x.2) fun y_1 => some (y, y_1)
def toWorksL_con : Con := ⟨[.pair (.slice (.pair (.str) (.slice (i64)))) (.slice (.pair (i64) (.pair (i64) (.pair (i64) (i64)))))], [.d (.pair (.slice (.pair (.str) (.slice (i64)))) (.slice (.pair (i64) (.pair (i64) (.pair (i64) (i64))))))], toWorksL⟩
theorem toWorksL_run (x : Dens [.pair (.slice (.pair (.str) (.slice (i64)))) (.slice (.pair (i64) (.pair (i64) (.pair (i64) (i64)))))]) : runFn (mkEnv [(13, toArborS_con), (14, toMeshS_con)] []) Tryd.f6 [.pair (.slice (.pair (.str) (.slice (i64)))) (.slice (.pair (i64) (.pair (i64) (.pair (i64) (i64)))))] [.d (.pair (.slice (.pair (.str) (.slice (i64)))) (.slice (.pair (i64) (.pair (i64) (.pair (i64) (i64))))))] x = toWorksL x := by kernel_rfl
theorem toWorksL_ok : toWorksL_con.ok Tryd.prog 6 := fn_ok (con := toWorksL_con) (mkEnv_ok (cons := [(13, toArborS_con), (14, toMeshS_con)]) ⟨toArborS_ok, toMeshS_ok, trivial⟩ []) Tryd.func6 rfl (by kernel_rfl) (by exact trivial) (fun x y h => (toWorksL_run x).trans h)

def szIntW : List (Int) × Int → Option (Int) :=
fun x =>
  br (decide (IntKind.i64.wrap (x.2 - (↑x.1.length : Int)) < (0 : Int))) (some (-1 : Int))
    (some (IntKind.i64.wrap (x.2 - (↑x.1.length : Int))))
def szIntW_con : Con := ⟨[.slice (i64), i64], [.d (i64)], szIntW⟩
theorem szIntW_run (x : Dens [.slice (i64), i64]) : runFn (mkEnv [] []) Tryd.f38 [.slice (i64), i64] [.d (i64)] x = szIntW x := by kernel_rfl
theorem szIntW_ok : szIntW_con.ok Tryd.prog 38 := fn_ok (con := szIntW_con) (mkEnv_ok (cons := []) trivial []) Tryd.func38 rfl (by kernel_rfl) (by exact trivial) (fun x y h => (szIntW_run x).trans h)

def szArborL : (ByteArray × List (Int)) × Int → Option (Int) :=
fun x =>
  br (decide (IntKind.i64.wrap (x.2 - (↑(ByteArray.size x.fst.1) : Int)) < (0 : Int))) (some (-1 : Int))
    (ob (szIntW (x.fst.2, IntKind.i64.wrap (x.2 - (↑(ByteArray.size x.fst.1) : Int)))) fun y =>
      br (decide (y < (0 : Int))) (some (-1 : Int)) (some y))
def szArborL_con : Con := ⟨[.pair (.str) (.slice (i64)), i64], [.d (i64)], szArborL⟩
theorem szArborL_run (x : Dens [.pair (.str) (.slice (i64)), i64]) : runFn (mkEnv [(38, szIntW_con)] []) Tryd.f21 [.pair (.str) (.slice (i64)), i64] [.d (i64)] x = szArborL x := by kernel_rfl
theorem szArborL_ok : szArborL_con.ok Tryd.prog 21 := fn_ok (con := szArborL_con) (mkEnv_ok (cons := [(38, szIntW_con)]) ⟨szIntW_ok, trivial⟩ []) Tryd.func21 rfl (by kernel_rfl) (by exact trivial) (fun x y h => (szArborL_run x).trans h)

def szArborSL_vars : Vars := [(0, .val (.slice (.pair (.str) (.slice (i64))))), (1, .val (i64)), (4, .val (i64)), (5, .val (i64))]
def szArborSL_step : List ((ByteArray × List (Int))) × Int × Int × Int → Option (LRes × (List ((ByteArray × List (Int))) × Int × Int × Int)) :=
fun x =>
  br (decide (x.snd.snd.2 < (↑x.1.length : Int)))
    (ob (idx x.1 x.snd.snd.2) fun y =>
      ob (szArborL ((y.1, y.2), x.snd.1)) fun y =>
        br (decide (y < (0 : Int))) (some (LRes.ret, x.1, y, (-1 : Int), x.snd.snd.2))
          (some (LRes.next, x.1, y, x.snd.snd.1, IntKind.i64.wrap (x.snd.snd.2 + (1 : Int)))))
    (some (LRes.out, x.1, x.snd.1, x.snd.snd.1, x.snd.snd.2))
def szArborSL_fuel : List ((ByteArray × List (Int))) × Int × Int × Int → Nat := fun s => (s.1.length - s.2.2.2.toNat) + 1
def szArborSL : List ((ByteArray × List (Int))) × Int × Int × Int → Option (Bool × (List ((ByteArray × List (Int))) × Int × Int × Int)) := fun s => iter szArborSL_step (szArborSL_fuel s) s
def szArborSL_L : LoopC := ⟨szArborSL_vars, 0, .two szArborSL⟩
noncomputable def szArborSL_key : Nat := key (loopAt Tryd.f9 0)
theorem szArborSL_stepok (x : szArborSL_vars.den) : stepOf (mkEnv [(21, szArborL_con)] []) Tryd.f9.ntmps szArborSL_vars 0 (loopAt Tryd.f9 0) x = szArborSL_step x := by kernel_rfl
theorem szArborSL_ok : LoopOK Tryd.prog Tryd.f9.ntmps szArborSL_L (loopAt Tryd.f9 0)   := iter_loop (n := Tryd.f9.ntmps) (vs := szArborSL_vars) (out := 0) (body := loopAt Tryd.f9 0) (mkEnv_ok (cons := [(21, szArborL_con)]) ⟨szArborL_ok, trivial⟩ []) szArborSL_step szArborSL_fuel (by exact trivial) szArborSL_stepok

def szArborS : List ((ByteArray × List (Int))) × Int → Option (Int) :=
fun x =>
  br (decide (IntKind.i64.wrap (x.2 - (↑x.1.length : Int)) < (0 : Int))) (some (-1 : Int))
    (ob (szArborSL (x.1, IntKind.i64.wrap (x.2 - (↑x.1.length : Int)), (0 : Int), (0 : Int))) fun r =>
      br r.1 (some r.snd.snd.1) (some r.snd.snd.snd.1))
def szArborS_con : Con := ⟨[.slice (.pair (.str) (.slice (i64))), i64], [.d (i64)], szArborS⟩
theorem szArborS_run (x : Dens [.slice (.pair (.str) (.slice (i64))), i64]) : runFn (mkEnv [] [(szArborSL_key, szArborSL_L)]) Tryd.f9 [.slice (.pair (.str) (.slice (i64))), i64] [.d (i64)] x = szArborS x := by kernel_rfl
theorem szArborS_ok : szArborS_con.ok Tryd.prog 9 := fn_ok (con := szArborS_con) (mkEnv_ok (cons := []) trivial [(szArborSL_key, szArborSL_L)]) Tryd.func9 rfl (by kernel_rfl) (by exact ⟨szArborSL_ok, trivial⟩) (fun x y h => (szArborS_run x).trans h)

def szMeshS : List ((Int × Int × Int × Int)) × Int → Option (Int) :=
fun x =>
  br (decide (IntKind.i64.wrap (x.2 - (↑x.1.length : Int)) < (0 : Int))) (some (-1 : Int))
    (some (IntKind.i64.wrap (x.2 - (↑x.1.length : Int))))
def szMeshS_con : Con := ⟨[.slice (.pair (i64) (.pair (i64) (.pair (i64) (i64)))), i64], [.d (i64)], szMeshS⟩
theorem szMeshS_run (x : Dens [.slice (.pair (i64) (.pair (i64) (.pair (i64) (i64)))), i64]) : runFn (mkEnv [] []) Tryd.f10 [.slice (.pair (i64) (.pair (i64) (.pair (i64) (i64)))), i64] [.d (i64)] x = szMeshS x := by kernel_rfl
theorem szMeshS_ok : szMeshS_con.ok Tryd.prog 10 := fn_ok (con := szMeshS_con) (mkEnv_ok (cons := []) trivial []) Tryd.func10 rfl (by kernel_rfl) (by exact trivial) (fun x y h => (szMeshS_run x).trans h)

def szWorksL : (List ((ByteArray × List (Int))) × List ((Int × Int × Int × Int))) × Int → Option (Int) :=
fun x =>
  ob (szArborS (x.fst.1, x.2)) fun y =>
    br (decide (y < (0 : Int))) (some (-1 : Int))
      (ob (szMeshS (x.fst.2, y)) fun y => br (decide (y < (0 : Int))) (some (-1 : Int)) (some y))
def szWorksL_con : Con := ⟨[.pair (.slice (.pair (.str) (.slice (i64)))) (.slice (.pair (i64) (.pair (i64) (.pair (i64) (i64))))), i64], [.d (i64)], szWorksL⟩
theorem szWorksL_run (x : Dens [.pair (.slice (.pair (.str) (.slice (i64)))) (.slice (.pair (i64) (.pair (i64) (.pair (i64) (i64))))), i64]) : runFn (mkEnv [(9, szArborS_con), (10, szMeshS_con)] []) Tryd.f4 [.pair (.slice (.pair (.str) (.slice (i64)))) (.slice (.pair (i64) (.pair (i64) (.pair (i64) (i64))))), i64] [.d (i64)] x = szWorksL x := by kernel_rfl
theorem szWorksL_ok : szWorksL_con.ok Tryd.prog 4 := fn_ok (con := szWorksL_con) (mkEnv_ok (cons := [(9, szArborS_con), (10, szMeshS_con)]) ⟨szArborS_ok, szMeshS_ok, trivial⟩ []) Tryd.func4 rfl (by kernel_rfl) (by exact trivial) (fun x y h => (szWorksL_run x).trans h)

def eqIntWL_vars : Vars := [(0, .val (.slice (i64))), (1, .val (.slice (i64))), (4, .val (.bool)), (5, .val (i64))]
def eqIntWL_step : List (Int) × List (Int) × Bool × Int → Option (LRes × (List (Int) × List (Int) × Bool × Int)) :=
fun x =>
  br (decide (x.snd.snd.2 < (↑x.1.length : Int)))
    (ob (idx x.1 x.snd.snd.2) fun y =>
      ob (idx x.snd.1 x.snd.snd.2) fun y_1 =>
        br (y != y_1) (some (LRes.ret, x.1, x.snd.1, false, x.snd.snd.2))
          (some (LRes.next, x.1, x.snd.1, x.snd.snd.1, IntKind.i64.wrap (x.snd.snd.2 + (1 : Int)))))
    (some (LRes.out, x.1, x.snd.1, x.snd.snd.1, x.snd.snd.2))
def eqIntWL_fuel : List (Int) × List (Int) × Bool × Int → Nat := fun s => (s.1.length - s.2.2.2.toNat) + 1
def eqIntWL : List (Int) × List (Int) × Bool × Int → Option (Bool × (List (Int) × List (Int) × Bool × Int)) := fun s => iter eqIntWL_step (eqIntWL_fuel s) s
def eqIntWL_L : LoopC := ⟨eqIntWL_vars, 0, .two eqIntWL⟩
noncomputable def eqIntWL_key : Nat := key (loopAt Tryd.f50 0)
theorem eqIntWL_stepok (x : eqIntWL_vars.den) : stepOf (mkEnv [] []) Tryd.f50.ntmps eqIntWL_vars 0 (loopAt Tryd.f50 0) x = eqIntWL_step x := by kernel_rfl
theorem eqIntWL_ok : LoopOK Tryd.prog Tryd.f50.ntmps eqIntWL_L (loopAt Tryd.f50 0)   := iter_loop (n := Tryd.f50.ntmps) (vs := eqIntWL_vars) (out := 0) (body := loopAt Tryd.f50 0) (mkEnv_ok (cons := []) trivial []) eqIntWL_step eqIntWL_fuel (by exact trivial) eqIntWL_stepok

def eqIntW : List (Int) × List (Int) → Option (Bool) :=
fun x =>
  br ((↑x.1.length : Int) != (↑x.2.length : Int)) (some false)
    (ob (eqIntWL (x.1, x.2, false, (0 : Int))) fun r => br r.1 (some true) (some r.snd.snd.snd.1))
def eqIntW_con : Con := ⟨[.slice (i64), .slice (i64)], [.d (.bool)], eqIntW⟩
theorem eqIntW_run (x : Dens [.slice (i64), .slice (i64)]) : runFn (mkEnv [] [(eqIntWL_key, eqIntWL_L)]) Tryd.f50 [.slice (i64), .slice (i64)] [.d (.bool)] x = eqIntW x := by kernel_rfl
theorem eqIntW_ok : eqIntW_con.ok Tryd.prog 50 := fn_ok (con := eqIntW_con) (mkEnv_ok (cons := []) trivial [(eqIntWL_key, eqIntWL_L)]) Tryd.func50 rfl (by kernel_rfl) (by exact ⟨eqIntWL_ok, trivial⟩) (fun x y h => (eqIntW_run x).trans h)

def eqArborL : (ByteArray × List (Int)) × (ByteArray × List (Int)) → Option (Bool) :=
fun x =>
  br (!ByteArray.toList x.fst.1 == ByteArray.toList x.snd.1) (some false)
    (ob (eqIntW (x.fst.2, x.snd.2)) fun y => br (!y) (some false) (some true))
def eqArborL_con : Con := ⟨[.pair (.str) (.slice (i64)), .pair (.str) (.slice (i64))], [.d (.bool)], eqArborL⟩
theorem eqArborL_run (x : Dens [.pair (.str) (.slice (i64)), .pair (.str) (.slice (i64))]) : runFn (mkEnv [(50, eqIntW_con)] []) Tryd.f36 [.pair (.str) (.slice (i64)), .pair (.str) (.slice (i64))] [.d (.bool)] x = eqArborL x := by kernel_rfl
theorem eqArborL_ok : eqArborL_con.ok Tryd.prog 36 := fn_ok (con := eqArborL_con) (mkEnv_ok (cons := [(50, eqIntW_con)]) ⟨eqIntW_ok, trivial⟩ []) Tryd.func36 rfl (by kernel_rfl) (by exact trivial) (fun x y h => (eqArborL_run x).trans h)

def eqArborSL_vars : Vars := [(0, .val (.slice (.pair (.str) (.slice (i64))))), (1, .val (.slice (.pair (.str) (.slice (i64))))), (4, .val (.bool)), (5, .val (i64))]
def eqArborSL_step : List ((ByteArray × List (Int))) × List ((ByteArray × List (Int))) × Bool × Int → Option (LRes × (List ((ByteArray × List (Int))) × List ((ByteArray × List (Int))) × Bool × Int)) :=
fun x =>
  br (decide (x.snd.snd.2 < (↑x.1.length : Int)))
    (ob (idx x.1 x.snd.snd.2) fun y =>
      ob (idx x.snd.1 x.snd.snd.2) fun y_1 =>
        ob (eqArborL ((y.1, y.2), y_1.1, y_1.2)) fun y =>
          br (!y) (some (LRes.ret, x.1, x.snd.1, false, x.snd.snd.2))
            (some (LRes.next, x.1, x.snd.1, x.snd.snd.1, IntKind.i64.wrap (x.snd.snd.2 + (1 : Int)))))
    (some (LRes.out, x.1, x.snd.1, x.snd.snd.1, x.snd.snd.2))
def eqArborSL_fuel : List ((ByteArray × List (Int))) × List ((ByteArray × List (Int))) × Bool × Int → Nat := fun s => (s.1.length - s.2.2.2.toNat) + 1
def eqArborSL : List ((ByteArray × List (Int))) × List ((ByteArray × List (Int))) × Bool × Int → Option (Bool × (List ((ByteArray × List (Int))) × List ((ByteArray × List (Int))) × Bool × Int)) := fun s => iter eqArborSL_step (eqArborSL_fuel s) s
def eqArborSL_L : LoopC := ⟨eqArborSL_vars, 0, .two eqArborSL⟩
noncomputable def eqArborSL_key : Nat := key (loopAt Tryd.f19 0)
theorem eqArborSL_stepok (x : eqArborSL_vars.den) : stepOf (mkEnv [(36, eqArborL_con)] []) Tryd.f19.ntmps eqArborSL_vars 0 (loopAt Tryd.f19 0) x = eqArborSL_step x := by kernel_rfl
theorem eqArborSL_ok : LoopOK Tryd.prog Tryd.f19.ntmps eqArborSL_L (loopAt Tryd.f19 0)   := iter_loop (n := Tryd.f19.ntmps) (vs := eqArborSL_vars) (out := 0) (body := loopAt Tryd.f19 0) (mkEnv_ok (cons := [(36, eqArborL_con)]) ⟨eqArborL_ok, trivial⟩ []) eqArborSL_step eqArborSL_fuel (by exact trivial) eqArborSL_stepok

def eqArborS : List ((ByteArray × List (Int))) × List ((ByteArray × List (Int))) → Option (Bool) :=
fun x =>
  br ((↑x.1.length : Int) != (↑x.2.length : Int)) (some false)
    (ob (eqArborSL (x.1, x.2, false, (0 : Int))) fun r => br r.1 (some true) (some r.snd.snd.snd.1))
def eqArborS_con : Con := ⟨[.slice (.pair (.str) (.slice (i64))), .slice (.pair (.str) (.slice (i64)))], [.d (.bool)], eqArborS⟩
theorem eqArborS_run (x : Dens [.slice (.pair (.str) (.slice (i64))), .slice (.pair (.str) (.slice (i64)))]) : runFn (mkEnv [] [(eqArborSL_key, eqArborSL_L)]) Tryd.f19 [.slice (.pair (.str) (.slice (i64))), .slice (.pair (.str) (.slice (i64)))] [.d (.bool)] x = eqArborS x := by kernel_rfl
theorem eqArborS_ok : eqArborS_con.ok Tryd.prog 19 := fn_ok (con := eqArborS_con) (mkEnv_ok (cons := []) trivial [(eqArborSL_key, eqArborSL_L)]) Tryd.func19 rfl (by kernel_rfl) (by exact ⟨eqArborSL_ok, trivial⟩) (fun x y h => (eqArborS_run x).trans h)

def eqMeshL : (Int × Int × Int × Int) × (Int × Int × Int × Int) → Option (Bool) :=
fun x =>
  br (x.fst.1 != x.snd.1) (some false)
    (br (x.fst.snd.1 != x.snd.snd.1) (some false)
      (br (x.fst.snd.snd.1 != x.snd.snd.snd.1) (some false)
        (br (x.fst.snd.snd.2 != x.snd.snd.snd.2) (some false) (some true))))
def eqMeshL_con : Con := ⟨[.pair (i64) (.pair (i64) (.pair (i64) (i64))), .pair (i64) (.pair (i64) (.pair (i64) (i64)))], [.d (.bool)], eqMeshL⟩
theorem eqMeshL_run (x : Dens [.pair (i64) (.pair (i64) (.pair (i64) (i64))), .pair (i64) (.pair (i64) (.pair (i64) (i64)))]) : runFn (mkEnv [] []) Tryd.f37 [.pair (i64) (.pair (i64) (.pair (i64) (i64))), .pair (i64) (.pair (i64) (.pair (i64) (i64)))] [.d (.bool)] x = eqMeshL x := by kernel_rfl
theorem eqMeshL_ok : eqMeshL_con.ok Tryd.prog 37 := fn_ok (con := eqMeshL_con) (mkEnv_ok (cons := []) trivial []) Tryd.func37 rfl (by kernel_rfl) (by exact trivial) (fun x y h => (eqMeshL_run x).trans h)

def eqMeshSL_vars : Vars := [(0, .val (.slice (.pair (i64) (.pair (i64) (.pair (i64) (i64)))))), (1, .val (.slice (.pair (i64) (.pair (i64) (.pair (i64) (i64)))))), (4, .val (.bool)), (5, .val (i64))]
def eqMeshSL_step : List ((Int × Int × Int × Int)) × List ((Int × Int × Int × Int)) × Bool × Int → Option (LRes × (List ((Int × Int × Int × Int)) × List ((Int × Int × Int × Int)) × Bool × Int)) :=
fun x =>
  br (decide (x.snd.snd.2 < (↑x.1.length : Int)))
    (ob (idx x.1 x.snd.snd.2) fun y =>
      ob (idx x.snd.1 x.snd.snd.2) fun y_1 =>
        ob (eqMeshL ((y.1, y.snd.1, y.snd.snd.1, y.snd.snd.2), y_1.1, y_1.snd.1, y_1.snd.snd.1, y_1.snd.snd.2)) fun y =>
          br (!y) (some (LRes.ret, x.1, x.snd.1, false, x.snd.snd.2))
            (some (LRes.next, x.1, x.snd.1, x.snd.snd.1, IntKind.i64.wrap (x.snd.snd.2 + (1 : Int)))))
    (some (LRes.out, x.1, x.snd.1, x.snd.snd.1, x.snd.snd.2))
def eqMeshSL_fuel : List ((Int × Int × Int × Int)) × List ((Int × Int × Int × Int)) × Bool × Int → Nat := fun s => (s.1.length - s.2.2.2.toNat) + 1
def eqMeshSL : List ((Int × Int × Int × Int)) × List ((Int × Int × Int × Int)) × Bool × Int → Option (Bool × (List ((Int × Int × Int × Int)) × List ((Int × Int × Int × Int)) × Bool × Int)) := fun s => iter eqMeshSL_step (eqMeshSL_fuel s) s
def eqMeshSL_L : LoopC := ⟨eqMeshSL_vars, 0, .two eqMeshSL⟩
noncomputable def eqMeshSL_key : Nat := key (loopAt Tryd.f20 0)
theorem eqMeshSL_stepok (x : eqMeshSL_vars.den) : stepOf (mkEnv [(37, eqMeshL_con)] []) Tryd.f20.ntmps eqMeshSL_vars 0 (loopAt Tryd.f20 0) x = eqMeshSL_step x := by kernel_rfl
theorem eqMeshSL_ok : LoopOK Tryd.prog Tryd.f20.ntmps eqMeshSL_L (loopAt Tryd.f20 0)   := iter_loop (n := Tryd.f20.ntmps) (vs := eqMeshSL_vars) (out := 0) (body := loopAt Tryd.f20 0) (mkEnv_ok (cons := [(37, eqMeshL_con)]) ⟨eqMeshL_ok, trivial⟩ []) eqMeshSL_step eqMeshSL_fuel (by exact trivial) eqMeshSL_stepok

def eqMeshS : List ((Int × Int × Int × Int)) × List ((Int × Int × Int × Int)) → Option (Bool) :=
fun x =>
  br ((↑x.1.length : Int) != (↑x.2.length : Int)) (some false)
    (ob (eqMeshSL (x.1, x.2, false, (0 : Int))) fun r => br r.1 (some true) (some r.snd.snd.snd.1))
def eqMeshS_con : Con := ⟨[.slice (.pair (i64) (.pair (i64) (.pair (i64) (i64)))), .slice (.pair (i64) (.pair (i64) (.pair (i64) (i64))))], [.d (.bool)], eqMeshS⟩
theorem eqMeshS_run (x : Dens [.slice (.pair (i64) (.pair (i64) (.pair (i64) (i64)))), .slice (.pair (i64) (.pair (i64) (.pair (i64) (i64))))]) : runFn (mkEnv [] [(eqMeshSL_key, eqMeshSL_L)]) Tryd.f20 [.slice (.pair (i64) (.pair (i64) (.pair (i64) (i64)))), .slice (.pair (i64) (.pair (i64) (.pair (i64) (i64))))] [.d (.bool)] x = eqMeshS x := by kernel_rfl
theorem eqMeshS_ok : eqMeshS_con.ok Tryd.prog 20 := fn_ok (con := eqMeshS_con) (mkEnv_ok (cons := []) trivial [(eqMeshSL_key, eqMeshSL_L)]) Tryd.func20 rfl (by kernel_rfl) (by exact ⟨eqMeshSL_ok, trivial⟩) (fun x y h => (eqMeshS_run x).trans h)

def eqWorksL : (List ((ByteArray × List (Int))) × List ((Int × Int × Int × Int))) × (List ((ByteArray × List (Int))) × List ((Int × Int × Int × Int))) → Option (Bool) :=
fun x =>
  ob (eqArborS (x.fst.1, x.snd.1)) fun y =>
    br (!y) (some false) (ob (eqMeshS (x.fst.2, x.snd.2)) fun y => br (!y) (some false) (some true))
def eqWorksL_con : Con := ⟨[.pair (.slice (.pair (.str) (.slice (i64)))) (.slice (.pair (i64) (.pair (i64) (.pair (i64) (i64))))), .pair (.slice (.pair (.str) (.slice (i64)))) (.slice (.pair (i64) (.pair (i64) (.pair (i64) (i64)))))], [.d (.bool)], eqWorksL⟩
theorem eqWorksL_run (x : Dens [.pair (.slice (.pair (.str) (.slice (i64)))) (.slice (.pair (i64) (.pair (i64) (.pair (i64) (i64))))), .pair (.slice (.pair (.str) (.slice (i64)))) (.slice (.pair (i64) (.pair (i64) (.pair (i64) (i64)))))]) : runFn (mkEnv [(19, eqArborS_con), (20, eqMeshS_con)] []) Tryd.f8 [.pair (.slice (.pair (.str) (.slice (i64)))) (.slice (.pair (i64) (.pair (i64) (.pair (i64) (i64))))), .pair (.slice (.pair (.str) (.slice (i64)))) (.slice (.pair (i64) (.pair (i64) (.pair (i64) (i64)))))] [.d (.bool)] x = eqWorksL x := by kernel_rfl
theorem eqWorksL_ok : eqWorksL_con.ok Tryd.prog 8 := fn_ok (con := eqWorksL_con) (mkEnv_ok (cons := [(19, eqArborS_con), (20, eqMeshS_con)]) ⟨eqArborS_ok, eqMeshS_ok, trivial⟩ []) Tryd.func8 rfl (by kernel_rfl) (by exact trivial) (fun x y h => (eqWorksL_run x).trans h)















def toothedW : Int → Option (Bool) :=
fun x => ob (withinP (x, (6 : Int), (240 : Int))) fun y => some y
def toothedW_con : Con := ⟨[i64], [.d (.bool)], toothedW⟩
theorem toothedW_run (x : Dens [i64]) : runFn (mkEnv [(54, withinP_con)] []) Tryd.f44 [i64] [.d (.bool)] x = toothedW x := by kernel_rfl
theorem toothedW_ok : toothedW_con.ok Tryd.prog 44 := fn_ok (con := toothedW_con) (mkEnv_ok (cons := [(54, withinP_con)]) ⟨withinP_ok, trivial⟩ []) Tryd.func44 rfl (by kernel_rfl) (by exact trivial) (fun x y h => (toothedW_run x).trans h)

def validArborIL_vars : Vars := [(1, .box 0 49 (.pair (.str) (.slice (i64)))), (2, .val (.bool)), (6, .val (.slice (i64))), (7, .val (i64)), (8, .val (i64))]
def validArborIL_step : (ByteArray × List (Int)) × Bool × List (Int) × Int × Int → Option (LRes × ((ByteArray × List (Int)) × Bool × List (Int) × Int × Int)) :=
fun x =>
  br (decide (x.snd.snd.snd.2 < x.snd.snd.snd.1))
    (ob (idx x.snd.snd.1 x.snd.snd.snd.2) fun y =>
      ob (toothedW y) fun y =>
        br (!y) (some (LRes.ret, (x.fst.1, x.fst.2), false, x.snd.snd.1, x.snd.snd.snd.1, x.snd.snd.snd.2))
          (some
            (LRes.next, (x.fst.1, x.fst.2), x.snd.1, x.snd.snd.1, x.snd.snd.snd.1,
              IntKind.i64.wrap (x.snd.snd.snd.2 + (1 : Int)))))
    (some (LRes.out, (x.fst.1, x.fst.2), x.snd.1, x.snd.snd.1, x.snd.snd.snd.1, x.snd.snd.snd.2))
def validArborIL_fuel : (ByteArray × List (Int)) × Bool × List (Int) × Int × Int → Nat := fun s => (s.2.2.2.1 - s.2.2.2.2).toNat + 1
def validArborIL : (ByteArray × List (Int)) × Bool × List (Int) × Int × Int → Option (Bool × ((ByteArray × List (Int)) × Bool × List (Int) × Int × Int)) := fun s => iter validArborIL_step (validArborIL_fuel s) s
def validArborIL_L : LoopC := ⟨validArborIL_vars, 0, .two validArborIL⟩
noncomputable def validArborIL_key : Nat := key (loopAt Tryd.f29 0)
theorem validArborIL_stepok (x : validArborIL_vars.den) : stepOf (mkEnv [(44, toothedW_con)] []) Tryd.f29.ntmps validArborIL_vars 0 (loopAt Tryd.f29 0) x = validArborIL_step x := by kernel_rfl
theorem validArborIL_ok : LoopOK Tryd.prog Tryd.f29.ntmps validArborIL_L (loopAt Tryd.f29 0)   := iter_loop (n := Tryd.f29.ntmps) (vs := validArborIL_vars) (out := 0) (body := loopAt Tryd.f29 0) (mkEnv_ok (cons := [(44, toothedW_con)]) ⟨toothedW_ok, trivial⟩ []) validArborIL_step validArborIL_fuel (by exact trivial) validArborIL_stepok

def validArborI : (ByteArray × List (Int)) → Option (Bool) :=
fun x =>
  ob (validArborIL ((x.1, x.2), false, x.2, (↑x.2.length : Int), (0 : Int))) fun r =>
    br r.1
      (ob (nameI r.snd.fst.1) fun y =>
        br y (some (decide ((↑(List.length r.snd.fst.2) : Int) ≤ (5 : Int)))) (some false))
      (some r.snd.snd.1)
def validArborI_con : Con := ⟨[.pair (.str) (.slice (i64))], [.d (.bool)], validArborI⟩
theorem validArborI_run (x : Dens [.pair (.str) (.slice (i64))]) : runFn (mkEnv [(45, nameI_con)] [(validArborIL_key, validArborIL_L)]) Tryd.f29 [.pair (.str) (.slice (i64))] [.d (.bool)] x = validArborI x := by kernel_rfl
theorem validArborI_ok : validArborI_con.ok Tryd.prog 29 := fn_ok (con := validArborI_con) (mkEnv_ok (cons := [(45, nameI_con)]) ⟨nameI_ok, trivial⟩ [(validArborIL_key, validArborIL_L)]) Tryd.func29 rfl (by kernel_rfl) (by exact ⟨validArborIL_ok, trivial⟩) (fun x y h => (validArborI_run x).trans h)

def hasWheelI : (List ((ByteArray × List (Int))) × List ((Int × Int × Int × Int))) × Int × Int → Option (Bool) :=
fun x =>
  ob (withinP (x.snd.1, (0 : Int), IntKind.i64.wrap ((↑(List.length x.fst.1) : Int) - (1 : Int)))) fun y =>
    br y
      (ob (idx x.fst.1 x.snd.1) fun y =>
        ob (withinP (x.snd.2, (0 : Int), IntKind.i64.wrap ((↑(List.length y.2) : Int) - (1 : Int)))) fun y => some y)
      (some false)
def hasWheelI_con : Con := ⟨[.pair (.slice (.pair (.str) (.slice (i64)))) (.slice (.pair (i64) (.pair (i64) (.pair (i64) (i64))))), i64, i64], [.d (.bool)], hasWheelI⟩
theorem hasWheelI_run (x : Dens [.pair (.slice (.pair (.str) (.slice (i64)))) (.slice (.pair (i64) (.pair (i64) (.pair (i64) (i64))))), i64, i64]) : runFn (mkEnv [(54, withinP_con)] []) Tryd.f46 [.pair (.slice (.pair (.str) (.slice (i64)))) (.slice (.pair (i64) (.pair (i64) (.pair (i64) (i64))))), i64, i64] [.d (.bool)] x = hasWheelI x := by kernel_rfl
theorem hasWheelI_ok : hasWheelI_con.ok Tryd.prog 46 := fn_ok (con := hasWheelI_con) (mkEnv_ok (cons := [(54, withinP_con)]) ⟨withinP_ok, trivial⟩ []) Tryd.func46 rfl (by kernel_rfl) (by exact trivial) (fun x y h => (hasWheelI_run x).trans h)

def joinsI : (List ((ByteArray × List (Int))) × List ((Int × Int × Int × Int))) × (Int × Int × Int × Int) → Option (Bool) :=
fun x =>
  br (x.snd.1 != x.snd.snd.snd.1)
    (ob (hasWheelI ((x.fst.1, x.fst.2), x.snd.1, x.snd.snd.1)) fun y =>
      br y (ob (hasWheelI ((x.fst.1, x.fst.2), x.snd.snd.snd.1, x.snd.snd.snd.2)) fun y => some y) (some false))
    (some false)
def joinsI_con : Con := ⟨[.pair (.slice (.pair (.str) (.slice (i64)))) (.slice (.pair (i64) (.pair (i64) (.pair (i64) (i64))))), .pair (i64) (.pair (i64) (.pair (i64) (i64)))], [.d (.bool)], joinsI⟩
theorem joinsI_run (x : Dens [.pair (.slice (.pair (.str) (.slice (i64)))) (.slice (.pair (i64) (.pair (i64) (.pair (i64) (i64))))), .pair (i64) (.pair (i64) (.pair (i64) (i64)))]) : runFn (mkEnv [(46, hasWheelI_con)] []) Tryd.f30 [.pair (.slice (.pair (.str) (.slice (i64)))) (.slice (.pair (i64) (.pair (i64) (.pair (i64) (i64))))), .pair (i64) (.pair (i64) (.pair (i64) (i64)))] [.d (.bool)] x = joinsI x := by kernel_rfl
theorem joinsI_ok : joinsI_con.ok Tryd.prog 30 := fn_ok (con := joinsI_con) (mkEnv_ok (cons := [(46, hasWheelI_con)]) ⟨hasWheelI_ok, trivial⟩ []) Tryd.func30 rfl (by kernel_rfl) (by exact trivial) (fun x y h => (joinsI_run x).trans h)

def sameMeshI : (Int × Int × Int × Int) × (Int × Int × Int × Int) → Option (Bool) :=
fun x =>
  br
    (x.fst.1 == x.snd.1 &&
      (x.fst.snd.1 == x.snd.snd.1 && (x.fst.snd.snd.1 == x.snd.snd.snd.1 && x.fst.snd.snd.2 == x.snd.snd.snd.2)))
    (some true)
    (some
      (x.fst.1 == x.snd.snd.snd.1 &&
        (x.fst.snd.1 == x.snd.snd.snd.2 && (x.fst.snd.snd.1 == x.snd.1 && x.fst.snd.snd.2 == x.snd.snd.1))))
def sameMeshI_con : Con := ⟨[.pair (i64) (.pair (i64) (.pair (i64) (i64))), .pair (i64) (.pair (i64) (.pair (i64) (i64)))], [.d (.bool)], sameMeshI⟩
theorem sameMeshI_run (x : Dens [.pair (i64) (.pair (i64) (.pair (i64) (i64))), .pair (i64) (.pair (i64) (.pair (i64) (i64)))]) : runFn (mkEnv [] []) Tryd.f33 [.pair (i64) (.pair (i64) (.pair (i64) (i64))), .pair (i64) (.pair (i64) (.pair (i64) (i64)))] [.d (.bool)] x = sameMeshI x := by kernel_rfl
theorem sameMeshI_ok : sameMeshI_con.ok Tryd.prog 33 := fn_ok (con := sameMeshI_con) (mkEnv_ok (cons := []) trivial []) Tryd.func33 rfl (by kernel_rfl) (by exact trivial) (fun x y h => (sameMeshI_run x).trans h)

def meshFnI : (Int × Int × Int × Int) × (Int × Int × Int × Int) → Option (Bool) :=
fun x =>
  ob
    (sameMeshI
      ((x.snd.1, x.snd.snd.1, x.snd.snd.snd.1, x.snd.snd.snd.2), x.fst.1, x.fst.snd.1, x.fst.snd.snd.1,
        x.fst.snd.snd.2))
    fun y => some y
def meshFnI_con : Con := ⟨[.pair (i64) (.pair (i64) (.pair (i64) (i64))), .ref (.pair (i64) (.pair (i64) (.pair (i64) (i64))))], [.d (.bool)], meshFnI⟩
theorem meshFnI_run (x : Dens [.pair (i64) (.pair (i64) (.pair (i64) (i64))), .ref (.pair (i64) (.pair (i64) (.pair (i64) (i64))))]) : runFn (mkEnv [(33, sameMeshI_con)] []) Tryd.f32 [.pair (i64) (.pair (i64) (.pair (i64) (i64))), .ref (.pair (i64) (.pair (i64) (.pair (i64) (i64))))] [.d (.bool)] x = meshFnI x := by kernel_rfl
theorem meshFnI_ok : meshFnI_con.ok Tryd.prog 32 := fn_ok (con := meshFnI_con) (mkEnv_ok (cons := [(33, sameMeshI_con)]) ⟨sameMeshI_ok, trivial⟩ []) Tryd.func32 rfl (by kernel_rfl) (by exact trivial) (fun x y h => (meshFnI_run x).trans h)

def findMeshL_vars : Vars := [(0, .val (.slice (.pair (i64) (.pair (i64) (.pair (i64) (i64)))))), (1, .val (.clo 32 (.pair (i64) (.pair (i64) (.pair (i64) (i64)))))), (4, .val (i64)), (7, .val (i64)), (8, .val (i64))]
def findMeshL_step : List ((Int × Int × Int × Int)) × (Int × Int × Int × Int) × Int × Int × Int → Option (LRes × (List ((Int × Int × Int × Int)) × (Int × Int × Int × Int) × Int × Int × Int)) :=
fun x =>
  br (decide (x.snd.snd.snd.2 < x.snd.snd.snd.1))
    (ob (idx x.1 x.snd.snd.snd.2) fun y =>
      ob (meshFnI ((y.1, y.snd.1, y.snd.snd.1, y.snd.snd.2), x.snd.1)) fun y =>
        br y (some (LRes.ret, x.1, x.snd.1, x.snd.snd.snd.2, x.snd.snd.snd.1, x.snd.snd.snd.2))
          (some
            (LRes.next, x.1, x.snd.1, x.snd.snd.1, x.snd.snd.snd.1, IntKind.i64.wrap (x.snd.snd.snd.2 + (1 : Int)))))
    (some (LRes.out, x.1, x.snd.1, x.snd.snd.1, x.snd.snd.snd.1, x.snd.snd.snd.2))
def findMeshL_fuel : List ((Int × Int × Int × Int)) × (Int × Int × Int × Int) × Int × Int × Int → Nat := fun s => (s.2.2.2.1 - s.2.2.2.2).toNat + 1
def findMeshL : List ((Int × Int × Int × Int)) × (Int × Int × Int × Int) × Int × Int × Int → Option (Bool × (List ((Int × Int × Int × Int)) × (Int × Int × Int × Int) × Int × Int × Int)) := fun s => iter findMeshL_step (findMeshL_fuel s) s
def findMeshL_L : LoopC := ⟨findMeshL_vars, 0, .two findMeshL⟩
noncomputable def findMeshL_key : Nat := key (loopAt Tryd.f47 0)
theorem findMeshL_stepok (x : findMeshL_vars.den) : stepOf (mkEnv [(32, meshFnI_con)] []) Tryd.f47.ntmps findMeshL_vars 0 (loopAt Tryd.f47 0) x = findMeshL_step x := by kernel_rfl
theorem findMeshL_ok : LoopOK Tryd.prog Tryd.f47.ntmps findMeshL_L (loopAt Tryd.f47 0)   := iter_loop (n := Tryd.f47.ntmps) (vs := findMeshL_vars) (out := 0) (body := loopAt Tryd.f47 0) (mkEnv_ok (cons := [(32, meshFnI_con)]) ⟨meshFnI_ok, trivial⟩ []) findMeshL_step findMeshL_fuel (by exact trivial) findMeshL_stepok

def findMesh : List ((Int × Int × Int × Int)) × (Int × Int × Int × Int) → Option (Int) :=
fun x =>
  ob (findMeshL (x.1, x.2, (0 : Int), (↑x.1.length : Int), (0 : Int))) fun r =>
    br r.1 (some (-1 : Int)) (some r.snd.snd.snd.1)
def findMesh_con : Con := ⟨[.slice (.pair (i64) (.pair (i64) (.pair (i64) (i64)))), .clo 32 (.pair (i64) (.pair (i64) (.pair (i64) (i64))))], [.d (i64)], findMesh⟩
theorem findMesh_run (x : Dens [.slice (.pair (i64) (.pair (i64) (.pair (i64) (i64)))), .clo 32 (.pair (i64) (.pair (i64) (.pair (i64) (i64))))]) : runFn (mkEnv [] [(findMeshL_key, findMeshL_L)]) Tryd.f47 [.slice (.pair (i64) (.pair (i64) (.pair (i64) (i64)))), .clo 32 (.pair (i64) (.pair (i64) (.pair (i64) (i64))))] [.d (i64)] x = findMesh x := by kernel_rfl
theorem findMesh_ok : findMesh_con.ok Tryd.prog 47 := fn_ok (con := findMesh_con) (mkEnv_ok (cons := []) trivial [(findMeshL_key, findMeshL_L)]) Tryd.func47 rfl (by kernel_rfl) (by exact ⟨findMeshL_ok, trivial⟩) (fun x y h => (findMesh_run x).trans h)

def hasMesh : List ((Int × Int × Int × Int)) × (Int × Int × Int × Int) → Option (Bool) :=
fun x => ob (findMesh (x.1, x.2)) fun y => some (decide ((0 : Int) ≤ y))
def hasMesh_con : Con := ⟨[.slice (.pair (i64) (.pair (i64) (.pair (i64) (i64)))), .clo 32 (.pair (i64) (.pair (i64) (.pair (i64) (i64))))], [.d (.bool)], hasMesh⟩
theorem hasMesh_run (x : Dens [.slice (.pair (i64) (.pair (i64) (.pair (i64) (i64)))), .clo 32 (.pair (i64) (.pair (i64) (.pair (i64) (i64))))]) : runFn (mkEnv [(47, findMesh_con)] []) Tryd.f31 [.slice (.pair (i64) (.pair (i64) (.pair (i64) (i64)))), .clo 32 (.pair (i64) (.pair (i64) (.pair (i64) (i64))))] [.d (.bool)] x = hasMesh x := by kernel_rfl
theorem hasMesh_ok : hasMesh_con.ok Tryd.prog 31 := fn_ok (con := hasMesh_con) (mkEnv_ok (cons := [(47, findMesh_con)]) ⟨findMesh_ok, trivial⟩ []) Tryd.func31 rfl (by kernel_rfl) (by exact trivial) (fun x y h => (hasMesh_run x).trans h)

def validWN_vars : Vars := [(1, .box 0 31 (.pair (.slice (.pair (.str) (.slice (i64)))) (.slice (.pair (i64) (.pair (i64) (.pair (i64) (i64))))))), (2, .val (.bool)), (4, .box 0 49 (.pair (.str) (.slice (i64)))), (20, .val (.slice (.pair (.str) (.slice (i64))))), (21, .val (i64)), (22, .val (i64)), (33, .val (.slice (.pair (.str) (.slice (i64))))), (34, .val (i64)), (35, .val (i64))]
def validWN_step : (List ((ByteArray × List (Int))) × List ((Int × Int × Int × Int))) × Bool × (ByteArray × List (Int)) × List ((ByteArray × List (Int))) × Int × Int × List ((ByteArray × List (Int))) × Int × Int → Option (LRes × ((List ((ByteArray × List (Int))) × List ((Int × Int × Int × Int))) × Bool × (ByteArray × List (Int)) × List ((ByteArray × List (Int))) × Int × Int × List ((ByteArray × List (Int))) × Int × Int)) :=
fun x =>
  br (decide (x.snd.snd.snd.snd.snd.snd.snd.2 < x.snd.snd.snd.snd.snd.snd.snd.1))
    (ob (idx x.snd.snd.snd.snd.snd.snd.1 x.snd.snd.snd.snd.snd.snd.snd.2) fun y =>
      br (ByteArray.toList x.snd.snd.fst.1 == ByteArray.toList y.1)
        (some
          (LRes.ret, (x.fst.1, x.fst.2), false, (x.snd.snd.fst.1, x.snd.snd.fst.2), x.snd.snd.snd.1,
            x.snd.snd.snd.snd.1, x.snd.snd.snd.snd.snd.1, x.snd.snd.snd.snd.snd.snd.1, x.snd.snd.snd.snd.snd.snd.snd.1,
            x.snd.snd.snd.snd.snd.snd.snd.2))
        (some
          (LRes.next, (x.fst.1, x.fst.2), x.snd.1, (x.snd.snd.fst.1, x.snd.snd.fst.2), x.snd.snd.snd.1,
            x.snd.snd.snd.snd.1, x.snd.snd.snd.snd.snd.1, x.snd.snd.snd.snd.snd.snd.1, x.snd.snd.snd.snd.snd.snd.snd.1,
            IntKind.i64.wrap (x.snd.snd.snd.snd.snd.snd.snd.2 + (1 : Int)))))
    (some
      (LRes.out, (x.fst.1, x.fst.2), x.snd.1, (x.snd.snd.fst.1, x.snd.snd.fst.2), x.snd.snd.snd.1, x.snd.snd.snd.snd.1,
        x.snd.snd.snd.snd.snd.1, x.snd.snd.snd.snd.snd.snd.1, x.snd.snd.snd.snd.snd.snd.snd.1,
        x.snd.snd.snd.snd.snd.snd.snd.2))
def validWN_fuel : (List ((ByteArray × List (Int))) × List ((Int × Int × Int × Int))) × Bool × (ByteArray × List (Int)) × List ((ByteArray × List (Int))) × Int × Int × List ((ByteArray × List (Int))) × Int × Int → Nat := fun s => (s.2.2.2.2.2.2.2.1 - s.2.2.2.2.2.2.2.2).toNat + 1
def validWN : (List ((ByteArray × List (Int))) × List ((Int × Int × Int × Int))) × Bool × (ByteArray × List (Int)) × List ((ByteArray × List (Int))) × Int × Int × List ((ByteArray × List (Int))) × Int × Int → Option (Bool × ((List ((ByteArray × List (Int))) × List ((Int × Int × Int × Int))) × Bool × (ByteArray × List (Int)) × List ((ByteArray × List (Int))) × Int × Int × List ((ByteArray × List (Int))) × Int × Int)) := fun s => iter validWN_step (validWN_fuel s) s
def validWN_L : LoopC := ⟨validWN_vars, 2, .two validWN⟩
noncomputable def validWN_key : Nat := key (loopIn (loopAt Tryd.f15 0) 0)
theorem validWN_stepok (x : validWN_vars.den) : stepOf (mkEnv [] []) Tryd.f15.ntmps validWN_vars 2 (loopIn (loopAt Tryd.f15 0) 0) x = validWN_step x := by kernel_rfl
theorem validWN_ok : LoopOK Tryd.prog Tryd.f15.ntmps validWN_L (loopIn (loopAt Tryd.f15 0) 0)   := iter_loop (n := Tryd.f15.ntmps) (vs := validWN_vars) (out := 2) (body := loopIn (loopAt Tryd.f15 0) 0) (mkEnv_ok (cons := []) trivial []) validWN_step validWN_fuel (by exact trivial) validWN_stepok

def validWA_vars : Vars := [(1, .box 0 31 (.pair (.slice (.pair (.str) (.slice (i64)))) (.slice (.pair (i64) (.pair (i64) (.pair (i64) (i64))))))), (2, .val (.bool)), (20, .val (.slice (.pair (.str) (.slice (i64))))), (21, .val (i64)), (22, .val (i64))]
def validWA_step : (List ((ByteArray × List (Int))) × List ((Int × Int × Int × Int))) × Bool × List ((ByteArray × List (Int))) × Int × Int → Option (LRes × ((List ((ByteArray × List (Int))) × List ((Int × Int × Int × Int))) × Bool × List ((ByteArray × List (Int))) × Int × Int)) :=
fun x =>
  br (decide (x.snd.snd.snd.2 < x.snd.snd.snd.1))
    (ob (idx x.snd.snd.1 x.snd.snd.snd.2) fun y =>
      ob (validArborI (y.1, y.2)) fun y_1 =>
        br (!y_1) (some (LRes.ret, (x.fst.1, x.fst.2), false, x.snd.snd.1, x.snd.snd.snd.1, x.snd.snd.snd.2))
          (br
            (decide
              ((0 : Int) ≤ (0 : Int) ∧ (0 : Int) ≤ x.snd.snd.snd.2 ∧ x.snd.snd.snd.2 ≤ (↑(List.length x.fst.1) : Int)))
            (ob
              (validWN
                ((x.fst.1, x.fst.2), x.snd.1, (y.1, y.2), x.snd.snd.1, x.snd.snd.snd.1, x.snd.snd.snd.2,
                  List.drop (Int.toNat (0 : Int)) (List.take (Int.toNat x.snd.snd.snd.2) x.fst.1),
                  (↑(List.drop (Int.toNat (0 : Int)) (List.take (Int.toNat x.snd.snd.snd.2) x.fst.1)).length : Int),
                  (0 : Int)))
              fun r =>
              br r.1
                (some
                  (LRes.next, (r.snd.fst.1, r.snd.fst.2), r.snd.snd.1, r.snd.snd.snd.snd.1, r.snd.snd.snd.snd.snd.1,
                    IntKind.i64.wrap (r.snd.snd.snd.snd.snd.snd.1 + (1 : Int))))
                (some
                  (LRes.ret, (r.snd.fst.1, r.snd.fst.2), r.snd.snd.1, r.snd.snd.snd.snd.1, r.snd.snd.snd.snd.snd.1,
                    r.snd.snd.snd.snd.snd.snd.1)))
            none))
    (some (LRes.out, (x.fst.1, x.fst.2), x.snd.1, x.snd.snd.1, x.snd.snd.snd.1, x.snd.snd.snd.2))
def validWA_fuel : (List ((ByteArray × List (Int))) × List ((Int × Int × Int × Int))) × Bool × List ((ByteArray × List (Int))) × Int × Int → Nat := fun s => (s.2.2.2.1 - s.2.2.2.2).toNat + 1
def validWA : (List ((ByteArray × List (Int))) × List ((Int × Int × Int × Int))) × Bool × List ((ByteArray × List (Int))) × Int × Int → Option (Bool × ((List ((ByteArray × List (Int))) × List ((Int × Int × Int × Int))) × Bool × List ((ByteArray × List (Int))) × Int × Int)) := fun s => iter validWA_step (validWA_fuel s) s
def validWA_L : LoopC := ⟨validWA_vars, 0, .two validWA⟩
noncomputable def validWA_key : Nat := key (loopAt Tryd.f15 0)
theorem validWA_stepok (x : validWA_vars.den) : stepOf (mkEnv [(29, validArborI_con)] [(validWN_key, validWN_L)]) Tryd.f15.ntmps validWA_vars 0 (loopAt Tryd.f15 0) x = validWA_step x := by kernel_rfl
theorem validWA_ok : LoopOK Tryd.prog Tryd.f15.ntmps validWA_L (loopAt Tryd.f15 0)   := iter_loop (n := Tryd.f15.ntmps) (vs := validWA_vars) (out := 0) (body := loopAt Tryd.f15 0) (mkEnv_ok (cons := [(29, validArborI_con)]) ⟨validArborI_ok, trivial⟩ [(validWN_key, validWN_L)]) validWA_step validWA_fuel (by exact ⟨validWN_ok, trivial⟩) validWA_stepok

def validWM_vars : Vars := [(1, .box 0 31 (.pair (.slice (.pair (.str) (.slice (i64)))) (.slice (.pair (i64) (.pair (i64) (.pair (i64) (i64))))))), (2, .val (.bool)), (47, .val (.slice (.pair (i64) (.pair (i64) (.pair (i64) (i64)))))), (48, .val (i64)), (49, .val (i64))]
def validWM_step : (List ((ByteArray × List (Int))) × List ((Int × Int × Int × Int))) × Bool × List ((Int × Int × Int × Int)) × Int × Int → Option (LRes × ((List ((ByteArray × List (Int))) × List ((Int × Int × Int × Int))) × Bool × List ((Int × Int × Int × Int)) × Int × Int)) :=
fun x =>
  br (decide (x.snd.snd.snd.2 < x.snd.snd.snd.1))
    (ob (idx x.snd.snd.1 x.snd.snd.snd.2) fun y =>
      ob (joinsI ((x.fst.1, x.fst.2), y.1, y.snd.1, y.snd.snd.1, y.snd.snd.2)) fun y_1 =>
        br (!y_1) (some (LRes.ret, (x.fst.1, x.fst.2), false, x.snd.snd.1, x.snd.snd.snd.1, x.snd.snd.snd.2))
          (br
            (decide
              ((0 : Int) ≤ (0 : Int) ∧ (0 : Int) ≤ x.snd.snd.snd.2 ∧ x.snd.snd.snd.2 ≤ (↑(List.length x.fst.2) : Int)))
            (ob
              (hasMesh
                (List.drop (Int.toNat (0 : Int)) (List.take (Int.toNat x.snd.snd.snd.2) x.fst.2), y.1, y.snd.1,
                  y.snd.snd.1, y.snd.snd.2))
              fun y =>
              br y (some (LRes.ret, (x.fst.1, x.fst.2), false, x.snd.snd.1, x.snd.snd.snd.1, x.snd.snd.snd.2))
                (some
                  (LRes.next, (x.fst.1, x.fst.2), x.snd.1, x.snd.snd.1, x.snd.snd.snd.1,
                    IntKind.i64.wrap (x.snd.snd.snd.2 + (1 : Int)))))
            none))
    (some (LRes.out, (x.fst.1, x.fst.2), x.snd.1, x.snd.snd.1, x.snd.snd.snd.1, x.snd.snd.snd.2))
def validWM_fuel : (List ((ByteArray × List (Int))) × List ((Int × Int × Int × Int))) × Bool × List ((Int × Int × Int × Int)) × Int × Int → Nat := fun s => (s.2.2.2.1 - s.2.2.2.2).toNat + 1
def validWM : (List ((ByteArray × List (Int))) × List ((Int × Int × Int × Int))) × Bool × List ((Int × Int × Int × Int)) × Int × Int → Option (Bool × ((List ((ByteArray × List (Int))) × List ((Int × Int × Int × Int))) × Bool × List ((Int × Int × Int × Int)) × Int × Int)) := fun s => iter validWM_step (validWM_fuel s) s
def validWM_L : LoopC := ⟨validWM_vars, 4, .two validWM⟩
noncomputable def validWM_key : Nat := key (loopAt Tryd.f15 1)
theorem validWM_stepok (x : validWM_vars.den) : stepOf (mkEnv [(30, joinsI_con), (31, hasMesh_con)] []) Tryd.f15.ntmps validWM_vars 4 (loopAt Tryd.f15 1) x = validWM_step x := by kernel_rfl
theorem validWM_ok : LoopOK Tryd.prog Tryd.f15.ntmps validWM_L (loopAt Tryd.f15 1)   := iter_loop (n := Tryd.f15.ntmps) (vs := validWM_vars) (out := 4) (body := loopAt Tryd.f15 1) (mkEnv_ok (cons := [(30, joinsI_con), (31, hasMesh_con)]) ⟨joinsI_ok, hasMesh_ok, trivial⟩ []) validWM_step validWM_fuel (by exact trivial) validWM_stepok

def validWI : (List ((ByteArray × List (Int))) × List ((Int × Int × Int × Int))) → Option (Bool) :=
fun x =>
  br (decide ((16 : Int) < (↑x.1.length : Int))) (some false)
    (br (decide ((24 : Int) < (↑x.2.length : Int))) (some false)
      (ob (validWA ((x.1, x.2), false, x.1, (↑x.1.length : Int), (0 : Int))) fun r =>
        br r.1
          (ob
            (validWM
              ((r.snd.fst.1, r.snd.fst.2), r.snd.snd.1, r.snd.fst.2, (↑(List.length r.snd.fst.2) : Int), (0 : Int)))
            fun r => br r.1 (some true) (some r.snd.snd.1))
          (some r.snd.snd.1)))
def validWI_con : Con := ⟨[.pair (.slice (.pair (.str) (.slice (i64)))) (.slice (.pair (i64) (.pair (i64) (.pair (i64) (i64)))))], [.d (.bool)], validWI⟩
theorem validWI_run (x : Dens [.pair (.slice (.pair (.str) (.slice (i64)))) (.slice (.pair (i64) (.pair (i64) (.pair (i64) (i64)))))]) : runFn (mkEnv [] [(validWA_key, validWA_L), (validWM_key, validWM_L)]) Tryd.f15 [.pair (.slice (.pair (.str) (.slice (i64)))) (.slice (.pair (i64) (.pair (i64) (.pair (i64) (i64)))))] [.d (.bool)] x = validWI x := by kernel_rfl
theorem validWI_ok : validWI_con.ok Tryd.prog 15 := fn_ok (con := validWI_con) (mkEnv_ok (cons := []) trivial [(validWA_key, validWA_L), (validWM_key, validWM_L)]) Tryd.func15 rfl (by kernel_rfl) (by exact ⟨validWA_ok, validWM_ok, trivial⟩) (fun x y h => (validWI_run x).trans h)

def teethW : Int → Option (Bool) :=
fun x => ob (inP (x, (6 : Int), (240 : Int))) fun y => some y
def teethW_con : Con := ⟨[i64], [.d (.bool)], teethW⟩
theorem teethW_run (x : Dens [i64]) : runFn (mkEnv [(51, inP_con)] []) Tryd.f39 [i64] [.d (.bool)] x = teethW x := by kernel_rfl
theorem teethW_ok : teethW_con.ok Tryd.prog 39 := fn_ok (con := teethW_con) (mkEnv_ok (cons := [(51, inP_con)]) ⟨inP_ok, trivial⟩ []) Tryd.func39 rfl (by kernel_rfl) (by exact trivial) (fun x y h => (teethW_run x).trans h)

def okArborSL_vars : Vars := [(0, .val (.ref (.pair (.str) (.slice (i64))))), (2, .val (.bool)), (3, .val (i64))]
def okArborSL_step : (ByteArray × List (Int)) × Bool × Int → Option (LRes × ((ByteArray × List (Int)) × Bool × Int)) :=
fun x =>
  br (decide (x.snd.2 < (↑(List.length x.fst.2) : Int)))
    (ob (idx x.fst.2 x.snd.2) fun y =>
      ob (teethW y) fun y =>
        br (!y) (some (LRes.ret, x.1, false, x.snd.2))
          (some (LRes.next, x.1, x.snd.1, IntKind.i64.wrap (x.snd.2 + (1 : Int)))))
    (some (LRes.out, x.1, x.snd.1, x.snd.2))
def okArborSL_fuel : (ByteArray × List (Int)) × Bool × Int → Nat := fun s => (s.1.2.length - s.2.2.toNat) + 1
def okArborSL : (ByteArray × List (Int)) × Bool × Int → Option (Bool × ((ByteArray × List (Int)) × Bool × Int)) := fun s => iter okArborSL_step (okArborSL_fuel s) s
def okArborSL_L : LoopC := ⟨okArborSL_vars, 0, .two okArborSL⟩
noncomputable def okArborSL_key : Nat := key (loopAt Tryd.f22 0)
theorem okArborSL_stepok (x : okArborSL_vars.den) : stepOf (mkEnv [(39, teethW_con)] []) Tryd.f22.ntmps okArborSL_vars 0 (loopAt Tryd.f22 0) x = okArborSL_step x := by kernel_rfl
theorem okArborSL_ok : LoopOK Tryd.prog Tryd.f22.ntmps okArborSL_L (loopAt Tryd.f22 0)   := iter_loop (n := Tryd.f22.ntmps) (vs := okArborSL_vars) (out := 0) (body := loopAt Tryd.f22 0) (mkEnv_ok (cons := [(39, teethW_con)]) ⟨teethW_ok, trivial⟩ []) okArborSL_step okArborSL_fuel (by exact trivial) okArborSL_stepok

def okArborS : (ByteArray × List (Int)) → Option (Bool) :=
fun x =>
  ob (okArborSL (x, false, (0 : Int))) fun r =>
    br r.1
      (ob (nameS r.snd.fst.1) fun y =>
        br y (some (decide ((↑(List.length r.snd.fst.2) : Int) ≤ (5 : Int)))) (some false))
      (some r.snd.snd.1)
def okArborS_con : Con := ⟨[.ref (.pair (.str) (.slice (i64)))], [.d (.bool)], okArborS⟩
theorem okArborS_run (x : Dens [.ref (.pair (.str) (.slice (i64)))]) : runFn (mkEnv [(40, nameS_con)] [(okArborSL_key, okArborSL_L)]) Tryd.f22 [.ref (.pair (.str) (.slice (i64)))] [.d (.bool)] x = okArborS x := by kernel_rfl
theorem okArborS_ok : okArborS_con.ok Tryd.prog 22 := fn_ok (con := okArborS_con) (mkEnv_ok (cons := [(40, nameS_con)]) ⟨nameS_ok, trivial⟩ [(okArborSL_key, okArborSL_L)]) Tryd.func22 rfl (by kernel_rfl) (by exact ⟨okArborSL_ok, trivial⟩) (fun x y h => (okArborS_run x).trans h)

def wheelS : (List ((ByteArray × List (Int))) × List ((Int × Int × Int × Int))) × Int × Int → Option (Bool) :=
fun x =>
  ob (inP (x.snd.1, (0 : Int), IntKind.i64.wrap ((↑(List.length x.fst.1) : Int) - (1 : Int)))) fun y =>
    br y
      (ob (idx x.fst.1 x.snd.1) fun y =>
        ob (inP (x.snd.2, (0 : Int), IntKind.i64.wrap ((↑(List.length y.2) : Int) - (1 : Int)))) fun y => some y)
      (some false)
def wheelS_con : Con := ⟨[.ref (.pair (.slice (.pair (.str) (.slice (i64)))) (.slice (.pair (i64) (.pair (i64) (.pair (i64) (i64)))))), i64, i64], [.d (.bool)], wheelS⟩
theorem wheelS_run (x : Dens [.ref (.pair (.slice (.pair (.str) (.slice (i64)))) (.slice (.pair (i64) (.pair (i64) (.pair (i64) (i64)))))), i64, i64]) : runFn (mkEnv [(51, inP_con)] []) Tryd.f41 [.ref (.pair (.slice (.pair (.str) (.slice (i64)))) (.slice (.pair (i64) (.pair (i64) (.pair (i64) (i64)))))), i64, i64] [.d (.bool)] x = wheelS x := by kernel_rfl
theorem wheelS_ok : wheelS_con.ok Tryd.prog 41 := fn_ok (con := wheelS_con) (mkEnv_ok (cons := [(51, inP_con)]) ⟨inP_ok, trivial⟩ []) Tryd.func41 rfl (by kernel_rfl) (by exact trivial) (fun x y h => (wheelS_run x).trans h)

def meshS : (List ((ByteArray × List (Int))) × List ((Int × Int × Int × Int))) × (Int × Int × Int × Int) → Option (Bool) :=
fun x =>
  br (x.snd.1 != x.snd.snd.snd.1)
    (ob (wheelS (x.1, x.snd.1, x.snd.snd.1)) fun y =>
      br y (ob (wheelS (x.1, x.snd.snd.snd.1, x.snd.snd.snd.2)) fun y => some y) (some false))
    (some false)
def meshS_con : Con := ⟨[.ref (.pair (.slice (.pair (.str) (.slice (i64)))) (.slice (.pair (i64) (.pair (i64) (.pair (i64) (i64)))))), .pair (i64) (.pair (i64) (.pair (i64) (i64)))], [.d (.bool)], meshS⟩
theorem meshS_run (x : Dens [.ref (.pair (.slice (.pair (.str) (.slice (i64)))) (.slice (.pair (i64) (.pair (i64) (.pair (i64) (i64)))))), .pair (i64) (.pair (i64) (.pair (i64) (i64)))]) : runFn (mkEnv [(41, wheelS_con)] []) Tryd.f24 [.ref (.pair (.slice (.pair (.str) (.slice (i64)))) (.slice (.pair (i64) (.pair (i64) (.pair (i64) (i64)))))), .pair (i64) (.pair (i64) (.pair (i64) (i64)))] [.d (.bool)] x = meshS x := by kernel_rfl
theorem meshS_ok : meshS_con.ok Tryd.prog 24 := fn_ok (con := meshS_con) (mkEnv_ok (cons := [(41, wheelS_con)]) ⟨wheelS_ok, trivial⟩ []) Tryd.func24 rfl (by kernel_rfl) (by exact trivial) (fun x y h => (meshS_run x).trans h)

def equalMeshS : (Int × Int × Int × Int) × (Int × Int × Int × Int) → Option (Bool) :=
fun x =>
  br
    (x.fst.1 == x.snd.1 &&
      (x.fst.snd.1 == x.snd.snd.1 && (x.fst.snd.snd.1 == x.snd.snd.snd.1 && x.fst.snd.snd.2 == x.snd.snd.snd.2)))
    (some true)
    (br (x.fst.1 == x.snd.snd.snd.1)
      (br (x.fst.snd.1 == x.snd.snd.snd.2)
        (br (x.fst.snd.snd.1 == x.snd.1) (some (x.fst.snd.snd.2 == x.snd.snd.1)) (some false)) (some false))
      (some false))
def equalMeshS_con : Con := ⟨[.pair (i64) (.pair (i64) (.pair (i64) (i64))), .pair (i64) (.pair (i64) (.pair (i64) (i64)))], [.d (.bool)], equalMeshS⟩
theorem equalMeshS_run (x : Dens [.pair (i64) (.pair (i64) (.pair (i64) (i64))), .pair (i64) (.pair (i64) (.pair (i64) (i64)))]) : runFn (mkEnv [] []) Tryd.f42 [.pair (i64) (.pair (i64) (.pair (i64) (i64))), .pair (i64) (.pair (i64) (.pair (i64) (i64)))] [.d (.bool)] x = equalMeshS x := by kernel_rfl
theorem equalMeshS_ok : equalMeshS_con.ok Tryd.prog 42 := fn_ok (con := equalMeshS_con) (mkEnv_ok (cons := []) trivial []) Tryd.func42 rfl (by kernel_rfl) (by exact trivial) (fun x y h => (equalMeshS_run x).trans h)

def knownSL_vars : Vars := [(0, .val (.ref (.pair (.slice (.pair (.str) (.slice (i64)))) (.slice (.pair (i64) (.pair (i64) (.pair (i64) (i64)))))))), (2, .val (i64)), (4, .box 0 56 (.pair (i64) (.pair (i64) (.pair (i64) (i64))))), (6, .val (.bool)), (7, .val (i64))]
def knownSL_step : (List ((ByteArray × List (Int))) × List ((Int × Int × Int × Int))) × Int × (Int × Int × Int × Int) × Bool × Int → Option (LRes × ((List ((ByteArray × List (Int))) × List ((Int × Int × Int × Int))) × Int × (Int × Int × Int × Int) × Bool × Int)) :=
fun x =>
  br (decide (x.snd.snd.snd.2 < x.snd.1))
    (ob (idx x.fst.2 x.snd.snd.snd.2) fun y =>
      ob
        (equalMeshS
          ((y.1, y.snd.1, y.snd.snd.1, y.snd.snd.2), x.snd.snd.fst.1, x.snd.snd.fst.snd.1, x.snd.snd.fst.snd.snd.1,
            x.snd.snd.fst.snd.snd.2))
        fun y =>
        br y
          (some
            (LRes.ret, x.1, x.snd.1,
              (x.snd.snd.fst.1, x.snd.snd.fst.snd.1, x.snd.snd.fst.snd.snd.1, x.snd.snd.fst.snd.snd.2), true,
              x.snd.snd.snd.2))
          (some
            (LRes.next, x.1, x.snd.1,
              (x.snd.snd.fst.1, x.snd.snd.fst.snd.1, x.snd.snd.fst.snd.snd.1, x.snd.snd.fst.snd.snd.2), x.snd.snd.snd.1,
              IntKind.i64.wrap (x.snd.snd.snd.2 + (1 : Int)))))
    (some
      (LRes.out, x.1, x.snd.1, (x.snd.snd.fst.1, x.snd.snd.fst.snd.1, x.snd.snd.fst.snd.snd.1, x.snd.snd.fst.snd.snd.2),
        x.snd.snd.snd.1, x.snd.snd.snd.2))
def knownSL_fuel : (List ((ByteArray × List (Int))) × List ((Int × Int × Int × Int))) × Int × (Int × Int × Int × Int) × Bool × Int → Nat := fun s => (s.2.1 - s.2.2.2.2).toNat + 1
def knownSL : (List ((ByteArray × List (Int))) × List ((Int × Int × Int × Int))) × Int × (Int × Int × Int × Int) × Bool × Int → Option (Bool × ((List ((ByteArray × List (Int))) × List ((Int × Int × Int × Int))) × Int × (Int × Int × Int × Int) × Bool × Int)) := fun s => iter knownSL_step (knownSL_fuel s) s
def knownSL_L : LoopC := ⟨knownSL_vars, 0, .two knownSL⟩
noncomputable def knownSL_key : Nat := key (loopAt Tryd.f25 0)
theorem knownSL_stepok (x : knownSL_vars.den) : stepOf (mkEnv [(42, equalMeshS_con)] []) Tryd.f25.ntmps knownSL_vars 0 (loopAt Tryd.f25 0) x = knownSL_step x := by kernel_rfl
theorem knownSL_ok : LoopOK Tryd.prog Tryd.f25.ntmps knownSL_L (loopAt Tryd.f25 0)   := iter_loop (n := Tryd.f25.ntmps) (vs := knownSL_vars) (out := 0) (body := loopAt Tryd.f25 0) (mkEnv_ok (cons := [(42, equalMeshS_con)]) ⟨equalMeshS_ok, trivial⟩ []) knownSL_step knownSL_fuel (by exact trivial) knownSL_stepok

def knownS : (List ((ByteArray × List (Int))) × List ((Int × Int × Int × Int))) × (Int × Int × Int × Int) × Int → Option (Bool) :=
fun x =>
  ob
    (knownSL (x.1, x.snd.2, (x.snd.fst.1, x.snd.fst.snd.1, x.snd.fst.snd.snd.1, x.snd.fst.snd.snd.2), false, (0 : Int)))
    fun r => br r.1 (some false) (some r.snd.snd.snd.snd.1)
def knownS_con : Con := ⟨[.ref (.pair (.slice (.pair (.str) (.slice (i64)))) (.slice (.pair (i64) (.pair (i64) (.pair (i64) (i64)))))), .pair (i64) (.pair (i64) (.pair (i64) (i64))), i64], [.d (.bool)], knownS⟩
theorem knownS_run (x : Dens [.ref (.pair (.slice (.pair (.str) (.slice (i64)))) (.slice (.pair (i64) (.pair (i64) (.pair (i64) (i64)))))), .pair (i64) (.pair (i64) (.pair (i64) (i64))), i64]) : runFn (mkEnv [] [(knownSL_key, knownSL_L)]) Tryd.f25 [.ref (.pair (.slice (.pair (.str) (.slice (i64)))) (.slice (.pair (i64) (.pair (i64) (.pair (i64) (i64)))))), .pair (i64) (.pair (i64) (.pair (i64) (i64))), i64] [.d (.bool)] x = knownS x := by kernel_rfl
theorem knownS_ok : knownS_con.ok Tryd.prog 25 := fn_ok (con := knownS_con) (mkEnv_ok (cons := []) trivial [(knownSL_key, knownSL_L)]) Tryd.func25 rfl (by kernel_rfl) (by exact ⟨knownSL_ok, trivial⟩) (fun x y h => (knownS_run x).trans h)

def findArborSL_vars : Vars := [(0, .val (.ref (.pair (.slice (.pair (.str) (.slice (i64)))) (.slice (.pair (i64) (.pair (i64) (.pair (i64) (i64)))))))), (1, .val (.str)), (4, .val (i64)), (5, .val (i64))]
def findArborSL_step : (List ((ByteArray × List (Int))) × List ((Int × Int × Int × Int))) × ByteArray × Int × Int → Option (LRes × ((List ((ByteArray × List (Int))) × List ((Int × Int × Int × Int))) × ByteArray × Int × Int)) :=
fun x =>
  br (decide (x.snd.snd.2 < (↑(List.length x.fst.1) : Int)))
    (ob (idx x.fst.1 x.snd.snd.2) fun y =>
      br (ByteArray.toList y.1 == ByteArray.toList x.snd.1) (some (LRes.ret, x.1, x.snd.1, x.snd.snd.2, x.snd.snd.2))
        (some (LRes.next, x.1, x.snd.1, x.snd.snd.1, IntKind.i64.wrap (x.snd.snd.2 + (1 : Int)))))
    (some (LRes.out, x.1, x.snd.1, x.snd.snd.1, x.snd.snd.2))
def findArborSL_fuel : (List ((ByteArray × List (Int))) × List ((Int × Int × Int × Int))) × ByteArray × Int × Int → Nat := fun s => (s.1.1.length - s.2.2.2.toNat) + 1
def findArborSL : (List ((ByteArray × List (Int))) × List ((Int × Int × Int × Int))) × ByteArray × Int × Int → Option (Bool × ((List ((ByteArray × List (Int))) × List ((Int × Int × Int × Int))) × ByteArray × Int × Int)) := fun s => iter findArborSL_step (findArborSL_fuel s) s
def findArborSL_L : LoopC := ⟨findArborSL_vars, 0, .two findArborSL⟩
noncomputable def findArborSL_key : Nat := key (loopAt Tryd.f23 0)
theorem findArborSL_stepok (x : findArborSL_vars.den) : stepOf (mkEnv [] []) Tryd.f23.ntmps findArborSL_vars 0 (loopAt Tryd.f23 0) x = findArborSL_step x := by kernel_rfl
theorem findArborSL_ok : LoopOK Tryd.prog Tryd.f23.ntmps findArborSL_L (loopAt Tryd.f23 0)   := iter_loop (n := Tryd.f23.ntmps) (vs := findArborSL_vars) (out := 0) (body := loopAt Tryd.f23 0) (mkEnv_ok (cons := []) trivial []) findArborSL_step findArborSL_fuel (by exact trivial) findArborSL_stepok

def findArborS : (List ((ByteArray × List (Int))) × List ((Int × Int × Int × Int))) × ByteArray → Option (Int) :=
fun x => ob (findArborSL (x.1, x.2, (0 : Int), (0 : Int))) fun r => br r.1 (some (-1 : Int)) (some r.snd.snd.snd.1)
def findArborS_con : Con := ⟨[.ref (.pair (.slice (.pair (.str) (.slice (i64)))) (.slice (.pair (i64) (.pair (i64) (.pair (i64) (i64)))))), .str], [.d (i64)], findArborS⟩
theorem findArborS_run (x : Dens [.ref (.pair (.slice (.pair (.str) (.slice (i64)))) (.slice (.pair (i64) (.pair (i64) (.pair (i64) (i64)))))), .str]) : runFn (mkEnv [] [(findArborSL_key, findArborSL_L)]) Tryd.f23 [.ref (.pair (.slice (.pair (.str) (.slice (i64)))) (.slice (.pair (i64) (.pair (i64) (.pair (i64) (i64)))))), .str] [.d (i64)] x = findArborS x := by kernel_rfl
theorem findArborS_ok : findArborS_con.ok Tryd.prog 23 := fn_ok (con := findArborS_con) (mkEnv_ok (cons := []) trivial [(findArborSL_key, findArborSL_L)]) Tryd.func23 rfl (by kernel_rfl) (by exact ⟨findArborSL_ok, trivial⟩) (fun x y h => (findArborS_run x).trans h)

def okWSA_vars : Vars := [(0, .val (.ref (.pair (.slice (.pair (.str) (.slice (i64)))) (.slice (.pair (i64) (.pair (i64) (.pair (i64) (i64)))))))), (2, .val (.bool)), (3, .val (i64))]
def okWSA_step : (List ((ByteArray × List (Int))) × List ((Int × Int × Int × Int))) × Bool × Int → Option (LRes × ((List ((ByteArray × List (Int))) × List ((Int × Int × Int × Int))) × Bool × Int)) :=
fun x =>
  br (decide (x.snd.2 < (↑(List.length x.fst.1) : Int)))
    (ob (idx x.fst.1 x.snd.2) fun y =>
      ob (okArborS y) fun y =>
        br (!y) (some (LRes.ret, x.1, false, x.snd.2))
          (ob (idx x.fst.1 x.snd.2) fun y =>
            ob (findArborS (x.1, y.1)) fun y =>
              br (y != x.snd.2) (some (LRes.ret, x.1, false, x.snd.2))
                (some (LRes.next, x.1, x.snd.1, IntKind.i64.wrap (x.snd.2 + (1 : Int))))))
    (some (LRes.out, x.1, x.snd.1, x.snd.2))
def okWSA_fuel : (List ((ByteArray × List (Int))) × List ((Int × Int × Int × Int))) × Bool × Int → Nat := fun s => (s.1.1.length - s.2.2.toNat) + 1
def okWSA : (List ((ByteArray × List (Int))) × List ((Int × Int × Int × Int))) × Bool × Int → Option (Bool × ((List ((ByteArray × List (Int))) × List ((Int × Int × Int × Int))) × Bool × Int)) := fun s => iter okWSA_step (okWSA_fuel s) s
def okWSA_L : LoopC := ⟨okWSA_vars, 0, .two okWSA⟩
noncomputable def okWSA_key : Nat := key (loopAt Tryd.f11 0)
theorem okWSA_stepok (x : okWSA_vars.den) : stepOf (mkEnv [(22, okArborS_con), (23, findArborS_con)] []) Tryd.f11.ntmps okWSA_vars 0 (loopAt Tryd.f11 0) x = okWSA_step x := by kernel_rfl
theorem okWSA_ok : LoopOK Tryd.prog Tryd.f11.ntmps okWSA_L (loopAt Tryd.f11 0)   := iter_loop (n := Tryd.f11.ntmps) (vs := okWSA_vars) (out := 0) (body := loopAt Tryd.f11 0) (mkEnv_ok (cons := [(22, okArborS_con), (23, findArborS_con)]) ⟨okArborS_ok, findArborS_ok, trivial⟩ []) okWSA_step okWSA_fuel (by exact trivial) okWSA_stepok

def okWSM_vars : Vars := [(0, .val (.ref (.pair (.slice (.pair (.str) (.slice (i64)))) (.slice (.pair (i64) (.pair (i64) (.pair (i64) (i64)))))))), (2, .val (.bool)), (4, .val (i64))]
def okWSM_step : (List ((ByteArray × List (Int))) × List ((Int × Int × Int × Int))) × Bool × Int → Option (LRes × ((List ((ByteArray × List (Int))) × List ((Int × Int × Int × Int))) × Bool × Int)) :=
fun x =>
  br (decide (x.snd.2 < (↑(List.length x.fst.2) : Int)))
    (ob (idx x.fst.2 x.snd.2) fun y =>
      ob (meshS (x.1, y.1, y.snd.1, y.snd.snd.1, y.snd.snd.2)) fun y =>
        br (!y) (some (LRes.ret, x.1, false, x.snd.2))
          (ob (idx x.fst.2 x.snd.2) fun y =>
            ob (knownS (x.1, (y.1, y.snd.1, y.snd.snd.1, y.snd.snd.2), x.snd.2)) fun y =>
              br y (some (LRes.ret, x.1, false, x.snd.2))
                (some (LRes.next, x.1, x.snd.1, IntKind.i64.wrap (x.snd.2 + (1 : Int))))))
    (some (LRes.out, x.1, x.snd.1, x.snd.2))
def okWSM_fuel : (List ((ByteArray × List (Int))) × List ((Int × Int × Int × Int))) × Bool × Int → Nat := fun s => (s.1.2.length - s.2.2.toNat) + 1
def okWSM : (List ((ByteArray × List (Int))) × List ((Int × Int × Int × Int))) × Bool × Int → Option (Bool × ((List ((ByteArray × List (Int))) × List ((Int × Int × Int × Int))) × Bool × Int)) := fun s => iter okWSM_step (okWSM_fuel s) s
def okWSM_L : LoopC := ⟨okWSM_vars, 2, .two okWSM⟩
noncomputable def okWSM_key : Nat := key (loopAt Tryd.f11 1)
theorem okWSM_stepok (x : okWSM_vars.den) : stepOf (mkEnv [(24, meshS_con), (25, knownS_con)] []) Tryd.f11.ntmps okWSM_vars 2 (loopAt Tryd.f11 1) x = okWSM_step x := by kernel_rfl
theorem okWSM_ok : LoopOK Tryd.prog Tryd.f11.ntmps okWSM_L (loopAt Tryd.f11 1)   := iter_loop (n := Tryd.f11.ntmps) (vs := okWSM_vars) (out := 2) (body := loopAt Tryd.f11 1) (mkEnv_ok (cons := [(24, meshS_con), (25, knownS_con)]) ⟨meshS_ok, knownS_ok, trivial⟩ []) okWSM_step okWSM_fuel (by exact trivial) okWSM_stepok

def okWS : (List ((ByteArray × List (Int))) × List ((Int × Int × Int × Int))) → Option (Bool) :=
fun x =>
  ob (okWSA (x, false, (0 : Int))) fun r =>
    br r.1
      (ob (okWSM (r.snd.1, r.snd.snd.1, (0 : Int))) fun r =>
        br r.1
          (br (decide ((↑(List.length r.snd.fst.1) : Int) ≤ (16 : Int)))
            (some (decide ((↑(List.length r.snd.fst.2) : Int) ≤ (24 : Int)))) (some false))
          (some r.snd.snd.1))
      (some r.snd.snd.1)
def okWS_con : Con := ⟨[.ref (.pair (.slice (.pair (.str) (.slice (i64)))) (.slice (.pair (i64) (.pair (i64) (.pair (i64) (i64))))))], [.d (.bool)], okWS⟩
theorem okWS_run (x : Dens [.ref (.pair (.slice (.pair (.str) (.slice (i64)))) (.slice (.pair (i64) (.pair (i64) (.pair (i64) (i64))))))]) : runFn (mkEnv [] [(okWSA_key, okWSA_L), (okWSM_key, okWSM_L)]) Tryd.f11 [.ref (.pair (.slice (.pair (.str) (.slice (i64)))) (.slice (.pair (i64) (.pair (i64) (.pair (i64) (i64))))))] [.d (.bool)] x = okWS x := by kernel_rfl
theorem okWS_ok : okWS_con.ok Tryd.prog 11 := fn_ok (con := okWS_con) (mkEnv_ok (cons := []) trivial [(okWSA_key, okWSA_L), (okWSM_key, okWSM_L)]) Tryd.func11 rfl (by kernel_rfl) (by exact ⟨okWSA_ok, okWSM_ok, trivial⟩) (fun x y h => (okWS_run x).trans h)
















end Rx
end Go.Proofs.YtonbgpliomhboaaDoor
