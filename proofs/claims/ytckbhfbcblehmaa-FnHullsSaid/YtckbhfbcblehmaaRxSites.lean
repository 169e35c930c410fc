/- What the functions of RxSites come to, and their contracts. No conditions. -/
import Derived.Test.YtckbhfbcblehmaaRxEnv
namespace Go.Proofs.Ytckbhfbcblehmaa
namespace Rx
open Go

def withinP : Int × Int × Int → Option (Bool) :=
fun x => br (decide (x.snd.1 ≤ x.1)) (some (decide (x.1 ≤ x.snd.2))) (some false)
def withinP_con : Con := ⟨[i64, i64, i64], [.d (.bool)], withinP⟩
theorem withinP_run (x : Dens [i64, i64, i64]) : runFn (mkEnv [] []) Try.f56 [i64, i64, i64] [.d (.bool)] x = withinP x := by kernel_rfl
theorem withinP_ok : withinP_con.ok Try.prog 56 := fn_ok (con := withinP_con) (mkEnv_ok (cons := []) trivial []) Try.func56 rfl (by kernel_rfl) (by exact trivial) (fun x y h => (withinP_run x).trans h)

def inP : Int × Int × Int → Option (Bool) :=
fun x => br (decide (x.snd.1 ≤ x.1)) (some (decide (x.1 ≤ x.snd.2))) (some false)
def inP_con : Con := ⟨[i64, i64, i64], [.d (.bool)], inP⟩
theorem inP_run (x : Dens [i64, i64, i64]) : runFn (mkEnv [] []) Try.f60 [i64, i64, i64] [.d (.bool)] x = inP x := by kernel_rfl
theorem inP_ok : inP_con.ok Try.prog 60 := fn_ok (con := inP_con) (mkEnv_ok (cons := []) trivial []) Try.func60 rfl (by kernel_rfl) (by exact trivial) (fun x y h => (inP_run x).trans h)

def toPointL : (Int × Int) → Option ((Int × Int)) :=
fun x => some (x.1, x.2)
def toPointL_con : Con := ⟨[.pair (i64) (i64)], [.d (.pair (i64) (i64))], toPointL⟩
theorem toPointL_run (x : Dens [.pair (i64) (i64)]) : runFn (mkEnv [] []) Try.f87 [.pair (i64) (i64)] [.d (.pair (i64) (i64))] x = toPointL x := by kernel_rfl
theorem toPointL_ok : toPointL_con.ok Try.prog 87 := fn_ok (con := toPointL_con) (mkEnv_ok (cons := []) trivial []) Try.func87 rfl (by kernel_rfl) (by exact trivial) (fun x y h => (toPointL_run x).trans h)

def toSiteL : (ByteArray × (Int × Int) × Int × Int) → Option ((ByteArray × (Int × Int) × Int × Int)) :=
fun x => ob (toPointL (x.snd.fst.1, x.snd.fst.2)) fun y => some (x.1, (y.1, y.2), x.snd.snd.1, x.snd.snd.2)
def toSiteL_con : Con := ⟨[.pair (.str) (.pair (.pair (i64) (i64)) (.pair (i64) (i64)))], [.d (.pair (.str) (.pair (.pair (i64) (i64)) (.pair (i64) (i64))))], toSiteL⟩
theorem toSiteL_run (x : Dens [.pair (.str) (.pair (.pair (i64) (i64)) (.pair (i64) (i64)))]) : runFn (mkEnv [(87, toPointL_con)] []) Try.f73 [.pair (.str) (.pair (.pair (i64) (i64)) (.pair (i64) (i64)))] [.d (.pair (.str) (.pair (.pair (i64) (i64)) (.pair (i64) (i64))))] x = toSiteL x := by kernel_rfl
theorem toSiteL_ok : toSiteL_con.ok Try.prog 73 := fn_ok (con := toSiteL_con) (mkEnv_ok (cons := [(87, toPointL_con)]) ⟨toPointL_ok, trivial⟩ []) Try.func73 rfl (by kernel_rfl) (by exact trivial) (fun x y h => (toSiteL_run x).trans h)

def toSiteSL_vars : Vars := [(0, .val (.slice (.pair (.str) (.pair (.pair (i64) (i64)) (.pair (i64) (i64)))))), (3, .row 0 59 (.pair (.str) (.pair (.pair (i64) (i64)) (.pair (i64) (i64))))), (4, .val (i64))]
def toSiteSL_step : List ((ByteArray × (Int × Int) × Int × Int)) × List ((ByteArray × (Int × Int) × Int × Int)) × Int → Option (LRes × (List ((ByteArray × (Int × Int) × Int × Int)) × List ((ByteArray × (Int × Int) × Int × Int)) × Int)) :=
fun x =>
  br (decide (x.snd.2 < (↑x.1.length : Int)))
    (ob (idx x.1 x.snd.2) fun y =>
      ob (toSiteL (y.1, (y.snd.fst.1, y.snd.fst.2), y.snd.snd.1, y.snd.snd.2)) fun y =>
        ob (idx x.snd.1 x.snd.2) fun x_1 =>
          ob (List.get?Internal x.snd.1 (Int.toNat x.snd.2)) fun x_2 =>
            some
              (LRes.next, x.1,
                List.set x.snd.1 (Int.toNat x.snd.2) (y.1, (y.snd.fst.1, y.snd.fst.2), y.snd.snd.1, y.snd.snd.2),
                IntKind.i64.wrap (x.snd.2 + (1 : Int))))
    (some (LRes.out, x.1, x.snd.1, x.snd.2))
def toSiteSL_fuel : List ((ByteArray × (Int × Int) × Int × Int)) × List ((ByteArray × (Int × Int) × Int × Int)) × Int → Nat := fun s => (s.1.length - s.2.2.toNat) + 1
def toSiteSL : List ((ByteArray × (Int × Int) × Int × Int)) × List ((ByteArray × (Int × Int) × Int × Int)) × Int → Option (List ((ByteArray × (Int × Int) × Int × Int)) × List ((ByteArray × (Int × Int) × Int × Int)) × Int) := fun s => iterP toSiteSL_step (toSiteSL_fuel s) s
def toSiteSL_L : LoopC := ⟨toSiteSL_vars, 0, .plain toSiteSL⟩
noncomputable def toSiteSL_key : Nat := key (loopAt Try.f43 0)
theorem toSiteSL_stepok (x : toSiteSL_vars.den) : stepOf (mkEnv [(73, toSiteL_con)] []) Try.f43.ntmps toSiteSL_vars 0 (loopAt Try.f43 0) x = toSiteSL_step x := by kernel_rfl
theorem toSiteSL_ok : LoopOK Try.prog Try.f43.ntmps toSiteSL_L (loopAt Try.f43 0)   := iterP_loop (n := Try.f43.ntmps) (vs := toSiteSL_vars) (out := 0) (body := loopAt Try.f43 0) (mkEnv_ok (cons := [(73, toSiteL_con)]) ⟨toSiteL_ok, trivial⟩ []) toSiteSL_step toSiteSL_fuel (by exact trivial) toSiteSL_stepok

def toSiteS : List ((ByteArray × (Int × Int) × Int × Int)) → Option (List ((ByteArray × (Int × Int) × Int × Int))) :=
fun x =>
  br
    (decide
      ((0 : Int) ≤ (↑x.length : Int) ∧ (↑x.length : Int) = (↑x.length : Int) ∧ (↑x.length : Int) ≤ (1048576 : Int)))
    (ob
      (toSiteSL
        (x,
          List.replicate (↑x.length : Int).toNat
            ((⟨⟨[]⟩⟩ : ByteArray), ((0 : Int), (0 : Int)), (0 : Int), (0 : Int)),
          (0 : Int)))
      fun r => some r.snd.1)
    none
def toSiteS_con : Con := ⟨[.slice (.pair (.str) (.pair (.pair (i64) (i64)) (.pair (i64) (i64))))], [.row 59 (.pair (.str) (.pair (.pair (i64) (i64)) (.pair (i64) (i64))))], toSiteS⟩
theorem toSiteS_run (x : Dens [.slice (.pair (.str) (.pair (.pair (i64) (i64)) (.pair (i64) (i64))))]) : runFn (mkEnv [] [(toSiteSL_key, toSiteSL_L)]) Try.f43 [.slice (.pair (.str) (.pair (.pair (i64) (i64)) (.pair (i64) (i64))))] [.row 59 (.pair (.str) (.pair (.pair (i64) (i64)) (.pair (i64) (i64))))] x = toSiteS x := by kernel_rfl
theorem toSiteS_ok : toSiteS_con.ok Try.prog 43 := fn_ok (con := toSiteS_con) (mkEnv_ok (cons := []) trivial [(toSiteSL_key, toSiteSL_L)]) Try.func43 rfl (by kernel_rfl) (by exact ⟨toSiteSL_ok, trivial⟩) (fun x y h => (toSiteS_run x).trans h)

def toPlateD : (Int × Int × Int × Int × List ((ByteArray × (Int × Int) × Int × Int))) → Option ((Int × Int × Int × Int × List ((ByteArray × (Int × Int) × Int × Int)))) :=
fun x => ob (toSiteS x.snd.snd.snd.2) fun y => some (x.1, x.snd.1, x.snd.snd.1, x.snd.snd.snd.1, y)
def toPlateD_con : Con := ⟨[.pair (i64) (.pair (i64) (.pair (i64) (.pair (i64) (.slice (.pair (.str) (.pair (.pair (i64) (i64)) (.pair (i64) (i64))))))))], [.d (.pair (i64) (.pair (i64) (.pair (i64) (.pair (i64) (.slice (.pair (.str) (.pair (.pair (i64) (i64)) (.pair (i64) (i64)))))))))], toPlateD⟩
theorem toPlateD_run (x : Dens [.pair (i64) (.pair (i64) (.pair (i64) (.pair (i64) (.slice (.pair (.str) (.pair (.pair (i64) (i64)) (.pair (i64) (i64))))))))]) : runFn (mkEnv [(43, toSiteS_con)] []) Try.f10 [.pair (i64) (.pair (i64) (.pair (i64) (.pair (i64) (.slice (.pair (.str) (.pair (.pair (i64) (i64)) (.pair (i64) (i64))))))))] [.d (.pair (i64) (.pair (i64) (.pair (i64) (.pair (i64) (.slice (.pair (.str) (.pair (.pair (i64) (i64)) (.pair (i64) (i64)))))))))] x = toPlateD x := by kernel_rfl
theorem toPlateD_ok : toPlateD_con.ok Try.prog 10 := fn_ok (con := toPlateD_con) (mkEnv_ok (cons := [(43, toSiteS_con)]) ⟨toSiteS_ok, trivial⟩ []) Try.func10 rfl (by kernel_rfl) (by exact trivial) (fun x y h => (toPlateD_run x).trans h)

def toPlateR : (Int × Int × Int × Int × List ((ByteArray × (Int × Int) × Int × Int))) → Option ((Int × Int × Int × Int × List ((ByteArray × (Int × Int) × Int × Int)))) :=
fun x => ob (toSiteS x.snd.snd.snd.2) fun y => some (x.1, x.snd.1, x.snd.snd.1, x.snd.snd.snd.1, y)
def toPlateR_con : Con := ⟨[.pair (i64) (.pair (i64) (.pair (i64) (.pair (i64) (.slice (.pair (.str) (.pair (.pair (i64) (i64)) (.pair (i64) (i64))))))))], [.pair (.d (i64)) (.pair (.d (i64)) (.pair (.d (i64)) (.pair (.d (i64)) (.row 59 (.pair (.str) (.pair (.pair (i64) (i64)) (.pair (i64) (i64))))))))], toPlateR⟩
theorem toPlateR_run (x : Dens [.pair (i64) (.pair (i64) (.pair (i64) (.pair (i64) (.slice (.pair (.str) (.pair (.pair (i64) (i64)) (.pair (i64) (i64))))))))]) : runFn (mkEnv [(43, toSiteS_con)] []) Try.f10 [.pair (i64) (.pair (i64) (.pair (i64) (.pair (i64) (.slice (.pair (.str) (.pair (.pair (i64) (i64)) (.pair (i64) (i64))))))))] [.pair (.d (i64)) (.pair (.d (i64)) (.pair (.d (i64)) (.pair (.d (i64)) (.row 59 (.pair (.str) (.pair (.pair (i64) (i64)) (.pair (i64) (i64))))))))] x = toPlateR x := by kernel_rfl
theorem toPlateR_ok : toPlateR_con.ok Try.prog 10 := fn_ok (con := toPlateR_con) (mkEnv_ok (cons := [(43, toSiteS_con)]) ⟨toSiteS_ok, trivial⟩ []) Try.func10 rfl (by kernel_rfl) (by exact trivial) (fun x y h => (toPlateR_run x).trans h)

def szSiteL : (ByteArray × (Int × Int) × Int × Int) × Int → Option (Int) :=
fun x =>
  br (decide (IntKind.i64.wrap (x.2 - (↑(ByteArray.size x.fst.1) : Int)) < (0 : Int))) (some (-1 : Int))
    (some (IntKind.i64.wrap (x.2 - (↑(ByteArray.size x.fst.1) : Int))))
def szSiteL_con : Con := ⟨[.pair (.str) (.pair (.pair (i64) (i64)) (.pair (i64) (i64))), i64], [.d (i64)], szSiteL⟩
theorem szSiteL_run (x : Dens [.pair (.str) (.pair (.pair (i64) (i64)) (.pair (i64) (i64))), i64]) : runFn (mkEnv [] []) Try.f71 [.pair (.str) (.pair (.pair (i64) (i64)) (.pair (i64) (i64))), i64] [.d (i64)] x = szSiteL x := by kernel_rfl
theorem szSiteL_ok : szSiteL_con.ok Try.prog 71 := fn_ok (con := szSiteL_con) (mkEnv_ok (cons := []) trivial []) Try.func71 rfl (by kernel_rfl) (by exact trivial) (fun x y h => (szSiteL_run x).trans h)

def szSiteSL_vars : Vars := [(0, .val (.slice (.pair (.str) (.pair (.pair (i64) (i64)) (.pair (i64) (i64)))))), (1, .val (i64)), (4, .val (i64)), (5, .val (i64))]
def szSiteSL_step : List ((ByteArray × (Int × Int) × Int × Int)) × Int × Int × Int → Option (LRes × (List ((ByteArray × (Int × Int) × Int × Int)) × Int × Int × Int)) :=
fun x =>
  br (decide (x.snd.snd.2 < (↑x.1.length : Int)))
    (ob (idx x.1 x.snd.snd.2) fun y =>
      ob (szSiteL ((y.1, (y.snd.fst.1, y.snd.fst.2), y.snd.snd.1, y.snd.snd.2), x.snd.1)) fun y =>
        br (decide (y < (0 : Int))) (some (LRes.ret, x.1, y, (-1 : Int), x.snd.snd.2))
          (some (LRes.next, x.1, y, x.snd.snd.1, IntKind.i64.wrap (x.snd.snd.2 + (1 : Int)))))
    (some (LRes.out, x.1, x.snd.1, x.snd.snd.1, x.snd.snd.2))
def szSiteSL_fuel : List ((ByteArray × (Int × Int) × Int × Int)) × Int × Int × Int → Nat := fun s => (s.1.length - s.2.2.2.toNat) + 1
def szSiteSL : List ((ByteArray × (Int × Int) × Int × Int)) × Int × Int × Int → Option (Bool × (List ((ByteArray × (Int × Int) × Int × Int)) × Int × Int × Int)) := fun s => iter szSiteSL_step (szSiteSL_fuel s) s
def szSiteSL_L : LoopC := ⟨szSiteSL_vars, 0, .two szSiteSL⟩
noncomputable def szSiteSL_key : Nat := key (loopAt Try.f38 0)
theorem szSiteSL_stepok (x : szSiteSL_vars.den) : stepOf (mkEnv [(71, szSiteL_con)] []) Try.f38.ntmps szSiteSL_vars 0 (loopAt Try.f38 0) x = szSiteSL_step x := by kernel_rfl
theorem szSiteSL_ok : LoopOK Try.prog Try.f38.ntmps szSiteSL_L (loopAt Try.f38 0)   := iter_loop (n := Try.f38.ntmps) (vs := szSiteSL_vars) (out := 0) (body := loopAt Try.f38 0) (mkEnv_ok (cons := [(71, szSiteL_con)]) ⟨szSiteL_ok, trivial⟩ []) szSiteSL_step szSiteSL_fuel (by exact trivial) szSiteSL_stepok

def szSiteS : List ((ByteArray × (Int × Int) × Int × Int)) × Int → Option (Int) :=
fun x =>
  br (decide (IntKind.i64.wrap (x.2 - (↑x.1.length : Int)) < (0 : Int))) (some (-1 : Int))
    (ob (szSiteSL (x.1, IntKind.i64.wrap (x.2 - (↑x.1.length : Int)), (0 : Int), (0 : Int))) fun r =>
      br r.1 (some r.snd.snd.1) (some r.snd.snd.snd.1))
def szSiteS_con : Con := ⟨[.slice (.pair (.str) (.pair (.pair (i64) (i64)) (.pair (i64) (i64)))), i64], [.d (i64)], szSiteS⟩
theorem szSiteS_run (x : Dens [.slice (.pair (.str) (.pair (.pair (i64) (i64)) (.pair (i64) (i64)))), i64]) : runFn (mkEnv [] [(szSiteSL_key, szSiteSL_L)]) Try.f38 [.slice (.pair (.str) (.pair (.pair (i64) (i64)) (.pair (i64) (i64)))), i64] [.d (i64)] x = szSiteS x := by kernel_rfl
theorem szSiteS_ok : szSiteS_con.ok Try.prog 38 := fn_ok (con := szSiteS_con) (mkEnv_ok (cons := []) trivial [(szSiteSL_key, szSiteSL_L)]) Try.func38 rfl (by kernel_rfl) (by exact ⟨szSiteSL_ok, trivial⟩) (fun x y h => (szSiteS_run x).trans h)

def szPlateL : (Int × Int × Int × Int × List ((ByteArray × (Int × Int) × Int × Int))) × Int → Option (Int) :=
fun x => ob (szSiteS (x.fst.snd.snd.snd.2, x.2)) fun y => br (decide (y < (0 : Int))) (some (-1 : Int)) (some y)
def szPlateL_con : Con := ⟨[.pair (i64) (.pair (i64) (.pair (i64) (.pair (i64) (.slice (.pair (.str) (.pair (.pair (i64) (i64)) (.pair (i64) (i64)))))))), i64], [.d (i64)], szPlateL⟩
theorem szPlateL_run (x : Dens [.pair (i64) (.pair (i64) (.pair (i64) (.pair (i64) (.slice (.pair (.str) (.pair (.pair (i64) (i64)) (.pair (i64) (i64)))))))), i64]) : runFn (mkEnv [(38, szSiteS_con)] []) Try.f8 [.pair (i64) (.pair (i64) (.pair (i64) (.pair (i64) (.slice (.pair (.str) (.pair (.pair (i64) (i64)) (.pair (i64) (i64)))))))), i64] [.d (i64)] x = szPlateL x := by kernel_rfl
theorem szPlateL_ok : szPlateL_con.ok Try.prog 8 := fn_ok (con := szPlateL_con) (mkEnv_ok (cons := [(38, szSiteS_con)]) ⟨szSiteS_ok, trivial⟩ []) Try.func8 rfl (by kernel_rfl) (by exact trivial) (fun x y h => (szPlateL_run x).trans h)

def eqPointL : (Int × Int) × (Int × Int) → Option (Bool) :=
fun x => br (x.fst.1 != x.snd.1) (some false) (br (x.fst.2 != x.snd.2) (some false) (some true))
def eqPointL_con : Con := ⟨[.pair (i64) (i64), .pair (i64) (i64)], [.d (.bool)], eqPointL⟩
theorem eqPointL_run (x : Dens [.pair (i64) (i64), .pair (i64) (i64)]) : runFn (mkEnv [] []) Try.f88 [.pair (i64) (i64), .pair (i64) (i64)] [.d (.bool)] x = eqPointL x := by kernel_rfl
theorem eqPointL_ok : eqPointL_con.ok Try.prog 88 := fn_ok (con := eqPointL_con) (mkEnv_ok (cons := []) trivial []) Try.func88 rfl (by kernel_rfl) (by exact trivial) (fun x y h => (eqPointL_run x).trans h)

def eqSiteL : (ByteArray × (Int × Int) × Int × Int) × (ByteArray × (Int × Int) × Int × Int) → Option (Bool) :=
fun x =>
  br (!ByteArray.toList x.fst.1 == ByteArray.toList x.snd.1) (some false)
    (ob (eqPointL ((x.fst.snd.fst.1, x.fst.snd.fst.2), x.snd.snd.fst.1, x.snd.snd.fst.2)) fun y =>
      br (!y) (some false)
        (br (x.fst.snd.snd.1 != x.snd.snd.snd.1) (some false)
          (br (x.fst.snd.snd.2 != x.snd.snd.snd.2) (some false) (some true))))
def eqSiteL_con : Con := ⟨[.pair (.str) (.pair (.pair (i64) (i64)) (.pair (i64) (i64))), .pair (.str) (.pair (.pair (i64) (i64)) (.pair (i64) (i64)))], [.d (.bool)], eqSiteL⟩
theorem eqSiteL_run (x : Dens [.pair (.str) (.pair (.pair (i64) (i64)) (.pair (i64) (i64))), .pair (.str) (.pair (.pair (i64) (i64)) (.pair (i64) (i64)))]) : runFn (mkEnv [(88, eqPointL_con)] []) Try.f75 [.pair (.str) (.pair (.pair (i64) (i64)) (.pair (i64) (i64))), .pair (.str) (.pair (.pair (i64) (i64)) (.pair (i64) (i64)))] [.d (.bool)] x = eqSiteL x := by kernel_rfl
theorem eqSiteL_ok : eqSiteL_con.ok Try.prog 75 := fn_ok (con := eqSiteL_con) (mkEnv_ok (cons := [(88, eqPointL_con)]) ⟨eqPointL_ok, trivial⟩ []) Try.func75 rfl (by kernel_rfl) (by exact trivial) (fun x y h => (eqSiteL_run x).trans h)

def eqSiteSL_vars : Vars := [(0, .val (.slice (.pair (.str) (.pair (.pair (i64) (i64)) (.pair (i64) (i64)))))), (1, .val (.slice (.pair (.str) (.pair (.pair (i64) (i64)) (.pair (i64) (i64)))))), (4, .val (.bool)), (5, .val (i64))]
def eqSiteSL_step : List ((ByteArray × (Int × Int) × Int × Int)) × List ((ByteArray × (Int × Int) × Int × Int)) × Bool × Int → Option (LRes × (List ((ByteArray × (Int × Int) × Int × Int)) × List ((ByteArray × (Int × Int) × Int × Int)) × Bool × Int)) :=
fun x =>
  br (decide (x.snd.snd.2 < (↑x.1.length : Int)))
    (ob (idx x.1 x.snd.snd.2) fun y =>
      ob (idx x.snd.1 x.snd.snd.2) fun y_1 =>
        ob
          (eqSiteL
            ((y.1, (y.snd.fst.1, y.snd.fst.2), y.snd.snd.1, y.snd.snd.2), y_1.1, (y_1.snd.fst.1, y_1.snd.fst.2),
              y_1.snd.snd.1, y_1.snd.snd.2))
          fun y =>
          br (!y) (some (LRes.ret, x.1, x.snd.1, false, x.snd.snd.2))
            (some (LRes.next, x.1, x.snd.1, x.snd.snd.1, IntKind.i64.wrap (x.snd.snd.2 + (1 : Int)))))
    (some (LRes.out, x.1, x.snd.1, x.snd.snd.1, x.snd.snd.2))
def eqSiteSL_fuel : List ((ByteArray × (Int × Int) × Int × Int)) × List ((ByteArray × (Int × Int) × Int × Int)) × Bool × Int → Nat := fun s => (s.1.length - s.2.2.2.toNat) + 1
def eqSiteSL : List ((ByteArray × (Int × Int) × Int × Int)) × List ((ByteArray × (Int × Int) × Int × Int)) × Bool × Int → Option (Bool × (List ((ByteArray × (Int × Int) × Int × Int)) × List ((ByteArray × (Int × Int) × Int × Int)) × Bool × Int)) := fun s => iter eqSiteSL_step (eqSiteSL_fuel s) s
def eqSiteSL_L : LoopC := ⟨eqSiteSL_vars, 0, .two eqSiteSL⟩
noncomputable def eqSiteSL_key : Nat := key (loopAt Try.f45 0)
theorem eqSiteSL_stepok (x : eqSiteSL_vars.den) : stepOf (mkEnv [(75, eqSiteL_con)] []) Try.f45.ntmps eqSiteSL_vars 0 (loopAt Try.f45 0) x = eqSiteSL_step x := by kernel_rfl
theorem eqSiteSL_ok : LoopOK Try.prog Try.f45.ntmps eqSiteSL_L (loopAt Try.f45 0)   := iter_loop (n := Try.f45.ntmps) (vs := eqSiteSL_vars) (out := 0) (body := loopAt Try.f45 0) (mkEnv_ok (cons := [(75, eqSiteL_con)]) ⟨eqSiteL_ok, trivial⟩ []) eqSiteSL_step eqSiteSL_fuel (by exact trivial) eqSiteSL_stepok

def eqSiteS : List ((ByteArray × (Int × Int) × Int × Int)) × List ((ByteArray × (Int × Int) × Int × Int)) → Option (Bool) :=
fun x =>
  br ((↑x.1.length : Int) != (↑x.2.length : Int)) (some false)
    (ob (eqSiteSL (x.1, x.2, false, (0 : Int))) fun r => br r.1 (some true) (some r.snd.snd.snd.1))
def eqSiteS_con : Con := ⟨[.slice (.pair (.str) (.pair (.pair (i64) (i64)) (.pair (i64) (i64)))), .slice (.pair (.str) (.pair (.pair (i64) (i64)) (.pair (i64) (i64))))], [.d (.bool)], eqSiteS⟩
theorem eqSiteS_run (x : Dens [.slice (.pair (.str) (.pair (.pair (i64) (i64)) (.pair (i64) (i64)))), .slice (.pair (.str) (.pair (.pair (i64) (i64)) (.pair (i64) (i64))))]) : runFn (mkEnv [] [(eqSiteSL_key, eqSiteSL_L)]) Try.f45 [.slice (.pair (.str) (.pair (.pair (i64) (i64)) (.pair (i64) (i64)))), .slice (.pair (.str) (.pair (.pair (i64) (i64)) (.pair (i64) (i64))))] [.d (.bool)] x = eqSiteS x := by kernel_rfl
theorem eqSiteS_ok : eqSiteS_con.ok Try.prog 45 := fn_ok (con := eqSiteS_con) (mkEnv_ok (cons := []) trivial [(eqSiteSL_key, eqSiteSL_L)]) Try.func45 rfl (by kernel_rfl) (by exact ⟨eqSiteSL_ok, trivial⟩) (fun x y h => (eqSiteS_run x).trans h)

def eqPlateL : (Int × Int × Int × Int × List ((ByteArray × (Int × Int) × Int × Int))) × (Int × Int × Int × Int × List ((ByteArray × (Int × Int) × Int × Int))) → Option (Bool) :=
fun x =>
  br (x.fst.1 != x.snd.1) (some false)
    (br (x.fst.snd.1 != x.snd.snd.1) (some false)
      (br (x.fst.snd.snd.1 != x.snd.snd.snd.1) (some false)
        (br (x.fst.snd.snd.snd.1 != x.snd.snd.snd.snd.1) (some false)
          (ob (eqSiteS (x.fst.snd.snd.snd.2, x.snd.snd.snd.snd.2)) fun y => br (!y) (some false) (some true)))))
def eqPlateL_con : Con := ⟨[.pair (i64) (.pair (i64) (.pair (i64) (.pair (i64) (.slice (.pair (.str) (.pair (.pair (i64) (i64)) (.pair (i64) (i64)))))))), .pair (i64) (.pair (i64) (.pair (i64) (.pair (i64) (.slice (.pair (.str) (.pair (.pair (i64) (i64)) (.pair (i64) (i64))))))))], [.d (.bool)], eqPlateL⟩
theorem eqPlateL_run (x : Dens [.pair (i64) (.pair (i64) (.pair (i64) (.pair (i64) (.slice (.pair (.str) (.pair (.pair (i64) (i64)) (.pair (i64) (i64)))))))), .pair (i64) (.pair (i64) (.pair (i64) (.pair (i64) (.slice (.pair (.str) (.pair (.pair (i64) (i64)) (.pair (i64) (i64))))))))]) : runFn (mkEnv [(45, eqSiteS_con)] []) Try.f12 [.pair (i64) (.pair (i64) (.pair (i64) (.pair (i64) (.slice (.pair (.str) (.pair (.pair (i64) (i64)) (.pair (i64) (i64)))))))), .pair (i64) (.pair (i64) (.pair (i64) (.pair (i64) (.slice (.pair (.str) (.pair (.pair (i64) (i64)) (.pair (i64) (i64))))))))] [.d (.bool)] x = eqPlateL x := by kernel_rfl
theorem eqPlateL_ok : eqPlateL_con.ok Try.prog 12 := fn_ok (con := eqPlateL_con) (mkEnv_ok (cons := [(45, eqSiteS_con)]) ⟨eqSiteS_ok, trivial⟩ []) Try.func12 rfl (by kernel_rfl) (by exact trivial) (fun x y h => (eqPlateL_run x).trans h)

def sameSL_vars : Vars := [(2, .box 0 30 (.pair (i64) (.pair (i64) (.pair (i64) (.pair (i64) (.slice (.pair (.str) (.pair (.pair (i64) (i64)) (.pair (i64) (i64)))))))))), (3, .box 0 30 (.pair (i64) (.pair (i64) (.pair (i64) (.pair (i64) (.slice (.pair (.str) (.pair (.pair (i64) (i64)) (.pair (i64) (i64)))))))))), (4, .val (.bool)), (5, .val (i64))]
def sameSL_step : (Int × Int × Int × Int × List ((ByteArray × (Int × Int) × Int × Int))) × (Int × Int × Int × Int × List ((ByteArray × (Int × Int) × Int × Int))) × Bool × Int → Option (LRes × ((Int × Int × Int × Int × List ((ByteArray × (Int × Int) × Int × Int))) × (Int × Int × Int × Int × List ((ByteArray × (Int × Int) × Int × Int))) × Bool × Int)) :=
fun x =>
  br (decide (x.snd.snd.2 < (↑(List.length x.fst.snd.snd.snd.2) : Int)))
    (ob (idx x.fst.snd.snd.snd.2 x.snd.snd.2) fun y =>
      ob (idx x.snd.fst.snd.snd.snd.2 x.snd.snd.2) fun y_1 =>
        br
          (!(y.1 == y_1.1 &&
              (y.snd.fst.1 == y_1.snd.fst.1 &&
                (y.snd.fst.2 == y_1.snd.fst.2 && (y.snd.snd.1 == y_1.snd.snd.1 && y.snd.snd.2 == y_1.snd.snd.2)))))
          (some
            (LRes.ret, (x.fst.1, x.fst.snd.1, x.fst.snd.snd.1, x.fst.snd.snd.snd.1, x.fst.snd.snd.snd.2),
              (x.snd.fst.1, x.snd.fst.snd.1, x.snd.fst.snd.snd.1, x.snd.fst.snd.snd.snd.1, x.snd.fst.snd.snd.snd.2),
              false, x.snd.snd.2))
          (some
            (LRes.next, (x.fst.1, x.fst.snd.1, x.fst.snd.snd.1, x.fst.snd.snd.snd.1, x.fst.snd.snd.snd.2),
              (x.snd.fst.1, x.snd.fst.snd.1, x.snd.fst.snd.snd.1, x.snd.fst.snd.snd.snd.1, x.snd.fst.snd.snd.snd.2),
              x.snd.snd.1, IntKind.i64.wrap (x.snd.snd.2 + (1 : Int)))))
    (some
      (LRes.out, (x.fst.1, x.fst.snd.1, x.fst.snd.snd.1, x.fst.snd.snd.snd.1, x.fst.snd.snd.snd.2),
        (x.snd.fst.1, x.snd.fst.snd.1, x.snd.fst.snd.snd.1, x.snd.fst.snd.snd.snd.1, x.snd.fst.snd.snd.snd.2),
        x.snd.snd.1, x.snd.snd.2))
def sameSL_fuel : (Int × Int × Int × Int × List ((ByteArray × (Int × Int) × Int × Int))) × (Int × Int × Int × Int × List ((ByteArray × (Int × Int) × Int × Int))) × Bool × Int → Nat := fun s => (s.1.2.2.2.2.length - s.2.2.2.toNat) + 1
def sameSL : (Int × Int × Int × Int × List ((ByteArray × (Int × Int) × Int × Int))) × (Int × Int × Int × Int × List ((ByteArray × (Int × Int) × Int × Int))) × Bool × Int → Option (Bool × ((Int × Int × Int × Int × List ((ByteArray × (Int × Int) × Int × Int))) × (Int × Int × Int × Int × List ((ByteArray × (Int × Int) × Int × Int))) × Bool × Int)) := fun s => iter sameSL_step (sameSL_fuel s) s
def sameSL_L : LoopC := ⟨sameSL_vars, 0, .two sameSL⟩
noncomputable def sameSL_key : Nat := key (loopAt Try.f29 0)
theorem sameSL_stepok (x : sameSL_vars.den) : stepOf (mkEnv [] []) Try.f29.ntmps sameSL_vars 0 (loopAt Try.f29 0) x = sameSL_step x := by kernel_rfl
theorem sameSL_ok : LoopOK Try.prog Try.f29.ntmps sameSL_L (loopAt Try.f29 0)   := iter_loop (n := Try.f29.ntmps) (vs := sameSL_vars) (out := 0) (body := loopAt Try.f29 0) (mkEnv_ok (cons := []) trivial []) sameSL_step sameSL_fuel (by exact trivial) sameSL_stepok

def sameS : (Int × Int × Int × Int × List ((ByteArray × (Int × Int) × Int × Int))) × (Int × Int × Int × Int × List ((ByteArray × (Int × Int) × Int × Int))) → Option (Bool) :=
fun x =>
  br (x.fst.1 != x.snd.1) (some false)
    (br (x.fst.snd.1 != x.snd.snd.1) (some false)
      (br (x.fst.snd.snd.1 != x.snd.snd.snd.1) (some false)
        (br (x.fst.snd.snd.snd.1 != x.snd.snd.snd.snd.1) (some false)
          (br ((↑(List.length x.fst.snd.snd.snd.2) : Int) != (↑(List.length x.snd.snd.snd.snd.2) : Int)) (some false)
            (ob
              (sameSL
                ((x.fst.1, x.fst.snd.1, x.fst.snd.snd.1, x.fst.snd.snd.snd.1, x.fst.snd.snd.snd.2),
                  (x.snd.1, x.snd.snd.1, x.snd.snd.snd.1, x.snd.snd.snd.snd.1, x.snd.snd.snd.snd.2), false, (0 : Int)))
              fun r => br r.1 (some true) (some r.snd.snd.snd.1))))))
def sameS_con : Con := ⟨[.pair (i64) (.pair (i64) (.pair (i64) (.pair (i64) (.slice (.pair (.str) (.pair (.pair (i64) (i64)) (.pair (i64) (i64)))))))), .pair (i64) (.pair (i64) (.pair (i64) (.pair (i64) (.slice (.pair (.str) (.pair (.pair (i64) (i64)) (.pair (i64) (i64))))))))], [.d (.bool)], sameS⟩
theorem sameS_run (x : Dens [.pair (i64) (.pair (i64) (.pair (i64) (.pair (i64) (.slice (.pair (.str) (.pair (.pair (i64) (i64)) (.pair (i64) (i64)))))))), .pair (i64) (.pair (i64) (.pair (i64) (.pair (i64) (.slice (.pair (.str) (.pair (.pair (i64) (i64)) (.pair (i64) (i64))))))))]) : runFn (mkEnv [] [(sameSL_key, sameSL_L)]) Try.f29 [.pair (i64) (.pair (i64) (.pair (i64) (.pair (i64) (.slice (.pair (.str) (.pair (.pair (i64) (i64)) (.pair (i64) (i64)))))))), .pair (i64) (.pair (i64) (.pair (i64) (.pair (i64) (.slice (.pair (.str) (.pair (.pair (i64) (i64)) (.pair (i64) (i64))))))))] [.d (.bool)] x = sameS x := by kernel_rfl
theorem sameS_ok : sameS_con.ok Try.prog 29 := fn_ok (con := sameS_con) (mkEnv_ok (cons := []) trivial [(sameSL_key, sameSL_L)]) Try.func29 rfl (by kernel_rfl) (by exact ⟨sameSL_ok, trivial⟩) (fun x y h => (sameS_run x).trans h)

def nameIL_vars : Vars := [(2, .val (.bool)), (16, .val (.slice (.int .u8))), (17, .val (i64)), (18, .val (i64))]
def nameIL_step : Bool × List (Int) × Int × Int → Option (LRes × (Bool × List (Int) × Int × Int)) :=
fun x =>
  br (decide (x.snd.snd.2 < x.snd.snd.1))
    (ob (idx x.snd.1 x.snd.snd.2) fun y =>
      br (decide ((97 : Int) ≤ y))
        (br (decide ((48 : Int) ≤ y))
          (br (decide (y ≤ (57 : Int)))
            (br (!decide (y ≤ (122 : Int)))
              (br (x.snd.snd.2 == (0 : Int)) (some (LRes.ret, false, x.snd.1, x.snd.snd.1, x.snd.snd.2))
                (some (LRes.next, x.1, x.snd.1, x.snd.snd.1, IntKind.i64.wrap (x.snd.snd.2 + (1 : Int)))))
              (some (LRes.next, x.1, x.snd.1, x.snd.snd.1, IntKind.i64.wrap (x.snd.snd.2 + (1 : Int)))))
            (br (!decide (y ≤ (122 : Int)))
              (br (x.snd.snd.2 == (0 : Int)) (some (LRes.ret, false, x.snd.1, x.snd.snd.1, x.snd.snd.2))
                (br (!y == (45 : Int)) (some (LRes.ret, false, x.snd.1, x.snd.snd.1, x.snd.snd.2))
                  (some (LRes.next, x.1, x.snd.1, x.snd.snd.1, IntKind.i64.wrap (x.snd.snd.2 + (1 : Int))))))
              (some (LRes.next, x.1, x.snd.1, x.snd.snd.1, IntKind.i64.wrap (x.snd.snd.2 + (1 : Int))))))
          (br (!decide (y ≤ (122 : Int)))
            (br (x.snd.snd.2 == (0 : Int)) (some (LRes.ret, false, x.snd.1, x.snd.snd.1, x.snd.snd.2))
              (br (!y == (45 : Int)) (some (LRes.ret, false, x.snd.1, x.snd.snd.1, x.snd.snd.2))
                (some (LRes.next, x.1, x.snd.1, x.snd.snd.1, IntKind.i64.wrap (x.snd.snd.2 + (1 : Int))))))
            (some (LRes.next, x.1, x.snd.1, x.snd.snd.1, IntKind.i64.wrap (x.snd.snd.2 + (1 : Int))))))
        (br (decide ((48 : Int) ≤ y))
          (br (decide (y ≤ (57 : Int)))
            (br (x.snd.snd.2 == (0 : Int)) (some (LRes.ret, false, x.snd.1, x.snd.snd.1, x.snd.snd.2))
              (some (LRes.next, x.1, x.snd.1, x.snd.snd.1, IntKind.i64.wrap (x.snd.snd.2 + (1 : Int)))))
            (br (x.snd.snd.2 == (0 : Int)) (some (LRes.ret, false, x.snd.1, x.snd.snd.1, x.snd.snd.2))
              (br (!y == (45 : Int)) (some (LRes.ret, false, x.snd.1, x.snd.snd.1, x.snd.snd.2))
                (some (LRes.next, x.1, x.snd.1, x.snd.snd.1, IntKind.i64.wrap (x.snd.snd.2 + (1 : Int)))))))
          (br (x.snd.snd.2 == (0 : Int)) (some (LRes.ret, false, x.snd.1, x.snd.snd.1, x.snd.snd.2))
            (br (!y == (45 : Int)) (some (LRes.ret, false, x.snd.1, x.snd.snd.1, x.snd.snd.2))
              (some (LRes.next, x.1, x.snd.1, x.snd.snd.1, IntKind.i64.wrap (x.snd.snd.2 + (1 : Int))))))))
    (some (LRes.out, x.1, x.snd.1, x.snd.snd.1, x.snd.snd.2))
def nameIL_fuel : Bool × List (Int) × Int × Int → Nat := fun s => (s.2.2.1 - s.2.2.2).toNat + 1
def nameIL : Bool × List (Int) × Int × Int → Option (Bool × (Bool × List (Int) × Int × Int)) := fun s => iter nameIL_step (nameIL_fuel s) s
def nameIL_L : LoopC := ⟨nameIL_vars, 0, .two nameIL⟩
noncomputable def nameIL_key : Nat := key (loopAt Try.f83 0)
theorem nameIL_stepok (x : nameIL_vars.den) : stepOf (mkEnv [] []) Try.f83.ntmps nameIL_vars 0 (loopAt Try.f83 0) x = nameIL_step x := by kernel_rfl
theorem nameIL_ok : LoopOK Try.prog Try.f83.ntmps nameIL_L (loopAt Try.f83 0)   := iter_loop (n := Try.f83.ntmps) (vs := nameIL_vars) (out := 0) (body := loopAt Try.f83 0) (mkEnv_ok (cons := []) trivial []) nameIL_step nameIL_fuel (by exact trivial) nameIL_stepok

def nameI : ByteArray → Option (Bool) :=
fun x =>
  br (decide ((↑x.size : Int) < (1 : Int))) (some false)
    (br (decide ((12 : Int) < (↑x.size : Int))) (some false)
      (br (decide (x.size ≤ (4294967296 : Nat)))
        (ob (nameIL (false, bytesIn x, (↑(bytesIn x).length : Int), (0 : Int))) fun r =>
          br r.1 (some true) (some r.snd.1))
        none))
def nameI_con : Con := ⟨[.str], [.d (.bool)], nameI⟩
theorem nameI_run (x : Dens [.str]) : runFn (mkEnv [] [(nameIL_key, nameIL_L)]) Try.f83 [.str] [.d (.bool)] x = nameI x := by kernel_rfl
theorem nameI_ok : nameI_con.ok Try.prog 83 := fn_ok (con := nameI_con) (mkEnv_ok (cons := []) trivial [(nameIL_key, nameIL_L)]) Try.func83 rfl (by kernel_rfl) (by exact ⟨nameIL_ok, trivial⟩) (fun x y h => (nameI_run x).trans h)

def smallS : Int → Option (Bool) :=
fun x => br (decide ((97 : Int) ≤ x)) (some (decide (x ≤ (122 : Int)))) (some false)
def smallS_con : Con := ⟨[.int .u8], [.d (.bool)], smallS⟩
theorem smallS_run (x : Dens [.int .u8]) : runFn (mkEnv [] []) Try.f85 [.int .u8] [.d (.bool)] x = smallS x := by kernel_rfl
theorem smallS_ok : smallS_con.ok Try.prog 85 := fn_ok (con := smallS_con) (mkEnv_ok (cons := []) trivial []) Try.func85 rfl (by kernel_rfl) (by exact trivial) (fun x y h => (smallS_run x).trans h)

def digitS : Int → Option (Bool) :=
fun x => br (decide ((48 : Int) ≤ x)) (some (decide (x ≤ (57 : Int)))) (some false)
def digitS_con : Con := ⟨[.int .u8], [.d (.bool)], digitS⟩
theorem digitS_run (x : Dens [.int .u8]) : runFn (mkEnv [] []) Try.f86 [.int .u8] [.d (.bool)] x = digitS x := by kernel_rfl
theorem digitS_ok : digitS_con.ok Try.prog 86 := fn_ok (con := digitS_con) (mkEnv_ok (cons := []) trivial []) Try.func86 rfl (by kernel_rfl) (by exact trivial) (fun x y h => (digitS_run x).trans h)

def nameSL_vars : Vars := [(0, .val (.str)), (2, .val (.bool)), (3, .val (i64))]
def nameSL_step : ByteArray × Bool × Int → Option (LRes × (ByteArray × Bool × Int)) :=
fun x =>
  br (decide (x.snd.2 < (↑x.1.size : Int)))
    (ob (sidx x.1 x.snd.2) fun b =>
      ob (smallS (↑b.toNat : Int)) fun y =>
        br (!y)
          (ob (sidx x.1 x.snd.2) fun b =>
            ob (digitS (↑b.toNat : Int)) fun y =>
              br (!y)
                (ob (sidx x.1 x.snd.2) fun b =>
                  br ((↑b.toNat : Int) != (45 : Int)) (some (LRes.ret, x.1, false, x.snd.2))
                    (some (LRes.next, x.1, x.snd.1, IntKind.i64.wrap (x.snd.2 + (1 : Int)))))
                (some (LRes.next, x.1, x.snd.1, IntKind.i64.wrap (x.snd.2 + (1 : Int)))))
          (some (LRes.next, x.1, x.snd.1, IntKind.i64.wrap (x.snd.2 + (1 : Int)))))
    (some (LRes.out, x.1, x.snd.1, x.snd.2))
def nameSL_fuel : ByteArray × Bool × Int → Nat := fun s => (s.1.size - s.2.2.toNat) + 1
def nameSL : ByteArray × Bool × Int → Option (Bool × (ByteArray × Bool × Int)) := fun s => iter nameSL_step (nameSL_fuel s) s
def nameSL_L : LoopC := ⟨nameSL_vars, 0, .two nameSL⟩
noncomputable def nameSL_key : Nat := key (loopAt Try.f72 0)
theorem nameSL_stepok (x : nameSL_vars.den) : stepOf (mkEnv [(85, smallS_con), (86, digitS_con)] []) Try.f72.ntmps nameSL_vars 0 (loopAt Try.f72 0) x = nameSL_step x := by kernel_rfl
theorem nameSL_ok : LoopOK Try.prog Try.f72.ntmps nameSL_L (loopAt Try.f72 0)   := iter_loop (n := Try.f72.ntmps) (vs := nameSL_vars) (out := 0) (body := loopAt Try.f72 0) (mkEnv_ok (cons := [(85, smallS_con), (86, digitS_con)]) ⟨smallS_ok, digitS_ok, trivial⟩ []) nameSL_step nameSL_fuel (by exact trivial) nameSL_stepok

def nameS : ByteArray → Option (Bool) :=
fun x =>
  br (x.toList == (⟨⟨[]⟩⟩ : ByteArray).toList) (some false)
    (br (decide ((12 : Int) < (↑x.size : Int))) (some false)
      (ob (sidx x (0 : Int)) fun b =>
        ob (smallS (↑b.toNat : Int)) fun y =>
          br (!y) (some false) (ob (nameSL (x, false, (0 : Int))) fun r => br r.1 (some true) (some r.snd.snd.1))))
def nameS_con : Con := ⟨[.str], [.d (.bool)], nameS⟩
theorem nameS_run (x : Dens [.str]) : runFn (mkEnv [(85, smallS_con)] [(nameSL_key, nameSL_L)]) Try.f72 [.str] [.d (.bool)] x = nameS x := by kernel_rfl
theorem nameS_ok : nameS_con.ok Try.prog 72 := fn_ok (con := nameS_con) (mkEnv_ok (cons := [(85, smallS_con)]) ⟨smallS_ok, trivial⟩ [(nameSL_key, nameSL_L)]) Try.func72 rfl (by kernel_rfl) (by exact ⟨nameSL_ok, trivial⟩) (fun x y h => (nameS_run x).trans h)

def validSiteI : (Int × Int × Int × Int × List ((ByteArray × (Int × Int) × Int × Int))) × (ByteArray × (Int × Int) × Int × Int) → Option (Bool) :=
fun x =>
  ob (nameI x.snd.1) fun y =>
    br y
      (ob (withinP (x.snd.snd.fst.1, (0 : Int), x.fst.1)) fun y =>
        br y
          (ob (withinP (x.snd.snd.fst.2, (0 : Int), x.fst.snd.1)) fun y =>
            br y
              (ob (withinP (x.snd.snd.snd.2, (1 : Int), (1000 : Int))) fun y =>
                br y (ob (withinP (x.snd.snd.snd.1, x.snd.snd.snd.2, (10000 : Int))) fun y => some y) (some false))
              (some false))
          (some false))
      (some false)
def validSiteI_con : Con := ⟨[.pair (i64) (.pair (i64) (.pair (i64) (.pair (i64) (.slice (.pair (.str) (.pair (.pair (i64) (i64)) (.pair (i64) (i64)))))))), .pair (.str) (.pair (.pair (i64) (i64)) (.pair (i64) (i64)))], [.d (.bool)], validSiteI⟩
theorem validSiteI_run (x : Dens [.pair (i64) (.pair (i64) (.pair (i64) (.pair (i64) (.slice (.pair (.str) (.pair (.pair (i64) (i64)) (.pair (i64) (i64)))))))), .pair (.str) (.pair (.pair (i64) (i64)) (.pair (i64) (i64)))]) : runFn (mkEnv [(83, nameI_con), (56, withinP_con)] []) Try.f64 [.pair (i64) (.pair (i64) (.pair (i64) (.pair (i64) (.slice (.pair (.str) (.pair (.pair (i64) (i64)) (.pair (i64) (i64)))))))), .pair (.str) (.pair (.pair (i64) (i64)) (.pair (i64) (i64)))] [.d (.bool)] x = validSiteI x := by kernel_rfl
theorem validSiteI_ok : validSiteI_con.ok Try.prog 64 := fn_ok (con := validSiteI_con) (mkEnv_ok (cons := [(83, nameI_con), (56, withinP_con)]) ⟨nameI_ok, withinP_ok, trivial⟩ []) Try.func64 rfl (by kernel_rfl) (by exact trivial) (fun x y h => (validSiteI_run x).trans h)

def namedI : (ByteArray × (Int × Int) × Int × Int) × (ByteArray × (Int × Int) × Int × Int) → Option (Bool) :=
fun x => some (ByteArray.toList x.fst.1 == ByteArray.toList x.snd.1)
def namedI_con : Con := ⟨[.pair (.str) (.pair (.pair (i64) (i64)) (.pair (i64) (i64))), .ref (.pair (.str) (.pair (.pair (i64) (i64)) (.pair (i64) (i64))))], [.d (.bool)], namedI⟩
theorem namedI_run (x : Dens [.pair (.str) (.pair (.pair (i64) (i64)) (.pair (i64) (i64))), .ref (.pair (.str) (.pair (.pair (i64) (i64)) (.pair (i64) (i64))))]) : runFn (mkEnv [] []) Try.f66 [.pair (.str) (.pair (.pair (i64) (i64)) (.pair (i64) (i64))), .ref (.pair (.str) (.pair (.pair (i64) (i64)) (.pair (i64) (i64))))] [.d (.bool)] x = namedI x := by kernel_rfl
theorem namedI_ok : namedI_con.ok Try.prog 66 := fn_ok (con := namedI_con) (mkEnv_ok (cons := []) trivial []) Try.func66 rfl (by kernel_rfl) (by exact trivial) (fun x y h => (namedI_run x).trans h)

def findSiteL_vars : Vars := [(0, .val (.slice (.pair (.str) (.pair (.pair (i64) (i64)) (.pair (i64) (i64)))))), (1, .val (.clo 66 (.pair (.str) (.pair (.pair (i64) (i64)) (.pair (i64) (i64)))))), (4, .val (i64)), (7, .val (i64)), (8, .val (i64))]
def findSiteL_step : List ((ByteArray × (Int × Int) × Int × Int)) × (ByteArray × (Int × Int) × Int × Int) × Int × Int × Int → Option (LRes × (List ((ByteArray × (Int × Int) × Int × Int)) × (ByteArray × (Int × Int) × Int × Int) × Int × Int × Int)) :=
fun x =>
  br (decide (x.snd.snd.snd.2 < x.snd.snd.snd.1))
    (ob (idx x.1 x.snd.snd.snd.2) fun y =>
      ob (namedI ((y.1, (y.snd.fst.1, y.snd.fst.2), y.snd.snd.1, y.snd.snd.2), x.snd.1)) fun y =>
        br y (some (LRes.ret, x.1, x.snd.1, x.snd.snd.snd.2, x.snd.snd.snd.1, x.snd.snd.snd.2))
          (some
            (LRes.next, x.1, x.snd.1, x.snd.snd.1, x.snd.snd.snd.1, IntKind.i64.wrap (x.snd.snd.snd.2 + (1 : Int)))))
    (some (LRes.out, x.1, x.snd.1, x.snd.snd.1, x.snd.snd.snd.1, x.snd.snd.snd.2))
def findSiteL_fuel : List ((ByteArray × (Int × Int) × Int × Int)) × (ByteArray × (Int × Int) × Int × Int) × Int × Int × Int → Nat := fun s => (s.2.2.2.1 - s.2.2.2.2).toNat + 1
def findSiteL : List ((ByteArray × (Int × Int) × Int × Int)) × (ByteArray × (Int × Int) × Int × Int) × Int × Int × Int → Option (Bool × (List ((ByteArray × (Int × Int) × Int × Int)) × (ByteArray × (Int × Int) × Int × Int) × Int × Int × Int)) := fun s => iter findSiteL_step (findSiteL_fuel s) s
def findSiteL_L : LoopC := ⟨findSiteL_vars, 0, .two findSiteL⟩
noncomputable def findSiteL_key : Nat := key (loopAt Try.f84 0)
theorem findSiteL_stepok (x : findSiteL_vars.den) : stepOf (mkEnv [(66, namedI_con)] []) Try.f84.ntmps findSiteL_vars 0 (loopAt Try.f84 0) x = findSiteL_step x := by kernel_rfl
theorem findSiteL_ok : LoopOK Try.prog Try.f84.ntmps findSiteL_L (loopAt Try.f84 0)   := iter_loop (n := Try.f84.ntmps) (vs := findSiteL_vars) (out := 0) (body := loopAt Try.f84 0) (mkEnv_ok (cons := [(66, namedI_con)]) ⟨namedI_ok, trivial⟩ []) findSiteL_step findSiteL_fuel (by exact trivial) findSiteL_stepok

def findSite : List ((ByteArray × (Int × Int) × Int × Int)) × (ByteArray × (Int × Int) × Int × Int) → Option (Int) :=
fun x =>
  ob (findSiteL (x.1, x.2, (0 : Int), (↑x.1.length : Int), (0 : Int))) fun r =>
    br r.1 (some (-1 : Int)) (some r.snd.snd.snd.1)
def findSite_con : Con := ⟨[.slice (.pair (.str) (.pair (.pair (i64) (i64)) (.pair (i64) (i64)))), .clo 66 (.pair (.str) (.pair (.pair (i64) (i64)) (.pair (i64) (i64))))], [.d (i64)], findSite⟩
theorem findSite_run (x : Dens [.slice (.pair (.str) (.pair (.pair (i64) (i64)) (.pair (i64) (i64)))), .clo 66 (.pair (.str) (.pair (.pair (i64) (i64)) (.pair (i64) (i64))))]) : runFn (mkEnv [] [(findSiteL_key, findSiteL_L)]) Try.f84 [.slice (.pair (.str) (.pair (.pair (i64) (i64)) (.pair (i64) (i64)))), .clo 66 (.pair (.str) (.pair (.pair (i64) (i64)) (.pair (i64) (i64))))] [.d (i64)] x = findSite x := by kernel_rfl
theorem findSite_ok : findSite_con.ok Try.prog 84 := fn_ok (con := findSite_con) (mkEnv_ok (cons := []) trivial [(findSiteL_key, findSiteL_L)]) Try.func84 rfl (by kernel_rfl) (by exact ⟨findSiteL_ok, trivial⟩) (fun x y h => (findSite_run x).trans h)

def hasSite : List ((ByteArray × (Int × Int) × Int × Int)) × (ByteArray × (Int × Int) × Int × Int) → Option (Bool) :=
fun x => ob (findSite (x.1, x.2)) fun y => some (decide ((0 : Int) ≤ y))
def hasSite_con : Con := ⟨[.slice (.pair (.str) (.pair (.pair (i64) (i64)) (.pair (i64) (i64)))), .clo 66 (.pair (.str) (.pair (.pair (i64) (i64)) (.pair (i64) (i64))))], [.d (.bool)], hasSite⟩
theorem hasSite_run (x : Dens [.slice (.pair (.str) (.pair (.pair (i64) (i64)) (.pair (i64) (i64)))), .clo 66 (.pair (.str) (.pair (.pair (i64) (i64)) (.pair (i64) (i64))))]) : runFn (mkEnv [(84, findSite_con)] []) Try.f65 [.slice (.pair (.str) (.pair (.pair (i64) (i64)) (.pair (i64) (i64)))), .clo 66 (.pair (.str) (.pair (.pair (i64) (i64)) (.pair (i64) (i64))))] [.d (.bool)] x = hasSite x := by kernel_rfl
theorem hasSite_ok : hasSite_con.ok Try.prog 65 := fn_ok (con := hasSite_con) (mkEnv_ok (cons := [(84, findSite_con)]) ⟨findSite_ok, trivial⟩ []) Try.func65 rfl (by kernel_rfl) (by exact trivial) (fun x y h => (hasSite_run x).trans h)

def validPlateIL_vars : Vars := [(1, .box 0 30 (.pair (i64) (.pair (i64) (.pair (i64) (.pair (i64) (.slice (.pair (.str) (.pair (.pair (i64) (i64)) (.pair (i64) (i64)))))))))), (2, .val (.bool)), (34, .val (.slice (.pair (.str) (.pair (.pair (i64) (i64)) (.pair (i64) (i64)))))), (35, .val (i64)), (36, .val (i64))]
def validPlateIL_step : (Int × Int × Int × Int × List ((ByteArray × (Int × Int) × Int × Int))) × Bool × List ((ByteArray × (Int × Int) × Int × Int)) × Int × Int → Option (LRes × ((Int × Int × Int × Int × List ((ByteArray × (Int × Int) × Int × Int))) × Bool × List ((ByteArray × (Int × Int) × Int × Int)) × Int × Int)) :=
fun x =>
  br (decide (x.snd.snd.snd.2 < x.snd.snd.snd.1))
    (ob (idx x.snd.snd.1 x.snd.snd.snd.2) fun y =>
      ob
        (validSiteI
          ((x.fst.1, x.fst.snd.1, x.fst.snd.snd.1, x.fst.snd.snd.snd.1, x.fst.snd.snd.snd.2), y.1,
            (y.snd.fst.1, y.snd.fst.2), y.snd.snd.1, y.snd.snd.2))
        fun y_1 =>
        br (!y_1)
          (some
            (LRes.ret, (x.fst.1, x.fst.snd.1, x.fst.snd.snd.1, x.fst.snd.snd.snd.1, x.fst.snd.snd.snd.2), false,
              x.snd.snd.1, x.snd.snd.snd.1, x.snd.snd.snd.2))
          (br
            (decide
              ((0 : Int) ≤ (0 : Int) ∧
                (0 : Int) ≤ x.snd.snd.snd.2 ∧ x.snd.snd.snd.2 ≤ (↑(List.length x.fst.snd.snd.snd.2) : Int)))
            (ob
              (hasSite
                (List.drop (Int.toNat (0 : Int)) (List.take (Int.toNat x.snd.snd.snd.2) x.fst.snd.snd.snd.2), y.1,
                  (y.snd.fst.1, y.snd.fst.2), y.snd.snd.1, y.snd.snd.2))
              fun y =>
              br y
                (some
                  (LRes.ret, (x.fst.1, x.fst.snd.1, x.fst.snd.snd.1, x.fst.snd.snd.snd.1, x.fst.snd.snd.snd.2), false,
                    x.snd.snd.1, x.snd.snd.snd.1, x.snd.snd.snd.2))
                (some
                  (LRes.next, (x.fst.1, x.fst.snd.1, x.fst.snd.snd.1, x.fst.snd.snd.snd.1, x.fst.snd.snd.snd.2),
                    x.snd.1, x.snd.snd.1, x.snd.snd.snd.1, IntKind.i64.wrap (x.snd.snd.snd.2 + (1 : Int)))))
            none))
    (some
      (LRes.out, (x.fst.1, x.fst.snd.1, x.fst.snd.snd.1, x.fst.snd.snd.snd.1, x.fst.snd.snd.snd.2), x.snd.1,
        x.snd.snd.1, x.snd.snd.snd.1, x.snd.snd.snd.2))
def validPlateIL_fuel : (Int × Int × Int × Int × List ((ByteArray × (Int × Int) × Int × Int))) × Bool × List ((ByteArray × (Int × Int) × Int × Int)) × Int × Int → Nat := fun s => (s.2.2.2.1 - s.2.2.2.2).toNat + 1
def validPlateIL : (Int × Int × Int × Int × List ((ByteArray × (Int × Int) × Int × Int))) × Bool × List ((ByteArray × (Int × Int) × Int × Int)) × Int × Int → Option (Bool × ((Int × Int × Int × Int × List ((ByteArray × (Int × Int) × Int × Int))) × Bool × List ((ByteArray × (Int × Int) × Int × Int)) × Int × Int)) := fun s => iter validPlateIL_step (validPlateIL_fuel s) s
def validPlateIL_L : LoopC := ⟨validPlateIL_vars, 0, .two validPlateIL⟩
noncomputable def validPlateIL_key : Nat := key (loopAt Try.f24 0)
theorem validPlateIL_stepok (x : validPlateIL_vars.den) : stepOf (mkEnv [(64, validSiteI_con), (65, hasSite_con)] []) Try.f24.ntmps validPlateIL_vars 0 (loopAt Try.f24 0) x = validPlateIL_step x := by kernel_rfl
theorem validPlateIL_ok : LoopOK Try.prog Try.f24.ntmps validPlateIL_L (loopAt Try.f24 0)   := iter_loop (n := Try.f24.ntmps) (vs := validPlateIL_vars) (out := 0) (body := loopAt Try.f24 0) (mkEnv_ok (cons := [(64, validSiteI_con), (65, hasSite_con)]) ⟨validSiteI_ok, hasSite_ok, trivial⟩ []) validPlateIL_step validPlateIL_fuel (by exact trivial) validPlateIL_stepok

def validPlateI : (Int × Int × Int × Int × List ((ByteArray × (Int × Int) × Int × Int))) → Option (Bool) :=
fun x =>
  ob (withinP (x.1, (1 : Int), (10000 : Int))) fun y =>
    br (!y) (some false)
      (ob (withinP (x.snd.1, (1 : Int), (10000 : Int))) fun y =>
        br (!y) (some false)
          (ob (withinP (x.snd.snd.1, (0 : Int), (1000 : Int))) fun y =>
            br (!y) (some false)
              (ob (withinP (x.snd.snd.snd.1, (0 : Int), (1000 : Int))) fun y =>
                br (!y) (some false)
                  (br (decide ((20 : Int) < (↑(List.length x.snd.snd.snd.2) : Int))) (some false)
                    (ob
                      (validPlateIL
                        ((x.1, x.snd.1, x.snd.snd.1, x.snd.snd.snd.1, x.snd.snd.snd.2), false, x.snd.snd.snd.2,
                          (↑(List.length x.snd.snd.snd.2) : Int), (0 : Int)))
                      fun r => br r.1 (some true) (some r.snd.snd.1))))))
def validPlateI_con : Con := ⟨[.pair (i64) (.pair (i64) (.pair (i64) (.pair (i64) (.slice (.pair (.str) (.pair (.pair (i64) (i64)) (.pair (i64) (i64))))))))], [.d (.bool)], validPlateI⟩
theorem validPlateI_run (x : Dens [.pair (i64) (.pair (i64) (.pair (i64) (.pair (i64) (.slice (.pair (.str) (.pair (.pair (i64) (i64)) (.pair (i64) (i64))))))))]) : runFn (mkEnv [(56, withinP_con)] [(validPlateIL_key, validPlateIL_L)]) Try.f24 [.pair (i64) (.pair (i64) (.pair (i64) (.pair (i64) (.slice (.pair (.str) (.pair (.pair (i64) (i64)) (.pair (i64) (i64))))))))] [.d (.bool)] x = validPlateI x := by kernel_rfl
theorem validPlateI_ok : validPlateI_con.ok Try.prog 24 := fn_ok (con := validPlateI_con) (mkEnv_ok (cons := [(56, withinP_con)]) ⟨withinP_ok, trivial⟩ [(validPlateIL_key, validPlateIL_L)]) Try.func24 rfl (by kernel_rfl) (by exact ⟨validPlateIL_ok, trivial⟩) (fun x y h => (validPlateI_run x).trans h)

def okPlateSN_vars : Vars := [(1, .box 0 30 (.pair (i64) (.pair (i64) (.pair (i64) (.pair (i64) (.slice (.pair (.str) (.pair (.pair (i64) (i64)) (.pair (i64) (i64)))))))))), (2, .val (.bool)), (3, .val (i64)), (4, .box 0 59 (.pair (.str) (.pair (.pair (i64) (i64)) (.pair (i64) (i64))))), (5, .val (i64))]
def okPlateSN_step : (Int × Int × Int × Int × List ((ByteArray × (Int × Int) × Int × Int))) × Bool × Int × (ByteArray × (Int × Int) × Int × Int) × Int → Option (LRes × ((Int × Int × Int × Int × List ((ByteArray × (Int × Int) × Int × Int))) × Bool × Int × (ByteArray × (Int × Int) × Int × Int) × Int)) :=
fun x =>
  br (decide (x.snd.snd.snd.2 < x.snd.snd.1))
    (ob (idx x.fst.snd.snd.snd.2 x.snd.snd.snd.2) fun y =>
      br (ByteArray.toList y.1 == ByteArray.toList x.snd.snd.snd.fst.1)
        (some
          (LRes.ret, (x.fst.1, x.fst.snd.1, x.fst.snd.snd.1, x.fst.snd.snd.snd.1, x.fst.snd.snd.snd.2), false,
            x.snd.snd.1,
            (x.snd.snd.snd.fst.1, (x.snd.snd.snd.fst.snd.fst.1, x.snd.snd.snd.fst.snd.fst.2),
              x.snd.snd.snd.fst.snd.snd.1, x.snd.snd.snd.fst.snd.snd.2),
            x.snd.snd.snd.2))
        (some
          (LRes.next, (x.fst.1, x.fst.snd.1, x.fst.snd.snd.1, x.fst.snd.snd.snd.1, x.fst.snd.snd.snd.2), x.snd.1,
            x.snd.snd.1,
            (x.snd.snd.snd.fst.1, (x.snd.snd.snd.fst.snd.fst.1, x.snd.snd.snd.fst.snd.fst.2),
              x.snd.snd.snd.fst.snd.snd.1, x.snd.snd.snd.fst.snd.snd.2),
            IntKind.i64.wrap (x.snd.snd.snd.2 + (1 : Int)))))
    (some
      (LRes.out, (x.fst.1, x.fst.snd.1, x.fst.snd.snd.1, x.fst.snd.snd.snd.1, x.fst.snd.snd.snd.2), x.snd.1,
        x.snd.snd.1,
        (x.snd.snd.snd.fst.1, (x.snd.snd.snd.fst.snd.fst.1, x.snd.snd.snd.fst.snd.fst.2), x.snd.snd.snd.fst.snd.snd.1,
          x.snd.snd.snd.fst.snd.snd.2),
        x.snd.snd.snd.2))
def okPlateSN_fuel : (Int × Int × Int × Int × List ((ByteArray × (Int × Int) × Int × Int))) × Bool × Int × (ByteArray × (Int × Int) × Int × Int) × Int → Nat := fun s => (s.2.2.1 - s.2.2.2.2).toNat + 1
def okPlateSN : (Int × Int × Int × Int × List ((ByteArray × (Int × Int) × Int × Int))) × Bool × Int × (ByteArray × (Int × Int) × Int × Int) × Int → Option (Bool × ((Int × Int × Int × Int × List ((ByteArray × (Int × Int) × Int × Int))) × Bool × Int × (ByteArray × (Int × Int) × Int × Int) × Int)) := fun s => iter okPlateSN_step (okPlateSN_fuel s) s
def okPlateSN_L : LoopC := ⟨okPlateSN_vars, 2, .two okPlateSN⟩
noncomputable def okPlateSN_key : Nat := key (loopIn (loopAt Try.f39 0) 0)
theorem okPlateSN_stepok (x : okPlateSN_vars.den) : stepOf (mkEnv [] []) Try.f39.ntmps okPlateSN_vars 2 (loopIn (loopAt Try.f39 0) 0) x = okPlateSN_step x := by kernel_rfl
theorem okPlateSN_ok : LoopOK Try.prog Try.f39.ntmps okPlateSN_L (loopIn (loopAt Try.f39 0) 0)   := iter_loop (n := Try.f39.ntmps) (vs := okPlateSN_vars) (out := 2) (body := loopIn (loopAt Try.f39 0) 0) (mkEnv_ok (cons := []) trivial []) okPlateSN_step okPlateSN_fuel (by exact trivial) okPlateSN_stepok

def okPlateSL_vars : Vars := [(1, .box 0 30 (.pair (i64) (.pair (i64) (.pair (i64) (.pair (i64) (.slice (.pair (.str) (.pair (.pair (i64) (i64)) (.pair (i64) (i64)))))))))), (2, .val (.bool)), (3, .val (i64))]
def okPlateSL_step : (Int × Int × Int × Int × List ((ByteArray × (Int × Int) × Int × Int))) × Bool × Int → Option (LRes × ((Int × Int × Int × Int × List ((ByteArray × (Int × Int) × Int × Int))) × Bool × Int)) :=
fun x =>
  br (decide (x.snd.2 < (↑(List.length x.fst.snd.snd.snd.2) : Int)))
    (ob (idx x.fst.snd.snd.snd.2 x.snd.2) fun y =>
      ob (nameS y.1) fun y_1 =>
        br (!y_1)
          (some
            (LRes.ret, (x.fst.1, x.fst.snd.1, x.fst.snd.snd.1, x.fst.snd.snd.snd.1, x.fst.snd.snd.snd.2), false,
              x.snd.2))
          (ob (inP (y.snd.fst.1, (0 : Int), x.fst.1)) fun y_2 =>
            br (!y_2)
              (some
                (LRes.ret, (x.fst.1, x.fst.snd.1, x.fst.snd.snd.1, x.fst.snd.snd.snd.1, x.fst.snd.snd.snd.2), false,
                  x.snd.2))
              (ob (inP (y.snd.fst.2, (0 : Int), x.fst.snd.1)) fun y_3 =>
                br (!y_3)
                  (some
                    (LRes.ret, (x.fst.1, x.fst.snd.1, x.fst.snd.snd.1, x.fst.snd.snd.snd.1, x.fst.snd.snd.snd.2), false,
                      x.snd.2))
                  (ob (inP (y.snd.snd.2, (1 : Int), (1000 : Int))) fun y_4 =>
                    br (!y_4)
                      (some
                        (LRes.ret, (x.fst.1, x.fst.snd.1, x.fst.snd.snd.1, x.fst.snd.snd.snd.1, x.fst.snd.snd.snd.2),
                          false, x.snd.2))
                      (ob (inP (y.snd.snd.1, y.snd.snd.2, (10000 : Int))) fun y_5 =>
                        br (!y_5)
                          (some
                            (LRes.ret,
                              (x.fst.1, x.fst.snd.1, x.fst.snd.snd.1, x.fst.snd.snd.snd.1, x.fst.snd.snd.snd.2), false,
                              x.snd.2))
                          (ob
                            (okPlateSN
                              ((x.fst.1, x.fst.snd.1, x.fst.snd.snd.1, x.fst.snd.snd.snd.1, x.fst.snd.snd.snd.2),
                                x.snd.1, x.snd.2, (y.1, (y.snd.fst.1, y.snd.fst.2), y.snd.snd.1, y.snd.snd.2),
                                (0 : Int)))
                            fun r =>
                            br r.1
                              (some
                                (LRes.next,
                                  (r.snd.fst.1, r.snd.fst.snd.1, r.snd.fst.snd.snd.1, r.snd.fst.snd.snd.snd.1,
                                    r.snd.fst.snd.snd.snd.2),
                                  r.snd.snd.1, IntKind.i64.wrap (r.snd.snd.snd.1 + (1 : Int))))
                              (some
                                (LRes.ret,
                                  (r.snd.fst.1, r.snd.fst.snd.1, r.snd.fst.snd.snd.1, r.snd.fst.snd.snd.snd.1,
                                    r.snd.fst.snd.snd.snd.2),
                                  r.snd.snd.1, r.snd.snd.snd.1))))))))
    (some
      (LRes.out, (x.fst.1, x.fst.snd.1, x.fst.snd.snd.1, x.fst.snd.snd.snd.1, x.fst.snd.snd.snd.2), x.snd.1, x.snd.2))
def okPlateSL_fuel : (Int × Int × Int × Int × List ((ByteArray × (Int × Int) × Int × Int))) × Bool × Int → Nat := fun s => (s.1.2.2.2.2.length - s.2.2.toNat) + 1
def okPlateSL : (Int × Int × Int × Int × List ((ByteArray × (Int × Int) × Int × Int))) × Bool × Int → Option (Bool × ((Int × Int × Int × Int × List ((ByteArray × (Int × Int) × Int × Int))) × Bool × Int)) := fun s => iter okPlateSL_step (okPlateSL_fuel s) s
def okPlateSL_L : LoopC := ⟨okPlateSL_vars, 0, .two okPlateSL⟩
noncomputable def okPlateSL_key : Nat := key (loopAt Try.f39 0)
theorem okPlateSL_stepok (x : okPlateSL_vars.den) : stepOf (mkEnv [(72, nameS_con), (60, inP_con)] [(okPlateSN_key, okPlateSN_L)]) Try.f39.ntmps okPlateSL_vars 0 (loopAt Try.f39 0) x = okPlateSL_step x := by kernel_rfl
theorem okPlateSL_ok : LoopOK Try.prog Try.f39.ntmps okPlateSL_L (loopAt Try.f39 0)   := iter_loop (n := Try.f39.ntmps) (vs := okPlateSL_vars) (out := 0) (body := loopAt Try.f39 0) (mkEnv_ok (cons := [(72, nameS_con), (60, inP_con)]) ⟨nameS_ok, inP_ok, trivial⟩ [(okPlateSN_key, okPlateSN_L)]) okPlateSL_step okPlateSL_fuel (by exact ⟨okPlateSN_ok, trivial⟩) okPlateSL_stepok

def okPlateS : (Int × Int × Int × Int × List ((ByteArray × (Int × Int) × Int × Int))) → Option (Bool) :=
fun x =>
  ob (inP (x.1, (1 : Int), (10000 : Int))) fun y =>
    br (!y) (some false)
      (ob (inP (x.snd.1, (1 : Int), (10000 : Int))) fun y =>
        br (!y) (some false)
          (ob (inP (x.snd.snd.1, (0 : Int), (1000 : Int))) fun y =>
            br (!y) (some false)
              (ob (inP (x.snd.snd.snd.1, (0 : Int), (1000 : Int))) fun y =>
                br (!y) (some false)
                  (br (decide ((20 : Int) < (↑(List.length x.snd.snd.snd.2) : Int))) (some false)
                    (ob (okPlateSL ((x.1, x.snd.1, x.snd.snd.1, x.snd.snd.snd.1, x.snd.snd.snd.2), false, (0 : Int)))
                      fun r => br r.1 (some true) (some r.snd.snd.1))))))
def okPlateS_con : Con := ⟨[.pair (i64) (.pair (i64) (.pair (i64) (.pair (i64) (.slice (.pair (.str) (.pair (.pair (i64) (i64)) (.pair (i64) (i64))))))))], [.d (.bool)], okPlateS⟩
theorem okPlateS_run (x : Dens [.pair (i64) (.pair (i64) (.pair (i64) (.pair (i64) (.slice (.pair (.str) (.pair (.pair (i64) (i64)) (.pair (i64) (i64))))))))]) : runFn (mkEnv [(60, inP_con)] [(okPlateSL_key, okPlateSL_L)]) Try.f39 [.pair (i64) (.pair (i64) (.pair (i64) (.pair (i64) (.slice (.pair (.str) (.pair (.pair (i64) (i64)) (.pair (i64) (i64))))))))] [.d (.bool)] x = okPlateS x := by kernel_rfl
theorem okPlateS_ok : okPlateS_con.ok Try.prog 39 := fn_ok (con := okPlateS_con) (mkEnv_ok (cons := [(60, inP_con)]) ⟨inP_ok, trivial⟩ [(okPlateSL_key, okPlateSL_L)]) Try.func39 rfl (by kernel_rfl) (by exact ⟨okPlateSL_ok, trivial⟩) (fun x y h => (okPlateS_run x).trans h)

end Rx
end Go.Proofs.Ytckbhfbcblehmaa
