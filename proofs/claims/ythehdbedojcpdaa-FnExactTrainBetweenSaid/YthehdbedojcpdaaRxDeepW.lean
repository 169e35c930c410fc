/- What the functions of RxDeepW come to, and their contracts. No conditions. -/
import Derived.Test.YthehdbedojcpdaaRxEnv
import Derived.Test.YthehdbedojcpdaaRxWorks
import Derived.Test.YthehdbedojcpdaaRxStr
namespace Go.Proofs.Ythehdbedojcpdaa
namespace Rx
open Go

noncomputable section
def toArborD : (ByteArray × List (Int)) → Option ((ByteArray × List (Int))) :=
fun x => ob (toIntS x.2) fun y => some (x.1, y)
def toArborD_con : Con := ⟨[.pair (.str) (.slice (i64))], [.pair (.d (.str)) (.row 2 (i64))], toArborD⟩
theorem toArborD_run (x : Dens [.pair (.str) (.slice (i64))]) : runFn (mkEnv [(70, toIntS_con)] []) Try.f24 [.pair (.str) (.slice (i64))] [.pair (.d (.str)) (.row 2 (i64))] x = toArborD x := by kernel_rfl
theorem toArborD_ok : toArborD_con.ok Try.prog 24 := fn_ok (con := toArborD_con) (mkEnv_ok (cons := [(70, toIntS_con)]) ⟨toIntS_ok, trivial⟩ []) Try.func24 rfl (by kernel_rfl) (by exact trivial) (fun x y h => (toArborD_run x).trans h)

def toArborDL_vars : Vars := [(0, .val (.slice (.pair (.str) (.slice (i64))))), (3, .deep 0 52 (.pair (.d (.str)) (.row 2 (i64)))), (4, .val (i64))]
def toArborDL_step : List ((ByteArray × List (Int))) × List ((ByteArray × List (Int))) × Int → Option (LRes × (List ((ByteArray × List (Int))) × List ((ByteArray × List (Int))) × Int)) :=
fun x =>
  br (decide (x.snd.2 < (↑x.1.length : Int)))
    (ob (idx x.1 x.snd.2) fun y =>
      ob (toArborD (y.1, y.2)) fun y =>
        ob (idx x.snd.1 x.snd.2) fun x_1 =>
          ob (List.get?Internal x.snd.1 (Int.toNat x.snd.2)) fun x_2 =>
            some
              (LRes.next, x.1, List.set x.snd.1 (Int.toNat x.snd.2) (y.1, y.2), IntKind.i64.wrap (x.snd.2 + (1 : Int))))
    (some (LRes.out, x.1, x.snd.1, x.snd.2))
def toArborDL_fuel : List ((ByteArray × List (Int))) × List ((ByteArray × List (Int))) × Int → Nat := fun s => (s.1.length - s.2.2.toNat) + 1
def toArborDL : List ((ByteArray × List (Int))) × List ((ByteArray × List (Int))) × Int → Option (List ((ByteArray × List (Int))) × List ((ByteArray × List (Int))) × Int) := fun s => iterP toArborDL_step (toArborDL_fuel s) s
def toArborDL_L : LoopC := ⟨toArborDL_vars, 0, .plain toArborDL⟩
noncomputable def toArborDL_key : Nat := key (loopAt Try.f47 0)
theorem toArborDL_stepok (x : toArborDL_vars.den) : stepOf (deepE [(52, .pair (.d (.str)) (.row 2 (i64)))] (mkEnv [(24, toArborD_con)] [])) Try.f47.ntmps toArborDL_vars 0 (loopAt Try.f47 0) x = toArborDL_step x := by kernel_rfl
theorem toArborDL_ok : LoopOK Try.prog Try.f47.ntmps toArborDL_L (loopAt Try.f47 0)   := iterP_loop (n := Try.f47.ntmps) (vs := toArborDL_vars) (out := 0) (body := loopAt Try.f47 0) (deepE_ok (d := [(52, .pair (.d (.str)) (.row 2 (i64)))]) (mkEnv_ok (cons := [(24, toArborD_con)]) ⟨toArborD_ok, trivial⟩ [])) toArborDL_step toArborDL_fuel (by exact trivial) toArborDL_stepok

def toArborDS : List ((ByteArray × List (Int))) → Option (List ((ByteArray × List (Int)))) :=
fun x =>
  br
    (decide
      ((0 : Int) ≤ (↑x.length : Int) ∧ (↑x.length : Int) = (↑x.length : Int) ∧ (↑x.length : Int) ≤ (1048576 : Int)))
    (ob (toArborDL (x, List.replicate (↑x.length : Int).toNat ((⟨⟨[]⟩⟩ : ByteArray), []), (0 : Int))) fun r =>
      some r.snd.1)
    none
def toArborDS_con : Con := ⟨[.slice (.pair (.str) (.slice (i64)))], [.deep 52 (.pair (.d (.str)) (.row 2 (i64)))], toArborDS⟩
theorem toArborDS_run (x : Dens [.slice (.pair (.str) (.slice (i64)))]) : runFn (deepE [(52, .pair (.d (.str)) (.row 2 (i64)))] (mkEnv [] [(toArborDL_key, toArborDL_L)])) Try.f47 [.slice (.pair (.str) (.slice (i64)))] [.deep 52 (.pair (.d (.str)) (.row 2 (i64)))] x = toArborDS x := by kernel_rfl
theorem toArborDS_ok : toArborDS_con.ok Try.prog 47 := fn_ok (con := toArborDS_con) (deepE_ok (d := [(52, .pair (.d (.str)) (.row 2 (i64)))]) (mkEnv_ok (cons := []) trivial [(toArborDL_key, toArborDL_L)])) Try.func47 rfl (by kernel_rfl) (by exact ⟨toArborDL_ok, trivial⟩) (fun x y h => (toArborDS_run x).trans h)

def toWorksD : (List ((ByteArray × List (Int))) × List ((Int × Int × Int × Int))) → Option ((List ((ByteArray × List (Int))) × List ((Int × Int × Int × Int)))) :=
fun x => ob (toArborDS x.1) fun y => ob (toMeshS x.2) fun y_1 => some (y, y_1)
def toWorksD_con : Con := ⟨[.pair (.slice (.pair (.str) (.slice (i64)))) (.slice (.pair (i64) (.pair (i64) (.pair (i64) (i64)))))], [.pair (.deep 52 (.pair (.d (.str)) (.row 2 (i64)))) (.row 44 (.pair (i64) (.pair (i64) (.pair (i64) (i64)))))], toWorksD⟩
theorem toWorksD_run (x : Dens [.pair (.slice (.pair (.str) (.slice (i64)))) (.slice (.pair (i64) (.pair (i64) (.pair (i64) (i64)))))]) : runFn (deepE [(52, .pair (.d (.str)) (.row 2 (i64)))] (mkEnv [(47, toArborDS_con), (48, toMeshS_con)] [])) Try.f11 [.pair (.slice (.pair (.str) (.slice (i64)))) (.slice (.pair (i64) (.pair (i64) (.pair (i64) (i64)))))] [.pair (.deep 52 (.pair (.d (.str)) (.row 2 (i64)))) (.row 44 (.pair (i64) (.pair (i64) (.pair (i64) (i64)))))] x = toWorksD x := by kernel_rfl
theorem toWorksD_ok : toWorksD_con.ok Try.prog 11 := fn_ok (con := toWorksD_con) (deepE_ok (d := [(52, .pair (.d (.str)) (.row 2 (i64)))]) (mkEnv_ok (cons := [(47, toArborDS_con), (48, toMeshS_con)]) ⟨toArborDS_ok, toMeshS_ok, trivial⟩ [])) Try.func11 rfl (by kernel_rfl) (by exact trivial) (fun x y h => (toWorksD_run x).trans h)

def markIntDL_vars : Vars := [(0, .row 2 2 (i64)), (1, .val (i64)), (5, .val (i64))]
def markIntDL_step : List (Int) × Int × Int → Option (LRes × (List (Int) × Int × Int)) :=
fun x =>
  br (decide (x.snd.2 < (↑x.1.length : Int)))
    (ob (idx x.1 x.snd.2) fun x_1 =>
      ob (x.1.get?Internal (Int.toNat x.snd.2)) fun x_2 =>
        some
          (LRes.next, x.1.set (Int.toNat x.snd.2) x.snd.1, IntKind.i64.wrap (x.snd.1 + (1 : Int)),
            IntKind.i64.wrap (x.snd.2 + (1 : Int))))
    (some (LRes.out, x.1, x.snd.1, x.snd.2))
def markIntDL_fuel : List (Int) × Int × Int → Nat := fun s => (s.1.length - s.2.2.toNat) + 1
def markIntDL : List (Int) × Int × Int → Option (List (Int) × Int × Int) := fun s => iterP markIntDL_step (markIntDL_fuel s) s
def markIntDL_L : LoopC := ⟨markIntDL_vars, 0, .plain markIntDL⟩
noncomputable def markIntDL_key : Nat := key (loopAt Try.f16 0)
theorem markIntDL_stepok (x : markIntDL_vars.den) : stepOf (mkEnv [] []) Try.f16.ntmps markIntDL_vars 0 (loopAt Try.f16 0) x = markIntDL_step x := by kernel_rfl
theorem markIntDL_ok : LoopOK Try.prog Try.f16.ntmps markIntDL_L (loopAt Try.f16 0)   := iterP_loop (n := Try.f16.ntmps) (vs := markIntDL_vars) (out := 0) (body := loopAt Try.f16 0) (mkEnv_ok (cons := []) trivial []) markIntDL_step markIntDL_fuel (by exact trivial) markIntDL_stepok

def markIntD : List (Int) × Int → Option ((Int) × (List (Int) × Int)) :=
fun x => ob (markIntDL (x.1, x.2, (0 : Int))) fun r => some (r.snd.1, r.1, x.2)
def markIntD_con : MCon := ⟨[.v (.row 2 (i64)), .v (.d (i64))], [.d (i64)], markIntD⟩
theorem markIntD_run (x : ADens [.v (.row 2 (i64)), .v (.d (i64))]) : runFnM (mkEnv [] [(markIntDL_key, markIntDL_L)]) Try.f16 [.v (.row 2 (i64)), .v (.d (i64))] [.d (i64)] x = markIntD x := by kernel_rfl
theorem markIntD_ok : markIntD_con.ok Try.prog 16 := fnM_ok (con := markIntD_con) (mkEnv_ok (cons := []) trivial [(markIntDL_key, markIntDL_L)]) Try.func16 rfl (by kernel_rfl) (by exact ⟨markIntDL_ok, trivial⟩) (fun x y h => (markIntD_run x).trans h)

def markArborL_vars : Vars := [(0, .deep 2 52 (.pair (.d (.str)) (.row 2 (i64)))), (1, .val (i64)), (5, .val (i64))]
def markArborL_step : List ((ByteArray × List (Int))) × Int × Int → Option (LRes × (List ((ByteArray × List (Int))) × Int × Int)) :=
fun x =>
  br (decide (x.snd.2 < (↑x.1.length : Int)))
    (ob (markText x.snd.1) fun y =>
      ob (idx x.1 x.snd.2) fun x_1 =>
        ob (x.1.get?Internal (Int.toNat x.snd.2)) fun x_2 =>
          ob (idx x.1 x.snd.2) fun x_3 =>
            br (decide (Int.toNat x.snd.2 = Int.toNat x.snd.2))
              (ob (markIntD (x_2.2, IntKind.i64.wrap (x.snd.1 + (1 : Int)))) fun y_1 =>
                some
                  (LRes.next, x.1.set (Int.toNat x.snd.2) (y, y_1.snd.1), y_1.1,
                    IntKind.i64.wrap (x.snd.2 + (1 : Int))))
              none)
    (some (LRes.out, x.1, x.snd.1, x.snd.2))
def markArborL_fuel : List ((ByteArray × List (Int))) × Int × Int → Nat := fun s => (s.1.length - s.2.2.toNat) + 1
def markArborL : List ((ByteArray × List (Int))) × Int × Int → Option (List ((ByteArray × List (Int))) × Int × Int) := fun s => iterP markArborL_step (markArborL_fuel s) s
def markArborL_L : LoopC := ⟨markArborL_vars, 0, .plain markArborL⟩
noncomputable def markArborL_key : Nat := key (loopAt Try.f54 0)
theorem markArborL_stepok (x : markArborL_vars.den) : stepOf (deepE [(52, .pair (.d (.str)) (.row 2 (i64)))] (mkEnvM [(92, markText_con)] [(16, markIntD_con)] [])) Try.f54.ntmps markArborL_vars 0 (loopAt Try.f54 0) x = markArborL_step x := by kernel_rfl
theorem markArborL_ok : LoopOK Try.prog Try.f54.ntmps markArborL_L (loopAt Try.f54 0)   := iterP_loop (n := Try.f54.ntmps) (vs := markArborL_vars) (out := 0) (body := loopAt Try.f54 0) (deepE_ok (d := [(52, .pair (.d (.str)) (.row 2 (i64)))]) (mkEnvM_ok (cons := [(92, markText_con)]) (mcons := [(16, markIntD_con)]) ⟨markText_ok, trivial⟩ ⟨markIntD_ok, trivial⟩ [])) markArborL_step markArborL_fuel (by exact trivial) markArborL_stepok

def markArborD : List ((ByteArray × List (Int))) × Int → Option ((Int) × (List ((ByteArray × List (Int))) × Int)) :=
fun x => ob (markArborL (x.1, x.2, (0 : Int))) fun r => some (r.snd.1, r.1, x.2)
def markArborD_con : MCon := ⟨[.v (.deep 52 (.pair (.d (.str)) (.row 2 (i64)))), .v (.d (i64))], [.d (i64)], markArborD⟩
theorem markArborD_run (x : ADens [.v (.deep 52 (.pair (.d (.str)) (.row 2 (i64)))), .v (.d (i64))]) : runFnM (deepE [(52, .pair (.d (.str)) (.row 2 (i64)))] (mkEnvM [(92, markText_con)] [(16, markIntD_con)] [(markArborL_key, markArborL_L)])) Try.f54 [.v (.deep 52 (.pair (.d (.str)) (.row 2 (i64)))), .v (.d (i64))] [.d (i64)] x = markArborD x := by kernel_rfl
theorem markArborD_ok : markArborD_con.ok Try.prog 54 := fnM_ok (con := markArborD_con) (deepE_ok (d := [(52, .pair (.d (.str)) (.row 2 (i64)))]) (mkEnvM_ok (cons := [(92, markText_con)]) (mcons := [(16, markIntD_con)]) ⟨markText_ok, trivial⟩ ⟨markIntD_ok, trivial⟩ [(markArborL_key, markArborL_L)])) Try.func54 rfl (by kernel_rfl) (by exact ⟨markArborL_ok, trivial⟩) (fun x y h => (markArborD_run x).trans h)

def markMeshL_vars : Vars := [(0, .row 2 44 (.pair (i64) (.pair (i64) (.pair (i64) (i64))))), (1, .val (i64)), (5, .val (i64))]
def markMeshL_step : List ((Int × Int × Int × Int)) × Int × Int → Option (LRes × (List ((Int × Int × Int × Int)) × Int × Int)) :=
fun x =>
  br (decide (x.snd.2 < (↑x.1.length : Int)))
    (ob (idx x.1 x.snd.2) fun x_1 =>
      ob (x.1.get?Internal (Int.toNat x.snd.2)) fun x_2 =>
        ob (idx (x.1.set (Int.toNat x.snd.2) (x.snd.1, x_2.snd.1, x_2.snd.snd.1, x_2.snd.snd.2)) x.snd.2) fun x_3 =>
          ob
            ((x.1.set (Int.toNat x.snd.2) (x.snd.1, x_2.snd.1, x_2.snd.snd.1, x_2.snd.snd.2)).get?Internal
              (Int.toNat x.snd.2))
            fun x_4 =>
            ob
              (idx
                ((x.1.set (Int.toNat x.snd.2) (x.snd.1, x_2.snd.1, x_2.snd.snd.1, x_2.snd.snd.2)).set
                  (Int.toNat x.snd.2) (x_4.1, IntKind.i64.wrap (x.snd.1 + (1 : Int)), x_4.snd.snd.1, x_4.snd.snd.2))
                x.snd.2)
              fun x_5 =>
              ob
                (((x.1.set (Int.toNat x.snd.2) (x.snd.1, x_2.snd.1, x_2.snd.snd.1, x_2.snd.snd.2)).set
                      (Int.toNat x.snd.2)
                      (x_4.1, IntKind.i64.wrap (x.snd.1 + (1 : Int)), x_4.snd.snd.1, x_4.snd.snd.2)).get?Internal
                  (Int.toNat x.snd.2))
                fun x_6 =>
                ob
                  (idx
                    (((x.1.set (Int.toNat x.snd.2) (x.snd.1, x_2.snd.1, x_2.snd.snd.1, x_2.snd.snd.2)).set
                          (Int.toNat x.snd.2)
                          (x_4.1, IntKind.i64.wrap (x.snd.1 + (1 : Int)), x_4.snd.snd.1, x_4.snd.snd.2)).set
                      (Int.toNat x.snd.2)
                      (x_6.1, x_6.snd.1, IntKind.i64.wrap (IntKind.i64.wrap (x.snd.1 + (1 : Int)) + (1 : Int)),
                        x_6.snd.snd.2))
                    x.snd.2)
                  fun x_7 =>
                  ob
                    ((((x.1.set (Int.toNat x.snd.2) (x.snd.1, x_2.snd.1, x_2.snd.snd.1, x_2.snd.snd.2)).set
                              (Int.toNat x.snd.2)
                              (x_4.1, IntKind.i64.wrap (x.snd.1 + (1 : Int)), x_4.snd.snd.1, x_4.snd.snd.2)).set
                          (Int.toNat x.snd.2)
                          (x_6.1, x_6.snd.1, IntKind.i64.wrap (IntKind.i64.wrap (x.snd.1 + (1 : Int)) + (1 : Int)),
                            x_6.snd.snd.2)).get?Internal
                      (Int.toNat x.snd.2))
                    fun x_8 =>
                    some
                      (LRes.next,
                        (((x.1.set (Int.toNat x.snd.2) (x.snd.1, x_2.snd.1, x_2.snd.snd.1, x_2.snd.snd.2)).set
                                  (Int.toNat x.snd.2)
                                  (x_4.1, IntKind.i64.wrap (x.snd.1 + (1 : Int)), x_4.snd.snd.1, x_4.snd.snd.2)).set
                              (Int.toNat x.snd.2)
                              (x_6.1, x_6.snd.1, IntKind.i64.wrap (IntKind.i64.wrap (x.snd.1 + (1 : Int)) + (1 : Int)),
                                x_6.snd.snd.2)).set
                          (Int.toNat x.snd.2)
                          (x_8.1, x_8.snd.1, x_8.snd.snd.1,
                            IntKind.i64.wrap
                              (IntKind.i64.wrap (IntKind.i64.wrap (x.snd.1 + (1 : Int)) + (1 : Int)) + (1 : Int))),
                        IntKind.i64.wrap
                          (IntKind.i64.wrap
                              (IntKind.i64.wrap (IntKind.i64.wrap (x.snd.1 + (1 : Int)) + (1 : Int)) + (1 : Int)) +
                            (1 : Int)),
                        IntKind.i64.wrap (x.snd.2 + (1 : Int))))
    (some (LRes.out, x.1, x.snd.1, x.snd.2))
def markMeshL_fuel : List ((Int × Int × Int × Int)) × Int × Int → Nat := fun s => (s.1.length - s.2.2.toNat) + 1
def markMeshL : List ((Int × Int × Int × Int)) × Int × Int → Option (List ((Int × Int × Int × Int)) × Int × Int) := fun s => iterP markMeshL_step (markMeshL_fuel s) s
def markMeshL_L : LoopC := ⟨markMeshL_vars, 0, .plain markMeshL⟩
noncomputable def markMeshL_key : Nat := key (loopAt Try.f55 0)
theorem markMeshL_stepok (x : markMeshL_vars.den) : stepOf (mkEnv [] []) Try.f55.ntmps markMeshL_vars 0 (loopAt Try.f55 0) x = markMeshL_step x := by kernel_rfl
theorem markMeshL_ok : LoopOK Try.prog Try.f55.ntmps markMeshL_L (loopAt Try.f55 0)   := iterP_loop (n := Try.f55.ntmps) (vs := markMeshL_vars) (out := 0) (body := loopAt Try.f55 0) (mkEnv_ok (cons := []) trivial []) markMeshL_step markMeshL_fuel (by exact trivial) markMeshL_stepok

def markMeshD : List ((Int × Int × Int × Int)) × Int → Option ((Int) × (List ((Int × Int × Int × Int)) × Int)) :=
fun x => ob (markMeshL (x.1, x.2, (0 : Int))) fun r => some (r.snd.1, r.1, x.2)
def markMeshD_con : MCon := ⟨[.v (.row 44 (.pair (i64) (.pair (i64) (.pair (i64) (i64))))), .v (.d (i64))], [.d (i64)], markMeshD⟩
theorem markMeshD_run (x : ADens [.v (.row 44 (.pair (i64) (.pair (i64) (.pair (i64) (i64))))), .v (.d (i64))]) : runFnM (mkEnv [] [(markMeshL_key, markMeshL_L)]) Try.f55 [.v (.row 44 (.pair (i64) (.pair (i64) (.pair (i64) (i64))))), .v (.d (i64))] [.d (i64)] x = markMeshD x := by kernel_rfl
theorem markMeshD_ok : markMeshD_con.ok Try.prog 55 := fnM_ok (con := markMeshD_con) (mkEnv_ok (cons := []) trivial [(markMeshL_key, markMeshL_L)]) Try.func55 rfl (by kernel_rfl) (by exact ⟨markMeshL_ok, trivial⟩) (fun x y h => (markMeshD_run x).trans h)

def markWorksD : (List ((ByteArray × List (Int))) × List ((Int × Int × Int × Int))) × Int → Option ((Int) × ((List ((ByteArray × List (Int))) × List ((Int × Int × Int × Int))) × Int)) :=
fun x =>
  ob (markArborD (x.fst.1, x.2)) fun y =>
    ob (markMeshD (x.fst.2, y.1)) fun y_1 => some (y_1.1, (y.snd.1, y_1.snd.1), x.2)
def markWorksD_con : MCon := ⟨[.v (.pair (.deep 52 (.pair (.d (.str)) (.row 2 (i64)))) (.row 44 (.pair (i64) (.pair (i64) (.pair (i64) (i64)))))), .v (.d (i64))], [.d (i64)], markWorksD⟩
theorem markWorksD_run (x : ADens [.v (.pair (.deep 52 (.pair (.d (.str)) (.row 2 (i64)))) (.row 44 (.pair (i64) (.pair (i64) (.pair (i64) (i64)))))), .v (.d (i64))]) : runFnM (deepE [(52, .pair (.d (.str)) (.row 2 (i64)))] (mkEnvM [] [(54, markArborD_con), (55, markMeshD_con)] [])) Try.f15 [.v (.pair (.deep 52 (.pair (.d (.str)) (.row 2 (i64)))) (.row 44 (.pair (i64) (.pair (i64) (.pair (i64) (i64)))))), .v (.d (i64))] [.d (i64)] x = markWorksD x := by kernel_rfl
theorem markWorksD_ok : markWorksD_con.ok Try.prog 15 := fnM_ok (con := markWorksD_con) (deepE_ok (d := [(52, .pair (.d (.str)) (.row 2 (i64)))]) (mkEnvM_ok (cons := []) (mcons := [(54, markArborD_con), (55, markMeshD_con)]) trivial ⟨markArborD_ok, markMeshD_ok, trivial⟩ [])) Try.func15 rfl (by kernel_rfl) (by exact trivial) (fun x y h => (markWorksD_run x).trans h)

def heldIntDL_vars : Vars := [(0, .val (.slice (i64))), (1, .val (i64)), (4, .val (i64)), (5, .val (i64))]
def heldIntDL_step : List (Int) × Int × Int × Int → Option (LRes × (List (Int) × Int × Int × Int)) :=
fun x =>
  br (decide (x.snd.snd.2 < (↑x.1.length : Int)))
    (ob (idx x.1 x.snd.snd.2) fun y =>
      br (y != x.snd.1) (some (LRes.ret, x.1, x.snd.1, (-1 : Int), x.snd.snd.2))
        (some
          (LRes.next, x.1, IntKind.i64.wrap (x.snd.1 + (1 : Int)), x.snd.snd.1,
            IntKind.i64.wrap (x.snd.snd.2 + (1 : Int)))))
    (some (LRes.out, x.1, x.snd.1, x.snd.snd.1, x.snd.snd.2))
def heldIntDL_fuel : List (Int) × Int × Int × Int → Nat := fun s => (s.1.length - s.2.2.2.toNat) + 1
def heldIntDL : List (Int) × Int × Int × Int → Option (Bool × (List (Int) × Int × Int × Int)) := fun s => iter heldIntDL_step (heldIntDL_fuel s) s
def heldIntDL_L : LoopC := ⟨heldIntDL_vars, 0, .two heldIntDL⟩
noncomputable def heldIntDL_key : Nat := key (loopAt Try.f17 0)
theorem heldIntDL_stepok (x : heldIntDL_vars.den) : stepOf (mkEnv [] []) Try.f17.ntmps heldIntDL_vars 0 (loopAt Try.f17 0) x = heldIntDL_step x := by kernel_rfl
theorem heldIntDL_ok : LoopOK Try.prog Try.f17.ntmps heldIntDL_L (loopAt Try.f17 0)   := iter_loop (n := Try.f17.ntmps) (vs := heldIntDL_vars) (out := 0) (body := loopAt Try.f17 0) (mkEnv_ok (cons := []) trivial []) heldIntDL_step heldIntDL_fuel (by exact trivial) heldIntDL_stepok

def heldIntD : List (Int) × Int → Option (Int) :=
fun x => ob (heldIntDL (x.1, x.2, (0 : Int), (0 : Int))) fun r => br r.1 (some r.snd.snd.1) (some r.snd.snd.snd.1)
def heldIntD_con : Con := ⟨[.slice (i64), i64], [.d (i64)], heldIntD⟩
theorem heldIntD_run (x : Dens [.slice (i64), i64]) : runFn (mkEnv [] [(heldIntDL_key, heldIntDL_L)]) Try.f17 [.slice (i64), i64] [.d (i64)] x = heldIntD x := by kernel_rfl
theorem heldIntD_ok : heldIntD_con.ok Try.prog 17 := fn_ok (con := heldIntD_con) (mkEnv_ok (cons := []) trivial [(heldIntDL_key, heldIntDL_L)]) Try.func17 rfl (by kernel_rfl) (by exact ⟨heldIntDL_ok, trivial⟩) (fun x y h => (heldIntD_run x).trans h)

def heldArborL_vars : Vars := [(0, .val (.slice (.pair (.str) (.slice (i64))))), (1, .val (i64)), (4, .val (i64)), (5, .val (i64))]
def heldArborL_step : List ((ByteArray × List (Int))) × Int × Int × Int → Option (LRes × (List ((ByteArray × List (Int))) × Int × Int × Int)) :=
fun x =>
  br (decide (x.snd.snd.2 < (↑x.1.length : Int)))
    (ob (idx x.1 x.snd.snd.2) fun y =>
      ob (markText x.snd.1) fun y_1 =>
        br (!ByteArray.toList y.1 == ByteArray.toList y_1) (some (LRes.ret, x.1, x.snd.1, (-1 : Int), x.snd.snd.2))
          (ob (idx x.1 x.snd.snd.2) fun y =>
            ob (heldIntD (y.2, IntKind.i64.wrap (x.snd.1 + (1 : Int)))) fun y =>
              br (decide (y < (0 : Int))) (some (LRes.ret, x.1, y, (-1 : Int), x.snd.snd.2))
                (some (LRes.next, x.1, y, x.snd.snd.1, IntKind.i64.wrap (x.snd.snd.2 + (1 : Int))))))
    (some (LRes.out, x.1, x.snd.1, x.snd.snd.1, x.snd.snd.2))
def heldArborL_fuel : List ((ByteArray × List (Int))) × Int × Int × Int → Nat := fun s => (s.1.length - s.2.2.2.toNat) + 1
def heldArborL : List ((ByteArray × List (Int))) × Int × Int × Int → Option (Bool × (List ((ByteArray × List (Int))) × Int × Int × Int)) := fun s => iter heldArborL_step (heldArborL_fuel s) s
def heldArborL_L : LoopC := ⟨heldArborL_vars, 0, .two heldArborL⟩
noncomputable def heldArborL_key : Nat := key (loopAt Try.f64 0)
theorem heldArborL_stepok (x : heldArborL_vars.den) : stepOf (mkEnv [(92, markText_con), (17, heldIntD_con)] []) Try.f64.ntmps heldArborL_vars 0 (loopAt Try.f64 0) x = heldArborL_step x := by kernel_rfl
theorem heldArborL_ok : LoopOK Try.prog Try.f64.ntmps heldArborL_L (loopAt Try.f64 0)   := iter_loop (n := Try.f64.ntmps) (vs := heldArborL_vars) (out := 0) (body := loopAt Try.f64 0) (mkEnv_ok (cons := [(92, markText_con), (17, heldIntD_con)]) ⟨markText_ok, heldIntD_ok, trivial⟩ []) heldArborL_step heldArborL_fuel (by exact trivial) heldArborL_stepok

def heldArborD : List ((ByteArray × List (Int))) × Int → Option (Int) :=
fun x => ob (heldArborL (x.1, x.2, (0 : Int), (0 : Int))) fun r => br r.1 (some r.snd.snd.1) (some r.snd.snd.snd.1)
def heldArborD_con : Con := ⟨[.slice (.pair (.str) (.slice (i64))), i64], [.d (i64)], heldArborD⟩
theorem heldArborD_run (x : Dens [.slice (.pair (.str) (.slice (i64))), i64]) : runFn (mkEnv [(92, markText_con), (17, heldIntD_con)] [(heldArborL_key, heldArborL_L)]) Try.f64 [.slice (.pair (.str) (.slice (i64))), i64] [.d (i64)] x = heldArborD x := by kernel_rfl
theorem heldArborD_ok : heldArborD_con.ok Try.prog 64 := fn_ok (con := heldArborD_con) (mkEnv_ok (cons := [(92, markText_con), (17, heldIntD_con)]) ⟨markText_ok, heldIntD_ok, trivial⟩ [(heldArborL_key, heldArborL_L)]) Try.func64 rfl (by kernel_rfl) (by exact ⟨heldArborL_ok, trivial⟩) (fun x y h => (heldArborD_run x).trans h)

def heldMeshL_vars : Vars := [(0, .val (.slice (.pair (i64) (.pair (i64) (.pair (i64) (i64)))))), (1, .val (i64)), (4, .val (i64)), (5, .val (i64))]
def heldMeshL_step : List ((Int × Int × Int × Int)) × Int × Int × Int → Option (LRes × (List ((Int × Int × Int × Int)) × Int × Int × Int)) :=
fun x =>
  br (decide (x.snd.snd.2 < (↑x.1.length : Int)))
    (ob (idx x.1 x.snd.snd.2) fun y =>
      br (y.1 != x.snd.1) (some (LRes.ret, x.1, x.snd.1, (-1 : Int), x.snd.snd.2))
        (ob (idx x.1 x.snd.snd.2) fun y =>
          br (y.snd.1 != IntKind.i64.wrap (x.snd.1 + (1 : Int)))
            (some (LRes.ret, x.1, IntKind.i64.wrap (x.snd.1 + (1 : Int)), (-1 : Int), x.snd.snd.2))
            (ob (idx x.1 x.snd.snd.2) fun y =>
              br (y.snd.snd.1 != IntKind.i64.wrap (IntKind.i64.wrap (x.snd.1 + (1 : Int)) + (1 : Int)))
                (some
                  (LRes.ret, x.1, IntKind.i64.wrap (IntKind.i64.wrap (x.snd.1 + (1 : Int)) + (1 : Int)), (-1 : Int),
                    x.snd.snd.2))
                (ob (idx x.1 x.snd.snd.2) fun y =>
                  br
                    (y.snd.snd.2 !=
                      IntKind.i64.wrap
                        (IntKind.i64.wrap (IntKind.i64.wrap (x.snd.1 + (1 : Int)) + (1 : Int)) + (1 : Int)))
                    (some
                      (LRes.ret, x.1,
                        IntKind.i64.wrap
                          (IntKind.i64.wrap (IntKind.i64.wrap (x.snd.1 + (1 : Int)) + (1 : Int)) + (1 : Int)),
                        (-1 : Int), x.snd.snd.2))
                    (some
                      (LRes.next, x.1,
                        IntKind.i64.wrap
                          (IntKind.i64.wrap
                              (IntKind.i64.wrap (IntKind.i64.wrap (x.snd.1 + (1 : Int)) + (1 : Int)) + (1 : Int)) +
                            (1 : Int)),
                        x.snd.snd.1, IntKind.i64.wrap (x.snd.snd.2 + (1 : Int))))))))
    (some (LRes.out, x.1, x.snd.1, x.snd.snd.1, x.snd.snd.2))
def heldMeshL_fuel : List ((Int × Int × Int × Int)) × Int × Int × Int → Nat := fun s => (s.1.length - s.2.2.2.toNat) + 1
def heldMeshL : List ((Int × Int × Int × Int)) × Int × Int × Int → Option (Bool × (List ((Int × Int × Int × Int)) × Int × Int × Int)) := fun s => iter heldMeshL_step (heldMeshL_fuel s) s
def heldMeshL_L : LoopC := ⟨heldMeshL_vars, 0, .two heldMeshL⟩
noncomputable def heldMeshL_key : Nat := key (loopAt Try.f65 0)
theorem heldMeshL_stepok (x : heldMeshL_vars.den) : stepOf (mkEnv [] []) Try.f65.ntmps heldMeshL_vars 0 (loopAt Try.f65 0) x = heldMeshL_step x := by kernel_rfl
theorem heldMeshL_ok : LoopOK Try.prog Try.f65.ntmps heldMeshL_L (loopAt Try.f65 0)   := iter_loop (n := Try.f65.ntmps) (vs := heldMeshL_vars) (out := 0) (body := loopAt Try.f65 0) (mkEnv_ok (cons := []) trivial []) heldMeshL_step heldMeshL_fuel (by exact trivial) heldMeshL_stepok

def heldMeshD : List ((Int × Int × Int × Int)) × Int → Option (Int) :=
fun x => ob (heldMeshL (x.1, x.2, (0 : Int), (0 : Int))) fun r => br r.1 (some r.snd.snd.1) (some r.snd.snd.snd.1)
def heldMeshD_con : Con := ⟨[.slice (.pair (i64) (.pair (i64) (.pair (i64) (i64)))), i64], [.d (i64)], heldMeshD⟩
theorem heldMeshD_run (x : Dens [.slice (.pair (i64) (.pair (i64) (.pair (i64) (i64)))), i64]) : runFn (mkEnv [] [(heldMeshL_key, heldMeshL_L)]) Try.f65 [.slice (.pair (i64) (.pair (i64) (.pair (i64) (i64)))), i64] [.d (i64)] x = heldMeshD x := by kernel_rfl
theorem heldMeshD_ok : heldMeshD_con.ok Try.prog 65 := fn_ok (con := heldMeshD_con) (mkEnv_ok (cons := []) trivial [(heldMeshL_key, heldMeshL_L)]) Try.func65 rfl (by kernel_rfl) (by exact ⟨heldMeshL_ok, trivial⟩) (fun x y h => (heldMeshD_run x).trans h)

def heldWorksD : (List ((ByteArray × List (Int))) × List ((Int × Int × Int × Int))) × Int → Option (Int) :=
fun x =>
  ob (heldArborD (x.fst.1, x.2)) fun y =>
    br (decide (y < (0 : Int))) (some (-1 : Int))
      (ob (heldMeshD (x.fst.2, y)) fun y => br (decide (y < (0 : Int))) (some (-1 : Int)) (some y))
def heldWorksD_con : Con := ⟨[.pair (.slice (.pair (.str) (.slice (i64)))) (.slice (.pair (i64) (.pair (i64) (.pair (i64) (i64))))), i64], [.d (i64)], heldWorksD⟩
theorem heldWorksD_run (x : Dens [.pair (.slice (.pair (.str) (.slice (i64)))) (.slice (.pair (i64) (.pair (i64) (.pair (i64) (i64))))), i64]) : runFn (mkEnv [(64, heldArborD_con), (65, heldMeshD_con)] []) Try.f21 [.pair (.slice (.pair (.str) (.slice (i64)))) (.slice (.pair (i64) (.pair (i64) (.pair (i64) (i64))))), i64] [.d (i64)] x = heldWorksD x := by kernel_rfl
theorem heldWorksD_ok : heldWorksD_con.ok Try.prog 21 := fn_ok (con := heldWorksD_con) (mkEnv_ok (cons := [(64, heldArborD_con), (65, heldMeshD_con)]) ⟨heldArborD_ok, heldMeshD_ok, trivial⟩ []) Try.func21 rfl (by kernel_rfl) (by exact trivial) (fun x y h => (heldWorksD_run x).trans h)

end
end Rx
end Go.Proofs.Ythehdbedojcpdaa
