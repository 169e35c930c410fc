/- What the functions of RxAddW come to, and their contracts. No conditions. -/
import Derived.Test.YthehdbedojcpdaaRxEnv
import Derived.Test.YthehdbedojcpdaaRxDeepW
namespace Go.Proofs.Ythehdbedojcpdaa
namespace Rx
open Go

noncomputable section
def cloneIntW_t : Bool × (List (Int)) → Option (List (Int)) :=
fun x => br x.1 (some []) (br (decide ((0 : Nat) + x.2.length ≤ (4294967296 : Nat))) (some ([] ++ x.2)) none)
def cloneIntW : List (Int) → Option (List (Int)) := fun x => cloneIntW_t (false, x)
def cloneIntW_con : Con := ⟨[.slice (i64)], [.row 2 (i64)], cloneIntW⟩
theorem cloneIntW_run (x : Bool × Dens [.slice (i64)]) : runFnN (mkEnv [] []) Try.f73 [.slice (i64)] [.row 2 (i64)] x.1 x.2 = cloneIntW_t x := by kernel_rfl
theorem cloneIntW_nil (x : Dens [.slice (i64)]) (h : nil1 [.slice (i64)] x) : cloneIntW_t (true, x) = cloneIntW x := by
  have h : x = [] := h
  subst h
  rfl
theorem cloneIntW_ok : cloneIntW_con.ok Try.prog 73 := fn_okN (con := cloneIntW_con) (mkEnv_ok (cons := []) trivial []) Try.func73 rfl (by kernel_rfl) (by exact trivial) (fun b x y hn h => (cloneIntW_run (b, x)).trans (match b, hn with | false, _ => h | true, hn => (cloneIntW_nil x (hn rfl)).trans h))

def cloneMeshW_t : Bool × (List ((Int × Int × Int × Int))) → Option (List ((Int × Int × Int × Int))) :=
fun x => br x.1 (some []) (br (decide ((0 : Nat) + x.2.length ≤ (4294967296 : Nat))) (some ([] ++ x.2)) none)
def cloneMeshW : List ((Int × Int × Int × Int)) → Option (List ((Int × Int × Int × Int))) := fun x => cloneMeshW_t (false, x)
def cloneMeshW_con : Con := ⟨[.slice (.pair (i64) (.pair (i64) (.pair (i64) (i64))))], [.row 44 (.pair (i64) (.pair (i64) (.pair (i64) (i64))))], cloneMeshW⟩
theorem cloneMeshW_run (x : Bool × Dens [.slice (.pair (i64) (.pair (i64) (.pair (i64) (i64))))]) : runFnN (mkEnv [] []) Try.f97 [.slice (.pair (i64) (.pair (i64) (.pair (i64) (i64))))] [.row 44 (.pair (i64) (.pair (i64) (.pair (i64) (i64))))] x.1 x.2 = cloneMeshW_t x := by kernel_rfl
theorem cloneMeshW_nil (x : Dens [.slice (.pair (i64) (.pair (i64) (.pair (i64) (i64))))]) (h : nil1 [.slice (.pair (i64) (.pair (i64) (.pair (i64) (i64))))] x) : cloneMeshW_t (true, x) = cloneMeshW x := by
  have h : x = [] := h
  subst h
  rfl
theorem cloneMeshW_ok : cloneMeshW_con.ok Try.prog 97 := fn_okN (con := cloneMeshW_con) (mkEnv_ok (cons := []) trivial []) Try.func97 rfl (by kernel_rfl) (by exact trivial) (fun b x y hn h => (cloneMeshW_run (b, x)).trans (match b, hn with | false, _ => h | true, hn => (cloneMeshW_nil x (hn rfl)).trans h))

def copyWL_vars : Vars := [(1, .box 0 33 (.pair (.slice (.pair (.str) (.slice (i64)))) (.slice (.pair (i64) (.pair (i64) (.pair (i64) (i64))))))), (2, .box 0 33 (.pair (.slice (.pair (.str) (.slice (i64)))) (.slice (.pair (i64) (.pair (i64) (.pair (i64) (i64))))))), (3, .boxR 33 (.pair (.deep 52 (.pair (.d (.str)) (.row 2 (i64)))) (.d (.slice (.pair (i64) (.pair (i64) (.pair (i64) (i64)))))))), (7, .val (.slice (.pair (.str) (.slice (i64))))), (8, .val (i64)), (9, .val (i64))]
def copyWL_step : (List ((ByteArray × List (Int))) × List ((Int × Int × Int × Int))) × (List ((ByteArray × List (Int))) × List ((Int × Int × Int × Int))) × (List ((ByteArray × List (Int))) × List ((Int × Int × Int × Int))) × List ((ByteArray × List (Int))) × Int × Int → Option (LRes × ((List ((ByteArray × List (Int))) × List ((Int × Int × Int × Int))) × (List ((ByteArray × List (Int))) × List ((Int × Int × Int × Int))) × (List ((ByteArray × List (Int))) × List ((Int × Int × Int × Int))) × List ((ByteArray × List (Int))) × Int × Int)) :=
fun x =>
  br (decide (x.snd.snd.snd.snd.2 < x.snd.snd.snd.snd.1))
    (ob (idx x.snd.snd.snd.1 x.snd.snd.snd.snd.2) fun y =>
      ob (cloneIntW y.2) fun y_1 =>
        br (decide (List.length x.snd.snd.fst.1 + [(y.1, y_1)].length ≤ (4294967296 : Nat)))
          (some
            (LRes.next, (x.fst.1, x.fst.2), (x.snd.fst.1, x.snd.fst.2),
              (x.snd.snd.fst.1 ++ [(y.1, y_1)], x.snd.snd.fst.2), x.snd.snd.snd.1, x.snd.snd.snd.snd.1,
              IntKind.i64.wrap (x.snd.snd.snd.snd.2 + (1 : Int))))
          none)
    (some
      (LRes.out, (x.fst.1, x.fst.2), (x.snd.fst.1, x.snd.fst.2), (x.snd.snd.fst.1, x.snd.snd.fst.2), x.snd.snd.snd.1,
        x.snd.snd.snd.snd.1, x.snd.snd.snd.snd.2))
def copyWL_fuel : (List ((ByteArray × List (Int))) × List ((Int × Int × Int × Int))) × (List ((ByteArray × List (Int))) × List ((Int × Int × Int × Int))) × (List ((ByteArray × List (Int))) × List ((Int × Int × Int × Int))) × List ((ByteArray × List (Int))) × Int × Int → Nat := fun s => (s.2.2.2.2.1 - s.2.2.2.2.2).toNat + 1
def copyWL : (List ((ByteArray × List (Int))) × List ((Int × Int × Int × Int))) × (List ((ByteArray × List (Int))) × List ((Int × Int × Int × Int))) × (List ((ByteArray × List (Int))) × List ((Int × Int × Int × Int))) × List ((ByteArray × List (Int))) × Int × Int → Option ((List ((ByteArray × List (Int))) × List ((Int × Int × Int × Int))) × (List ((ByteArray × List (Int))) × List ((Int × Int × Int × Int))) × (List ((ByteArray × List (Int))) × List ((Int × Int × Int × Int))) × List ((ByteArray × List (Int))) × Int × Int) := fun s => iterP copyWL_step (copyWL_fuel s) s
def copyWL_L : LoopC := ⟨copyWL_vars, 0, .plain copyWL⟩
noncomputable def copyWL_key : Nat := key (loopAt Try.f63 0)
theorem copyWL_stepok (x : copyWL_vars.den) : stepOf (deepE [(52, .pair (.d (.str)) (.row 2 (i64)))] (mkEnv [(73, cloneIntW_con)] [])) Try.f63.ntmps copyWL_vars 0 (loopAt Try.f63 0) x = copyWL_step x := by kernel_rfl
theorem copyWL_ok : LoopOK Try.prog Try.f63.ntmps copyWL_L (loopAt Try.f63 0)   := iterP_loop (n := Try.f63.ntmps) (vs := copyWL_vars) (out := 0) (body := loopAt Try.f63 0) (deepE_ok (d := [(52, .pair (.d (.str)) (.row 2 (i64)))]) (mkEnv_ok (cons := [(73, cloneIntW_con)]) ⟨cloneIntW_ok, trivial⟩ [])) copyWL_step copyWL_fuel (by exact trivial) copyWL_stepok

def copyWI : (List ((ByteArray × List (Int))) × List ((Int × Int × Int × Int))) → Option ((List ((ByteArray × List (Int))) × List ((Int × Int × Int × Int)))) :=
fun x =>
  ob (copyWL ((x.1, x.2), ([], []), ([], []), x.1, (↑x.1.length : Int), (0 : Int))) fun r =>
    ob (cloneMeshW r.fst.2) fun y => some (r.snd.snd.fst.1, y)
def copyWI_con : Con := ⟨[.pair (.slice (.pair (.str) (.slice (i64)))) (.slice (.pair (i64) (.pair (i64) (.pair (i64) (i64)))))], [.pair (.deep 52 (.pair (.d (.str)) (.row 2 (i64)))) (.row 44 (.pair (i64) (.pair (i64) (.pair (i64) (i64)))))], copyWI⟩
theorem copyWI_run (x : Dens [.pair (.slice (.pair (.str) (.slice (i64)))) (.slice (.pair (i64) (.pair (i64) (.pair (i64) (i64)))))]) : runFn (deepE [(52, .pair (.d (.str)) (.row 2 (i64)))] (mkEnv [(97, cloneMeshW_con)] [(copyWL_key, copyWL_L)])) Try.f63 [.pair (.slice (.pair (.str) (.slice (i64)))) (.slice (.pair (i64) (.pair (i64) (.pair (i64) (i64)))))] [.pair (.deep 52 (.pair (.d (.str)) (.row 2 (i64)))) (.row 44 (.pair (i64) (.pair (i64) (.pair (i64) (i64)))))] x = copyWI x := by kernel_rfl
theorem copyWI_ok : copyWI_con.ok Try.prog 63 := fn_ok (con := copyWI_con) (deepE_ok (d := [(52, .pair (.d (.str)) (.row 2 (i64)))]) (mkEnv_ok (cons := [(97, cloneMeshW_con)]) ⟨cloneMeshW_ok, trivial⟩ [(copyWL_key, copyWL_L)])) Try.func63 rfl (by kernel_rfl) (by exact ⟨copyWL_ok, trivial⟩) (fun x y h => (copyWI_run x).trans h)

def addArborI : (List ((ByteArray × List (Int))) × List ((Int × Int × Int × Int))) × (ByteArray × List (Int)) → Option ((List ((ByteArray × List (Int))) × List ((Int × Int × Int × Int))) × Int × Int) :=
fun x =>
  ob (validWI (x.fst.1, x.fst.2)) fun y =>
    br (!y) (some (([], []), (0 : Int), (1 : Int)))
      (ob (validArborI (x.snd.1, x.snd.2)) fun y =>
        br (!y) (some (([], []), (0 : Int), (1 : Int)))
          (ob (indexArborI ((x.fst.1, x.fst.2), x.snd.1)) fun y =>
            br (decide ((0 : Int) ≤ y)) (some (([], []), (0 : Int), (4 : Int)))
              (br (decide ((16 : Int) ≤ (↑(List.length x.fst.1) : Int))) (some (([], []), (0 : Int), (5 : Int)))
                (ob (copyWI (x.fst.1, x.fst.2)) fun y =>
                  ob (cloneIntW x.snd.2) fun y_1 =>
                    br (decide (List.length y.1 + [(x.snd.1, y_1)].length ≤ (4294967296 : Nat)))
                      (some ((y.1 ++ [(x.snd.1, y_1)], y.2), (↑(List.length x.fst.1) : Int), (0 : Int))) none))))
def addArborI_con : Con := ⟨[.pair (.slice (.pair (.str) (.slice (i64)))) (.slice (.pair (i64) (.pair (i64) (.pair (i64) (i64))))), .pair (.str) (.slice (i64))], [.pair (.deep 52 (.pair (.d (.str)) (.row 2 (i64)))) (.row 44 (.pair (i64) (.pair (i64) (.pair (i64) (i64))))), .d (i64), .d (i64)], addArborI⟩
theorem addArborI_run (x : Dens [.pair (.slice (.pair (.str) (.slice (i64)))) (.slice (.pair (i64) (.pair (i64) (.pair (i64) (i64))))), .pair (.str) (.slice (i64))]) : runFn (deepE [(52, .pair (.d (.str)) (.row 2 (i64)))] (mkEnv [(49, validWI_con), (71, validArborI_con), (72, indexArborI_con), (63, copyWI_con), (73, cloneIntW_con)] [])) Try.f25 [.pair (.slice (.pair (.str) (.slice (i64)))) (.slice (.pair (i64) (.pair (i64) (.pair (i64) (i64))))), .pair (.str) (.slice (i64))] [.pair (.deep 52 (.pair (.d (.str)) (.row 2 (i64)))) (.row 44 (.pair (i64) (.pair (i64) (.pair (i64) (i64))))), .d (i64), .d (i64)] x = addArborI x := by kernel_rfl
theorem addArborI_ok : addArborI_con.ok Try.prog 25 := fn_ok (con := addArborI_con) (deepE_ok (d := [(52, .pair (.d (.str)) (.row 2 (i64)))]) (mkEnv_ok (cons := [(49, validWI_con), (71, validArborI_con), (72, indexArborI_con), (63, copyWI_con), (73, cloneIntW_con)]) ⟨validWI_ok, validArborI_ok, indexArborI_ok, copyWI_ok, cloneIntW_ok, trivial⟩ [])) Try.func25 rfl (by kernel_rfl) (by exact trivial) (fun x y h => (addArborI_run x).trans h)

def addFnI : (Int × Int × Int × Int) × (Int × Int × Int × Int) → Option (Bool) :=
fun x =>
  ob
    (sameMeshI
      ((x.snd.1, x.snd.snd.1, x.snd.snd.snd.1, x.snd.snd.snd.2), x.fst.1, x.fst.snd.1, x.fst.snd.snd.1,
        x.fst.snd.snd.2))
    fun y => some y
def addFnI_con : Con := ⟨[.pair (i64) (.pair (i64) (.pair (i64) (i64))), .ref (.pair (i64) (.pair (i64) (.pair (i64) (i64))))], [.d (.bool)], addFnI⟩
theorem addFnI_run (x : Dens [.pair (i64) (.pair (i64) (.pair (i64) (i64))), .ref (.pair (i64) (.pair (i64) (.pair (i64) (i64))))]) : runFn (mkEnv [(62, sameMeshI_con)] []) Try.f61 [.pair (i64) (.pair (i64) (.pair (i64) (i64))), .ref (.pair (i64) (.pair (i64) (.pair (i64) (i64))))] [.d (.bool)] x = addFnI x := by kernel_rfl
theorem addFnI_ok : addFnI_con.ok Try.prog 61 := fn_ok (con := addFnI_con) (mkEnv_ok (cons := [(62, sameMeshI_con)]) ⟨sameMeshI_ok, trivial⟩ []) Try.func61 rfl (by kernel_rfl) (by exact trivial) (fun x y h => (addFnI_run x).trans h)

def findMeshAL_vars : Vars := [(0, .val (.slice (.pair (i64) (.pair (i64) (.pair (i64) (i64)))))), (1, .val (.clo 61 (.pair (i64) (.pair (i64) (.pair (i64) (i64)))))), (4, .val (i64)), (7, .val (i64)), (8, .val (i64))]
def findMeshAL_step : List ((Int × Int × Int × Int)) × (Int × Int × Int × Int) × Int × Int × Int → Option (LRes × (List ((Int × Int × Int × Int)) × (Int × Int × Int × Int) × Int × Int × Int)) :=
fun x =>
  br (decide (x.snd.snd.snd.2 < x.snd.snd.snd.1))
    (ob (idx x.1 x.snd.snd.snd.2) fun y =>
      ob (addFnI ((y.1, y.snd.1, y.snd.snd.1, y.snd.snd.2), x.snd.1)) fun y =>
        br y (some (LRes.ret, x.1, x.snd.1, x.snd.snd.snd.2, x.snd.snd.snd.1, x.snd.snd.snd.2))
          (some
            (LRes.next, x.1, x.snd.1, x.snd.snd.1, x.snd.snd.snd.1, IntKind.i64.wrap (x.snd.snd.snd.2 + (1 : Int)))))
    (some (LRes.out, x.1, x.snd.1, x.snd.snd.1, x.snd.snd.snd.1, x.snd.snd.snd.2))
def findMeshAL_fuel : List ((Int × Int × Int × Int)) × (Int × Int × Int × Int) × Int × Int × Int → Nat := fun s => (s.2.2.2.1 - s.2.2.2.2).toNat + 1
def findMeshAL : List ((Int × Int × Int × Int)) × (Int × Int × Int × Int) × Int × Int × Int → Option (Bool × (List ((Int × Int × Int × Int)) × (Int × Int × Int × Int) × Int × Int × Int)) := fun s => iter findMeshAL_step (findMeshAL_fuel s) s
def findMeshAL_L : LoopC := ⟨findMeshAL_vars, 0, .two findMeshAL⟩
noncomputable def findMeshAL_key : Nat := key (loopAt Try.f96 0)
theorem findMeshAL_stepok (x : findMeshAL_vars.den) : stepOf (mkEnv [(61, addFnI_con)] []) Try.f96.ntmps findMeshAL_vars 0 (loopAt Try.f96 0) x = findMeshAL_step x := by kernel_rfl
theorem findMeshAL_ok : LoopOK Try.prog Try.f96.ntmps findMeshAL_L (loopAt Try.f96 0)   := iter_loop (n := Try.f96.ntmps) (vs := findMeshAL_vars) (out := 0) (body := loopAt Try.f96 0) (mkEnv_ok (cons := [(61, addFnI_con)]) ⟨addFnI_ok, trivial⟩ []) findMeshAL_step findMeshAL_fuel (by exact trivial) findMeshAL_stepok

def findMeshA : List ((Int × Int × Int × Int)) × (Int × Int × Int × Int) → Option (Int) :=
fun x =>
  ob (findMeshAL (x.1, x.2, (0 : Int), (↑x.1.length : Int), (0 : Int))) fun r =>
    br r.1 (some (-1 : Int)) (some r.snd.snd.snd.1)
def findMeshA_con : Con := ⟨[.slice (.pair (i64) (.pair (i64) (.pair (i64) (i64)))), .clo 61 (.pair (i64) (.pair (i64) (.pair (i64) (i64))))], [.d (i64)], findMeshA⟩
theorem findMeshA_run (x : Dens [.slice (.pair (i64) (.pair (i64) (.pair (i64) (i64)))), .clo 61 (.pair (i64) (.pair (i64) (.pair (i64) (i64))))]) : runFn (mkEnv [] [(findMeshAL_key, findMeshAL_L)]) Try.f96 [.slice (.pair (i64) (.pair (i64) (.pair (i64) (i64)))), .clo 61 (.pair (i64) (.pair (i64) (.pair (i64) (i64))))] [.d (i64)] x = findMeshA x := by kernel_rfl
theorem findMeshA_ok : findMeshA_con.ok Try.prog 96 := fn_ok (con := findMeshA_con) (mkEnv_ok (cons := []) trivial [(findMeshAL_key, findMeshAL_L)]) Try.func96 rfl (by kernel_rfl) (by exact ⟨findMeshAL_ok, trivial⟩) (fun x y h => (findMeshA_run x).trans h)

def hasMeshA : List ((Int × Int × Int × Int)) × (Int × Int × Int × Int) → Option (Bool) :=
fun x => ob (findMeshA (x.1, x.2)) fun y => some (decide ((0 : Int) ≤ y))
def hasMeshA_con : Con := ⟨[.slice (.pair (i64) (.pair (i64) (.pair (i64) (i64)))), .clo 61 (.pair (i64) (.pair (i64) (.pair (i64) (i64))))], [.d (.bool)], hasMeshA⟩
theorem hasMeshA_run (x : Dens [.slice (.pair (i64) (.pair (i64) (.pair (i64) (i64)))), .clo 61 (.pair (i64) (.pair (i64) (.pair (i64) (i64))))]) : runFn (mkEnv [(96, findMeshA_con)] []) Try.f60 [.slice (.pair (i64) (.pair (i64) (.pair (i64) (i64)))), .clo 61 (.pair (i64) (.pair (i64) (.pair (i64) (i64))))] [.d (.bool)] x = hasMeshA x := by kernel_rfl
theorem hasMeshA_ok : hasMeshA_con.ok Try.prog 60 := fn_ok (con := hasMeshA_con) (mkEnv_ok (cons := [(96, findMeshA_con)]) ⟨findMeshA_ok, trivial⟩ []) Try.func60 rfl (by kernel_rfl) (by exact trivial) (fun x y h => (hasMeshA_run x).trans h)

def addMeshI : (List ((ByteArray × List (Int))) × List ((Int × Int × Int × Int))) × (Int × Int × Int × Int) → Option ((List ((ByteArray × List (Int))) × List ((Int × Int × Int × Int))) × Int) :=
fun x =>
  ob (validWI (x.fst.1, x.fst.2)) fun y =>
    br (!y) (some (([], []), (1 : Int)))
      (ob (joinsI ((x.fst.1, x.fst.2), x.snd.1, x.snd.snd.1, x.snd.snd.snd.1, x.snd.snd.snd.2)) fun y =>
        br (!y) (some (([], []), (2 : Int)))
          (ob (hasMeshA (x.fst.2, x.snd.1, x.snd.snd.1, x.snd.snd.snd.1, x.snd.snd.snd.2)) fun y =>
            br y (some (([], []), (4 : Int)))
              (br (decide ((24 : Int) ≤ (↑(List.length x.fst.2) : Int))) (some (([], []), (5 : Int)))
                (ob (copyWI (x.fst.1, x.fst.2)) fun y =>
                  br
                    (decide
                      (List.length y.2 + [(x.snd.1, x.snd.snd.1, x.snd.snd.snd.1, x.snd.snd.snd.2)].length ≤
                        (4294967296 : Nat)))
                    (some ((y.1, y.2 ++ [(x.snd.1, x.snd.snd.1, x.snd.snd.snd.1, x.snd.snd.snd.2)]), (0 : Int)))
                    none))))
def addMeshI_con : Con := ⟨[.pair (.slice (.pair (.str) (.slice (i64)))) (.slice (.pair (i64) (.pair (i64) (.pair (i64) (i64))))), .pair (i64) (.pair (i64) (.pair (i64) (i64)))], [.pair (.deep 52 (.pair (.d (.str)) (.row 2 (i64)))) (.row 44 (.pair (i64) (.pair (i64) (.pair (i64) (i64))))), .d (i64)], addMeshI⟩
theorem addMeshI_run (x : Dens [.pair (.slice (.pair (.str) (.slice (i64)))) (.slice (.pair (i64) (.pair (i64) (.pair (i64) (i64))))), .pair (i64) (.pair (i64) (.pair (i64) (i64)))]) : runFn (deepE [(52, .pair (.d (.str)) (.row 2 (i64)))] (mkEnv [(49, validWI_con), (59, joinsI_con), (60, hasMeshA_con), (63, copyWI_con)] [])) Try.f20 [.pair (.slice (.pair (.str) (.slice (i64)))) (.slice (.pair (i64) (.pair (i64) (.pair (i64) (i64))))), .pair (i64) (.pair (i64) (.pair (i64) (i64)))] [.pair (.deep 52 (.pair (.d (.str)) (.row 2 (i64)))) (.row 44 (.pair (i64) (.pair (i64) (.pair (i64) (i64))))), .d (i64)] x = addMeshI x := by kernel_rfl
theorem addMeshI_ok : addMeshI_con.ok Try.prog 20 := fn_ok (con := addMeshI_con) (deepE_ok (d := [(52, .pair (.d (.str)) (.row 2 (i64)))]) (mkEnv_ok (cons := [(49, validWI_con), (59, joinsI_con), (60, hasMeshA_con), (63, copyWI_con)]) ⟨validWI_ok, joinsI_ok, hasMeshA_ok, copyWI_ok, trivial⟩ [])) Try.func20 rfl (by kernel_rfl) (by exact trivial) (fun x y h => (addMeshI_run x).trans h)

def ownIntW : List (Int) → Option (List (Int)) :=
fun x => br (decide ((0 : Nat) + x.length ≤ (4294967296 : Nat))) (some ([] ++ x)) none
def ownIntW_con : Con := ⟨[.slice (i64)], [.row 2 (i64)], ownIntW⟩
theorem ownIntW_run (x : Dens [.slice (i64)]) : runFn (mkEnv [] []) Try.f69 [.slice (i64)] [.row 2 (i64)] x = ownIntW x := by kernel_rfl
theorem ownIntW_ok : ownIntW_con.ok Try.prog 69 := fn_ok (con := ownIntW_con) (mkEnv_ok (cons := []) trivial []) Try.func69 rfl (by kernel_rfl) (by exact trivial) (fun x y h => (ownIntW_run x).trans h)

def ownWL_vars : Vars := [(0, .val (.ref (.pair (.slice (.pair (.str) (.slice (i64)))) (.slice (.pair (i64) (.pair (i64) (.pair (i64) (i64)))))))), (2, .box 0 33 (.pair (.slice (.pair (.str) (.slice (i64)))) (.slice (.pair (i64) (.pair (i64) (.pair (i64) (i64))))))), (3, .boxR 33 (.pair (.deep 52 (.pair (.d (.str)) (.row 2 (i64)))) (.row 44 (.pair (i64) (.pair (i64) (.pair (i64) (i64))))))), (4, .val (i64))]
def ownWL_step : (List ((ByteArray × List (Int))) × List ((Int × Int × Int × Int))) × (List ((ByteArray × List (Int))) × List ((Int × Int × Int × Int))) × (List ((ByteArray × List (Int))) × List ((Int × Int × Int × Int))) × Int → Option (LRes × ((List ((ByteArray × List (Int))) × List ((Int × Int × Int × Int))) × (List ((ByteArray × List (Int))) × List ((Int × Int × Int × Int))) × (List ((ByteArray × List (Int))) × List ((Int × Int × Int × Int))) × Int)) :=
fun x =>
  br (decide (x.snd.snd.2 < (↑(List.length x.fst.1) : Int)))
    (ob (idx x.fst.1 x.snd.snd.2) fun y =>
      ob (idx x.fst.1 x.snd.snd.2) fun y_1 =>
        ob (ownIntW y_1.2) fun y_2 =>
          br (decide (List.length x.snd.snd.fst.1 + [(y.1, y_2)].length ≤ (4294967296 : Nat)))
            (some
              (LRes.next, x.1, (x.snd.fst.1, x.snd.fst.2), (x.snd.snd.fst.1 ++ [(y.1, y_2)], x.snd.snd.fst.2),
                IntKind.i64.wrap (x.snd.snd.2 + (1 : Int))))
            none)
    (some (LRes.out, x.1, (x.snd.fst.1, x.snd.fst.2), (x.snd.snd.fst.1, x.snd.snd.fst.2), x.snd.snd.2))
def ownWL_fuel : (List ((ByteArray × List (Int))) × List ((Int × Int × Int × Int))) × (List ((ByteArray × List (Int))) × List ((Int × Int × Int × Int))) × (List ((ByteArray × List (Int))) × List ((Int × Int × Int × Int))) × Int → Nat := fun s => (s.1.1.length - s.2.2.2.toNat) + 1
def ownWL : (List ((ByteArray × List (Int))) × List ((Int × Int × Int × Int))) × (List ((ByteArray × List (Int))) × List ((Int × Int × Int × Int))) × (List ((ByteArray × List (Int))) × List ((Int × Int × Int × Int))) × Int → Option ((List ((ByteArray × List (Int))) × List ((Int × Int × Int × Int))) × (List ((ByteArray × List (Int))) × List ((Int × Int × Int × Int))) × (List ((ByteArray × List (Int))) × List ((Int × Int × Int × Int))) × Int) := fun s => iterP ownWL_step (ownWL_fuel s) s
def ownWL_L : LoopC := ⟨ownWL_vars, 0, .plain ownWL⟩
noncomputable def ownWL_key : Nat := key (loopAt Try.f58 0)
theorem ownWL_stepok (x : ownWL_vars.den) : stepOf (deepE [(52, .pair (.d (.str)) (.row 2 (i64)))] (mkEnv [(69, ownIntW_con)] [])) Try.f58.ntmps ownWL_vars 0 (loopAt Try.f58 0) x = ownWL_step x := by kernel_rfl
theorem ownWL_ok : LoopOK Try.prog Try.f58.ntmps ownWL_L (loopAt Try.f58 0)   := iterP_loop (n := Try.f58.ntmps) (vs := ownWL_vars) (out := 0) (body := loopAt Try.f58 0) (deepE_ok (d := [(52, .pair (.d (.str)) (.row 2 (i64)))]) (mkEnv_ok (cons := [(69, ownIntW_con)]) ⟨ownIntW_ok, trivial⟩ [])) ownWL_step ownWL_fuel (by exact trivial) ownWL_stepok

def ownWS : (List ((ByteArray × List (Int))) × List ((Int × Int × Int × Int))) → Option ((List ((ByteArray × List (Int))) × List ((Int × Int × Int × Int)))) :=
fun x =>
  br (decide ((0 : Nat) + x.2.length ≤ (4294967296 : Nat)))
    (ob (ownWL (x, ([], []), ([], [] ++ x.2), (0 : Int))) fun r => some (r.snd.snd.fst.1, r.snd.snd.fst.2)) none
def ownWS_con : Con := ⟨[.ref (.pair (.slice (.pair (.str) (.slice (i64)))) (.slice (.pair (i64) (.pair (i64) (.pair (i64) (i64))))))], [.pair (.deep 52 (.pair (.d (.str)) (.row 2 (i64)))) (.row 44 (.pair (i64) (.pair (i64) (.pair (i64) (i64)))))], ownWS⟩
theorem ownWS_run (x : Dens [.ref (.pair (.slice (.pair (.str) (.slice (i64)))) (.slice (.pair (i64) (.pair (i64) (.pair (i64) (i64))))))]) : runFn (deepE [(52, .pair (.d (.str)) (.row 2 (i64)))] (mkEnv [] [(ownWL_key, ownWL_L)])) Try.f58 [.ref (.pair (.slice (.pair (.str) (.slice (i64)))) (.slice (.pair (i64) (.pair (i64) (.pair (i64) (i64))))))] [.pair (.deep 52 (.pair (.d (.str)) (.row 2 (i64)))) (.row 44 (.pair (i64) (.pair (i64) (.pair (i64) (i64)))))] x = ownWS x := by kernel_rfl
theorem ownWS_ok : ownWS_con.ok Try.prog 58 := fn_ok (con := ownWS_con) (deepE_ok (d := [(52, .pair (.d (.str)) (.row 2 (i64)))]) (mkEnv_ok (cons := []) trivial [(ownWL_key, ownWL_L)])) Try.func58 rfl (by kernel_rfl) (by exact ⟨ownWL_ok, trivial⟩) (fun x y h => (ownWS_run x).trans h)

def addArborS : (List ((ByteArray × List (Int))) × List ((Int × Int × Int × Int))) × (ByteArray × List (Int)) → Option ((List ((ByteArray × List (Int))) × List ((Int × Int × Int × Int))) × Int × Int) :=
fun x =>
  ob (okWS (x.fst.1, x.fst.2)) fun y =>
    br (!y) (some (([], []), (0 : Int), (1 : Int)))
      (ob (okArborS (x.snd.1, x.snd.2)) fun y =>
        br (!y) (some (([], []), (0 : Int), (1 : Int)))
          (ob (findArborS ((x.fst.1, x.fst.2), x.snd.1)) fun y =>
            br (decide ((0 : Int) ≤ y)) (some (([], []), (0 : Int), (4 : Int)))
              (br (decide ((16 : Int) ≤ (↑(List.length x.fst.1) : Int))) (some (([], []), (0 : Int), (5 : Int)))
                (ob (ownWS (x.fst.1, x.fst.2)) fun y =>
                  ob (ownIntW x.snd.2) fun y_1 =>
                    br (decide (List.length y.1 + [(x.snd.1, y_1)].length ≤ (4294967296 : Nat)))
                      (some ((y.1 ++ [(x.snd.1, y_1)], y.2), (↑(List.length x.fst.1) : Int), (0 : Int))) none))))
def addArborS_con : Con := ⟨[.pair (.slice (.pair (.str) (.slice (i64)))) (.slice (.pair (i64) (.pair (i64) (.pair (i64) (i64))))), .pair (.str) (.slice (i64))], [.pair (.deep 52 (.pair (.d (.str)) (.row 2 (i64)))) (.row 44 (.pair (i64) (.pair (i64) (.pair (i64) (i64))))), .d (i64), .d (i64)], addArborS⟩
theorem addArborS_run (x : Dens [.pair (.slice (.pair (.str) (.slice (i64)))) (.slice (.pair (i64) (.pair (i64) (.pair (i64) (i64))))), .pair (.str) (.slice (i64))]) : runFn (deepE [(52, .pair (.d (.str)) (.row 2 (i64)))] (mkEnv [(45, okWS_con), (67, okArborS_con), (68, findArborS_con), (58, ownWS_con), (69, ownIntW_con)] [])) Try.f23 [.pair (.slice (.pair (.str) (.slice (i64)))) (.slice (.pair (i64) (.pair (i64) (.pair (i64) (i64))))), .pair (.str) (.slice (i64))] [.pair (.deep 52 (.pair (.d (.str)) (.row 2 (i64)))) (.row 44 (.pair (i64) (.pair (i64) (.pair (i64) (i64))))), .d (i64), .d (i64)] x = addArborS x := by kernel_rfl
theorem addArborS_ok : addArborS_con.ok Try.prog 23 := fn_ok (con := addArborS_con) (deepE_ok (d := [(52, .pair (.d (.str)) (.row 2 (i64)))]) (mkEnv_ok (cons := [(45, okWS_con), (67, okArborS_con), (68, findArborS_con), (58, ownWS_con), (69, ownIntW_con)]) ⟨okWS_ok, okArborS_ok, findArborS_ok, ownWS_ok, ownIntW_ok, trivial⟩ [])) Try.func23 rfl (by kernel_rfl) (by exact trivial) (fun x y h => (addArborS_run x).trans h)

def addMeshS : (List ((ByteArray × List (Int))) × List ((Int × Int × Int × Int))) × (Int × Int × Int × Int) → Option ((List ((ByteArray × List (Int))) × List ((Int × Int × Int × Int))) × Int) :=
fun x =>
  ob (okWS (x.fst.1, x.fst.2)) fun y =>
    br (!y) (some (([], []), (1 : Int)))
      (ob (meshS ((x.fst.1, x.fst.2), x.snd.1, x.snd.snd.1, x.snd.snd.snd.1, x.snd.snd.snd.2)) fun y =>
        br (!y) (some (([], []), (2 : Int)))
          (ob
            (knownS
              ((x.fst.1, x.fst.2), (x.snd.1, x.snd.snd.1, x.snd.snd.snd.1, x.snd.snd.snd.2),
                (↑(List.length x.fst.2) : Int)))
            fun y =>
            br y (some (([], []), (4 : Int)))
              (br (decide ((24 : Int) ≤ (↑(List.length x.fst.2) : Int))) (some (([], []), (5 : Int)))
                (ob (ownWS (x.fst.1, x.fst.2)) fun y =>
                  br
                    (decide
                      (List.length y.2 + [(x.snd.1, x.snd.snd.1, x.snd.snd.snd.1, x.snd.snd.snd.2)].length ≤
                        (4294967296 : Nat)))
                    (some ((y.1, y.2 ++ [(x.snd.1, x.snd.snd.1, x.snd.snd.snd.1, x.snd.snd.snd.2)]), (0 : Int)))
                    none))))
def addMeshS_con : Con := ⟨[.pair (.slice (.pair (.str) (.slice (i64)))) (.slice (.pair (i64) (.pair (i64) (.pair (i64) (i64))))), .pair (i64) (.pair (i64) (.pair (i64) (i64)))], [.pair (.deep 52 (.pair (.d (.str)) (.row 2 (i64)))) (.row 44 (.pair (i64) (.pair (i64) (.pair (i64) (i64))))), .d (i64)], addMeshS⟩
theorem addMeshS_run (x : Dens [.pair (.slice (.pair (.str) (.slice (i64)))) (.slice (.pair (i64) (.pair (i64) (.pair (i64) (i64))))), .pair (i64) (.pair (i64) (.pair (i64) (i64)))]) : runFn (deepE [(52, .pair (.d (.str)) (.row 2 (i64)))] (mkEnv [(45, okWS_con), (56, meshS_con), (57, knownS_con), (58, ownWS_con)] [])) Try.f18 [.pair (.slice (.pair (.str) (.slice (i64)))) (.slice (.pair (i64) (.pair (i64) (.pair (i64) (i64))))), .pair (i64) (.pair (i64) (.pair (i64) (i64)))] [.pair (.deep 52 (.pair (.d (.str)) (.row 2 (i64)))) (.row 44 (.pair (i64) (.pair (i64) (.pair (i64) (i64))))), .d (i64)] x = addMeshS x := by kernel_rfl
theorem addMeshS_ok : addMeshS_con.ok Try.prog 18 := fn_ok (con := addMeshS_con) (deepE_ok (d := [(52, .pair (.d (.str)) (.row 2 (i64)))]) (mkEnv_ok (cons := [(45, okWS_con), (56, meshS_con), (57, knownS_con), (58, ownWS_con)]) ⟨okWS_ok, meshS_ok, knownS_ok, ownWS_ok, trivial⟩ [])) Try.func18 rfl (by kernel_rfl) (by exact trivial) (fun x y h => (addMeshS_run x).trans h)

def markArborOne : (ByteArray × List (Int)) × Int → Option ((Int) × ((ByteArray × List (Int)) × Int)) :=
fun x => ob (markIntD (x.fst.2, x.2)) fun y => some (y.1, (x.fst.1, y.snd.1), x.2)
def markArborOne_con : MCon := ⟨[.v (.pair (.d (.str)) (.row 2 (i64))), .v (.d (i64))], [.d (i64)], markArborOne⟩
theorem markArborOne_run (x : ADens [.v (.pair (.d (.str)) (.row 2 (i64))), .v (.d (i64))]) : runFnM (mkEnvM [] [(16, markIntD_con)] []) Try.f27 [.v (.pair (.d (.str)) (.row 2 (i64))), .v (.d (i64))] [.d (i64)] x = markArborOne x := by kernel_rfl
theorem markArborOne_ok : markArborOne_con.ok Try.prog 27 := fnM_ok (con := markArborOne_con) (mkEnvM_ok (cons := []) (mcons := [(16, markIntD_con)]) trivial ⟨markIntD_ok, trivial⟩ []) Try.func27 rfl (by kernel_rfl) (by exact trivial) (fun x y h => (markArborOne_run x).trans h)

def lawAddArbor : (List ((ByteArray × List (Int))) × List ((Int × Int × Int × Int))) × (ByteArray × List (Int)) → Option (Bool) :=
fun x =>
  ob (szWorksL ((x.fst.1, x.fst.2), (1048576 : Int))) fun y =>
    br (decide (y < (0 : Int))) (some true)
      (ob (szArborL ((x.snd.1, x.snd.2), y)) fun y =>
        br (decide (y < (0 : Int))) (some true)
          (ob (toWorksD (x.fst.1, x.fst.2)) fun y =>
            ob (toArborD (x.snd.1, x.snd.2)) fun y_1 =>
              ob (addArborS ((y.1, y.2), y_1.1, y_1.2)) fun y =>
                ob (toWorksD (x.fst.1, x.fst.2)) fun y_2 =>
                  ob (toArborD (x.snd.1, x.snd.2)) fun y_3 =>
                    ob (addArborI ((y_2.1, y_2.2), y_3.1, y_3.2)) fun y_4 =>
                      ob (eqWorksL ((y_4.fst.1, y_4.fst.2), y.fst.1, y.fst.2)) fun y_5 =>
                        br (!y_5) (some false)
                          (br (y_4.snd.1 != y.snd.1) (some false)
                            (br (y_4.snd.2 != y.snd.2) (some false)
                              (ob (toWorksD (x.fst.1, x.fst.2)) fun y_6 =>
                                ob (eqWorksL ((y_2.1, y_2.2), y_6.1, y_6.2)) fun y_7 =>
                                  br (!y_7) (some false)
                                    (ob (toArborD (x.snd.1, x.snd.2)) fun y_8 =>
                                      ob (eqArborL ((y_3.1, y_3.2), y_8.1, y_8.2)) fun y_9 =>
                                        br (!y_9) (some false)
                                          (ob (markWorksD ((y_2.1, y_2.2), (1 : Int))) fun y_10 =>
                                            ob (markArborOne ((y_3.1, y_3.2), y_10.1)) fun y_11 =>
                                              br (decide (y_11.1 < (0 : Int))) (some false)
                                                (ob (eqWorksL ((y_4.fst.1, y_4.fst.2), y.fst.1, y.fst.2)) fun y_12 =>
                                                  br (!y_12) (some false)
                                                    (br (y_4.snd.1 != y.snd.1) (some false)
                                                      (br (y_4.snd.2 != y.snd.2) (some false)
                                                        (ob (markWorksD ((y_4.fst.1, y_4.fst.2), (1 : Int))) fun y_13 =>
                                                          ob (heldWorksD ((y_13.snd.fst.1, y_13.snd.fst.2), (1 : Int)))
                                                            fun y_14 =>
                                                            br (decide (y_14 < (0 : Int))) (some false)
                                                              (br (y_14 != y_13.1) (some false)
                                                                (ob (toWorksD (x.fst.1, x.fst.2)) fun y_15 =>
                                                                  ob (toArborD (x.snd.1, x.snd.2)) fun y_16 =>
                                                                    ob (addArborI ((y_15.1, y_15.2), y_16.1, y_16.2))
                                                                      fun y_17 =>
                                                                      ob
                                                                        (eqWorksL
                                                                          ((y_17.fst.1, y_17.fst.2), y.fst.1, y.fst.2))
                                                                        fun y_18 =>
                                                                        br (!y_18) (some false)
                                                                          (br (y_17.snd.1 != y.snd.1) (some false)
                                                                            (br (y_17.snd.2 != y.snd.2) (some false)
                                                                              (ob
                                                                                (heldWorksD
                                                                                  ((y_13.snd.fst.1, y_13.snd.fst.2),
                                                                                    (1 : Int)))
                                                                                fun y =>
                                                                                br (decide (y < (0 : Int))) (some false)
                                                                                  (br (y != y_13.1) (some false)
                                                                                    (some true))))))))))))))))))
def lawAddArbor_con : Con := ⟨[.pair (.slice (.pair (.str) (.slice (i64)))) (.slice (.pair (i64) (.pair (i64) (.pair (i64) (i64))))), .pair (.str) (.slice (i64))], [.d (.bool)], lawAddArbor⟩
theorem lawAddArbor_run (x : Dens [.pair (.slice (.pair (.str) (.slice (i64)))) (.slice (.pair (i64) (.pair (i64) (.pair (i64) (i64))))), .pair (.str) (.slice (i64))]) : runFn (mkEnvM [(9, szWorksL_con), (22, szArborL_con), (11, toWorksD_con), (24, toArborD_con), (23, addArborS_con), (25, addArborI_con), (14, eqWorksL_con), (26, eqArborL_con), (21, heldWorksD_con)] [(15, markWorksD_con), (27, markArborOne_con)] []) Try.f5 [.pair (.slice (.pair (.str) (.slice (i64)))) (.slice (.pair (i64) (.pair (i64) (.pair (i64) (i64))))), .pair (.str) (.slice (i64))] [.d (.bool)] x = lawAddArbor x := by kernel_rfl
theorem lawAddArbor_ok : lawAddArbor_con.ok Try.prog 5 := fn_ok (con := lawAddArbor_con) (mkEnvM_ok (cons := [(9, szWorksL_con), (22, szArborL_con), (11, toWorksD_con), (24, toArborD_con), (23, addArborS_con), (25, addArborI_con), (14, eqWorksL_con), (26, eqArborL_con), (21, heldWorksD_con)]) (mcons := [(15, markWorksD_con), (27, markArborOne_con)]) ⟨szWorksL_ok, szArborL_ok, toWorksD_ok, toArborD_ok, addArborS_ok, addArborI_ok, eqWorksL_ok, eqArborL_ok, heldWorksD_ok, trivial⟩ ⟨markWorksD_ok, markArborOne_ok, trivial⟩ []) Try.func5 rfl (by kernel_rfl) (by exact trivial) (fun x y h => (lawAddArbor_run x).trans h)

def lawAddMesh : (List ((ByteArray × List (Int))) × List ((Int × Int × Int × Int))) × (Int × Int × Int × Int) → Option (Bool) :=
fun x =>
  ob (szWorksL ((x.fst.1, x.fst.2), (1048576 : Int))) fun y =>
    br (decide (y < (0 : Int))) (some true)
      (ob (toWorksD (x.fst.1, x.fst.2)) fun y =>
        ob (toMeshL (x.snd.1, x.snd.snd.1, x.snd.snd.snd.1, x.snd.snd.snd.2)) fun y_1 =>
          ob (addMeshS ((y.1, y.2), y_1.1, y_1.snd.1, y_1.snd.snd.1, y_1.snd.snd.2)) fun y =>
            ob (toWorksD (x.fst.1, x.fst.2)) fun y_2 =>
              ob (toMeshL (x.snd.1, x.snd.snd.1, x.snd.snd.snd.1, x.snd.snd.snd.2)) fun y_3 =>
                ob (addMeshI ((y_2.1, y_2.2), y_3.1, y_3.snd.1, y_3.snd.snd.1, y_3.snd.snd.2)) fun y_4 =>
                  ob (eqWorksL ((y_4.fst.1, y_4.fst.2), y.fst.1, y.fst.2)) fun y_5 =>
                    br (!y_5) (some false)
                      (br (y_4.2 != y.2) (some false)
                        (ob (toWorksD (x.fst.1, x.fst.2)) fun y_6 =>
                          ob (eqWorksL ((y_2.1, y_2.2), y_6.1, y_6.2)) fun y_7 =>
                            br (!y_7) (some false)
                              (ob (markWorksD ((y_2.1, y_2.2), (1 : Int))) fun y_8 =>
                                br (decide (y_8.1 < (0 : Int))) (some false)
                                  (ob (eqWorksL ((y_4.fst.1, y_4.fst.2), y.fst.1, y.fst.2)) fun y_9 =>
                                    br (!y_9) (some false)
                                      (br (y_4.2 != y.2) (some false)
                                        (ob (markWorksD ((y_4.fst.1, y_4.fst.2), (1 : Int))) fun y_10 =>
                                          ob (heldWorksD ((y_10.snd.fst.1, y_10.snd.fst.2), (1 : Int))) fun y_11 =>
                                            br (decide (y_11 < (0 : Int))) (some false)
                                              (br (y_11 != y_10.1) (some false)
                                                (ob (toWorksD (x.fst.1, x.fst.2)) fun y_12 =>
                                                  ob (toMeshL (x.snd.1, x.snd.snd.1, x.snd.snd.snd.1, x.snd.snd.snd.2))
                                                    fun y_13 =>
                                                    ob
                                                      (addMeshI
                                                        ((y_12.1, y_12.2), y_13.1, y_13.snd.1, y_13.snd.snd.1,
                                                          y_13.snd.snd.2))
                                                      fun y_14 =>
                                                      ob (eqWorksL ((y_14.fst.1, y_14.fst.2), y.fst.1, y.fst.2))
                                                        fun y_15 =>
                                                        br (!y_15) (some false)
                                                          (br (y_14.2 != y.2) (some false)
                                                            (ob
                                                              (heldWorksD ((y_10.snd.fst.1, y_10.snd.fst.2), (1 : Int)))
                                                              fun y =>
                                                              br (decide (y < (0 : Int))) (some false)
                                                                (br (y != y_10.1) (some false) (some true)))))))))))))
def lawAddMesh_con : Con := ⟨[.pair (.slice (.pair (.str) (.slice (i64)))) (.slice (.pair (i64) (.pair (i64) (.pair (i64) (i64))))), .pair (i64) (.pair (i64) (.pair (i64) (i64)))], [.d (.bool)], lawAddMesh⟩
theorem lawAddMesh_run (x : Dens [.pair (.slice (.pair (.str) (.slice (i64)))) (.slice (.pair (i64) (.pair (i64) (.pair (i64) (i64))))), .pair (i64) (.pair (i64) (.pair (i64) (i64)))]) : runFn (mkEnvM [(9, szWorksL_con), (11, toWorksD_con), (19, toMeshL_con), (18, addMeshS_con), (20, addMeshI_con), (14, eqWorksL_con), (21, heldWorksD_con)] [(15, markWorksD_con)] []) Try.f4 [.pair (.slice (.pair (.str) (.slice (i64)))) (.slice (.pair (i64) (.pair (i64) (.pair (i64) (i64))))), .pair (i64) (.pair (i64) (.pair (i64) (i64)))] [.d (.bool)] x = lawAddMesh x := by kernel_rfl
theorem lawAddMesh_ok : lawAddMesh_con.ok Try.prog 4 := fn_ok (con := lawAddMesh_con) (mkEnvM_ok (cons := [(9, szWorksL_con), (11, toWorksD_con), (19, toMeshL_con), (18, addMeshS_con), (20, addMeshI_con), (14, eqWorksL_con), (21, heldWorksD_con)]) (mcons := [(15, markWorksD_con)]) ⟨szWorksL_ok, toWorksD_ok, toMeshL_ok, addMeshS_ok, addMeshI_ok, eqWorksL_ok, heldWorksD_ok, trivial⟩ ⟨markWorksD_ok, trivial⟩ []) Try.func4 rfl (by kernel_rfl) (by exact trivial) (fun x y h => (lawAddMesh_run x).trans h)

end
end Rx
end Go.Proofs.Ythehdbedojcpdaa
