/- What the functions of RxWorks come to, and their contracts. No conditions. -/
import Derived.Test.YtonbgpliomhboaaGreatDoorRxEnv
import Derived.Test.YtonbgpliomhboaaGreatDoorRxSites
namespace Go.Proofs.YtonbgpliomhboaaGreatDoor
namespace Rx
open Go
















def sameIntSL_vars : Vars := [(0, .val (.slice (i64))), (1, .val (.slice (i64))), (4, .val (.bool)), (5, .val (i64))]
def sameIntSL_step : List (Int) × List (Int) × Bool × Int → Option (LRes × (List (Int) × List (Int) × Bool × Int)) :=
fun x =>
  br (decide (x.snd.snd.2 < (↑x.1.length : Int)))
    (ob (idx x.1 x.snd.snd.2) fun y =>
      ob (idx x.snd.1 x.snd.snd.2) fun y_1 =>
        br (y != y_1) (some (LRes.ret, x.1, x.snd.1, false, x.snd.snd.2))
          (some (LRes.next, x.1, x.snd.1, x.snd.snd.1, IntKind.i64.wrap (x.snd.snd.2 + (1 : Int)))))
    (some (LRes.out, x.1, x.snd.1, x.snd.snd.1, x.snd.snd.2))
def sameIntSL_fuel : List (Int) × List (Int) × Bool × Int → Nat := fun s => (s.1.length - s.2.2.2.toNat) + 1
def sameIntSL : List (Int) × List (Int) × Bool × Int → Option (Bool × (List (Int) × List (Int) × Bool × Int)) := fun s => iter sameIntSL_step (sameIntSL_fuel s) s
def sameIntSL_L : LoopC := ⟨sameIntSL_vars, 0, .two sameIntSL⟩
noncomputable def sameIntSL_key : Nat := key (loopAt Tryz.f45 0)
theorem sameIntSL_stepok (x : sameIntSL_vars.den) : stepOf (mkEnv [] []) Tryz.f45.ntmps sameIntSL_vars 0 (loopAt Tryz.f45 0) x = sameIntSL_step x := by kernel_rfl
theorem sameIntSL_ok : LoopOK Tryz.prog Tryz.f45.ntmps sameIntSL_L (loopAt Tryz.f45 0)   := iter_loop (n := Tryz.f45.ntmps) (vs := sameIntSL_vars) (out := 0) (body := loopAt Tryz.f45 0) (mkEnv_ok (cons := []) trivial []) sameIntSL_step sameIntSL_fuel (by exact trivial) sameIntSL_stepok

def sameIntS : List (Int) × List (Int) → Option (Bool) :=
fun x =>
  br ((↑x.1.length : Int) != (↑x.2.length : Int)) (some false)
    (ob (sameIntSL (x.1, x.2, false, (0 : Int))) fun r => br r.1 (some true) (some r.snd.snd.snd.1))
def sameIntS_con : Con := ⟨[.slice (i64), .slice (i64)], [.d (.bool)], sameIntS⟩
theorem sameIntS_run (x : Dens [.slice (i64), .slice (i64)]) : runFn (mkEnv [] [(sameIntSL_key, sameIntSL_L)]) Tryz.f45 [.slice (i64), .slice (i64)] [.d (.bool)] x = sameIntS x := by kernel_rfl
theorem sameIntS_ok : sameIntS_con.ok Tryz.prog 45 := fn_ok (con := sameIntS_con) (mkEnv_ok (cons := []) trivial [(sameIntSL_key, sameIntSL_L)]) Tryz.func45 rfl (by kernel_rfl) (by exact ⟨sameIntSL_ok, trivial⟩) (fun x y h => (sameIntS_run x).trans h)

def sameWSA_vars : Vars := [(2, .box 0 25 (.pair (.slice (.pair (.str) (.slice (i64)))) (.slice (.pair (i64) (.pair (i64) (.pair (i64) (i64))))))), (3, .box 0 25 (.pair (.slice (.pair (.str) (.slice (i64)))) (.slice (.pair (i64) (.pair (i64) (.pair (i64) (i64))))))), (4, .val (.bool)), (5, .val (i64))]
def sameWSA_step : (List ((ByteArray × List (Int))) × List ((Int × Int × Int × Int))) × (List ((ByteArray × List (Int))) × List ((Int × Int × Int × Int))) × Bool × Int → Option (LRes × ((List ((ByteArray × List (Int))) × List ((Int × Int × Int × Int))) × (List ((ByteArray × List (Int))) × List ((Int × Int × Int × Int))) × Bool × Int)) :=
fun x =>
  br (decide (x.snd.snd.2 < (↑(List.length x.fst.1) : Int)))
    (ob (idx x.fst.1 x.snd.snd.2) fun y =>
      ob (idx x.snd.fst.1 x.snd.snd.2) fun y_1 =>
        br (!ByteArray.toList y.1 == ByteArray.toList y_1.1)
          (some (LRes.ret, (x.fst.1, x.fst.2), (x.snd.fst.1, x.snd.fst.2), false, x.snd.snd.2))
          (ob (idx x.fst.1 x.snd.snd.2) fun y =>
            ob (idx x.snd.fst.1 x.snd.snd.2) fun y_2 =>
              ob (sameIntS (y.2, y_2.2)) fun y =>
                br (!y) (some (LRes.ret, (x.fst.1, x.fst.2), (x.snd.fst.1, x.snd.fst.2), false, x.snd.snd.2))
                  (some
                    (LRes.next, (x.fst.1, x.fst.2), (x.snd.fst.1, x.snd.fst.2), x.snd.snd.1,
                      IntKind.i64.wrap (x.snd.snd.2 + (1 : Int))))))
    (some (LRes.out, (x.fst.1, x.fst.2), (x.snd.fst.1, x.snd.fst.2), x.snd.snd.1, x.snd.snd.2))
def sameWSA_fuel : (List ((ByteArray × List (Int))) × List ((Int × Int × Int × Int))) × (List ((ByteArray × List (Int))) × List ((Int × Int × Int × Int))) × Bool × Int → Nat := fun s => (s.1.1.length - s.2.2.2.toNat) + 1
def sameWSA : (List ((ByteArray × List (Int))) × List ((Int × Int × Int × Int))) × (List ((ByteArray × List (Int))) × List ((Int × Int × Int × Int))) × Bool × Int → Option (Bool × ((List ((ByteArray × List (Int))) × List ((Int × Int × Int × Int))) × (List ((ByteArray × List (Int))) × List ((Int × Int × Int × Int))) × Bool × Int)) := fun s => iter sameWSA_step (sameWSA_fuel s) s
def sameWSA_L : LoopC := ⟨sameWSA_vars, 0, .two sameWSA⟩
noncomputable def sameWSA_key : Nat := key (loopAt Tryz.f18 0)
theorem sameWSA_stepok (x : sameWSA_vars.den) : stepOf (mkEnv [(45, sameIntS_con)] []) Tryz.f18.ntmps sameWSA_vars 0 (loopAt Tryz.f18 0) x = sameWSA_step x := by kernel_rfl
theorem sameWSA_ok : LoopOK Tryz.prog Tryz.f18.ntmps sameWSA_L (loopAt Tryz.f18 0)   := iter_loop (n := Tryz.f18.ntmps) (vs := sameWSA_vars) (out := 0) (body := loopAt Tryz.f18 0) (mkEnv_ok (cons := [(45, sameIntS_con)]) ⟨sameIntS_ok, trivial⟩ []) sameWSA_step sameWSA_fuel (by exact trivial) sameWSA_stepok

def sameWSM_vars : Vars := [(2, .box 0 25 (.pair (.slice (.pair (.str) (.slice (i64)))) (.slice (.pair (i64) (.pair (i64) (.pair (i64) (i64))))))), (3, .box 0 25 (.pair (.slice (.pair (.str) (.slice (i64)))) (.slice (.pair (i64) (.pair (i64) (.pair (i64) (i64))))))), (4, .val (.bool)), (6, .val (i64))]
def sameWSM_step : (List ((ByteArray × List (Int))) × List ((Int × Int × Int × Int))) × (List ((ByteArray × List (Int))) × List ((Int × Int × Int × Int))) × Bool × Int → Option (LRes × ((List ((ByteArray × List (Int))) × List ((Int × Int × Int × Int))) × (List ((ByteArray × List (Int))) × List ((Int × Int × Int × Int))) × Bool × Int)) :=
fun x =>
  br (decide (x.snd.snd.2 < (↑(List.length x.fst.2) : Int)))
    (ob (idx x.fst.2 x.snd.snd.2) fun y =>
      ob (idx x.snd.fst.2 x.snd.snd.2) fun y_1 =>
        br (!(y.1 == y_1.1 && (y.snd.1 == y_1.snd.1 && (y.snd.snd.1 == y_1.snd.snd.1 && y.snd.snd.2 == y_1.snd.snd.2))))
          (some (LRes.ret, (x.fst.1, x.fst.2), (x.snd.fst.1, x.snd.fst.2), false, x.snd.snd.2))
          (some
            (LRes.next, (x.fst.1, x.fst.2), (x.snd.fst.1, x.snd.fst.2), x.snd.snd.1,
              IntKind.i64.wrap (x.snd.snd.2 + (1 : Int)))))
    (some (LRes.out, (x.fst.1, x.fst.2), (x.snd.fst.1, x.snd.fst.2), x.snd.snd.1, x.snd.snd.2))
def sameWSM_fuel : (List ((ByteArray × List (Int))) × List ((Int × Int × Int × Int))) × (List ((ByteArray × List (Int))) × List ((Int × Int × Int × Int))) × Bool × Int → Nat := fun s => (s.1.2.length - s.2.2.2.toNat) + 1
def sameWSM : (List ((ByteArray × List (Int))) × List ((Int × Int × Int × Int))) × (List ((ByteArray × List (Int))) × List ((Int × Int × Int × Int))) × Bool × Int → Option (Bool × ((List ((ByteArray × List (Int))) × List ((Int × Int × Int × Int))) × (List ((ByteArray × List (Int))) × List ((Int × Int × Int × Int))) × Bool × Int)) := fun s => iter sameWSM_step (sameWSM_fuel s) s
def sameWSM_L : LoopC := ⟨sameWSM_vars, 2, .two sameWSM⟩
noncomputable def sameWSM_key : Nat := key (loopAt Tryz.f18 1)
theorem sameWSM_stepok (x : sameWSM_vars.den) : stepOf (mkEnv [] []) Tryz.f18.ntmps sameWSM_vars 2 (loopAt Tryz.f18 1) x = sameWSM_step x := by kernel_rfl
theorem sameWSM_ok : LoopOK Tryz.prog Tryz.f18.ntmps sameWSM_L (loopAt Tryz.f18 1)   := iter_loop (n := Tryz.f18.ntmps) (vs := sameWSM_vars) (out := 2) (body := loopAt Tryz.f18 1) (mkEnv_ok (cons := []) trivial []) sameWSM_step sameWSM_fuel (by exact trivial) sameWSM_stepok

def sameWS : (List ((ByteArray × List (Int))) × List ((Int × Int × Int × Int))) × (List ((ByteArray × List (Int))) × List ((Int × Int × Int × Int))) → Option (Bool) :=
fun x =>
  br ((↑(List.length x.fst.1) : Int) != (↑(List.length x.snd.1) : Int)) (some false)
    (br ((↑(List.length x.fst.2) : Int) != (↑(List.length x.snd.2) : Int)) (some false)
      (ob (sameWSA ((x.fst.1, x.fst.2), (x.snd.1, x.snd.2), false, (0 : Int))) fun r =>
        br r.1
          (ob (sameWSM ((r.snd.fst.1, r.snd.fst.2), (r.snd.snd.fst.1, r.snd.snd.fst.2), r.snd.snd.snd.1, (0 : Int)))
            fun r => br r.1 (some true) (some r.snd.snd.snd.1))
          (some r.snd.snd.snd.1)))
def sameWS_con : Con := ⟨[.pair (.slice (.pair (.str) (.slice (i64)))) (.slice (.pair (i64) (.pair (i64) (.pair (i64) (i64))))), .pair (.slice (.pair (.str) (.slice (i64)))) (.slice (.pair (i64) (.pair (i64) (.pair (i64) (i64)))))], [.d (.bool)], sameWS⟩
theorem sameWS_run (x : Dens [.pair (.slice (.pair (.str) (.slice (i64)))) (.slice (.pair (i64) (.pair (i64) (.pair (i64) (i64))))), .pair (.slice (.pair (.str) (.slice (i64)))) (.slice (.pair (i64) (.pair (i64) (.pair (i64) (i64)))))]) : runFn (mkEnv [] [(sameWSA_key, sameWSA_L), (sameWSM_key, sameWSM_L)]) Tryz.f18 [.pair (.slice (.pair (.str) (.slice (i64)))) (.slice (.pair (i64) (.pair (i64) (.pair (i64) (i64))))), .pair (.slice (.pair (.str) (.slice (i64)))) (.slice (.pair (i64) (.pair (i64) (.pair (i64) (i64)))))] [.d (.bool)] x = sameWS x := by kernel_rfl
theorem sameWS_ok : sameWS_con.ok Tryz.prog 18 := fn_ok (con := sameWS_con) (mkEnv_ok (cons := []) trivial [(sameWSA_key, sameWSA_L), (sameWSM_key, sameWSM_L)]) Tryz.func18 rfl (by kernel_rfl) (by exact ⟨sameWSA_ok, sameWSM_ok, trivial⟩) (fun x y h => (sameWS_run x).trans h)


def toothedW : Int → Option (Bool) :=
fun x => ob (withinP (x, (6 : Int), (240 : Int))) fun y => some y
def toothedW_con : Con := ⟨[i64], [.d (.bool)], toothedW⟩
theorem toothedW_run (x : Dens [i64]) : runFn (mkEnv [(34, withinP_con)] []) Tryz.f88 [i64] [.d (.bool)] x = toothedW x := by kernel_rfl
theorem toothedW_ok : toothedW_con.ok Tryz.prog 88 := fn_ok (con := toothedW_con) (mkEnv_ok (cons := [(34, withinP_con)]) ⟨withinP_ok, trivial⟩ []) Tryz.func88 rfl (by kernel_rfl) (by exact trivial) (fun x y h => (toothedW_run x).trans h)

def validArborIL_vars : Vars := [(1, .box 0 56 (.pair (.str) (.slice (i64)))), (2, .val (.bool)), (6, .val (.slice (i64))), (7, .val (i64)), (8, .val (i64))]
def validArborIL_step : (ByteArray × List (Int)) × Bool × List (Int) × Int × Int → Option (LRes × ((ByteArray × List (Int)) × Bool × List (Int) × Int × Int)) :=
fun x =>
  br (decide (x.snd.snd.snd.2 < x.snd.snd.snd.1))
    (ob (idx x.snd.snd.1 x.snd.snd.snd.2) fun y =>
      ob (toothedW y) fun y =>
        br (!y) (some (LRes.ret, (x.fst.1, x.fst.2), false, x.snd.snd.1, x.snd.snd.snd.1, x.snd.snd.snd.2))
          (some
            (LRes.next, (x.fst.1, x.fst.2), x.snd.1, x.snd.snd.1, x.snd.snd.snd.1,
              IntKind.i64.wrap (x.snd.snd.snd.2 + (1 : Int)))))
    (some (LRes.out, (x.fst.1, x.fst.2), x.snd.1, x.snd.snd.1, x.snd.snd.snd.1, x.snd.snd.snd.2))
def validArborIL_fuel : (ByteArray × List (Int)) × Bool × List (Int) × Int × Int → Nat := fun s => (s.2.2.2.1 - s.2.2.2.2).toNat + 1
def validArborIL : (ByteArray × List (Int)) × Bool × List (Int) × Int × Int → Option (Bool × ((ByteArray × List (Int)) × Bool × List (Int) × Int × Int)) := fun s => iter validArborIL_step (validArborIL_fuel s) s
def validArborIL_L : LoopC := ⟨validArborIL_vars, 0, .two validArborIL⟩
noncomputable def validArborIL_key : Nat := key (loopAt Tryz.f54 0)
theorem validArborIL_stepok (x : validArborIL_vars.den) : stepOf (mkEnv [(88, toothedW_con)] []) Tryz.f54.ntmps validArborIL_vars 0 (loopAt Tryz.f54 0) x = validArborIL_step x := by kernel_rfl
theorem validArborIL_ok : LoopOK Tryz.prog Tryz.f54.ntmps validArborIL_L (loopAt Tryz.f54 0)   := iter_loop (n := Tryz.f54.ntmps) (vs := validArborIL_vars) (out := 0) (body := loopAt Tryz.f54 0) (mkEnv_ok (cons := [(88, toothedW_con)]) ⟨toothedW_ok, trivial⟩ []) validArborIL_step validArborIL_fuel (by exact trivial) validArborIL_stepok

def validArborI : (ByteArray × List (Int)) → Option (Bool) :=
fun x =>
  ob (validArborIL ((x.1, x.2), false, x.2, (↑x.2.length : Int), (0 : Int))) fun r =>
    br r.1
      (ob (nameI r.snd.fst.1) fun y =>
        br y (some (decide ((↑(List.length r.snd.fst.2) : Int) ≤ (5 : Int)))) (some false))
      (some r.snd.snd.1)
def validArborI_con : Con := ⟨[.pair (.str) (.slice (i64))], [.d (.bool)], validArborI⟩
theorem validArborI_run (x : Dens [.pair (.str) (.slice (i64))]) : runFn (mkEnv [(89, nameI_con)] [(validArborIL_key, validArborIL_L)]) Tryz.f54 [.pair (.str) (.slice (i64))] [.d (.bool)] x = validArborI x := by kernel_rfl
theorem validArborI_ok : validArborI_con.ok Tryz.prog 54 := fn_ok (con := validArborI_con) (mkEnv_ok (cons := [(89, nameI_con)]) ⟨nameI_ok, trivial⟩ [(validArborIL_key, validArborIL_L)]) Tryz.func54 rfl (by kernel_rfl) (by exact ⟨validArborIL_ok, trivial⟩) (fun x y h => (validArborI_run x).trans h)

def hasWheelI : (List ((ByteArray × List (Int))) × List ((Int × Int × Int × Int))) × Int × Int → Option (Bool) :=
fun x =>
  ob (withinP (x.snd.1, (0 : Int), IntKind.i64.wrap ((↑(List.length x.fst.1) : Int) - (1 : Int)))) fun y =>
    br y
      (ob (idx x.fst.1 x.snd.1) fun y =>
        ob (withinP (x.snd.2, (0 : Int), IntKind.i64.wrap ((↑(List.length y.2) : Int) - (1 : Int)))) fun y => some y)
      (some false)
def hasWheelI_con : Con := ⟨[.pair (.slice (.pair (.str) (.slice (i64)))) (.slice (.pair (i64) (.pair (i64) (.pair (i64) (i64))))), i64, i64], [.d (.bool)], hasWheelI⟩
theorem hasWheelI_run (x : Dens [.pair (.slice (.pair (.str) (.slice (i64)))) (.slice (.pair (i64) (.pair (i64) (.pair (i64) (i64))))), i64, i64]) : runFn (mkEnv [(34, withinP_con)] []) Tryz.f90 [.pair (.slice (.pair (.str) (.slice (i64)))) (.slice (.pair (i64) (.pair (i64) (.pair (i64) (i64))))), i64, i64] [.d (.bool)] x = hasWheelI x := by kernel_rfl
theorem hasWheelI_ok : hasWheelI_con.ok Tryz.prog 90 := fn_ok (con := hasWheelI_con) (mkEnv_ok (cons := [(34, withinP_con)]) ⟨withinP_ok, trivial⟩ []) Tryz.func90 rfl (by kernel_rfl) (by exact trivial) (fun x y h => (hasWheelI_run x).trans h)

def joinsI : (List ((ByteArray × List (Int))) × List ((Int × Int × Int × Int))) × (Int × Int × Int × Int) → Option (Bool) :=
fun x =>
  br (x.snd.1 != x.snd.snd.snd.1)
    (ob (hasWheelI ((x.fst.1, x.fst.2), x.snd.1, x.snd.snd.1)) fun y =>
      br y (ob (hasWheelI ((x.fst.1, x.fst.2), x.snd.snd.snd.1, x.snd.snd.snd.2)) fun y => some y) (some false))
    (some false)
def joinsI_con : Con := ⟨[.pair (.slice (.pair (.str) (.slice (i64)))) (.slice (.pair (i64) (.pair (i64) (.pair (i64) (i64))))), .pair (i64) (.pair (i64) (.pair (i64) (i64)))], [.d (.bool)], joinsI⟩
theorem joinsI_run (x : Dens [.pair (.slice (.pair (.str) (.slice (i64)))) (.slice (.pair (i64) (.pair (i64) (.pair (i64) (i64))))), .pair (i64) (.pair (i64) (.pair (i64) (i64)))]) : runFn (mkEnv [(90, hasWheelI_con)] []) Tryz.f55 [.pair (.slice (.pair (.str) (.slice (i64)))) (.slice (.pair (i64) (.pair (i64) (.pair (i64) (i64))))), .pair (i64) (.pair (i64) (.pair (i64) (i64)))] [.d (.bool)] x = joinsI x := by kernel_rfl
theorem joinsI_ok : joinsI_con.ok Tryz.prog 55 := fn_ok (con := joinsI_con) (mkEnv_ok (cons := [(90, hasWheelI_con)]) ⟨hasWheelI_ok, trivial⟩ []) Tryz.func55 rfl (by kernel_rfl) (by exact trivial) (fun x y h => (joinsI_run x).trans h)

def sameMeshI : (Int × Int × Int × Int) × (Int × Int × Int × Int) → Option (Bool) :=
fun x =>
  br
    (x.fst.1 == x.snd.1 &&
      (x.fst.snd.1 == x.snd.snd.1 && (x.fst.snd.snd.1 == x.snd.snd.snd.1 && x.fst.snd.snd.2 == x.snd.snd.snd.2)))
    (some true)
    (some
      (x.fst.1 == x.snd.snd.snd.1 &&
        (x.fst.snd.1 == x.snd.snd.snd.2 && (x.fst.snd.snd.1 == x.snd.1 && x.fst.snd.snd.2 == x.snd.snd.1))))
def sameMeshI_con : Con := ⟨[.pair (i64) (.pair (i64) (.pair (i64) (i64))), .pair (i64) (.pair (i64) (.pair (i64) (i64)))], [.d (.bool)], sameMeshI⟩
theorem sameMeshI_run (x : Dens [.pair (i64) (.pair (i64) (.pair (i64) (i64))), .pair (i64) (.pair (i64) (.pair (i64) (i64)))]) : runFn (mkEnv [] []) Tryz.f58 [.pair (i64) (.pair (i64) (.pair (i64) (i64))), .pair (i64) (.pair (i64) (.pair (i64) (i64)))] [.d (.bool)] x = sameMeshI x := by kernel_rfl
theorem sameMeshI_ok : sameMeshI_con.ok Tryz.prog 58 := fn_ok (con := sameMeshI_con) (mkEnv_ok (cons := []) trivial []) Tryz.func58 rfl (by kernel_rfl) (by exact trivial) (fun x y h => (sameMeshI_run x).trans h)

def meshFnI : (Int × Int × Int × Int) × (Int × Int × Int × Int) → Option (Bool) :=
fun x =>
  ob
    (sameMeshI
      ((x.snd.1, x.snd.snd.1, x.snd.snd.snd.1, x.snd.snd.snd.2), x.fst.1, x.fst.snd.1, x.fst.snd.snd.1,
        x.fst.snd.snd.2))
    fun y => some y
def meshFnI_con : Con := ⟨[.pair (i64) (.pair (i64) (.pair (i64) (i64))), .ref (.pair (i64) (.pair (i64) (.pair (i64) (i64))))], [.d (.bool)], meshFnI⟩
theorem meshFnI_run (x : Dens [.pair (i64) (.pair (i64) (.pair (i64) (i64))), .ref (.pair (i64) (.pair (i64) (.pair (i64) (i64))))]) : runFn (mkEnv [(58, sameMeshI_con)] []) Tryz.f57 [.pair (i64) (.pair (i64) (.pair (i64) (i64))), .ref (.pair (i64) (.pair (i64) (.pair (i64) (i64))))] [.d (.bool)] x = meshFnI x := by kernel_rfl
theorem meshFnI_ok : meshFnI_con.ok Tryz.prog 57 := fn_ok (con := meshFnI_con) (mkEnv_ok (cons := [(58, sameMeshI_con)]) ⟨sameMeshI_ok, trivial⟩ []) Tryz.func57 rfl (by kernel_rfl) (by exact trivial) (fun x y h => (meshFnI_run x).trans h)

def findMeshL_vars : Vars := [(0, .val (.slice (.pair (i64) (.pair (i64) (.pair (i64) (i64)))))), (1, .val (.clo 57 (.pair (i64) (.pair (i64) (.pair (i64) (i64)))))), (4, .val (i64)), (7, .val (i64)), (8, .val (i64))]
def findMeshL_step : List ((Int × Int × Int × Int)) × (Int × Int × Int × Int) × Int × Int × Int → Option (LRes × (List ((Int × Int × Int × Int)) × (Int × Int × Int × Int) × Int × Int × Int)) :=
fun x =>
  br (decide (x.snd.snd.snd.2 < x.snd.snd.snd.1))
    (ob (idx x.1 x.snd.snd.snd.2) fun y =>
      ob (meshFnI ((y.1, y.snd.1, y.snd.snd.1, y.snd.snd.2), x.snd.1)) fun y =>
        br y (some (LRes.ret, x.1, x.snd.1, x.snd.snd.snd.2, x.snd.snd.snd.1, x.snd.snd.snd.2))
          (some
            (LRes.next, x.1, x.snd.1, x.snd.snd.1, x.snd.snd.snd.1, IntKind.i64.wrap (x.snd.snd.snd.2 + (1 : Int)))))
    (some (LRes.out, x.1, x.snd.1, x.snd.snd.1, x.snd.snd.snd.1, x.snd.snd.snd.2))
def findMeshL_fuel : List ((Int × Int × Int × Int)) × (Int × Int × Int × Int) × Int × Int × Int → Nat := fun s => (s.2.2.2.1 - s.2.2.2.2).toNat + 1
def findMeshL : List ((Int × Int × Int × Int)) × (Int × Int × Int × Int) × Int × Int × Int → Option (Bool × (List ((Int × Int × Int × Int)) × (Int × Int × Int × Int) × Int × Int × Int)) := fun s => iter findMeshL_step (findMeshL_fuel s) s
def findMeshL_L : LoopC := ⟨findMeshL_vars, 0, .two findMeshL⟩
noncomputable def findMeshL_key : Nat := key (loopAt Tryz.f91 0)
theorem findMeshL_stepok (x : findMeshL_vars.den) : stepOf (mkEnv [(57, meshFnI_con)] []) Tryz.f91.ntmps findMeshL_vars 0 (loopAt Tryz.f91 0) x = findMeshL_step x := by kernel_rfl
theorem findMeshL_ok : LoopOK Tryz.prog Tryz.f91.ntmps findMeshL_L (loopAt Tryz.f91 0)   := iter_loop (n := Tryz.f91.ntmps) (vs := findMeshL_vars) (out := 0) (body := loopAt Tryz.f91 0) (mkEnv_ok (cons := [(57, meshFnI_con)]) ⟨meshFnI_ok, trivial⟩ []) findMeshL_step findMeshL_fuel (by exact trivial) findMeshL_stepok

def findMesh : List ((Int × Int × Int × Int)) × (Int × Int × Int × Int) → Option (Int) :=
fun x =>
  ob (findMeshL (x.1, x.2, (0 : Int), (↑x.1.length : Int), (0 : Int))) fun r =>
    br r.1 (some (-1 : Int)) (some r.snd.snd.snd.1)
def findMesh_con : Con := ⟨[.slice (.pair (i64) (.pair (i64) (.pair (i64) (i64)))), .clo 57 (.pair (i64) (.pair (i64) (.pair (i64) (i64))))], [.d (i64)], findMesh⟩
theorem findMesh_run (x : Dens [.slice (.pair (i64) (.pair (i64) (.pair (i64) (i64)))), .clo 57 (.pair (i64) (.pair (i64) (.pair (i64) (i64))))]) : runFn (mkEnv [] [(findMeshL_key, findMeshL_L)]) Tryz.f91 [.slice (.pair (i64) (.pair (i64) (.pair (i64) (i64)))), .clo 57 (.pair (i64) (.pair (i64) (.pair (i64) (i64))))] [.d (i64)] x = findMesh x := by kernel_rfl
theorem findMesh_ok : findMesh_con.ok Tryz.prog 91 := fn_ok (con := findMesh_con) (mkEnv_ok (cons := []) trivial [(findMeshL_key, findMeshL_L)]) Tryz.func91 rfl (by kernel_rfl) (by exact ⟨findMeshL_ok, trivial⟩) (fun x y h => (findMesh_run x).trans h)

def hasMesh : List ((Int × Int × Int × Int)) × (Int × Int × Int × Int) → Option (Bool) :=
fun x => ob (findMesh (x.1, x.2)) fun y => some (decide ((0 : Int) ≤ y))
def hasMesh_con : Con := ⟨[.slice (.pair (i64) (.pair (i64) (.pair (i64) (i64)))), .clo 57 (.pair (i64) (.pair (i64) (.pair (i64) (i64))))], [.d (.bool)], hasMesh⟩
theorem hasMesh_run (x : Dens [.slice (.pair (i64) (.pair (i64) (.pair (i64) (i64)))), .clo 57 (.pair (i64) (.pair (i64) (.pair (i64) (i64))))]) : runFn (mkEnv [(91, findMesh_con)] []) Tryz.f56 [.slice (.pair (i64) (.pair (i64) (.pair (i64) (i64)))), .clo 57 (.pair (i64) (.pair (i64) (.pair (i64) (i64))))] [.d (.bool)] x = hasMesh x := by kernel_rfl
theorem hasMesh_ok : hasMesh_con.ok Tryz.prog 56 := fn_ok (con := hasMesh_con) (mkEnv_ok (cons := [(91, findMesh_con)]) ⟨findMesh_ok, trivial⟩ []) Tryz.func56 rfl (by kernel_rfl) (by exact trivial) (fun x y h => (hasMesh_run x).trans h)

def validWN_vars : Vars := [(1, .box 0 25 (.pair (.slice (.pair (.str) (.slice (i64)))) (.slice (.pair (i64) (.pair (i64) (.pair (i64) (i64))))))), (2, .val (.bool)), (4, .box 0 56 (.pair (.str) (.slice (i64)))), (20, .val (.slice (.pair (.str) (.slice (i64))))), (21, .val (i64)), (22, .val (i64)), (33, .val (.slice (.pair (.str) (.slice (i64))))), (34, .val (i64)), (35, .val (i64))]
def validWN_step : (List ((ByteArray × List (Int))) × List ((Int × Int × Int × Int))) × Bool × (ByteArray × List (Int)) × List ((ByteArray × List (Int))) × Int × Int × List ((ByteArray × List (Int))) × Int × Int → Option (LRes × ((List ((ByteArray × List (Int))) × List ((Int × Int × Int × Int))) × Bool × (ByteArray × List (Int)) × List ((ByteArray × List (Int))) × Int × Int × List ((ByteArray × List (Int))) × Int × Int)) :=
fun x =>
  br (decide (x.snd.snd.snd.snd.snd.snd.snd.2 < x.snd.snd.snd.snd.snd.snd.snd.1))
    (ob (idx x.snd.snd.snd.snd.snd.snd.1 x.snd.snd.snd.snd.snd.snd.snd.2) fun y =>
      br (ByteArray.toList x.snd.snd.fst.1 == ByteArray.toList y.1)
        (some
          (LRes.ret, (x.fst.1, x.fst.2), false, (x.snd.snd.fst.1, x.snd.snd.fst.2), x.snd.snd.snd.1,
            x.snd.snd.snd.snd.1, x.snd.snd.snd.snd.snd.1, x.snd.snd.snd.snd.snd.snd.1, x.snd.snd.snd.snd.snd.snd.snd.1,
            x.snd.snd.snd.snd.snd.snd.snd.2))
        (some
          (LRes.next, (x.fst.1, x.fst.2), x.snd.1, (x.snd.snd.fst.1, x.snd.snd.fst.2), x.snd.snd.snd.1,
            x.snd.snd.snd.snd.1, x.snd.snd.snd.snd.snd.1, x.snd.snd.snd.snd.snd.snd.1, x.snd.snd.snd.snd.snd.snd.snd.1,
            IntKind.i64.wrap (x.snd.snd.snd.snd.snd.snd.snd.2 + (1 : Int)))))
    (some
      (LRes.out, (x.fst.1, x.fst.2), x.snd.1, (x.snd.snd.fst.1, x.snd.snd.fst.2), x.snd.snd.snd.1, x.snd.snd.snd.snd.1,
        x.snd.snd.snd.snd.snd.1, x.snd.snd.snd.snd.snd.snd.1, x.snd.snd.snd.snd.snd.snd.snd.1,
        x.snd.snd.snd.snd.snd.snd.snd.2))
def validWN_fuel : (List ((ByteArray × List (Int))) × List ((Int × Int × Int × Int))) × Bool × (ByteArray × List (Int)) × List ((ByteArray × List (Int))) × Int × Int × List ((ByteArray × List (Int))) × Int × Int → Nat := fun s => (s.2.2.2.2.2.2.2.1 - s.2.2.2.2.2.2.2.2).toNat + 1
def validWN : (List ((ByteArray × List (Int))) × List ((Int × Int × Int × Int))) × Bool × (ByteArray × List (Int)) × List ((ByteArray × List (Int))) × Int × Int × List ((ByteArray × List (Int))) × Int × Int → Option (Bool × ((List ((ByteArray × List (Int))) × List ((Int × Int × Int × Int))) × Bool × (ByteArray × List (Int)) × List ((ByteArray × List (Int))) × Int × Int × List ((ByteArray × List (Int))) × Int × Int)) := fun s => iter validWN_step (validWN_fuel s) s
def validWN_L : LoopC := ⟨validWN_vars, 2, .two validWN⟩
noncomputable def validWN_key : Nat := key (loopIn (loopAt Tryz.f25 0) 0)
theorem validWN_stepok (x : validWN_vars.den) : stepOf (mkEnv [] []) Tryz.f25.ntmps validWN_vars 2 (loopIn (loopAt Tryz.f25 0) 0) x = validWN_step x := by kernel_rfl
theorem validWN_ok : LoopOK Tryz.prog Tryz.f25.ntmps validWN_L (loopIn (loopAt Tryz.f25 0) 0)   := iter_loop (n := Tryz.f25.ntmps) (vs := validWN_vars) (out := 2) (body := loopIn (loopAt Tryz.f25 0) 0) (mkEnv_ok (cons := []) trivial []) validWN_step validWN_fuel (by exact trivial) validWN_stepok

def validWA_vars : Vars := [(1, .box 0 25 (.pair (.slice (.pair (.str) (.slice (i64)))) (.slice (.pair (i64) (.pair (i64) (.pair (i64) (i64))))))), (2, .val (.bool)), (20, .val (.slice (.pair (.str) (.slice (i64))))), (21, .val (i64)), (22, .val (i64))]
def validWA_step : (List ((ByteArray × List (Int))) × List ((Int × Int × Int × Int))) × Bool × List ((ByteArray × List (Int))) × Int × Int → Option (LRes × ((List ((ByteArray × List (Int))) × List ((Int × Int × Int × Int))) × Bool × List ((ByteArray × List (Int))) × Int × Int)) :=
fun x =>
  br (decide (x.snd.snd.snd.2 < x.snd.snd.snd.1))
    (ob (idx x.snd.snd.1 x.snd.snd.snd.2) fun y =>
      ob (validArborI (y.1, y.2)) fun y_1 =>
        br (!y_1) (some (LRes.ret, (x.fst.1, x.fst.2), false, x.snd.snd.1, x.snd.snd.snd.1, x.snd.snd.snd.2))
          (br
            (decide
              ((0 : Int) ≤ (0 : Int) ∧ (0 : Int) ≤ x.snd.snd.snd.2 ∧ x.snd.snd.snd.2 ≤ (↑(List.length x.fst.1) : Int)))
            (ob
              (validWN
                ((x.fst.1, x.fst.2), x.snd.1, (y.1, y.2), x.snd.snd.1, x.snd.snd.snd.1, x.snd.snd.snd.2,
                  List.drop (Int.toNat (0 : Int)) (List.take (Int.toNat x.snd.snd.snd.2) x.fst.1),
                  (↑(List.drop (Int.toNat (0 : Int)) (List.take (Int.toNat x.snd.snd.snd.2) x.fst.1)).length : Int),
                  (0 : Int)))
              fun r =>
              br r.1
                (some
                  (LRes.next, (r.snd.fst.1, r.snd.fst.2), r.snd.snd.1, r.snd.snd.snd.snd.1, r.snd.snd.snd.snd.snd.1,
                    IntKind.i64.wrap (r.snd.snd.snd.snd.snd.snd.1 + (1 : Int))))
                (some
                  (LRes.ret, (r.snd.fst.1, r.snd.fst.2), r.snd.snd.1, r.snd.snd.snd.snd.1, r.snd.snd.snd.snd.snd.1,
                    r.snd.snd.snd.snd.snd.snd.1)))
            none))
    (some (LRes.out, (x.fst.1, x.fst.2), x.snd.1, x.snd.snd.1, x.snd.snd.snd.1, x.snd.snd.snd.2))
def validWA_fuel : (List ((ByteArray × List (Int))) × List ((Int × Int × Int × Int))) × Bool × List ((ByteArray × List (Int))) × Int × Int → Nat := fun s => (s.2.2.2.1 - s.2.2.2.2).toNat + 1
def validWA : (List ((ByteArray × List (Int))) × List ((Int × Int × Int × Int))) × Bool × List ((ByteArray × List (Int))) × Int × Int → Option (Bool × ((List ((ByteArray × List (Int))) × List ((Int × Int × Int × Int))) × Bool × List ((ByteArray × List (Int))) × Int × Int)) := fun s => iter validWA_step (validWA_fuel s) s
def validWA_L : LoopC := ⟨validWA_vars, 0, .two validWA⟩
noncomputable def validWA_key : Nat := key (loopAt Tryz.f25 0)
theorem validWA_stepok (x : validWA_vars.den) : stepOf (mkEnv [(54, validArborI_con)] [(validWN_key, validWN_L)]) Tryz.f25.ntmps validWA_vars 0 (loopAt Tryz.f25 0) x = validWA_step x := by kernel_rfl
theorem validWA_ok : LoopOK Tryz.prog Tryz.f25.ntmps validWA_L (loopAt Tryz.f25 0)   := iter_loop (n := Tryz.f25.ntmps) (vs := validWA_vars) (out := 0) (body := loopAt Tryz.f25 0) (mkEnv_ok (cons := [(54, validArborI_con)]) ⟨validArborI_ok, trivial⟩ [(validWN_key, validWN_L)]) validWA_step validWA_fuel (by exact ⟨validWN_ok, trivial⟩) validWA_stepok

def validWM_vars : Vars := [(1, .box 0 25 (.pair (.slice (.pair (.str) (.slice (i64)))) (.slice (.pair (i64) (.pair (i64) (.pair (i64) (i64))))))), (2, .val (.bool)), (47, .val (.slice (.pair (i64) (.pair (i64) (.pair (i64) (i64)))))), (48, .val (i64)), (49, .val (i64))]
def validWM_step : (List ((ByteArray × List (Int))) × List ((Int × Int × Int × Int))) × Bool × List ((Int × Int × Int × Int)) × Int × Int → Option (LRes × ((List ((ByteArray × List (Int))) × List ((Int × Int × Int × Int))) × Bool × List ((Int × Int × Int × Int)) × Int × Int)) :=
fun x =>
  br (decide (x.snd.snd.snd.2 < x.snd.snd.snd.1))
    (ob (idx x.snd.snd.1 x.snd.snd.snd.2) fun y =>
      ob (joinsI ((x.fst.1, x.fst.2), y.1, y.snd.1, y.snd.snd.1, y.snd.snd.2)) fun y_1 =>
        br (!y_1) (some (LRes.ret, (x.fst.1, x.fst.2), false, x.snd.snd.1, x.snd.snd.snd.1, x.snd.snd.snd.2))
          (br
            (decide
              ((0 : Int) ≤ (0 : Int) ∧ (0 : Int) ≤ x.snd.snd.snd.2 ∧ x.snd.snd.snd.2 ≤ (↑(List.length x.fst.2) : Int)))
            (ob
              (hasMesh
                (List.drop (Int.toNat (0 : Int)) (List.take (Int.toNat x.snd.snd.snd.2) x.fst.2), y.1, y.snd.1,
                  y.snd.snd.1, y.snd.snd.2))
              fun y =>
              br y (some (LRes.ret, (x.fst.1, x.fst.2), false, x.snd.snd.1, x.snd.snd.snd.1, x.snd.snd.snd.2))
                (some
                  (LRes.next, (x.fst.1, x.fst.2), x.snd.1, x.snd.snd.1, x.snd.snd.snd.1,
                    IntKind.i64.wrap (x.snd.snd.snd.2 + (1 : Int)))))
            none))
    (some (LRes.out, (x.fst.1, x.fst.2), x.snd.1, x.snd.snd.1, x.snd.snd.snd.1, x.snd.snd.snd.2))
def validWM_fuel : (List ((ByteArray × List (Int))) × List ((Int × Int × Int × Int))) × Bool × List ((Int × Int × Int × Int)) × Int × Int → Nat := fun s => (s.2.2.2.1 - s.2.2.2.2).toNat + 1
def validWM : (List ((ByteArray × List (Int))) × List ((Int × Int × Int × Int))) × Bool × List ((Int × Int × Int × Int)) × Int × Int → Option (Bool × ((List ((ByteArray × List (Int))) × List ((Int × Int × Int × Int))) × Bool × List ((Int × Int × Int × Int)) × Int × Int)) := fun s => iter validWM_step (validWM_fuel s) s
def validWM_L : LoopC := ⟨validWM_vars, 4, .two validWM⟩
noncomputable def validWM_key : Nat := key (loopAt Tryz.f25 1)
theorem validWM_stepok (x : validWM_vars.den) : stepOf (mkEnv [(55, joinsI_con), (56, hasMesh_con)] []) Tryz.f25.ntmps validWM_vars 4 (loopAt Tryz.f25 1) x = validWM_step x := by kernel_rfl
theorem validWM_ok : LoopOK Tryz.prog Tryz.f25.ntmps validWM_L (loopAt Tryz.f25 1)   := iter_loop (n := Tryz.f25.ntmps) (vs := validWM_vars) (out := 4) (body := loopAt Tryz.f25 1) (mkEnv_ok (cons := [(55, joinsI_con), (56, hasMesh_con)]) ⟨joinsI_ok, hasMesh_ok, trivial⟩ []) validWM_step validWM_fuel (by exact trivial) validWM_stepok

def validWI : (List ((ByteArray × List (Int))) × List ((Int × Int × Int × Int))) → Option (Bool) :=
fun x =>
  br (decide ((16 : Int) < (↑x.1.length : Int))) (some false)
    (br (decide ((24 : Int) < (↑x.2.length : Int))) (some false)
      (ob (validWA ((x.1, x.2), false, x.1, (↑x.1.length : Int), (0 : Int))) fun r =>
        br r.1
          (ob
            (validWM
              ((r.snd.fst.1, r.snd.fst.2), r.snd.snd.1, r.snd.fst.2, (↑(List.length r.snd.fst.2) : Int), (0 : Int)))
            fun r => br r.1 (some true) (some r.snd.snd.1))
          (some r.snd.snd.1)))
def validWI_con : Con := ⟨[.pair (.slice (.pair (.str) (.slice (i64)))) (.slice (.pair (i64) (.pair (i64) (.pair (i64) (i64)))))], [.d (.bool)], validWI⟩
theorem validWI_run (x : Dens [.pair (.slice (.pair (.str) (.slice (i64)))) (.slice (.pair (i64) (.pair (i64) (.pair (i64) (i64)))))]) : runFn (mkEnv [] [(validWA_key, validWA_L), (validWM_key, validWM_L)]) Tryz.f25 [.pair (.slice (.pair (.str) (.slice (i64)))) (.slice (.pair (i64) (.pair (i64) (.pair (i64) (i64)))))] [.d (.bool)] x = validWI x := by kernel_rfl
theorem validWI_ok : validWI_con.ok Tryz.prog 25 := fn_ok (con := validWI_con) (mkEnv_ok (cons := []) trivial [(validWA_key, validWA_L), (validWM_key, validWM_L)]) Tryz.func25 rfl (by kernel_rfl) (by exact ⟨validWA_ok, validWM_ok, trivial⟩) (fun x y h => (validWI_run x).trans h)

def teethW : Int → Option (Bool) :=
fun x => ob (inP (x, (6 : Int), (240 : Int))) fun y => some y
def teethW_con : Con := ⟨[i64], [.d (.bool)], teethW⟩
theorem teethW_run (x : Dens [i64]) : runFn (mkEnv [(98, inP_con)] []) Tryz.f95 [i64] [.d (.bool)] x = teethW x := by kernel_rfl
theorem teethW_ok : teethW_con.ok Tryz.prog 95 := fn_ok (con := teethW_con) (mkEnv_ok (cons := [(98, inP_con)]) ⟨inP_ok, trivial⟩ []) Tryz.func95 rfl (by kernel_rfl) (by exact trivial) (fun x y h => (teethW_run x).trans h)

def okArborSL_vars : Vars := [(0, .val (.ref (.pair (.str) (.slice (i64))))), (2, .val (.bool)), (3, .val (i64))]
def okArborSL_step : (ByteArray × List (Int)) × Bool × Int → Option (LRes × ((ByteArray × List (Int)) × Bool × Int)) :=
fun x =>
  br (decide (x.snd.2 < (↑(List.length x.fst.2) : Int)))
    (ob (idx x.fst.2 x.snd.2) fun y =>
      ob (teethW y) fun y =>
        br (!y) (some (LRes.ret, x.1, false, x.snd.2))
          (some (LRes.next, x.1, x.snd.1, IntKind.i64.wrap (x.snd.2 + (1 : Int)))))
    (some (LRes.out, x.1, x.snd.1, x.snd.2))
def okArborSL_fuel : (ByteArray × List (Int)) × Bool × Int → Nat := fun s => (s.1.2.length - s.2.2.toNat) + 1
def okArborSL : (ByteArray × List (Int)) × Bool × Int → Option (Bool × ((ByteArray × List (Int)) × Bool × Int)) := fun s => iter okArborSL_step (okArborSL_fuel s) s
def okArborSL_L : LoopC := ⟨okArborSL_vars, 0, .two okArborSL⟩
noncomputable def okArborSL_key : Nat := key (loopAt Tryz.f69 0)
theorem okArborSL_stepok (x : okArborSL_vars.den) : stepOf (mkEnv [(95, teethW_con)] []) Tryz.f69.ntmps okArborSL_vars 0 (loopAt Tryz.f69 0) x = okArborSL_step x := by kernel_rfl
theorem okArborSL_ok : LoopOK Tryz.prog Tryz.f69.ntmps okArborSL_L (loopAt Tryz.f69 0)   := iter_loop (n := Tryz.f69.ntmps) (vs := okArborSL_vars) (out := 0) (body := loopAt Tryz.f69 0) (mkEnv_ok (cons := [(95, teethW_con)]) ⟨teethW_ok, trivial⟩ []) okArborSL_step okArborSL_fuel (by exact trivial) okArborSL_stepok

def okArborS : (ByteArray × List (Int)) → Option (Bool) :=
fun x =>
  ob (okArborSL (x, false, (0 : Int))) fun r =>
    br r.1
      (ob (nameS r.snd.fst.1) fun y =>
        br y (some (decide ((↑(List.length r.snd.fst.2) : Int) ≤ (5 : Int)))) (some false))
      (some r.snd.snd.1)
def okArborS_con : Con := ⟨[.ref (.pair (.str) (.slice (i64)))], [.d (.bool)], okArborS⟩
theorem okArborS_run (x : Dens [.ref (.pair (.str) (.slice (i64)))]) : runFn (mkEnv [(96, nameS_con)] [(okArborSL_key, okArborSL_L)]) Tryz.f69 [.ref (.pair (.str) (.slice (i64)))] [.d (.bool)] x = okArborS x := by kernel_rfl
theorem okArborS_ok : okArborS_con.ok Tryz.prog 69 := fn_ok (con := okArborS_con) (mkEnv_ok (cons := [(96, nameS_con)]) ⟨nameS_ok, trivial⟩ [(okArborSL_key, okArborSL_L)]) Tryz.func69 rfl (by kernel_rfl) (by exact ⟨okArborSL_ok, trivial⟩) (fun x y h => (okArborS_run x).trans h)

def wheelS : (List ((ByteArray × List (Int))) × List ((Int × Int × Int × Int))) × Int × Int → Option (Bool) :=
fun x =>
  ob (inP (x.snd.1, (0 : Int), IntKind.i64.wrap ((↑(List.length x.fst.1) : Int) - (1 : Int)))) fun y =>
    br y
      (ob (idx x.fst.1 x.snd.1) fun y =>
        ob (inP (x.snd.2, (0 : Int), IntKind.i64.wrap ((↑(List.length y.2) : Int) - (1 : Int)))) fun y => some y)
      (some false)
def wheelS_con : Con := ⟨[.ref (.pair (.slice (.pair (.str) (.slice (i64)))) (.slice (.pair (i64) (.pair (i64) (.pair (i64) (i64)))))), i64, i64], [.d (.bool)], wheelS⟩
theorem wheelS_run (x : Dens [.ref (.pair (.slice (.pair (.str) (.slice (i64)))) (.slice (.pair (i64) (.pair (i64) (.pair (i64) (i64)))))), i64, i64]) : runFn (mkEnv [(98, inP_con)] []) Tryz.f97 [.ref (.pair (.slice (.pair (.str) (.slice (i64)))) (.slice (.pair (i64) (.pair (i64) (.pair (i64) (i64)))))), i64, i64] [.d (.bool)] x = wheelS x := by kernel_rfl
theorem wheelS_ok : wheelS_con.ok Tryz.prog 97 := fn_ok (con := wheelS_con) (mkEnv_ok (cons := [(98, inP_con)]) ⟨inP_ok, trivial⟩ []) Tryz.func97 rfl (by kernel_rfl) (by exact trivial) (fun x y h => (wheelS_run x).trans h)

def meshS : (List ((ByteArray × List (Int))) × List ((Int × Int × Int × Int))) × (Int × Int × Int × Int) → Option (Bool) :=
fun x =>
  br (x.snd.1 != x.snd.snd.snd.1)
    (ob (wheelS (x.1, x.snd.1, x.snd.snd.1)) fun y =>
      br y (ob (wheelS (x.1, x.snd.snd.snd.1, x.snd.snd.snd.2)) fun y => some y) (some false))
    (some false)
def meshS_con : Con := ⟨[.ref (.pair (.slice (.pair (.str) (.slice (i64)))) (.slice (.pair (i64) (.pair (i64) (.pair (i64) (i64)))))), .pair (i64) (.pair (i64) (.pair (i64) (i64)))], [.d (.bool)], meshS⟩
theorem meshS_run (x : Dens [.ref (.pair (.slice (.pair (.str) (.slice (i64)))) (.slice (.pair (i64) (.pair (i64) (.pair (i64) (i64)))))), .pair (i64) (.pair (i64) (.pair (i64) (i64)))]) : runFn (mkEnv [(97, wheelS_con)] []) Tryz.f71 [.ref (.pair (.slice (.pair (.str) (.slice (i64)))) (.slice (.pair (i64) (.pair (i64) (.pair (i64) (i64)))))), .pair (i64) (.pair (i64) (.pair (i64) (i64)))] [.d (.bool)] x = meshS x := by kernel_rfl
theorem meshS_ok : meshS_con.ok Tryz.prog 71 := fn_ok (con := meshS_con) (mkEnv_ok (cons := [(97, wheelS_con)]) ⟨wheelS_ok, trivial⟩ []) Tryz.func71 rfl (by kernel_rfl) (by exact trivial) (fun x y h => (meshS_run x).trans h)

def equalMeshS : (Int × Int × Int × Int) × (Int × Int × Int × Int) → Option (Bool) :=
fun x =>
  br
    (x.fst.1 == x.snd.1 &&
      (x.fst.snd.1 == x.snd.snd.1 && (x.fst.snd.snd.1 == x.snd.snd.snd.1 && x.fst.snd.snd.2 == x.snd.snd.snd.2)))
    (some true)
    (br (x.fst.1 == x.snd.snd.snd.1)
      (br (x.fst.snd.1 == x.snd.snd.snd.2)
        (br (x.fst.snd.snd.1 == x.snd.1) (some (x.fst.snd.snd.2 == x.snd.snd.1)) (some false)) (some false))
      (some false))
def equalMeshS_con : Con := ⟨[.pair (i64) (.pair (i64) (.pair (i64) (i64))), .pair (i64) (.pair (i64) (.pair (i64) (i64)))], [.d (.bool)], equalMeshS⟩
theorem equalMeshS_run (x : Dens [.pair (i64) (.pair (i64) (.pair (i64) (i64))), .pair (i64) (.pair (i64) (.pair (i64) (i64)))]) : runFn (mkEnv [] []) Tryz.f94 [.pair (i64) (.pair (i64) (.pair (i64) (i64))), .pair (i64) (.pair (i64) (.pair (i64) (i64)))] [.d (.bool)] x = equalMeshS x := by kernel_rfl
theorem equalMeshS_ok : equalMeshS_con.ok Tryz.prog 94 := fn_ok (con := equalMeshS_con) (mkEnv_ok (cons := []) trivial []) Tryz.func94 rfl (by kernel_rfl) (by exact trivial) (fun x y h => (equalMeshS_run x).trans h)

def knownSL_vars : Vars := [(0, .val (.ref (.pair (.slice (.pair (.str) (.slice (i64)))) (.slice (.pair (i64) (.pair (i64) (.pair (i64) (i64)))))))), (2, .val (i64)), (4, .box 0 61 (.pair (i64) (.pair (i64) (.pair (i64) (i64))))), (6, .val (.bool)), (7, .val (i64))]
def knownSL_step : (List ((ByteArray × List (Int))) × List ((Int × Int × Int × Int))) × Int × (Int × Int × Int × Int) × Bool × Int → Option (LRes × ((List ((ByteArray × List (Int))) × List ((Int × Int × Int × Int))) × Int × (Int × Int × Int × Int) × Bool × Int)) :=
fun x =>
  br (decide (x.snd.snd.snd.2 < x.snd.1))
    (ob (idx x.fst.2 x.snd.snd.snd.2) fun y =>
      ob
        (equalMeshS
          ((y.1, y.snd.1, y.snd.snd.1, y.snd.snd.2), x.snd.snd.fst.1, x.snd.snd.fst.snd.1, x.snd.snd.fst.snd.snd.1,
            x.snd.snd.fst.snd.snd.2))
        fun y =>
        br y
          (some
            (LRes.ret, x.1, x.snd.1,
              (x.snd.snd.fst.1, x.snd.snd.fst.snd.1, x.snd.snd.fst.snd.snd.1, x.snd.snd.fst.snd.snd.2), true,
              x.snd.snd.snd.2))
          (some
            (LRes.next, x.1, x.snd.1,
              (x.snd.snd.fst.1, x.snd.snd.fst.snd.1, x.snd.snd.fst.snd.snd.1, x.snd.snd.fst.snd.snd.2), x.snd.snd.snd.1,
              IntKind.i64.wrap (x.snd.snd.snd.2 + (1 : Int)))))
    (some
      (LRes.out, x.1, x.snd.1, (x.snd.snd.fst.1, x.snd.snd.fst.snd.1, x.snd.snd.fst.snd.snd.1, x.snd.snd.fst.snd.snd.2),
        x.snd.snd.snd.1, x.snd.snd.snd.2))
def knownSL_fuel : (List ((ByteArray × List (Int))) × List ((Int × Int × Int × Int))) × Int × (Int × Int × Int × Int) × Bool × Int → Nat := fun s => (s.2.1 - s.2.2.2.2).toNat + 1
def knownSL : (List ((ByteArray × List (Int))) × List ((Int × Int × Int × Int))) × Int × (Int × Int × Int × Int) × Bool × Int → Option (Bool × ((List ((ByteArray × List (Int))) × List ((Int × Int × Int × Int))) × Int × (Int × Int × Int × Int) × Bool × Int)) := fun s => iter knownSL_step (knownSL_fuel s) s
def knownSL_L : LoopC := ⟨knownSL_vars, 0, .two knownSL⟩
noncomputable def knownSL_key : Nat := key (loopAt Tryz.f68 0)
theorem knownSL_stepok (x : knownSL_vars.den) : stepOf (mkEnv [(94, equalMeshS_con)] []) Tryz.f68.ntmps knownSL_vars 0 (loopAt Tryz.f68 0) x = knownSL_step x := by kernel_rfl
theorem knownSL_ok : LoopOK Tryz.prog Tryz.f68.ntmps knownSL_L (loopAt Tryz.f68 0)   := iter_loop (n := Tryz.f68.ntmps) (vs := knownSL_vars) (out := 0) (body := loopAt Tryz.f68 0) (mkEnv_ok (cons := [(94, equalMeshS_con)]) ⟨equalMeshS_ok, trivial⟩ []) knownSL_step knownSL_fuel (by exact trivial) knownSL_stepok

def knownS : (List ((ByteArray × List (Int))) × List ((Int × Int × Int × Int))) × (Int × Int × Int × Int) × Int → Option (Bool) :=
fun x =>
  ob
    (knownSL (x.1, x.snd.2, (x.snd.fst.1, x.snd.fst.snd.1, x.snd.fst.snd.snd.1, x.snd.fst.snd.snd.2), false, (0 : Int)))
    fun r => br r.1 (some false) (some r.snd.snd.snd.snd.1)
def knownS_con : Con := ⟨[.ref (.pair (.slice (.pair (.str) (.slice (i64)))) (.slice (.pair (i64) (.pair (i64) (.pair (i64) (i64)))))), .pair (i64) (.pair (i64) (.pair (i64) (i64))), i64], [.d (.bool)], knownS⟩
theorem knownS_run (x : Dens [.ref (.pair (.slice (.pair (.str) (.slice (i64)))) (.slice (.pair (i64) (.pair (i64) (.pair (i64) (i64)))))), .pair (i64) (.pair (i64) (.pair (i64) (i64))), i64]) : runFn (mkEnv [] [(knownSL_key, knownSL_L)]) Tryz.f68 [.ref (.pair (.slice (.pair (.str) (.slice (i64)))) (.slice (.pair (i64) (.pair (i64) (.pair (i64) (i64)))))), .pair (i64) (.pair (i64) (.pair (i64) (i64))), i64] [.d (.bool)] x = knownS x := by kernel_rfl
theorem knownS_ok : knownS_con.ok Tryz.prog 68 := fn_ok (con := knownS_con) (mkEnv_ok (cons := []) trivial [(knownSL_key, knownSL_L)]) Tryz.func68 rfl (by kernel_rfl) (by exact ⟨knownSL_ok, trivial⟩) (fun x y h => (knownS_run x).trans h)

def findArborSL_vars : Vars := [(0, .val (.ref (.pair (.slice (.pair (.str) (.slice (i64)))) (.slice (.pair (i64) (.pair (i64) (.pair (i64) (i64)))))))), (1, .val (.str)), (4, .val (i64)), (5, .val (i64))]
def findArborSL_step : (List ((ByteArray × List (Int))) × List ((Int × Int × Int × Int))) × ByteArray × Int × Int → Option (LRes × ((List ((ByteArray × List (Int))) × List ((Int × Int × Int × Int))) × ByteArray × Int × Int)) :=
fun x =>
  br (decide (x.snd.snd.2 < (↑(List.length x.fst.1) : Int)))
    (ob (idx x.fst.1 x.snd.snd.2) fun y =>
      br (ByteArray.toList y.1 == ByteArray.toList x.snd.1) (some (LRes.ret, x.1, x.snd.1, x.snd.snd.2, x.snd.snd.2))
        (some (LRes.next, x.1, x.snd.1, x.snd.snd.1, IntKind.i64.wrap (x.snd.snd.2 + (1 : Int)))))
    (some (LRes.out, x.1, x.snd.1, x.snd.snd.1, x.snd.snd.2))
def findArborSL_fuel : (List ((ByteArray × List (Int))) × List ((Int × Int × Int × Int))) × ByteArray × Int × Int → Nat := fun s => (s.1.1.length - s.2.2.2.toNat) + 1
def findArborSL : (List ((ByteArray × List (Int))) × List ((Int × Int × Int × Int))) × ByteArray × Int × Int → Option (Bool × ((List ((ByteArray × List (Int))) × List ((Int × Int × Int × Int))) × ByteArray × Int × Int)) := fun s => iter findArborSL_step (findArborSL_fuel s) s
def findArborSL_L : LoopC := ⟨findArborSL_vars, 0, .two findArborSL⟩
noncomputable def findArborSL_key : Nat := key (loopAt Tryz.f70 0)
theorem findArborSL_stepok (x : findArborSL_vars.den) : stepOf (mkEnv [] []) Tryz.f70.ntmps findArborSL_vars 0 (loopAt Tryz.f70 0) x = findArborSL_step x := by kernel_rfl
theorem findArborSL_ok : LoopOK Tryz.prog Tryz.f70.ntmps findArborSL_L (loopAt Tryz.f70 0)   := iter_loop (n := Tryz.f70.ntmps) (vs := findArborSL_vars) (out := 0) (body := loopAt Tryz.f70 0) (mkEnv_ok (cons := []) trivial []) findArborSL_step findArborSL_fuel (by exact trivial) findArborSL_stepok

def findArborS : (List ((ByteArray × List (Int))) × List ((Int × Int × Int × Int))) × ByteArray → Option (Int) :=
fun x => ob (findArborSL (x.1, x.2, (0 : Int), (0 : Int))) fun r => br r.1 (some (-1 : Int)) (some r.snd.snd.snd.1)
def findArborS_con : Con := ⟨[.ref (.pair (.slice (.pair (.str) (.slice (i64)))) (.slice (.pair (i64) (.pair (i64) (.pair (i64) (i64)))))), .str], [.d (i64)], findArborS⟩
theorem findArborS_run (x : Dens [.ref (.pair (.slice (.pair (.str) (.slice (i64)))) (.slice (.pair (i64) (.pair (i64) (.pair (i64) (i64)))))), .str]) : runFn (mkEnv [] [(findArborSL_key, findArborSL_L)]) Tryz.f70 [.ref (.pair (.slice (.pair (.str) (.slice (i64)))) (.slice (.pair (i64) (.pair (i64) (.pair (i64) (i64)))))), .str] [.d (i64)] x = findArborS x := by kernel_rfl
theorem findArborS_ok : findArborS_con.ok Tryz.prog 70 := fn_ok (con := findArborS_con) (mkEnv_ok (cons := []) trivial [(findArborSL_key, findArborSL_L)]) Tryz.func70 rfl (by kernel_rfl) (by exact ⟨findArborSL_ok, trivial⟩) (fun x y h => (findArborS_run x).trans h)

def okWSA_vars : Vars := [(0, .val (.ref (.pair (.slice (.pair (.str) (.slice (i64)))) (.slice (.pair (i64) (.pair (i64) (.pair (i64) (i64)))))))), (2, .val (.bool)), (3, .val (i64))]
def okWSA_step : (List ((ByteArray × List (Int))) × List ((Int × Int × Int × Int))) × Bool × Int → Option (LRes × ((List ((ByteArray × List (Int))) × List ((Int × Int × Int × Int))) × Bool × Int)) :=
fun x =>
  br (decide (x.snd.2 < (↑(List.length x.fst.1) : Int)))
    (ob (idx x.fst.1 x.snd.2) fun y =>
      ob (okArborS y) fun y =>
        br (!y) (some (LRes.ret, x.1, false, x.snd.2))
          (ob (idx x.fst.1 x.snd.2) fun y =>
            ob (findArborS (x.1, y.1)) fun y =>
              br (y != x.snd.2) (some (LRes.ret, x.1, false, x.snd.2))
                (some (LRes.next, x.1, x.snd.1, IntKind.i64.wrap (x.snd.2 + (1 : Int))))))
    (some (LRes.out, x.1, x.snd.1, x.snd.2))
def okWSA_fuel : (List ((ByteArray × List (Int))) × List ((Int × Int × Int × Int))) × Bool × Int → Nat := fun s => (s.1.1.length - s.2.2.toNat) + 1
def okWSA : (List ((ByteArray × List (Int))) × List ((Int × Int × Int × Int))) × Bool × Int → Option (Bool × ((List ((ByteArray × List (Int))) × List ((Int × Int × Int × Int))) × Bool × Int)) := fun s => iter okWSA_step (okWSA_fuel s) s
def okWSA_L : LoopC := ⟨okWSA_vars, 0, .two okWSA⟩
noncomputable def okWSA_key : Nat := key (loopAt Tryz.f37 0)
theorem okWSA_stepok (x : okWSA_vars.den) : stepOf (mkEnv [(69, okArborS_con), (70, findArborS_con)] []) Tryz.f37.ntmps okWSA_vars 0 (loopAt Tryz.f37 0) x = okWSA_step x := by kernel_rfl
theorem okWSA_ok : LoopOK Tryz.prog Tryz.f37.ntmps okWSA_L (loopAt Tryz.f37 0)   := iter_loop (n := Tryz.f37.ntmps) (vs := okWSA_vars) (out := 0) (body := loopAt Tryz.f37 0) (mkEnv_ok (cons := [(69, okArborS_con), (70, findArborS_con)]) ⟨okArborS_ok, findArborS_ok, trivial⟩ []) okWSA_step okWSA_fuel (by exact trivial) okWSA_stepok

def okWSM_vars : Vars := [(0, .val (.ref (.pair (.slice (.pair (.str) (.slice (i64)))) (.slice (.pair (i64) (.pair (i64) (.pair (i64) (i64)))))))), (2, .val (.bool)), (4, .val (i64))]
def okWSM_step : (List ((ByteArray × List (Int))) × List ((Int × Int × Int × Int))) × Bool × Int → Option (LRes × ((List ((ByteArray × List (Int))) × List ((Int × Int × Int × Int))) × Bool × Int)) :=
fun x =>
  br (decide (x.snd.2 < (↑(List.length x.fst.2) : Int)))
    (ob (idx x.fst.2 x.snd.2) fun y =>
      ob (meshS (x.1, y.1, y.snd.1, y.snd.snd.1, y.snd.snd.2)) fun y =>
        br (!y) (some (LRes.ret, x.1, false, x.snd.2))
          (ob (idx x.fst.2 x.snd.2) fun y =>
            ob (knownS (x.1, (y.1, y.snd.1, y.snd.snd.1, y.snd.snd.2), x.snd.2)) fun y =>
              br y (some (LRes.ret, x.1, false, x.snd.2))
                (some (LRes.next, x.1, x.snd.1, IntKind.i64.wrap (x.snd.2 + (1 : Int))))))
    (some (LRes.out, x.1, x.snd.1, x.snd.2))
def okWSM_fuel : (List ((ByteArray × List (Int))) × List ((Int × Int × Int × Int))) × Bool × Int → Nat := fun s => (s.1.2.length - s.2.2.toNat) + 1
def okWSM : (List ((ByteArray × List (Int))) × List ((Int × Int × Int × Int))) × Bool × Int → Option (Bool × ((List ((ByteArray × List (Int))) × List ((Int × Int × Int × Int))) × Bool × Int)) := fun s => iter okWSM_step (okWSM_fuel s) s
def okWSM_L : LoopC := ⟨okWSM_vars, 2, .two okWSM⟩
noncomputable def okWSM_key : Nat := key (loopAt Tryz.f37 1)
theorem okWSM_stepok (x : okWSM_vars.den) : stepOf (mkEnv [(71, meshS_con), (68, knownS_con)] []) Tryz.f37.ntmps okWSM_vars 2 (loopAt Tryz.f37 1) x = okWSM_step x := by kernel_rfl
theorem okWSM_ok : LoopOK Tryz.prog Tryz.f37.ntmps okWSM_L (loopAt Tryz.f37 1)   := iter_loop (n := Tryz.f37.ntmps) (vs := okWSM_vars) (out := 2) (body := loopAt Tryz.f37 1) (mkEnv_ok (cons := [(71, meshS_con), (68, knownS_con)]) ⟨meshS_ok, knownS_ok, trivial⟩ []) okWSM_step okWSM_fuel (by exact trivial) okWSM_stepok

def okWS : (List ((ByteArray × List (Int))) × List ((Int × Int × Int × Int))) → Option (Bool) :=
fun x =>
  ob (okWSA (x, false, (0 : Int))) fun r =>
    br r.1
      (ob (okWSM (r.snd.1, r.snd.snd.1, (0 : Int))) fun r =>
        br r.1
          (br (decide ((↑(List.length r.snd.fst.1) : Int) ≤ (16 : Int)))
            (some (decide ((↑(List.length r.snd.fst.2) : Int) ≤ (24 : Int)))) (some false))
          (some r.snd.snd.1))
      (some r.snd.snd.1)
def okWS_con : Con := ⟨[.ref (.pair (.slice (.pair (.str) (.slice (i64)))) (.slice (.pair (i64) (.pair (i64) (.pair (i64) (i64))))))], [.d (.bool)], okWS⟩
theorem okWS_run (x : Dens [.ref (.pair (.slice (.pair (.str) (.slice (i64)))) (.slice (.pair (i64) (.pair (i64) (.pair (i64) (i64))))))]) : runFn (mkEnv [] [(okWSA_key, okWSA_L), (okWSM_key, okWSM_L)]) Tryz.f37 [.ref (.pair (.slice (.pair (.str) (.slice (i64)))) (.slice (.pair (i64) (.pair (i64) (.pair (i64) (i64))))))] [.d (.bool)] x = okWS x := by kernel_rfl
theorem okWS_ok : okWS_con.ok Tryz.prog 37 := fn_ok (con := okWS_con) (mkEnv_ok (cons := []) trivial [(okWSA_key, okWSA_L), (okWSM_key, okWSM_L)]) Tryz.func37 rfl (by kernel_rfl) (by exact ⟨okWSA_ok, okWSM_ok, trivial⟩) (fun x y h => (okWS_run x).trans h)



def namedArborI : (ByteArray × List (Int)) × ByteArray → Option (Bool) :=
fun x => some (ByteArray.toList x.fst.1 == x.2.toList)
def namedArborI_con : Con := ⟨[.pair (.str) (.slice (i64)), .ref (.str)], [.d (.bool)], namedArborI⟩
theorem namedArborI_run (x : Dens [.pair (.str) (.slice (i64)), .ref (.str)]) : runFn (mkEnv [] []) Tryz.f53 [.pair (.str) (.slice (i64)), .ref (.str)] [.d (.bool)] x = namedArborI x := by kernel_rfl
theorem namedArborI_ok : namedArborI_con.ok Tryz.prog 53 := fn_ok (con := namedArborI_con) (mkEnv_ok (cons := []) trivial []) Tryz.func53 rfl (by kernel_rfl) (by exact trivial) (fun x y h => (namedArborI_run x).trans h)

def findArborIL_vars : Vars := [(0, .val (.slice (.pair (.str) (.slice (i64))))), (1, .val (.clo 53 (.str))), (4, .val (i64)), (7, .val (i64)), (8, .val (i64))]
def findArborIL_step : List ((ByteArray × List (Int))) × ByteArray × Int × Int × Int → Option (LRes × (List ((ByteArray × List (Int))) × ByteArray × Int × Int × Int)) :=
fun x =>
  br (decide (x.snd.snd.snd.2 < x.snd.snd.snd.1))
    (ob (idx x.1 x.snd.snd.snd.2) fun y =>
      ob (namedArborI ((y.1, y.2), x.snd.1)) fun y =>
        br y (some (LRes.ret, x.1, x.snd.1, x.snd.snd.snd.2, x.snd.snd.snd.1, x.snd.snd.snd.2))
          (some
            (LRes.next, x.1, x.snd.1, x.snd.snd.1, x.snd.snd.snd.1, IntKind.i64.wrap (x.snd.snd.snd.2 + (1 : Int)))))
    (some (LRes.out, x.1, x.snd.1, x.snd.snd.1, x.snd.snd.snd.1, x.snd.snd.snd.2))
def findArborIL_fuel : List ((ByteArray × List (Int))) × ByteArray × Int × Int × Int → Nat := fun s => (s.2.2.2.1 - s.2.2.2.2).toNat + 1
def findArborIL : List ((ByteArray × List (Int))) × ByteArray × Int × Int × Int → Option (Bool × (List ((ByteArray × List (Int))) × ByteArray × Int × Int × Int)) := fun s => iter findArborIL_step (findArborIL_fuel s) s
def findArborIL_L : LoopC := ⟨findArborIL_vars, 0, .two findArborIL⟩
noncomputable def findArborIL_key : Nat := key (loopAt Tryz.f52 0)
theorem findArborIL_stepok (x : findArborIL_vars.den) : stepOf (mkEnv [(53, namedArborI_con)] []) Tryz.f52.ntmps findArborIL_vars 0 (loopAt Tryz.f52 0) x = findArborIL_step x := by kernel_rfl
theorem findArborIL_ok : LoopOK Tryz.prog Tryz.f52.ntmps findArborIL_L (loopAt Tryz.f52 0)   := iter_loop (n := Tryz.f52.ntmps) (vs := findArborIL_vars) (out := 0) (body := loopAt Tryz.f52 0) (mkEnv_ok (cons := [(53, namedArborI_con)]) ⟨namedArborI_ok, trivial⟩ []) findArborIL_step findArborIL_fuel (by exact trivial) findArborIL_stepok

def findArborI : List ((ByteArray × List (Int))) × ByteArray → Option (Int) :=
fun x =>
  ob (findArborIL (x.1, x.2, (0 : Int), (↑x.1.length : Int), (0 : Int))) fun r =>
    br r.1 (some (-1 : Int)) (some r.snd.snd.snd.1)
def findArborI_con : Con := ⟨[.slice (.pair (.str) (.slice (i64))), .clo 53 (.str)], [.d (i64)], findArborI⟩
theorem findArborI_run (x : Dens [.slice (.pair (.str) (.slice (i64))), .clo 53 (.str)]) : runFn (mkEnv [] [(findArborIL_key, findArborIL_L)]) Tryz.f52 [.slice (.pair (.str) (.slice (i64))), .clo 53 (.str)] [.d (i64)] x = findArborI x := by kernel_rfl
theorem findArborI_ok : findArborI_con.ok Tryz.prog 52 := fn_ok (con := findArborI_con) (mkEnv_ok (cons := []) trivial [(findArborIL_key, findArborIL_L)]) Tryz.func52 rfl (by kernel_rfl) (by exact ⟨findArborIL_ok, trivial⟩) (fun x y h => (findArborI_run x).trans h)

def indexArborI : (List ((ByteArray × List (Int))) × List ((Int × Int × Int × Int))) × ByteArray → Option (Int) :=
fun x => ob (findArborI (x.fst.1, x.2)) fun y => some y
def indexArborI_con : Con := ⟨[.pair (.slice (.pair (.str) (.slice (i64)))) (.slice (.pair (i64) (.pair (i64) (.pair (i64) (i64))))), .str], [.d (i64)], indexArborI⟩
theorem indexArborI_run (x : Dens [.pair (.slice (.pair (.str) (.slice (i64)))) (.slice (.pair (i64) (.pair (i64) (.pair (i64) (i64))))), .str]) : runFn (mkEnv [(52, findArborI_con)] []) Tryz.f24 [.pair (.slice (.pair (.str) (.slice (i64)))) (.slice (.pair (i64) (.pair (i64) (.pair (i64) (i64))))), .str] [.d (i64)] x = indexArborI x := by kernel_rfl
theorem indexArborI_ok : indexArborI_con.ok Tryz.prog 24 := fn_ok (con := indexArborI_con) (mkEnv_ok (cons := [(52, findArborI_con)]) ⟨findArborI_ok, trivial⟩ []) Tryz.func24 rfl (by kernel_rfl) (by exact trivial) (fun x y h => (indexArborI_run x).trans h)





def pairWI : (List ((ByteArray × List (Int))) × List ((Int × Int × Int × Int))) × (Int × Int × Int × Int) → Option ((Int × Int)) :=
fun x =>
  ob (idx x.fst.1 x.snd.1) fun y =>
    ob (idx y.2 x.snd.snd.1) fun y =>
      ob (idx x.fst.1 x.snd.snd.snd.1) fun y_1 => ob (idx y_1.2 x.snd.snd.snd.2) fun y_2 => some (y, y_2)
def pairWI_con : Con := ⟨[.pair (.slice (.pair (.str) (.slice (i64)))) (.slice (.pair (i64) (.pair (i64) (.pair (i64) (i64))))), .pair (i64) (.pair (i64) (.pair (i64) (i64)))], [.d (.pair (i64) (i64))], pairWI⟩
theorem pairWI_run (x : Dens [.pair (.slice (.pair (.str) (.slice (i64)))) (.slice (.pair (i64) (.pair (i64) (.pair (i64) (i64))))), .pair (i64) (.pair (i64) (.pair (i64) (i64)))]) : runFn (mkEnv [] []) Tryz.f36 [.pair (.slice (.pair (.str) (.slice (i64)))) (.slice (.pair (i64) (.pair (i64) (.pair (i64) (i64))))), .pair (i64) (.pair (i64) (.pair (i64) (i64)))] [.d (.pair (i64) (i64))] x = pairWI x := by kernel_rfl
theorem pairWI_ok : pairWI_con.ok Tryz.prog 36 := fn_ok (con := pairWI_con) (mkEnv_ok (cons := []) trivial []) Tryz.func36 rfl (by kernel_rfl) (by exact trivial) (fun x y h => (pairWI_run x).trans h)


def pairWS : (List ((ByteArray × List (Int))) × List ((Int × Int × Int × Int))) × (Int × Int × Int × Int) → Option ((Int × Int)) :=
fun x =>
  ob (idx x.fst.1 x.snd.1) fun y =>
    ob (idx y.2 x.snd.snd.1) fun y =>
      ob (idx x.fst.1 x.snd.snd.snd.1) fun y_1 => ob (idx y_1.2 x.snd.snd.snd.2) fun y_2 => some (y, y_2)
def pairWS_con : Con := ⟨[.ref (.pair (.slice (.pair (.str) (.slice (i64)))) (.slice (.pair (i64) (.pair (i64) (.pair (i64) (i64)))))), .pair (i64) (.pair (i64) (.pair (i64) (i64)))], [.d (.pair (i64) (i64))], pairWS⟩
theorem pairWS_run (x : Dens [.ref (.pair (.slice (.pair (.str) (.slice (i64)))) (.slice (.pair (i64) (.pair (i64) (.pair (i64) (i64)))))), .pair (i64) (.pair (i64) (.pair (i64) (i64)))]) : runFn (mkEnv [] []) Tryz.f99 [.ref (.pair (.slice (.pair (.str) (.slice (i64)))) (.slice (.pair (i64) (.pair (i64) (.pair (i64) (i64)))))), .pair (i64) (.pair (i64) (.pair (i64) (i64)))] [.d (.pair (i64) (i64))] x = pairWS x := by kernel_rfl
theorem pairWS_ok : pairWS_con.ok Tryz.prog 99 := fn_ok (con := pairWS_con) (mkEnv_ok (cons := []) trivial []) Tryz.func99 rfl (by kernel_rfl) (by exact trivial) (fun x y h => (pairWS_run x).trans h)



end Rx
end Go.Proofs.YtonbgpliomhboaaGreatDoor
