/- What the functions of RxSites come to, and their contracts. No conditions. -/
import Derived.Test.YtonbgpliomhboaaGreatDoorRxEnv
namespace Go.Proofs.YtonbgpliomhboaaGreatDoor
namespace Rx
open Go

def withinP : Int × Int × Int → Option (Bool) :=
fun x => br (decide (x.snd.1 ≤ x.1)) (some (decide (x.1 ≤ x.snd.2))) (some false)
def withinP_con : Con := ⟨[i64, i64, i64], [.d (.bool)], withinP⟩
theorem withinP_run (x : Dens [i64, i64, i64]) : runFn (mkEnv [] []) Tryz.f34 [i64, i64, i64] [.d (.bool)] x = withinP x := by kernel_rfl
theorem withinP_ok : withinP_con.ok Tryz.prog 34 := fn_ok (con := withinP_con) (mkEnv_ok (cons := []) trivial []) Tryz.func34 rfl (by kernel_rfl) (by exact trivial) (fun x y h => (withinP_run x).trans h)

def inP : Int × Int × Int → Option (Bool) :=
fun x => br (decide (x.snd.1 ≤ x.1)) (some (decide (x.1 ≤ x.snd.2))) (some false)
def inP_con : Con := ⟨[i64, i64, i64], [.d (.bool)], inP⟩
theorem inP_run (x : Dens [i64, i64, i64]) : runFn (mkEnv [] []) Tryz.f98 [i64, i64, i64] [.d (.bool)] x = inP x := by kernel_rfl
theorem inP_ok : inP_con.ok Tryz.prog 98 := fn_ok (con := inP_con) (mkEnv_ok (cons := []) trivial []) Tryz.func98 rfl (by kernel_rfl) (by exact trivial) (fun x y h => (inP_run x).trans h)


















def nameIL_vars : Vars := [(2, .val (.bool)), (16, .val (.slice (.int .u8))), (17, .val (i64)), (18, .val (i64))]
def nameIL_step : Bool × List (Int) × Int × Int → Option (LRes × (Bool × List (Int) × Int × Int)) :=
fun x =>
  br (decide (x.snd.snd.2 < x.snd.snd.1))
    (ob (idx x.snd.1 x.snd.snd.2) fun y =>
      br (decide ((97 : Int) ≤ y))
        (br (decide ((48 : Int) ≤ y))
          (br (decide (y ≤ (57 : Int)))
            (br (!decide (y ≤ (122 : Int)))
              (br (x.snd.snd.2 == (0 : Int)) (some (LRes.ret, false, x.snd.1, x.snd.snd.1, x.snd.snd.2))
                (some (LRes.next, x.1, x.snd.1, x.snd.snd.1, IntKind.i64.wrap (x.snd.snd.2 + (1 : Int)))))
              (some (LRes.next, x.1, x.snd.1, x.snd.snd.1, IntKind.i64.wrap (x.snd.snd.2 + (1 : Int)))))
            (br (!decide (y ≤ (122 : Int)))
              (br (x.snd.snd.2 == (0 : Int)) (some (LRes.ret, false, x.snd.1, x.snd.snd.1, x.snd.snd.2))
                (br (!y == (45 : Int)) (some (LRes.ret, false, x.snd.1, x.snd.snd.1, x.snd.snd.2))
                  (some (LRes.next, x.1, x.snd.1, x.snd.snd.1, IntKind.i64.wrap (x.snd.snd.2 + (1 : Int))))))
              (some (LRes.next, x.1, x.snd.1, x.snd.snd.1, IntKind.i64.wrap (x.snd.snd.2 + (1 : Int))))))
          (br (!decide (y ≤ (122 : Int)))
            (br (x.snd.snd.2 == (0 : Int)) (some (LRes.ret, false, x.snd.1, x.snd.snd.1, x.snd.snd.2))
              (br (!y == (45 : Int)) (some (LRes.ret, false, x.snd.1, x.snd.snd.1, x.snd.snd.2))
                (some (LRes.next, x.1, x.snd.1, x.snd.snd.1, IntKind.i64.wrap (x.snd.snd.2 + (1 : Int))))))
            (some (LRes.next, x.1, x.snd.1, x.snd.snd.1, IntKind.i64.wrap (x.snd.snd.2 + (1 : Int))))))
        (br (decide ((48 : Int) ≤ y))
          (br (decide (y ≤ (57 : Int)))
            (br (x.snd.snd.2 == (0 : Int)) (some (LRes.ret, false, x.snd.1, x.snd.snd.1, x.snd.snd.2))
              (some (LRes.next, x.1, x.snd.1, x.snd.snd.1, IntKind.i64.wrap (x.snd.snd.2 + (1 : Int)))))
            (br (x.snd.snd.2 == (0 : Int)) (some (LRes.ret, false, x.snd.1, x.snd.snd.1, x.snd.snd.2))
              (br (!y == (45 : Int)) (some (LRes.ret, false, x.snd.1, x.snd.snd.1, x.snd.snd.2))
                (some (LRes.next, x.1, x.snd.1, x.snd.snd.1, IntKind.i64.wrap (x.snd.snd.2 + (1 : Int)))))))
          (br (x.snd.snd.2 == (0 : Int)) (some (LRes.ret, false, x.snd.1, x.snd.snd.1, x.snd.snd.2))
            (br (!y == (45 : Int)) (some (LRes.ret, false, x.snd.1, x.snd.snd.1, x.snd.snd.2))
              (some (LRes.next, x.1, x.snd.1, x.snd.snd.1, IntKind.i64.wrap (x.snd.snd.2 + (1 : Int))))))))
    (some (LRes.out, x.1, x.snd.1, x.snd.snd.1, x.snd.snd.2))
def nameIL_fuel : Bool × List (Int) × Int × Int → Nat := fun s => (s.2.2.1 - s.2.2.2).toNat + 1
def nameIL : Bool × List (Int) × Int × Int → Option (Bool × (Bool × List (Int) × Int × Int)) := fun s => iter nameIL_step (nameIL_fuel s) s
def nameIL_L : LoopC := ⟨nameIL_vars, 0, .two nameIL⟩
noncomputable def nameIL_key : Nat := key (loopAt Tryz.f89 0)
theorem nameIL_stepok (x : nameIL_vars.den) : stepOf (mkEnv [] []) Tryz.f89.ntmps nameIL_vars 0 (loopAt Tryz.f89 0) x = nameIL_step x := by kernel_rfl
theorem nameIL_ok : LoopOK Tryz.prog Tryz.f89.ntmps nameIL_L (loopAt Tryz.f89 0)   := iter_loop (n := Tryz.f89.ntmps) (vs := nameIL_vars) (out := 0) (body := loopAt Tryz.f89 0) (mkEnv_ok (cons := []) trivial []) nameIL_step nameIL_fuel (by exact trivial) nameIL_stepok

def nameI : ByteArray → Option (Bool) :=
fun x =>
  br (decide ((↑x.size : Int) < (1 : Int))) (some false)
    (br (decide ((12 : Int) < (↑x.size : Int))) (some false)
      (br (decide (x.size ≤ (4294967296 : Nat)))
        (ob (nameIL (false, bytesIn x, (↑(bytesIn x).length : Int), (0 : Int))) fun r =>
          br r.1 (some true) (some r.snd.1))
        none))
def nameI_con : Con := ⟨[.str], [.d (.bool)], nameI⟩
theorem nameI_run (x : Dens [.str]) : runFn (mkEnv [] [(nameIL_key, nameIL_L)]) Tryz.f89 [.str] [.d (.bool)] x = nameI x := by kernel_rfl
theorem nameI_ok : nameI_con.ok Tryz.prog 89 := fn_ok (con := nameI_con) (mkEnv_ok (cons := []) trivial [(nameIL_key, nameIL_L)]) Tryz.func89 rfl (by kernel_rfl) (by exact ⟨nameIL_ok, trivial⟩) (fun x y h => (nameI_run x).trans h)

def smallS : Int → Option (Bool) :=
fun x => br (decide ((97 : Int) ≤ x)) (some (decide (x ≤ (122 : Int)))) (some false)
def smallS_con : Con := ⟨[.int .u8], [.d (.bool)], smallS⟩
theorem smallS_run (x : Dens [.int .u8]) : runFn (mkEnv [] []) Tryz.f114 [.int .u8] [.d (.bool)] x = smallS x := by kernel_rfl
theorem smallS_ok : smallS_con.ok Tryz.prog 114 := fn_ok (con := smallS_con) (mkEnv_ok (cons := []) trivial []) Tryz.func114 rfl (by kernel_rfl) (by exact trivial) (fun x y h => (smallS_run x).trans h)

def digitS : Int → Option (Bool) :=
fun x => br (decide ((48 : Int) ≤ x)) (some (decide (x ≤ (57 : Int)))) (some false)
def digitS_con : Con := ⟨[.int .u8], [.d (.bool)], digitS⟩
theorem digitS_run (x : Dens [.int .u8]) : runFn (mkEnv [] []) Tryz.f103 [.int .u8] [.d (.bool)] x = digitS x := by kernel_rfl
theorem digitS_ok : digitS_con.ok Tryz.prog 103 := fn_ok (con := digitS_con) (mkEnv_ok (cons := []) trivial []) Tryz.func103 rfl (by kernel_rfl) (by exact trivial) (fun x y h => (digitS_run x).trans h)

def nameSL_vars : Vars := [(0, .val (.str)), (2, .val (.bool)), (3, .val (i64))]
def nameSL_step : ByteArray × Bool × Int → Option (LRes × (ByteArray × Bool × Int)) :=
fun x =>
  br (decide (x.snd.2 < (↑x.1.size : Int)))
    (ob (sidx x.1 x.snd.2) fun b =>
      ob (smallS (↑b.toNat : Int)) fun y =>
        br (!y)
          (ob (sidx x.1 x.snd.2) fun b =>
            ob (digitS (↑b.toNat : Int)) fun y =>
              br (!y)
                (ob (sidx x.1 x.snd.2) fun b =>
                  br ((↑b.toNat : Int) != (45 : Int)) (some (LRes.ret, x.1, false, x.snd.2))
                    (some (LRes.next, x.1, x.snd.1, IntKind.i64.wrap (x.snd.2 + (1 : Int)))))
                (some (LRes.next, x.1, x.snd.1, IntKind.i64.wrap (x.snd.2 + (1 : Int)))))
          (some (LRes.next, x.1, x.snd.1, IntKind.i64.wrap (x.snd.2 + (1 : Int)))))
    (some (LRes.out, x.1, x.snd.1, x.snd.2))
def nameSL_fuel : ByteArray × Bool × Int → Nat := fun s => (s.1.size - s.2.2.toNat) + 1
def nameSL : ByteArray × Bool × Int → Option (Bool × (ByteArray × Bool × Int)) := fun s => iter nameSL_step (nameSL_fuel s) s
def nameSL_L : LoopC := ⟨nameSL_vars, 0, .two nameSL⟩
noncomputable def nameSL_key : Nat := key (loopAt Tryz.f96 0)
theorem nameSL_stepok (x : nameSL_vars.den) : stepOf (mkEnv [(114, smallS_con), (103, digitS_con)] []) Tryz.f96.ntmps nameSL_vars 0 (loopAt Tryz.f96 0) x = nameSL_step x := by kernel_rfl
theorem nameSL_ok : LoopOK Tryz.prog Tryz.f96.ntmps nameSL_L (loopAt Tryz.f96 0)   := iter_loop (n := Tryz.f96.ntmps) (vs := nameSL_vars) (out := 0) (body := loopAt Tryz.f96 0) (mkEnv_ok (cons := [(114, smallS_con), (103, digitS_con)]) ⟨smallS_ok, digitS_ok, trivial⟩ []) nameSL_step nameSL_fuel (by exact trivial) nameSL_stepok

def nameS : ByteArray → Option (Bool) :=
fun x =>
  br (x.toList == (⟨⟨[]⟩⟩ : ByteArray).toList) (some false)
    (br (decide ((12 : Int) < (↑x.size : Int))) (some false)
      (ob (sidx x (0 : Int)) fun b =>
        ob (smallS (↑b.toNat : Int)) fun y =>
          br (!y) (some false) (ob (nameSL (x, false, (0 : Int))) fun r => br r.1 (some true) (some r.snd.snd.1))))
def nameS_con : Con := ⟨[.str], [.d (.bool)], nameS⟩
theorem nameS_run (x : Dens [.str]) : runFn (mkEnv [(114, smallS_con)] [(nameSL_key, nameSL_L)]) Tryz.f96 [.str] [.d (.bool)] x = nameS x := by kernel_rfl
theorem nameS_ok : nameS_con.ok Tryz.prog 96 := fn_ok (con := nameS_con) (mkEnv_ok (cons := [(114, smallS_con)]) ⟨smallS_ok, trivial⟩ [(nameSL_key, nameSL_L)]) Tryz.func96 rfl (by kernel_rfl) (by exact ⟨nameSL_ok, trivial⟩) (fun x y h => (nameS_run x).trans h)











end Rx
end Go.Proofs.YtonbgpliomhboaaGreatDoor
