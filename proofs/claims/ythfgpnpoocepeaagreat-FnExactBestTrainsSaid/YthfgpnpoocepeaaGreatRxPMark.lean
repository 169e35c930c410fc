/- What the functions of RxPMark come to, and their contracts. No conditions. -/
import Derived.Test.YthfgpnpoocepeaaGreatRxEnv
import Derived.Test.YthfgpnpoocepeaaGreatRxPairs
namespace Go.Proofs.YthfgpnpoocepeaaGreat
namespace Rx
open Go

noncomputable section
def markPairXL_vars : Vars := [(0, .row 2 64 (.pair (i64) (i64))), (1, .val (i64)), (5, .val (i64))]
def markPairXL_step : List ((Int × Int)) × Int × Int → Option (LRes × (List ((Int × Int)) × Int × Int)) :=
fun x =>
  br (decide (x.snd.2 < (↑x.1.length : Int)))
    (ob (idx x.1 x.snd.2) fun x_1 =>
      ob (x.1.get?Internal (Int.toNat x.snd.2)) fun x_2 =>
        ob (idx (x.1.set (Int.toNat x.snd.2) (x.snd.1, x_2.2)) x.snd.2) fun x_3 =>
          ob ((x.1.set (Int.toNat x.snd.2) (x.snd.1, x_2.2)).get?Internal (Int.toNat x.snd.2)) fun x_4 =>
            some
              (LRes.next,
                (x.1.set (Int.toNat x.snd.2) (x.snd.1, x_2.2)).set (Int.toNat x.snd.2)
                  (x_4.1, IntKind.i64.wrap (x.snd.1 + (1 : Int))),
                IntKind.i64.wrap (IntKind.i64.wrap (x.snd.1 + (1 : Int)) + (1 : Int)),
                IntKind.i64.wrap (x.snd.2 + (1 : Int))))
    (some (LRes.out, x.1, x.snd.1, x.snd.2))
def markPairXL_fuel : List ((Int × Int)) × Int × Int → Nat := fun s => (s.1.length - s.2.2.toNat) + 1
def markPairXL : List ((Int × Int)) × Int × Int → Option (List ((Int × Int)) × Int × Int) := fun s => iterP markPairXL_step (markPairXL_fuel s) s
def markPairXL_L : LoopC := ⟨markPairXL_vars, 0, .plain markPairXL⟩
noncomputable def markPairXL_key : Nat := key (loopAt Tryz.f44 0)
theorem markPairXL_stepok (x : markPairXL_vars.den) : stepOf (mkEnv [] []) Tryz.f44.ntmps markPairXL_vars 0 (loopAt Tryz.f44 0) x = markPairXL_step x := by kernel_rfl
theorem markPairXL_ok : LoopOK Tryz.prog Tryz.f44.ntmps markPairXL_L (loopAt Tryz.f44 0)   := iterP_loop (n := Tryz.f44.ntmps) (vs := markPairXL_vars) (out := 0) (body := loopAt Tryz.f44 0) (mkEnv_ok (cons := []) trivial []) markPairXL_step markPairXL_fuel (by exact trivial) markPairXL_stepok

def markPairX : List ((Int × Int)) × Int → Option ((Int) × (List ((Int × Int)) × Int)) :=
fun x => ob (markPairXL (x.1, x.2, (0 : Int))) fun r => some (r.snd.1, r.1, x.2)
def markPairX_con : MCon := ⟨[.v (.row 64 (.pair (i64) (i64))), .v (.d (i64))], [.d (i64)], markPairX⟩
theorem markPairX_run (x : ADens [.v (.row 64 (.pair (i64) (i64))), .v (.d (i64))]) : runFnM (mkEnv [] [(markPairXL_key, markPairXL_L)]) Tryz.f44 [.v (.row 64 (.pair (i64) (i64))), .v (.d (i64))] [.d (i64)] x = markPairX x := by kernel_rfl
theorem markPairX_ok : markPairX_con.ok Tryz.prog 44 := fnM_ok (con := markPairX_con) (mkEnv_ok (cons := []) trivial [(markPairXL_key, markPairXL_L)]) Tryz.func44 rfl (by kernel_rfl) (by exact ⟨markPairXL_ok, trivial⟩) (fun x y h => (markPairX_run x).trans h)

def heldPairXL_vars : Vars := [(0, .val (.slice (.pair (i64) (i64)))), (1, .val (i64)), (4, .val (i64)), (5, .val (i64))]
def heldPairXL_step : List ((Int × Int)) × Int × Int × Int → Option (LRes × (List ((Int × Int)) × Int × Int × Int)) :=
fun x =>
  br (decide (x.snd.snd.2 < (↑x.1.length : Int)))
    (ob (idx x.1 x.snd.snd.2) fun y =>
      br (y.1 != x.snd.1) (some (LRes.ret, x.1, x.snd.1, (-1 : Int), x.snd.snd.2))
        (ob (idx x.1 x.snd.snd.2) fun y =>
          br (y.2 != IntKind.i64.wrap (x.snd.1 + (1 : Int)))
            (some (LRes.ret, x.1, IntKind.i64.wrap (x.snd.1 + (1 : Int)), (-1 : Int), x.snd.snd.2))
            (some
              (LRes.next, x.1, IntKind.i64.wrap (IntKind.i64.wrap (x.snd.1 + (1 : Int)) + (1 : Int)), x.snd.snd.1,
                IntKind.i64.wrap (x.snd.snd.2 + (1 : Int))))))
    (some (LRes.out, x.1, x.snd.1, x.snd.snd.1, x.snd.snd.2))
def heldPairXL_fuel : List ((Int × Int)) × Int × Int × Int → Nat := fun s => (s.1.length - s.2.2.2.toNat) + 1
def heldPairXL : List ((Int × Int)) × Int × Int × Int → Option (Bool × (List ((Int × Int)) × Int × Int × Int)) := fun s => iter heldPairXL_step (heldPairXL_fuel s) s
def heldPairXL_L : LoopC := ⟨heldPairXL_vars, 0, .two heldPairXL⟩
noncomputable def heldPairXL_key : Nat := key (loopAt Tryz.f45 0)
theorem heldPairXL_stepok (x : heldPairXL_vars.den) : stepOf (mkEnv [] []) Tryz.f45.ntmps heldPairXL_vars 0 (loopAt Tryz.f45 0) x = heldPairXL_step x := by kernel_rfl
theorem heldPairXL_ok : LoopOK Tryz.prog Tryz.f45.ntmps heldPairXL_L (loopAt Tryz.f45 0)   := iter_loop (n := Tryz.f45.ntmps) (vs := heldPairXL_vars) (out := 0) (body := loopAt Tryz.f45 0) (mkEnv_ok (cons := []) trivial []) heldPairXL_step heldPairXL_fuel (by exact trivial) heldPairXL_stepok

def heldPairX : List ((Int × Int)) × Int → Option (Int) :=
fun x => ob (heldPairXL (x.1, x.2, (0 : Int), (0 : Int))) fun r => br r.1 (some r.snd.snd.1) (some r.snd.snd.snd.1)
def heldPairX_con : Con := ⟨[.slice (.pair (i64) (i64)), i64], [.d (i64)], heldPairX⟩
theorem heldPairX_run (x : Dens [.slice (.pair (i64) (i64)), i64]) : runFn (mkEnv [] [(heldPairXL_key, heldPairXL_L)]) Tryz.f45 [.slice (.pair (i64) (i64)), i64] [.d (i64)] x = heldPairX x := by kernel_rfl
theorem heldPairX_ok : heldPairX_con.ok Tryz.prog 45 := fn_ok (con := heldPairX_con) (mkEnv_ok (cons := []) trivial [(heldPairXL_key, heldPairXL_L)]) Tryz.func45 rfl (by kernel_rfl) (by exact ⟨heldPairXL_ok, trivial⟩) (fun x y h => (heldPairX_run x).trans h)

end
end Rx
end Go.Proofs.YthfgpnpoocepeaaGreat
