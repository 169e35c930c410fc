/- What the functions of RxRev come to, and their contracts. No conditions. -/
import Derived.Test.YtfapjkcmoefilaaGreatDoorRxEnv
import Derived.WalkKit
import Derived.WalkSpells
import Derived.WalkLawsBesides
import Derived.Handy
import Derived.Test.YtfapjkcmoefilaaGreatDoorRxPlain
namespace Go.Proofs.YtfapjkcmoefilaaGreatDoor
namespace Rx
open Go

def revL_vars : Vars := [(0, .row 2 2 (i64)), (2, .val (i64)), (3, .val (i64))]
def revL_step : List (Int) × Int × Int → Option (LRes × (List (Int) × Int × Int)) :=
fun x =>
  br (decide (x.snd.1 < x.snd.2))
    (ob (idx x.1 x.snd.2) fun x_1 =>
      ob (x.1.get?Internal (Int.toNat x.snd.2)) fun x_2 =>
        ob (idx x.1 x.snd.1) fun x_3 =>
          ob (x.1.get?Internal (Int.toNat x.snd.1)) fun x_4 =>
            ob (idx x.1 x.snd.1) fun x_5 =>
              ob (x.1.get?Internal (Int.toNat x.snd.1)) fun x_6 =>
                ob (idx (x.1.set (Int.toNat x.snd.1) x_2) x.snd.2) fun x_7 =>
                  ob ((x.1.set (Int.toNat x.snd.1) x_2).get?Internal (Int.toNat x.snd.2)) fun x_8 =>
                    some
                      (LRes.next, (x.1.set (Int.toNat x.snd.1) x_2).set (Int.toNat x.snd.2) x_4,
                        IntKind.i64.wrap (x.snd.1 + (1 : Int)), IntKind.i64.wrap (x.snd.2 - (1 : Int))))
    (some (LRes.out, x.1, x.snd.1, x.snd.2))
def revL_fuel : List (Int) × Int × Int → Nat := fun s => (s.2.2 - s.2.1).toNat + 1
def revL : List (Int) × Int × Int → Option (List (Int) × Int × Int) := fun s => iterP revL_step (revL_fuel s) s
def revL_L : LoopC := ⟨revL_vars, 0, .plain revL⟩
noncomputable def revL_key : Nat := key (loopAt Tryz.f49 0)
theorem revL_stepok (x : revL_vars.den) : stepOf (mkEnv [] []) Tryz.f49.ntmps revL_vars 0 (loopAt Tryz.f49 0) x = revL_step x := by kernel_rfl
theorem revL_ok : LoopOK Tryz.prog Tryz.f49.ntmps revL_L (loopAt Tryz.f49 0)   := iterP_loop (n := Tryz.f49.ntmps) (vs := revL_vars) (out := 0) (body := loopAt Tryz.f49 0) (mkEnv_ok (cons := []) trivial []) revL_step revL_fuel (by exact trivial) revL_stepok

def revX : List (Int) → Option ((Unit) × (List (Int))) :=
fun x => ob (revL (x, (0 : Int), IntKind.i64.wrap ((↑x.length : Int) - (1 : Int)))) fun r => some (PUnit.unit, r.1)
def revX_con : MCon := ⟨[.v (.row 2 (i64))], [], revX⟩
theorem revX_run (x : ADens [.v (.row 2 (i64))]) : runFnM (mkEnv [] [(revL_key, revL_L)]) Tryz.f49 [.v (.row 2 (i64))] [] x = revX x := by kernel_rfl
theorem revX_ok : revX_con.ok Tryz.prog 49 := fnM_ok (con := revX_con) (mkEnv_ok (cons := []) trivial [(revL_key, revL_L)]) Tryz.func49 rfl (by kernel_rfl) (by exact ⟨revL_ok, trivial⟩) (fun x y h => (revX_run x).trans h)

def len64X : Int → Option (Int) :=
fun x =>
  br (decide ((4294967296 : Int) ≤ x))
    (br (decide ((65536 : Int) ≤ shrI IntKind.u64 x (32 : Int)))
      (br (decide ((256 : Int) ≤ shrI IntKind.u64 (shrI IntKind.u64 x (32 : Int)) (16 : Int)))
        (ob
          (sidx
            (⟨⟨[(0 : UInt8), (1 : UInt8), (2 : UInt8), (2 : UInt8), (3 : UInt8), (3 : UInt8), (3 : UInt8), (3 : UInt8), (4 : UInt8), (4 : UInt8), (4 : UInt8), (4 : UInt8), (4 : UInt8), (4 : UInt8), (4 : UInt8), (4 : UInt8), (5 : UInt8), (5 : UInt8), (5 : UInt8), (5 : UInt8), (5 : UInt8), (5 : UInt8), (5 : UInt8), (5 : UInt8), (5 : UInt8), (5 : UInt8), (5 : UInt8), (5 : UInt8), (5 : UInt8), (5 : UInt8), (5 : UInt8), (5 : UInt8), (6 : UInt8), (6 : UInt8), (6 : UInt8), (6 : UInt8), (6 : UInt8), (6 : UInt8), (6 : UInt8), (6 : UInt8), (6 : UInt8), (6 : UInt8), (6 : UInt8), (6 : UInt8), (6 : UInt8), (6 : UInt8), (6 : UInt8), (6 : UInt8), (6 : UInt8), (6 : UInt8), (6 : UInt8), (6 : UInt8), (6 : UInt8), (6 : UInt8), (6 : UInt8), (6 : UInt8), (6 : UInt8), (6 : UInt8), (6 : UInt8), (6 : UInt8), (6 : UInt8), (6 : UInt8), (6 : UInt8), (6 : UInt8), (7 : UInt8), (7 : UInt8), (7 : UInt8), (7 : UInt8), (7 : UInt8), (7 : UInt8), (7 : UInt8), (7 : UInt8), (7 : UInt8), (7 : UInt8), (7 : UInt8), (7 : UInt8), (7 : UInt8), (7 : UInt8), (7 : UInt8), (7 : UInt8), (7 : UInt8), (7 : UInt8), (7 : UInt8), (7 : UInt8), (7 : UInt8), (7 : UInt8), (7 : UInt8), (7 : UInt8), (7 : UInt8), (7 : UInt8), (7 : UInt8), (7 : UInt8), (7 : UInt8), (7 : UInt8), (7 : UInt8), (7 : UInt8), (7 : UInt8), (7 : UInt8), (7 : UInt8), (7 : UInt8), (7 : UInt8), (7 : UInt8), (7 : UInt8), (7 : UInt8), (7 : UInt8), (7 : UInt8), (7 : UInt8), (7 : UInt8), (7 : UInt8), (7 : UInt8), (7 : UInt8), (7 : UInt8), (7 : UInt8), (7 : UInt8), (7 : UInt8), (7 : UInt8), (7 : UInt8), (7 : UInt8), (7 : UInt8), (7 : UInt8), (7 : UInt8), (7 : UInt8), (7 : UInt8), (7 : UInt8), (7 : UInt8), (7 : UInt8), (7 : UInt8), (7 : UInt8), (8 : UInt8), (8 : UInt8), (8 : UInt8), (8 : UInt8), (8 : UInt8), (8 : UInt8), (8 : UInt8), (8 : UInt8), (8 : UInt8), (8 : UInt8), (8 : UInt8), (8 : UInt8), (8 : UInt8), (8 : UInt8), (8 : UInt8), (8 : UInt8), (8 : UInt8), (8 : UInt8), (8 : UInt8), (8 : UInt8), (8 : UInt8), (8 : UInt8), (8 : UInt8), (8 : UInt8), (8 : UInt8), (8 : UInt8), (8 : UInt8), (8 : UInt8), (8 : UInt8), (8 : UInt8), (8 : UInt8), (8 : UInt8), (8 : UInt8), (8 : UInt8), (8 : UInt8), (8 : UInt8), (8 : UInt8), (8 : UInt8), (8 : UInt8), (8 : UInt8), (8 : UInt8), (8 : UInt8), (8 : UInt8), (8 : UInt8), (8 : UInt8), (8 : UInt8), (8 : UInt8), (8 : UInt8), (8 : UInt8), (8 : UInt8), (8 : UInt8), (8 : UInt8), (8 : UInt8), (8 : UInt8), (8 : UInt8), (8 : UInt8), (8 : UInt8), (8 : UInt8), (8 : UInt8), (8 : UInt8), (8 : UInt8), (8 : UInt8), (8 : UInt8), (8 : UInt8), (8 : UInt8), (8 : UInt8), (8 : UInt8), (8 : UInt8), (8 : UInt8), (8 : UInt8), (8 : UInt8), (8 : UInt8), (8 : UInt8), (8 : UInt8), (8 : UInt8), (8 : UInt8), (8 : UInt8), (8 : UInt8), (8 : UInt8), (8 : UInt8), (8 : UInt8), (8 : UInt8), (8 : UInt8), (8 : UInt8), (8 : UInt8), (8 : UInt8), (8 : UInt8), (8 : UInt8), (8 : UInt8), (8 : UInt8), (8 : UInt8), (8 : UInt8), (8 : UInt8), (8 : UInt8), (8 : UInt8), (8 : UInt8), (8 : UInt8), (8 : UInt8), (8 : UInt8), (8 : UInt8), (8 : UInt8), (8 : UInt8), (8 : UInt8), (8 : UInt8), (8 : UInt8), (8 : UInt8), (8 : UInt8), (8 : UInt8), (8 : UInt8), (8 : UInt8), (8 : UInt8), (8 : UInt8), (8 : UInt8), (8 : UInt8), (8 : UInt8), (8 : UInt8), (8 : UInt8), (8 : UInt8), (8 : UInt8), (8 : UInt8), (8 : UInt8), (8 : UInt8), (8 : UInt8), (8 : UInt8), (8 : UInt8), (8 : UInt8), (8 : UInt8), (8 : UInt8)]⟩⟩ : ByteArray)
            (IntKind.u8.wrap
              (shrI IntKind.u64 (shrI IntKind.u64 (shrI IntKind.u64 x (32 : Int)) (16 : Int)) (8 : Int))))
          fun b =>
          some
            (IntKind.i64.wrap
              (IntKind.i64.wrap (IntKind.i64.wrap ((32 : Int) + (16 : Int)) + (8 : Int)) +
                IntKind.i64.wrap (↑b.toNat : Int))))
        (ob
          (sidx
            (⟨⟨[(0 : UInt8), (1 : UInt8), (2 : UInt8), (2 : UInt8), (3 : UInt8), (3 : UInt8), (3 : UInt8), (3 : UInt8), (4 : UInt8), (4 : UInt8), (4 : UInt8), (4 : UInt8), (4 : UInt8), (4 : UInt8), (4 : UInt8), (4 : UInt8), (5 : UInt8), (5 : UInt8), (5 : UInt8), (5 : UInt8), (5 : UInt8), (5 : UInt8), (5 : UInt8), (5 : UInt8), (5 : UInt8), (5 : UInt8), (5 : UInt8), (5 : UInt8), (5 : UInt8), (5 : UInt8), (5 : UInt8), (5 : UInt8), (6 : UInt8), (6 : UInt8), (6 : UInt8), (6 : UInt8), (6 : UInt8), (6 : UInt8), (6 : UInt8), (6 : UInt8), (6 : UInt8), (6 : UInt8), (6 : UInt8), (6 : UInt8), (6 : UInt8), (6 : UInt8), (6 : UInt8), (6 : UInt8), (6 : UInt8), (6 : UInt8), (6 : UInt8), (6 : UInt8), (6 : UInt8), (6 : UInt8), (6 : UInt8), (6 : UInt8), (6 : UInt8), (6 : UInt8), (6 : UInt8), (6 : UInt8), (6 : UInt8), (6 : UInt8), (6 : UInt8), (6 : UInt8), (7 : UInt8), (7 : UInt8), (7 : UInt8), (7 : UInt8), (7 : UInt8), (7 : UInt8), (7 : UInt8), (7 : UInt8), (7 : UInt8), (7 : UInt8), (7 : UInt8), (7 : UInt8), (7 : UInt8), (7 : UInt8), (7 : UInt8), (7 : UInt8), (7 : UInt8), (7 : UInt8), (7 : UInt8), (7 : UInt8), (7 : UInt8), (7 : UInt8), (7 : UInt8), (7 : UInt8), (7 : UInt8), (7 : UInt8), (7 : UInt8), (7 : UInt8), (7 : UInt8), (7 : UInt8), (7 : UInt8), (7 : UInt8), (7 : UInt8), (7 : UInt8), (7 : UInt8), (7 : UInt8), (7 : UInt8), (7 : UInt8), (7 : UInt8), (7 : UInt8), (7 : UInt8), (7 : UInt8), (7 : UInt8), (7 : UInt8), (7 : UInt8), (7 : UInt8), (7 : UInt8), (7 : UInt8), (7 : UInt8), (7 : UInt8), (7 : UInt8), (7 : UInt8), (7 : UInt8), (7 : UInt8), (7 : UInt8), (7 : UInt8), (7 : UInt8), (7 : UInt8), (7 : UInt8), (7 : UInt8), (7 : UInt8), (7 : UInt8), (7 : UInt8), (7 : UInt8), (8 : UInt8), (8 : UInt8), (8 : UInt8), (8 : UInt8), (8 : UInt8), (8 : UInt8), (8 : UInt8), (8 : UInt8), (8 : UInt8), (8 : UInt8), (8 : UInt8), (8 : UInt8), (8 : UInt8), (8 : UInt8), (8 : UInt8), (8 : UInt8), (8 : UInt8), (8 : UInt8), (8 : UInt8), (8 : UInt8), (8 : UInt8), (8 : UInt8), (8 : UInt8), (8 : UInt8), (8 : UInt8), (8 : UInt8), (8 : UInt8), (8 : UInt8), (8 : UInt8), (8 : UInt8), (8 : UInt8), (8 : UInt8), (8 : UInt8), (8 : UInt8), (8 : UInt8), (8 : UInt8), (8 : UInt8), (8 : UInt8), (8 : UInt8), (8 : UInt8), (8 : UInt8), (8 : UInt8), (8 : UInt8), (8 : UInt8), (8 : UInt8), (8 : UInt8), (8 : UInt8), (8 : UInt8), (8 : UInt8), (8 : UInt8), (8 : UInt8), (8 : UInt8), (8 : UInt8), (8 : UInt8), (8 : UInt8), (8 : UInt8), (8 : UInt8), (8 : UInt8), (8 : UInt8), (8 : UInt8), (8 : UInt8), (8 : UInt8), (8 : UInt8), (8 : UInt8), (8 : UInt8), (8 : UInt8), (8 : UInt8), (8 : UInt8), (8 : UInt8), (8 : UInt8), (8 : UInt8), (8 : UInt8), (8 : UInt8), (8 : UInt8), (8 : UInt8), (8 : UInt8), (8 : UInt8), (8 : UInt8), (8 : UInt8), (8 : UInt8), (8 : UInt8), (8 : UInt8), (8 : UInt8), (8 : UInt8), (8 : UInt8), (8 : UInt8), (8 : UInt8), (8 : UInt8), (8 : UInt8), (8 : UInt8), (8 : UInt8), (8 : UInt8), (8 : UInt8), (8 : UInt8), (8 : UInt8), (8 : UInt8), (8 : UInt8), (8 : UInt8), (8 : UInt8), (8 : UInt8), (8 : UInt8), (8 : UInt8), (8 : UInt8), (8 : UInt8), (8 : UInt8), (8 : UInt8), (8 : UInt8), (8 : UInt8), (8 : UInt8), (8 : UInt8), (8 : UInt8), (8 : UInt8), (8 : UInt8), (8 : UInt8), (8 : UInt8), (8 : UInt8), (8 : UInt8), (8 : UInt8), (8 : UInt8), (8 : UInt8), (8 : UInt8), (8 : UInt8), (8 : UInt8), (8 : UInt8), (8 : UInt8), (8 : UInt8), (8 : UInt8), (8 : UInt8)]⟩⟩ : ByteArray)
            (IntKind.u8.wrap (shrI IntKind.u64 (shrI IntKind.u64 x (32 : Int)) (16 : Int))))
          fun b =>
          some (IntKind.i64.wrap (IntKind.i64.wrap ((32 : Int) + (16 : Int)) + IntKind.i64.wrap (↑b.toNat : Int)))))
      (br (decide ((256 : Int) ≤ shrI IntKind.u64 x (32 : Int)))
        (ob
          (sidx
            (⟨⟨[(0 : UInt8), (1 : UInt8), (2 : UInt8), (2 : UInt8), (3 : UInt8), (3 : UInt8), (3 : UInt8), (3 : UInt8), (4 : UInt8), (4 : UInt8), (4 : UInt8), (4 : UInt8), (4 : UInt8), (4 : UInt8), (4 : UInt8), (4 : UInt8), (5 : UInt8), (5 : UInt8), (5 : UInt8), (5 : UInt8), (5 : UInt8), (5 : UInt8), (5 : UInt8), (5 : UInt8), (5 : UInt8), (5 : UInt8), (5 : UInt8), (5 : UInt8), (5 : UInt8), (5 : UInt8), (5 : UInt8), (5 : UInt8), (6 : UInt8), (6 : UInt8), (6 : UInt8), (6 : UInt8), (6 : UInt8), (6 : UInt8), (6 : UInt8), (6 : UInt8), (6 : UInt8), (6 : UInt8), (6 : UInt8), (6 : UInt8), (6 : UInt8), (6 : UInt8), (6 : UInt8), (6 : UInt8), (6 : UInt8), (6 : UInt8), (6 : UInt8), (6 : UInt8), (6 : UInt8), (6 : UInt8), (6 : UInt8), (6 : UInt8), (6 : UInt8), (6 : UInt8), (6 : UInt8), (6 : UInt8), (6 : UInt8), (6 : UInt8), (6 : UInt8), (6 : UInt8), (7 : UInt8), (7 : UInt8), (7 : UInt8), (7 : UInt8), (7 : UInt8), (7 : UInt8), (7 : UInt8), (7 : UInt8), (7 : UInt8), (7 : UInt8), (7 : UInt8), (7 : UInt8), (7 : UInt8), (7 : UInt8), (7 : UInt8), (7 : UInt8), (7 : UInt8), (7 : UInt8), (7 : UInt8), (7 : UInt8), (7 : UInt8), (7 : UInt8), (7 : UInt8), (7 : UInt8), (7 : UInt8), (7 : UInt8), (7 : UInt8), (7 : UInt8), (7 : UInt8), (7 : UInt8), (7 : UInt8), (7 : UInt8), (7 : UInt8), (7 : UInt8), (7 : UInt8), (7 : UInt8), (7 : UInt8), (7 : UInt8), (7 : UInt8), (7 : UInt8), (7 : UInt8), (7 : UInt8), (7 : UInt8), (7 : UInt8), (7 : UInt8), (7 : UInt8), (7 : UInt8), (7 : UInt8), (7 : UInt8), (7 : UInt8), (7 : UInt8), (7 : UInt8), (7 : UInt8), (7 : UInt8), (7 : UInt8), (7 : UInt8), (7 : UInt8), (7 : UInt8), (7 : UInt8), (7 : UInt8), (7 : UInt8), (7 : UInt8), (7 : UInt8), (7 : UInt8), (8 : UInt8), (8 : UInt8), (8 : UInt8), (8 : UInt8), (8 : UInt8), (8 : UInt8), (8 : UInt8), (8 : UInt8), (8 : UInt8), (8 : UInt8), (8 : UInt8), (8 : UInt8), (8 : UInt8), (8 : UInt8), (8 : UInt8), (8 : UInt8), (8 : UInt8), (8 : UInt8), (8 : UInt8), (8 : UInt8), (8 : UInt8), (8 : UInt8), (8 : UInt8), (8 : UInt8), (8 : UInt8), (8 : UInt8), (8 : UInt8), (8 : UInt8), (8 : UInt8), (8 : UInt8), (8 : UInt8), (8 : UInt8), (8 : UInt8), (8 : UInt8), (8 : UInt8), (8 : UInt8), (8 : UInt8), (8 : UInt8), (8 : UInt8), (8 : UInt8), (8 : UInt8), (8 : UInt8), (8 : UInt8), (8 : UInt8), (8 : UInt8), (8 : UInt8), (8 : UInt8), (8 : UInt8), (8 : UInt8), (8 : UInt8), (8 : UInt8), (8 : UInt8), (8 : UInt8), (8 : UInt8), (8 : UInt8), (8 : UInt8), (8 : UInt8), (8 : UInt8), (8 : UInt8), (8 : UInt8), (8 : UInt8), (8 : UInt8), (8 : UInt8), (8 : UInt8), (8 : UInt8), (8 : UInt8), (8 : UInt8), (8 : UInt8), (8 : UInt8), (8 : UInt8), (8 : UInt8), (8 : UInt8), (8 : UInt8), (8 : UInt8), (8 : UInt8), (8 : UInt8), (8 : UInt8), (8 : UInt8), (8 : UInt8), (8 : UInt8), (8 : UInt8), (8 : UInt8), (8 : UInt8), (8 : UInt8), (8 : UInt8), (8 : UInt8), (8 : UInt8), (8 : UInt8), (8 : UInt8), (8 : UInt8), (8 : UInt8), (8 : UInt8), (8 : UInt8), (8 : UInt8), (8 : UInt8), (8 : UInt8), (8 : UInt8), (8 : UInt8), (8 : UInt8), (8 : UInt8), (8 : UInt8), (8 : UInt8), (8 : UInt8), (8 : UInt8), (8 : UInt8), (8 : UInt8), (8 : UInt8), (8 : UInt8), (8 : UInt8), (8 : UInt8), (8 : UInt8), (8 : UInt8), (8 : UInt8), (8 : UInt8), (8 : UInt8), (8 : UInt8), (8 : UInt8), (8 : UInt8), (8 : UInt8), (8 : UInt8), (8 : UInt8), (8 : UInt8), (8 : UInt8), (8 : UInt8), (8 : UInt8), (8 : UInt8), (8 : UInt8), (8 : UInt8)]⟩⟩ : ByteArray)
            (IntKind.u8.wrap (shrI IntKind.u64 (shrI IntKind.u64 x (32 : Int)) (8 : Int))))
          fun b =>
          some (IntKind.i64.wrap (IntKind.i64.wrap ((32 : Int) + (8 : Int)) + IntKind.i64.wrap (↑b.toNat : Int))))
        (ob
          (sidx
            (⟨⟨[(0 : UInt8), (1 : UInt8), (2 : UInt8), (2 : UInt8), (3 : UInt8), (3 : UInt8), (3 : UInt8), (3 : UInt8), (4 : UInt8), (4 : UInt8), (4 : UInt8), (4 : UInt8), (4 : UInt8), (4 : UInt8), (4 : UInt8), (4 : UInt8), (5 : UInt8), (5 : UInt8), (5 : UInt8), (5 : UInt8), (5 : UInt8), (5 : UInt8), (5 : UInt8), (5 : UInt8), (5 : UInt8), (5 : UInt8), (5 : UInt8), (5 : UInt8), (5 : UInt8), (5 : UInt8), (5 : UInt8), (5 : UInt8), (6 : UInt8), (6 : UInt8), (6 : UInt8), (6 : UInt8), (6 : UInt8), (6 : UInt8), (6 : UInt8), (6 : UInt8), (6 : UInt8), (6 : UInt8), (6 : UInt8), (6 : UInt8), (6 : UInt8), (6 : UInt8), (6 : UInt8), (6 : UInt8), (6 : UInt8), (6 : UInt8), (6 : UInt8), (6 : UInt8), (6 : UInt8), (6 : UInt8), (6 : UInt8), (6 : UInt8), (6 : UInt8), (6 : UInt8), (6 : UInt8), (6 : UInt8), (6 : UInt8), (6 : UInt8), (6 : UInt8), (6 : UInt8), (7 : UInt8), (7 : UInt8), (7 : UInt8), (7 : UInt8), (7 : UInt8), (7 : UInt8), (7 : UInt8), (7 : UInt8), (7 : UInt8), (7 : UInt8), (7 : UInt8), (7 : UInt8), (7 : UInt8), (7 : UInt8), (7 : UInt8), (7 : UInt8), (7 : UInt8), (7 : UInt8), (7 : UInt8), (7 : UInt8), (7 : UInt8), (7 : UInt8), (7 : UInt8), (7 : UInt8), (7 : UInt8), (7 : UInt8), (7 : UInt8), (7 : UInt8), (7 : UInt8), (7 : UInt8), (7 : UInt8), (7 : UInt8), (7 : UInt8), (7 : UInt8), (7 : UInt8), (7 : UInt8), (7 : UInt8), (7 : UInt8), (7 : UInt8), (7 : UInt8), (7 : UInt8), (7 : UInt8), (7 : UInt8), (7 : UInt8), (7 : UInt8), (7 : UInt8), (7 : UInt8), (7 : UInt8), (7 : UInt8), (7 : UInt8), (7 : UInt8), (7 : UInt8), (7 : UInt8), (7 : UInt8), (7 : UInt8), (7 : UInt8), (7 : UInt8), (7 : UInt8), (7 : UInt8), (7 : UInt8), (7 : UInt8), (7 : UInt8), (7 : UInt8), (7 : UInt8), (8 : UInt8), (8 : UInt8), (8 : UInt8), (8 : UInt8), (8 : UInt8), (8 : UInt8), (8 : UInt8), (8 : UInt8), (8 : UInt8), (8 : UInt8), (8 : UInt8), (8 : UInt8), (8 : UInt8), (8 : UInt8), (8 : UInt8), (8 : UInt8), (8 : UInt8), (8 : UInt8), (8 : UInt8), (8 : UInt8), (8 : UInt8), (8 : UInt8), (8 : UInt8), (8 : UInt8), (8 : UInt8), (8 : UInt8), (8 : UInt8), (8 : UInt8), (8 : UInt8), (8 : UInt8), (8 : UInt8), (8 : UInt8), (8 : UInt8), (8 : UInt8), (8 : UInt8), (8 : UInt8), (8 : UInt8), (8 : UInt8), (8 : UInt8), (8 : UInt8), (8 : UInt8), (8 : UInt8), (8 : UInt8), (8 : UInt8), (8 : UInt8), (8 : UInt8), (8 : UInt8), (8 : UInt8), (8 : UInt8), (8 : UInt8), (8 : UInt8), (8 : UInt8), (8 : UInt8), (8 : UInt8), (8 : UInt8), (8 : UInt8), (8 : UInt8), (8 : UInt8), (8 : UInt8), (8 : UInt8), (8 : UInt8), (8 : UInt8), (8 : UInt8), (8 : UInt8), (8 : UInt8), (8 : UInt8), (8 : UInt8), (8 : UInt8), (8 : UInt8), (8 : UInt8), (8 : UInt8), (8 : UInt8), (8 : UInt8), (8 : UInt8), (8 : UInt8), (8 : UInt8), (8 : UInt8), (8 : UInt8), (8 : UInt8), (8 : UInt8), (8 : UInt8), (8 : UInt8), (8 : UInt8), (8 : UInt8), (8 : UInt8), (8 : UInt8), (8 : UInt8), (8 : UInt8), (8 : UInt8), (8 : UInt8), (8 : UInt8), (8 : UInt8), (8 : UInt8), (8 : UInt8), (8 : UInt8), (8 : UInt8), (8 : UInt8), (8 : UInt8), (8 : UInt8), (8 : UInt8), (8 : UInt8), (8 : UInt8), (8 : UInt8), (8 : UInt8), (8 : UInt8), (8 : UInt8), (8 : UInt8), (8 : UInt8), (8 : UInt8), (8 : UInt8), (8 : UInt8), (8 : UInt8), (8 : UInt8), (8 : UInt8), (8 : UInt8), (8 : UInt8), (8 : UInt8), (8 : UInt8), (8 : UInt8), (8 : UInt8), (8 : UInt8), (8 : UInt8), (8 : UInt8), (8 : UInt8), (8 : UInt8), (8 : UInt8), (8 : UInt8), (8 : UInt8)]⟩⟩ : ByteArray)
            (IntKind.u8.wrap (shrI IntKind.u64 x (32 : Int))))
          fun b => some (IntKind.i64.wrap ((32 : Int) + IntKind.i64.wrap (↑b.toNat : Int))))))
    (br (decide ((65536 : Int) ≤ x))
      (br (decide ((256 : Int) ≤ shrI IntKind.u64 x (16 : Int)))
        (ob
          (sidx
            (⟨⟨[(0 : UInt8), (1 : UInt8), (2 : UInt8), (2 : UInt8), (3 : UInt8), (3 : UInt8), (3 : UInt8), (3 : UInt8), (4 : UInt8), (4 : UInt8), (4 : UInt8), (4 : UInt8), (4 : UInt8), (4 : UInt8), (4 : UInt8), (4 : UInt8), (5 : UInt8), (5 : UInt8), (5 : UInt8), (5 : UInt8), (5 : UInt8), (5 : UInt8), (5 : UInt8), (5 : UInt8), (5 : UInt8), (5 : UInt8), (5 : UInt8), (5 : UInt8), (5 : UInt8), (5 : UInt8), (5 : UInt8), (5 : UInt8), (6 : UInt8), (6 : UInt8), (6 : UInt8), (6 : UInt8), (6 : UInt8), (6 : UInt8), (6 : UInt8), (6 : UInt8), (6 : UInt8), (6 : UInt8), (6 : UInt8), (6 : UInt8), (6 : UInt8), (6 : UInt8), (6 : UInt8), (6 : UInt8), (6 : UInt8), (6 : UInt8), (6 : UInt8), (6 : UInt8), (6 : UInt8), (6 : UInt8), (6 : UInt8), (6 : UInt8), (6 : UInt8), (6 : UInt8), (6 : UInt8), (6 : UInt8), (6 : UInt8), (6 : UInt8), (6 : UInt8), (6 : UInt8), (7 : UInt8), (7 : UInt8), (7 : UInt8), (7 : UInt8), (7 : UInt8), (7 : UInt8), (7 : UInt8), (7 : UInt8), (7 : UInt8), (7 : UInt8), (7 : UInt8), (7 : UInt8), (7 : UInt8), (7 : UInt8), (7 : UInt8), (7 : UInt8), (7 : UInt8), (7 : UInt8), (7 : UInt8), (7 : UInt8), (7 : UInt8), (7 : UInt8), (7 : UInt8), (7 : UInt8), (7 : UInt8), (7 : UInt8), (7 : UInt8), (7 : UInt8), (7 : UInt8), (7 : UInt8), (7 : UInt8), (7 : UInt8), (7 : UInt8), (7 : UInt8), (7 : UInt8), (7 : UInt8), (7 : UInt8), (7 : UInt8), (7 : UInt8), (7 : UInt8), (7 : UInt8), (7 : UInt8), (7 : UInt8), (7 : UInt8), (7 : UInt8), (7 : UInt8), (7 : UInt8), (7 : UInt8), (7 : UInt8), (7 : UInt8), (7 : UInt8), (7 : UInt8), (7 : UInt8), (7 : UInt8), (7 : UInt8), (7 : UInt8), (7 : UInt8), (7 : UInt8), (7 : UInt8), (7 : UInt8), (7 : UInt8), (7 : UInt8), (7 : UInt8), (7 : UInt8), (8 : UInt8), (8 : UInt8), (8 : UInt8), (8 : UInt8), (8 : UInt8), (8 : UInt8), (8 : UInt8), (8 : UInt8), (8 : UInt8), (8 : UInt8), (8 : UInt8), (8 : UInt8), (8 : UInt8), (8 : UInt8), (8 : UInt8), (8 : UInt8), (8 : UInt8), (8 : UInt8), (8 : UInt8), (8 : UInt8), (8 : UInt8), (8 : UInt8), (8 : UInt8), (8 : UInt8), (8 : UInt8), (8 : UInt8), (8 : UInt8), (8 : UInt8), (8 : UInt8), (8 : UInt8), (8 : UInt8), (8 : UInt8), (8 : UInt8), (8 : UInt8), (8 : UInt8), (8 : UInt8), (8 : UInt8), (8 : UInt8), (8 : UInt8), (8 : UInt8), (8 : UInt8), (8 : UInt8), (8 : UInt8), (8 : UInt8), (8 : UInt8), (8 : UInt8), (8 : UInt8), (8 : UInt8), (8 : UInt8), (8 : UInt8), (8 : UInt8), (8 : UInt8), (8 : UInt8), (8 : UInt8), (8 : UInt8), (8 : UInt8), (8 : UInt8), (8 : UInt8), (8 : UInt8), (8 : UInt8), (8 : UInt8), (8 : UInt8), (8 : UInt8), (8 : UInt8), (8 : UInt8), (8 : UInt8), (8 : UInt8), (8 : UInt8), (8 : UInt8), (8 : UInt8), (8 : UInt8), (8 : UInt8), (8 : UInt8), (8 : UInt8), (8 : UInt8), (8 : UInt8), (8 : UInt8), (8 : UInt8), (8 : UInt8), (8 : UInt8), (8 : UInt8), (8 : UInt8), (8 : UInt8), (8 : UInt8), (8 : UInt8), (8 : UInt8), (8 : UInt8), (8 : UInt8), (8 : UInt8), (8 : UInt8), (8 : UInt8), (8 : UInt8), (8 : UInt8), (8 : UInt8), (8 : UInt8), (8 : UInt8), (8 : UInt8), (8 : UInt8), (8 : UInt8), (8 : UInt8), (8 : UInt8), (8 : UInt8), (8 : UInt8), (8 : UInt8), (8 : UInt8), (8 : UInt8), (8 : UInt8), (8 : UInt8), (8 : UInt8), (8 : UInt8), (8 : UInt8), (8 : UInt8), (8 : UInt8), (8 : UInt8), (8 : UInt8), (8 : UInt8), (8 : UInt8), (8 : UInt8), (8 : UInt8), (8 : UInt8), (8 : UInt8), (8 : UInt8), (8 : UInt8), (8 : UInt8), (8 : UInt8), (8 : UInt8), (8 : UInt8), (8 : UInt8)]⟩⟩ : ByteArray)
            (IntKind.u8.wrap (shrI IntKind.u64 (shrI IntKind.u64 x (16 : Int)) (8 : Int))))
          fun b =>
          some
            (IntKind.i64.wrap
              (IntKind.i64.wrap (IntKind.i64.wrap ((0 : Int) + (16 : Int)) + (8 : Int)) +
                IntKind.i64.wrap (↑b.toNat : Int))))
        (ob
          (sidx
            (⟨⟨[(0 : UInt8), (1 : UInt8), (2 : UInt8), (2 : UInt8), (3 : UInt8), (3 : UInt8), (3 : UInt8), (3 : UInt8), (4 : UInt8), (4 : UInt8), (4 : UInt8), (4 : UInt8), (4 : UInt8), (4 : UInt8), (4 : UInt8), (4 : UInt8), (5 : UInt8), (5 : UInt8), (5 : UInt8), (5 : UInt8), (5 : UInt8), (5 : UInt8), (5 : UInt8), (5 : UInt8), (5 : UInt8), (5 : UInt8), (5 : UInt8), (5 : UInt8), (5 : UInt8), (5 : UInt8), (5 : UInt8), (5 : UInt8), (6 : UInt8), (6 : UInt8), (6 : UInt8), (6 : UInt8), (6 : UInt8), (6 : UInt8), (6 : UInt8), (6 : UInt8), (6 : UInt8), (6 : UInt8), (6 : UInt8), (6 : UInt8), (6 : UInt8), (6 : UInt8), (6 : UInt8), (6 : UInt8), (6 : UInt8), (6 : UInt8), (6 : UInt8), (6 : UInt8), (6 : UInt8), (6 : UInt8), (6 : UInt8), (6 : UInt8), (6 : UInt8), (6 : UInt8), (6 : UInt8), (6 : UInt8), (6 : UInt8), (6 : UInt8), (6 : UInt8), (6 : UInt8), (7 : UInt8), (7 : UInt8), (7 : UInt8), (7 : UInt8), (7 : UInt8), (7 : UInt8), (7 : UInt8), (7 : UInt8), (7 : UInt8), (7 : UInt8), (7 : UInt8), (7 : UInt8), (7 : UInt8), (7 : UInt8), (7 : UInt8), (7 : UInt8), (7 : UInt8), (7 : UInt8), (7 : UInt8), (7 : UInt8), (7 : UInt8), (7 : UInt8), (7 : UInt8), (7 : UInt8), (7 : UInt8), (7 : UInt8), (7 : UInt8), (7 : UInt8), (7 : UInt8), (7 : UInt8), (7 : UInt8), (7 : UInt8), (7 : UInt8), (7 : UInt8), (7 : UInt8), (7 : UInt8), (7 : UInt8), (7 : UInt8), (7 : UInt8), (7 : UInt8), (7 : UInt8), (7 : UInt8), (7 : UInt8), (7 : UInt8), (7 : UInt8), (7 : UInt8), (7 : UInt8), (7 : UInt8), (7 : UInt8), (7 : UInt8), (7 : UInt8), (7 : UInt8), (7 : UInt8), (7 : UInt8), (7 : UInt8), (7 : UInt8), (7 : UInt8), (7 : UInt8), (7 : UInt8), (7 : UInt8), (7 : UInt8), (7 : UInt8), (7 : UInt8), (7 : UInt8), (8 : UInt8), (8 : UInt8), (8 : UInt8), (8 : UInt8), (8 : UInt8), (8 : UInt8), (8 : UInt8), (8 : UInt8), (8 : UInt8), (8 : UInt8), (8 : UInt8), (8 : UInt8), (8 : UInt8), (8 : UInt8), (8 : UInt8), (8 : UInt8), (8 : UInt8), (8 : UInt8), (8 : UInt8), (8 : UInt8), (8 : UInt8), (8 : UInt8), (8 : UInt8), (8 : UInt8), (8 : UInt8), (8 : UInt8), (8 : UInt8), (8 : UInt8), (8 : UInt8), (8 : UInt8), (8 : UInt8), (8 : UInt8), (8 : UInt8), (8 : UInt8), (8 : UInt8), (8 : UInt8), (8 : UInt8), (8 : UInt8), (8 : UInt8), (8 : UInt8), (8 : UInt8), (8 : UInt8), (8 : UInt8), (8 : UInt8), (8 : UInt8), (8 : UInt8), (8 : UInt8), (8 : UInt8), (8 : UInt8), (8 : UInt8), (8 : UInt8), (8 : UInt8), (8 : UInt8), (8 : UInt8), (8 : UInt8), (8 : UInt8), (8 : UInt8), (8 : UInt8), (8 : UInt8), (8 : UInt8), (8 : UInt8), (8 : UInt8), (8 : UInt8), (8 : UInt8), (8 : UInt8), (8 : UInt8), (8 : UInt8), (8 : UInt8), (8 : UInt8), (8 : UInt8), (8 : UInt8), (8 : UInt8), (8 : UInt8), (8 : UInt8), (8 : UInt8), (8 : UInt8), (8 : UInt8), (8 : UInt8), (8 : UInt8), (8 : UInt8), (8 : UInt8), (8 : UInt8), (8 : UInt8), (8 : UInt8), (8 : UInt8), (8 : UInt8), (8 : UInt8), (8 : UInt8), (8 : UInt8), (8 : UInt8), (8 : UInt8), (8 : UInt8), (8 : UInt8), (8 : UInt8), (8 : UInt8), (8 : UInt8), (8 : UInt8), (8 : UInt8), (8 : UInt8), (8 : UInt8), (8 : UInt8), (8 : UInt8), (8 : UInt8), (8 : UInt8), (8 : UInt8), (8 : UInt8), (8 : UInt8), (8 : UInt8), (8 : UInt8), (8 : UInt8), (8 : UInt8), (8 : UInt8), (8 : UInt8), (8 : UInt8), (8 : UInt8), (8 : UInt8), (8 : UInt8), (8 : UInt8), (8 : UInt8), (8 : UInt8), (8 : UInt8), (8 : UInt8), (8 : UInt8), (8 : UInt8), (8 : UInt8), (8 : UInt8), (8 : UInt8), (8 : UInt8)]⟩⟩ : ByteArray)
            (IntKind.u8.wrap (shrI IntKind.u64 x (16 : Int))))
          fun b =>
          some (IntKind.i64.wrap (IntKind.i64.wrap ((0 : Int) + (16 : Int)) + IntKind.i64.wrap (↑b.toNat : Int)))))
      (br (decide ((256 : Int) ≤ x))
        (ob
          (sidx
            (⟨⟨[(0 : UInt8), (1 : UInt8), (2 : UInt8), (2 : UInt8), (3 : UInt8), (3 : UInt8), (3 : UInt8), (3 : UInt8), (4 : UInt8), (4 : UInt8), (4 : UInt8), (4 : UInt8), (4 : UInt8), (4 : UInt8), (4 : UInt8), (4 : UInt8), (5 : UInt8), (5 : UInt8), (5 : UInt8), (5 : UInt8), (5 : UInt8), (5 : UInt8), (5 : UInt8), (5 : UInt8), (5 : UInt8), (5 : UInt8), (5 : UInt8), (5 : UInt8), (5 : UInt8), (5 : UInt8), (5 : UInt8), (5 : UInt8), (6 : UInt8), (6 : UInt8), (6 : UInt8), (6 : UInt8), (6 : UInt8), (6 : UInt8), (6 : UInt8), (6 : UInt8), (6 : UInt8), (6 : UInt8), (6 : UInt8), (6 : UInt8), (6 : UInt8), (6 : UInt8), (6 : UInt8), (6 : UInt8), (6 : UInt8), (6 : UInt8), (6 : UInt8), (6 : UInt8), (6 : UInt8), (6 : UInt8), (6 : UInt8), (6 : UInt8), (6 : UInt8), (6 : UInt8), (6 : UInt8), (6 : UInt8), (6 : UInt8), (6 : UInt8), (6 : UInt8), (6 : UInt8), (7 : UInt8), (7 : UInt8), (7 : UInt8), (7 : UInt8), (7 : UInt8), (7 : UInt8), (7 : UInt8), (7 : UInt8), (7 : UInt8), (7 : UInt8), (7 : UInt8), (7 : UInt8), (7 : UInt8), (7 : UInt8), (7 : UInt8), (7 : UInt8), (7 : UInt8), (7 : UInt8), (7 : UInt8), (7 : UInt8), (7 : UInt8), (7 : UInt8), (7 : UInt8), (7 : UInt8), (7 : UInt8), (7 : UInt8), (7 : UInt8), (7 : UInt8), (7 : UInt8), (7 : UInt8), (7 : UInt8), (7 : UInt8), (7 : UInt8), (7 : UInt8), (7 : UInt8), (7 : UInt8), (7 : UInt8), (7 : UInt8), (7 : UInt8), (7 : UInt8), (7 : UInt8), (7 : UInt8), (7 : UInt8), (7 : UInt8), (7 : UInt8), (7 : UInt8), (7 : UInt8), (7 : UInt8), (7 : UInt8), (7 : UInt8), (7 : UInt8), (7 : UInt8), (7 : UInt8), (7 : UInt8), (7 : UInt8), (7 : UInt8), (7 : UInt8), (7 : UInt8), (7 : UInt8), (7 : UInt8), (7 : UInt8), (7 : UInt8), (7 : UInt8), (7 : UInt8), (8 : UInt8), (8 : UInt8), (8 : UInt8), (8 : UInt8), (8 : UInt8), (8 : UInt8), (8 : UInt8), (8 : UInt8), (8 : UInt8), (8 : UInt8), (8 : UInt8), (8 : UInt8), (8 : UInt8), (8 : UInt8), (8 : UInt8), (8 : UInt8), (8 : UInt8), (8 : UInt8), (8 : UInt8), (8 : UInt8), (8 : UInt8), (8 : UInt8), (8 : UInt8), (8 : UInt8), (8 : UInt8), (8 : UInt8), (8 : UInt8), (8 : UInt8), (8 : UInt8), (8 : UInt8), (8 : UInt8), (8 : UInt8), (8 : UInt8), (8 : UInt8), (8 : UInt8), (8 : UInt8), (8 : UInt8), (8 : UInt8), (8 : UInt8), (8 : UInt8), (8 : UInt8), (8 : UInt8), (8 : UInt8), (8 : UInt8), (8 : UInt8), (8 : UInt8), (8 : UInt8), (8 : UInt8), (8 : UInt8), (8 : UInt8), (8 : UInt8), (8 : UInt8), (8 : UInt8), (8 : UInt8), (8 : UInt8), (8 : UInt8), (8 : UInt8), (8 : UInt8), (8 : UInt8), (8 : UInt8), (8 : UInt8), (8 : UInt8), (8 : UInt8), (8 : UInt8), (8 : UInt8), (8 : UInt8), (8 : UInt8), (8 : UInt8), (8 : UInt8), (8 : UInt8), (8 : UInt8), (8 : UInt8), (8 : UInt8), (8 : UInt8), (8 : UInt8), (8 : UInt8), (8 : UInt8), (8 : UInt8), (8 : UInt8), (8 : UInt8), (8 : UInt8), (8 : UInt8), (8 : UInt8), (8 : UInt8), (8 : UInt8), (8 : UInt8), (8 : UInt8), (8 : UInt8), (8 : UInt8), (8 : UInt8), (8 : UInt8), (8 : UInt8), (8 : UInt8), (8 : UInt8), (8 : UInt8), (8 : UInt8), (8 : UInt8), (8 : UInt8), (8 : UInt8), (8 : UInt8), (8 : UInt8), (8 : UInt8), (8 : UInt8), (8 : UInt8), (8 : UInt8), (8 : UInt8), (8 : UInt8), (8 : UInt8), (8 : UInt8), (8 : UInt8), (8 : UInt8), (8 : UInt8), (8 : UInt8), (8 : UInt8), (8 : UInt8), (8 : UInt8), (8 : UInt8), (8 : UInt8), (8 : UInt8), (8 : UInt8), (8 : UInt8), (8 : UInt8), (8 : UInt8), (8 : UInt8), (8 : UInt8), (8 : UInt8), (8 : UInt8), (8 : UInt8)]⟩⟩ : ByteArray)
            (IntKind.u8.wrap (shrI IntKind.u64 x (8 : Int))))
          fun b =>
          some (IntKind.i64.wrap (IntKind.i64.wrap ((0 : Int) + (8 : Int)) + IntKind.i64.wrap (↑b.toNat : Int))))
        (ob
          (sidx
            (⟨⟨[(0 : UInt8), (1 : UInt8), (2 : UInt8), (2 : UInt8), (3 : UInt8), (3 : UInt8), (3 : UInt8), (3 : UInt8), (4 : UInt8), (4 : UInt8), (4 : UInt8), (4 : UInt8), (4 : UInt8), (4 : UInt8), (4 : UInt8), (4 : UInt8), (5 : UInt8), (5 : UInt8), (5 : UInt8), (5 : UInt8), (5 : UInt8), (5 : UInt8), (5 : UInt8), (5 : UInt8), (5 : UInt8), (5 : UInt8), (5 : UInt8), (5 : UInt8), (5 : UInt8), (5 : UInt8), (5 : UInt8), (5 : UInt8), (6 : UInt8), (6 : UInt8), (6 : UInt8), (6 : UInt8), (6 : UInt8), (6 : UInt8), (6 : UInt8), (6 : UInt8), (6 : UInt8), (6 : UInt8), (6 : UInt8), (6 : UInt8), (6 : UInt8), (6 : UInt8), (6 : UInt8), (6 : UInt8), (6 : UInt8), (6 : UInt8), (6 : UInt8), (6 : UInt8), (6 : UInt8), (6 : UInt8), (6 : UInt8), (6 : UInt8), (6 : UInt8), (6 : UInt8), (6 : UInt8), (6 : UInt8), (6 : UInt8), (6 : UInt8), (6 : UInt8), (6 : UInt8), (7 : UInt8), (7 : UInt8), (7 : UInt8), (7 : UInt8), (7 : UInt8), (7 : UInt8), (7 : UInt8), (7 : UInt8), (7 : UInt8), (7 : UInt8), (7 : UInt8), (7 : UInt8), (7 : UInt8), (7 : UInt8), (7 : UInt8), (7 : UInt8), (7 : UInt8), (7 : UInt8), (7 : UInt8), (7 : UInt8), (7 : UInt8), (7 : UInt8), (7 : UInt8), (7 : UInt8), (7 : UInt8), (7 : UInt8), (7 : UInt8), (7 : UInt8), (7 : UInt8), (7 : UInt8), (7 : UInt8), (7 : UInt8), (7 : UInt8), (7 : UInt8), (7 : UInt8), (7 : UInt8), (7 : UInt8), (7 : UInt8), (7 : UInt8), (7 : UInt8), (7 : UInt8), (7 : UInt8), (7 : UInt8), (7 : UInt8), (7 : UInt8), (7 : UInt8), (7 : UInt8), (7 : UInt8), (7 : UInt8), (7 : UInt8), (7 : UInt8), (7 : UInt8), (7 : UInt8), (7 : UInt8), (7 : UInt8), (7 : UInt8), (7 : UInt8), (7 : UInt8), (7 : UInt8), (7 : UInt8), (7 : UInt8), (7 : UInt8), (7 : UInt8), (7 : UInt8), (8 : UInt8), (8 : UInt8), (8 : UInt8), (8 : UInt8), (8 : UInt8), (8 : UInt8), (8 : UInt8), (8 : UInt8), (8 : UInt8), (8 : UInt8), (8 : UInt8), (8 : UInt8), (8 : UInt8), (8 : UInt8), (8 : UInt8), (8 : UInt8), (8 : UInt8), (8 : UInt8), (8 : UInt8), (8 : UInt8), (8 : UInt8), (8 : UInt8), (8 : UInt8), (8 : UInt8), (8 : UInt8), (8 : UInt8), (8 : UInt8), (8 : UInt8), (8 : UInt8), (8 : UInt8), (8 : UInt8), (8 : UInt8), (8 : UInt8), (8 : UInt8), (8 : UInt8), (8 : UInt8), (8 : UInt8), (8 : UInt8), (8 : UInt8), (8 : UInt8), (8 : UInt8), (8 : UInt8), (8 : UInt8), (8 : UInt8), (8 : UInt8), (8 : UInt8), (8 : UInt8), (8 : UInt8), (8 : UInt8), (8 : UInt8), (8 : UInt8), (8 : UInt8), (8 : UInt8), (8 : UInt8), (8 : UInt8), (8 : UInt8), (8 : UInt8), (8 : UInt8), (8 : UInt8), (8 : UInt8), (8 : UInt8), (8 : UInt8), (8 : UInt8), (8 : UInt8), (8 : UInt8), (8 : UInt8), (8 : UInt8), (8 : UInt8), (8 : UInt8), (8 : UInt8), (8 : UInt8), (8 : UInt8), (8 : UInt8), (8 : UInt8), (8 : UInt8), (8 : UInt8), (8 : UInt8), (8 : UInt8), (8 : UInt8), (8 : UInt8), (8 : UInt8), (8 : UInt8), (8 : UInt8), (8 : UInt8), (8 : UInt8), (8 : UInt8), (8 : UInt8), (8 : UInt8), (8 : UInt8), (8 : UInt8), (8 : UInt8), (8 : UInt8), (8 : UInt8), (8 : UInt8), (8 : UInt8), (8 : UInt8), (8 : UInt8), (8 : UInt8), (8 : UInt8), (8 : UInt8), (8 : UInt8), (8 : UInt8), (8 : UInt8), (8 : UInt8), (8 : UInt8), (8 : UInt8), (8 : UInt8), (8 : UInt8), (8 : UInt8), (8 : UInt8), (8 : UInt8), (8 : UInt8), (8 : UInt8), (8 : UInt8), (8 : UInt8), (8 : UInt8), (8 : UInt8), (8 : UInt8), (8 : UInt8), (8 : UInt8), (8 : UInt8), (8 : UInt8), (8 : UInt8), (8 : UInt8), (8 : UInt8), (8 : UInt8), (8 : UInt8), (8 : UInt8)]⟩⟩ : ByteArray)
            (IntKind.u8.wrap x))
          fun b => some (IntKind.i64.wrap ((0 : Int) + IntKind.i64.wrap (↑b.toNat : Int))))))
def len64X_con : Con := ⟨[u64], [.d (i64)], len64X⟩
theorem len64X_run (x : Dens [u64]) : runFn (mkEnv [] []) Tryz.f140 [u64] [.d (i64)] x = len64X x := by kernel_rfl
theorem len64X_ok : len64X_con.ok Tryz.prog 140 := fn_ok (con := len64X_con) (mkEnv_ok (cons := []) trivial []) Tryz.func140 rfl (by kernel_rfl) (by exact trivial) (fun x y h => (len64X_run x).trans h)

end Rx
end Go.Proofs.YtfapjkcmoefilaaGreatDoor

namespace Go.Proofs.YtfapjkcmoefilaaGreatDoor
open Go.RowKit BigFrame
namespace Rx
open Go

def lenX : Int → Option Int := len64X
def lenX_con : Con := ⟨[u64], [.d i64], lenX⟩
theorem one_cell' {v x : Value} (h : v.oneCell' = true) (e : v.cells.toList = [x]) : v = x := by
  cases v <;> first | (cases h; done) | (simpa [Value.cells] using e) | skip
theorem len_calls {n y : Int} (h : len64X n = some y) (w : World) (hL : Laid w) : Calls Tryz.prog 140 #[.int .u64 n] w fun e w' => e = .returned (.int .i64 y) ∧ Ext w w' := by
  refine (len64X_ok.2 w (fun _ => False) [.int .u64 n] n y hL (fun _ h => h.elim) ⟨_, rfl, rfl⟩ h).mono ?_
  rintro e w' ⟨rs, hs, M', rfl, hE, ⟨v, rfl, hsh, hv, _⟩, _⟩
  exact ⟨congrArg Ending.returned (one_cell' hsh hv), hE⟩
theorem len_walk {n y : Int} (h : len64X n = some y) (w : World) (hL : Laid w) : Calls Tryz.prog 95 #[.int .u64 n] w fun e w' => e = .returned (.int .i64 y) ∧ Ext w w' := by
  have hC : ∀ w, Laid w → Calls Tryz.prog 140 #[.int .u64 n] w fun e w' => e = .returned (.int .i64 y) ∧ Ext w w' := fun w hL => len_calls h w hL
  clear h
  go_enter Tryz.func95, Tryz.ntmps95
  go_wp2_with (first | ((first | with_reducible refine wp_region_ext' (by kernel_rfl) (by kernel_rfl) ?_ | with_reducible refine wp_region_ext (by kernel_rfl) (by kernel_rfl) ?_); (repeat (go_big_quiet_step (fail))); refine wpQuiet_nil ?_; intro _ hw'; obtain ⟨xw, hw''⟩ := hw'; subst hw''; have hz := ExtOf.size_le xw; (try simp only [World.size_alloc, World.size_setCell] at hz); (try have hz0 : w.heap.size < xw.w.heap.size := by omega); (try have hz1 : w.heap.size + 1 < xw.w.heap.size := by omega); (try have hz2 : w.heap.size + 1 + 1 < xw.w.heap.size := by omega); (try have hz3 : w.heap.size + 1 + 1 + 1 < xw.w.heap.size := by omega); (try have hz4 : w.heap.size + 1 + 1 + 1 + 1 < xw.w.heap.size := by omega)) | (go_at_call 140; refine (hC _ (hL.ext (by (repeat' (first | exact Ext.refl _ | assumption | refine Ext.val _ ?_ | refine Ext.alloc ?_ _ | refine Ext.drew ?_ | refine Ext.drewN ?_ _ | refine Ext.setCell ?_ (by first | exact Nat.le_refl _ | omega | (simp; done) | (simp; omega)) _ | refine Ext.trans ?_ (by assumption)))))).mono ?_; rintro e w' ⟨rfl, hE⟩; (first | (obtain ⟨xw, rfl⟩ := ExtOf.mk' hE) | (obtain ⟨xw, rfl⟩ := ExtOf.mk hE)); clear hE; have hz := ExtOf.size_le xw; (try simp only [World.size_alloc, World.size_setCell] at hz); (try have hz0 : w.heap.size < xw.w.heap.size := by omega); (try have hz1 : w.heap.size + 1 < xw.w.heap.size := by omega); (try have hz2 : w.heap.size + 1 + 1 < xw.w.heap.size := by omega); (try have hz3 : w.heap.size + 1 + 1 + 1 < xw.w.heap.size := by omega); (try have hz4 : w.heap.size + 1 + 1 + 1 + 1 < xw.w.heap.size := by omega)))
  all_goals
    go_returns
    exact ⟨rfl, by (repeat' (first | exact Ext.refl _ | assumption | refine Ext.val _ ?_ | refine Ext.alloc ?_ _ | refine Ext.drew ?_ | refine Ext.drewN ?_ _ | refine Ext.setCell ?_ (by first | exact Nat.le_refl _ | omega | (simp; done) | (simp; omega)) _ | refine Ext.trans ?_ (by assumption)))⟩
theorem lenX_ok : lenX_con.ok Tryz.prog 95 := by
  refine ⟨⟨_, _, Tryz.func95, by kernel_rfl, rfl⟩, fun w M vs n y hld hM hr hF => ?_⟩
  obtain ⟨v, rfl, hv⟩ := hr
  have hv : v = .int .u64 n := hv
  subst hv
  refine (len_walk (n := n) (y := y) hF w hld).mono ?_
  rintro e w' ⟨rfl, hE⟩
  exact ⟨[.int .i64 y], [], M, rfl, hE, ⟨_, rfl, rfl, rfl, rfl⟩, by simp, fun p hp => ⟨.inl hp, Nat.lt_of_lt_of_le (hM p hp) hE.size, by simp⟩⟩
end Rx
end Go.Proofs.YtfapjkcmoefilaaGreatDoor

namespace Go.Proofs.YtfapjkcmoefilaaGreatDoor
namespace Rx
open Go

noncomputable section
def nanX : Int → Option (Bool) :=
fun x => some (x != x)
def nanX_con : Con := ⟨[i64], [.d (.bool)], nanX⟩
theorem nanX_run (x : Dens [i64]) : runFn (mkEnv [] []) Tryz.f169 [i64] [.d (.bool)] x = nanX x := by kernel_rfl
theorem nanX_ok : nanX_con.ok Tryz.prog 169 := fn_ok (con := nanX_con) (mkEnv_ok (cons := []) trivial []) Tryz.func169 rfl (by kernel_rfl) (by exact trivial) (fun x y h => (nanX_run x).trans h)

def lessX : Int × Int → Option (Bool) :=
fun x =>
  ob (nanX x.1) fun y =>
    br y (ob (nanX x.2) fun y => br (!y) (some true) (some (decide (x.1 < x.2)))) (some (decide (x.1 < x.2)))
def lessX_con : Con := ⟨[i64, i64], [.d (.bool)], lessX⟩
theorem lessX_run (x : Dens [i64, i64]) : runFn (mkEnv [(169, nanX_con)] []) Tryz.f136 [i64, i64] [.d (.bool)] x = lessX x := by kernel_rfl
theorem lessX_ok : lessX_con.ok Tryz.prog 136 := fn_ok (con := lessX_con) (mkEnv_ok (cons := [(169, nanX_con)]) ⟨nanX_ok, trivial⟩ []) Tryz.func136 rfl (by kernel_rfl) (by exact trivial) (fun x y h => (lessX_run x).trans h)

def insP_vars : Vars := [(0, .row 2 2 (i64)), (1, .val (i64)), (2, .val (i64)), (6, .val (i64)), (7, .val (i64))]
def insP_step : List (Int) × Int × Int × Int × Int → Option (LRes × (List (Int) × Int × Int × Int × Int)) :=
fun x =>
  br (decide (x.snd.1 < x.snd.snd.snd.2))
    (ob (idx x.1 x.snd.snd.snd.2) fun x_1 =>
      ob (x.1.get?Internal (Int.toNat x.snd.snd.snd.2)) fun x_2 =>
        ob (idx x.1 (IntKind.i64.wrap (x.snd.snd.snd.2 - (1 : Int)))) fun x_3 =>
          ob (x.1.get?Internal (IntKind.i64.wrap (x.snd.snd.snd.2 - (1 : Int))).toNat) fun x_4 =>
            ob (lessX (x_2, x_4)) fun y =>
              br y
                (ob (idx x.1 (IntKind.i64.wrap (x.snd.snd.snd.2 - (1 : Int)))) fun x_5 =>
                  ob (x.1.get?Internal (IntKind.i64.wrap (x.snd.snd.snd.2 - (1 : Int))).toNat) fun x_6 =>
                    ob (idx x.1 x.snd.snd.snd.2) fun x_7 =>
                      ob (x.1.get?Internal (Int.toNat x.snd.snd.snd.2)) fun x_8 =>
                        ob (idx x.1 x.snd.snd.snd.2) fun x_9 =>
                          ob (x.1.get?Internal (Int.toNat x.snd.snd.snd.2)) fun x_10 =>
                            ob
                              (idx (x.1.set (Int.toNat x.snd.snd.snd.2) x_6)
                                (IntKind.i64.wrap (x.snd.snd.snd.2 - (1 : Int))))
                              fun x_11 =>
                              ob
                                ((x.1.set (Int.toNat x.snd.snd.snd.2) x_6).get?Internal
                                  (IntKind.i64.wrap (x.snd.snd.snd.2 - (1 : Int))).toNat)
                                fun x_12 =>
                                some
                                  (LRes.next,
                                    (x.1.set (Int.toNat x.snd.snd.snd.2) x_6).set
                                      (IntKind.i64.wrap (x.snd.snd.snd.2 - (1 : Int))).toNat x_8,
                                    x.snd.1, x.snd.snd.1, x.snd.snd.snd.1,
                                    IntKind.i64.wrap (x.snd.snd.snd.2 - (1 : Int))))
                (some (LRes.out, x.1, x.snd.1, x.snd.snd.1, x.snd.snd.snd.1, x.snd.snd.snd.2)))
    (some (LRes.out, x.1, x.snd.1, x.snd.snd.1, x.snd.snd.snd.1, x.snd.snd.snd.2))
def insP_fuel : List (Int) × Int × Int × Int × Int → Nat := fun s => (s.2.2.2.2 - s.2.1).toNat + 1
def insP : List (Int) × Int × Int × Int × Int → Option (List (Int) × Int × Int × Int × Int) := fun s => iterP insP_step (insP_fuel s) s
def insP_L : LoopC := ⟨insP_vars, 2, .plain insP⟩
noncomputable def insP_key : Nat := key (loopIn (loopAt Tryz.f130 0) 0)
theorem insP_stepok (x : insP_vars.den) : stepOf (mkEnv [(136, lessX_con)] []) Tryz.f130.ntmps insP_vars 2 (loopIn (loopAt Tryz.f130 0) 0) x = insP_step x := by kernel_rfl
theorem insP_ok : LoopOK Tryz.prog Tryz.f130.ntmps insP_L (loopIn (loopAt Tryz.f130 0) 0)   := iterP_loop (n := Tryz.f130.ntmps) (vs := insP_vars) (out := 2) (body := loopIn (loopAt Tryz.f130 0) 0) (mkEnv_ok (cons := [(136, lessX_con)]) ⟨lessX_ok, trivial⟩ []) insP_step insP_fuel (by exact trivial) insP_stepok

def insL_vars : Vars := [(0, .row 2 2 (i64)), (1, .val (i64)), (2, .val (i64)), (6, .val (i64))]
def insL_step : List (Int) × Int × Int × Int → Option (LRes × (List (Int) × Int × Int × Int)) :=
fun x =>
  br (decide (x.snd.snd.2 < x.snd.snd.1))
    (ob (insP (x.1, x.snd.1, x.snd.snd.1, x.snd.snd.2, x.snd.snd.2)) fun r =>
      some (LRes.next, r.1, r.snd.1, r.snd.snd.1, IntKind.i64.wrap (r.snd.snd.snd.1 + (1 : Int))))
    (some (LRes.out, x.1, x.snd.1, x.snd.snd.1, x.snd.snd.2))
def insL_fuel : List (Int) × Int × Int × Int → Nat := fun s => (s.2.2.1 - s.2.2.2).toNat + 1
def insL : List (Int) × Int × Int × Int → Option (List (Int) × Int × Int × Int) := fun s => iterP insL_step (insL_fuel s) s
def insL_L : LoopC := ⟨insL_vars, 0, .plain insL⟩
noncomputable def insL_key : Nat := key (loopAt Tryz.f130 0)
theorem insL_stepok (x : insL_vars.den) : stepOf (mkEnv [] [(insP_key, insP_L)]) Tryz.f130.ntmps insL_vars 0 (loopAt Tryz.f130 0) x = insL_step x := by kernel_rfl
theorem insL_ok : LoopOK Tryz.prog Tryz.f130.ntmps insL_L (loopAt Tryz.f130 0)   := iterP_loop (n := Tryz.f130.ntmps) (vs := insL_vars) (out := 0) (body := loopAt Tryz.f130 0) (mkEnv_ok (cons := []) trivial [(insP_key, insP_L)]) insL_step insL_fuel (by exact ⟨insP_ok, trivial⟩) insL_stepok

def insX : List (Int) × Int × Int → Option ((Unit) × (List (Int) × Int × Int)) :=
fun x =>
  ob (insL (x.1, x.snd.1, x.snd.2, IntKind.i64.wrap (x.snd.1 + (1 : Int)))) fun r =>
    some (PUnit.unit, r.1, x.snd.1, x.snd.2)
def insX_con : MCon := ⟨[.v (.row 2 (i64)), .v (.d (i64)), .v (.d (i64))], [], insX⟩
theorem insX_run (x : ADens [.v (.row 2 (i64)), .v (.d (i64)), .v (.d (i64))]) : runFnM (mkEnv [(136, lessX_con)] [(insL_key, insL_L)]) Tryz.f130 [.v (.row 2 (i64)), .v (.d (i64)), .v (.d (i64))] [] x = insX x := by kernel_rfl
theorem insX_ok : insX_con.ok Tryz.prog 130 := fnM_ok (con := insX_con) (mkEnv_ok (cons := [(136, lessX_con)]) ⟨lessX_ok, trivial⟩ [(insL_key, insL_L)]) Tryz.func130 rfl (by kernel_rfl) (by exact ⟨insL_ok, trivial⟩) (fun x y h => (insX_run x).trans h)

def pdqL_vars : Vars := [(0, .row 2 2 (i64)), (1, .val (i64)), (2, .val (i64)), (3, .val (i64)), (8, .val (.bool)), (9, .val (.bool))]
def pdqL_step : List (Int) × Int × Int × Int × Bool × Bool → Option (LRes × (List (Int) × Int × Int × Int × Bool × Bool)) :=
fun x =>
  br (decide (IntKind.i64.wrap (x.snd.snd.1 - x.snd.1) ≤ (12 : Int)))
    (ob (insX (x.1, x.snd.1, x.snd.snd.1)) fun y =>
      some (LRes.ret, y.snd.1, x.snd.1, x.snd.snd.1, x.snd.snd.snd.1, x.snd.snd.snd.snd.1, x.snd.snd.snd.snd.2))
    (br (x.snd.snd.snd.1 == (0 : Int)) none (br (!x.snd.snd.snd.snd.1) none none))
def pdqL_fuel : List (Int) × Int × Int × Int × Bool × Bool → Nat := fun s => 1
def pdqL : List (Int) × Int × Int × Int × Bool × Bool → Option (Bool × (List (Int) × Int × Int × Int × Bool × Bool)) := fun s => iter pdqL_step (pdqL_fuel s) s
def pdqL_L : LoopC := ⟨pdqL_vars, 0, .two pdqL⟩
noncomputable def pdqL_key : Nat := key (loopAt Tryz.f94 0)
theorem pdqL_stepok (x : pdqL_vars.den) : stepOf (mkEnvM [] [(130, insX_con)] []) Tryz.f94.ntmps pdqL_vars 0 (loopAt Tryz.f94 0) x = pdqL_step x := by kernel_rfl
theorem pdqL_ok : LoopOK Tryz.prog Tryz.f94.ntmps pdqL_L (loopAt Tryz.f94 0)   := iter_loop (n := Tryz.f94.ntmps) (vs := pdqL_vars) (out := 0) (body := loopAt Tryz.f94 0) (mkEnvM_ok (cons := []) (mcons := [(130, insX_con)]) trivial ⟨insX_ok, trivial⟩ []) pdqL_step pdqL_fuel (by exact trivial) pdqL_stepok

def pdqX : List (Int) × Int × Int × Int → Option ((Unit) × (List (Int) × Int × Int × Int)) :=
fun x =>
  ob (pdqL (x.1, x.snd.1, x.snd.snd.1, x.snd.snd.2, true, true)) fun r =>
    br r.1 (some (PUnit.unit, r.snd.1, x.snd.1, x.snd.snd.1, x.snd.snd.2))
      (some (PUnit.unit, r.snd.1, x.snd.1, x.snd.snd.1, x.snd.snd.2))
def pdqX_con : MCon := ⟨[.v (.row 2 (i64)), .v (.d (i64)), .v (.d (i64)), .v (.d (i64))], [], pdqX⟩
theorem pdqX_run (x : ADens [.v (.row 2 (i64)), .v (.d (i64)), .v (.d (i64)), .v (.d (i64))]) : runFnM (mkEnv [] [(pdqL_key, pdqL_L)]) Tryz.f94 [.v (.row 2 (i64)), .v (.d (i64)), .v (.d (i64)), .v (.d (i64))] [] x = pdqX x := by kernel_rfl
theorem pdqX_ok : pdqX_con.ok Tryz.prog 94 := fnM_ok (con := pdqX_con) (mkEnv_ok (cons := []) trivial [(pdqL_key, pdqL_L)]) Tryz.func94 rfl (by kernel_rfl) (by exact ⟨pdqL_ok, trivial⟩) (fun x y h => (pdqX_run x).trans h)

def sortX : List (Int) → Option ((Unit) × (List (Int))) :=
fun x =>
  ob (lenX (IntKind.u64.wrap (↑x.length : Int))) fun y =>
    ob (pdqX (x, (0 : Int), (↑x.length : Int), y)) fun y => some (PUnit.unit, y.snd.1)
def sortX_con : MCon := ⟨[.v (.row 2 (i64))], [], sortX⟩
theorem sortX_run (x : ADens [.v (.row 2 (i64))]) : runFnM (mkEnvM [(95, lenX_con)] [(94, pdqX_con)] []) Tryz.f51 [.v (.row 2 (i64))] [] x = sortX x := by kernel_rfl
theorem sortX_ok : sortX_con.ok Tryz.prog 51 := fnM_ok (con := sortX_con) (mkEnvM_ok (cons := [(95, lenX_con)]) (mcons := [(94, pdqX_con)]) ⟨lenX_ok, trivial⟩ ⟨pdqX_ok, trivial⟩ []) Tryz.func51 rfl (by kernel_rfl) (by exact trivial) (fun x y h => (sortX_run x).trans h)

end
end Rx
end Go.Proofs.YtfapjkcmoefilaaGreatDoor

namespace Go.Proofs.YtfapjkcmoefilaaGreatDoor
namespace Rx
open Go

theorem ob_val {α β : Type} {a : α} {x : Option α} {f : α → Option β} (h : x = some a) : ob x f = f a := by rw [h]; rfl
theorem get_i {l : List Int} {i : Nat} (h : i < l.length) : idx l (i : Int) = some l[i] ∧ List.get?Internal l ((i : Int)).toNat = some l[i] := by
  have e : ((i : Int)).toNat = i := by omega
  refine ⟨?_, ?_⟩
  · unfold idx
    rw [if_pos (by omega), e, List.getElem?_eq_getElem h]
  · rw [e]
    exact (List.get?Internal_eq_getElem? ..).trans (List.getElem?_eq_getElem h)
theorem swap_perm {l : List Int} {i j : Nat} (hi : i < l.length) (hj : j < l.length) : ((l.set i l[j]).set j l[i]).Perm l := List.set_set_perm hi hj
/-- A round of slices.Reverse. -/
theorem rev_round {l : List Int} {i j : Nat} (h : i < j) (hj : j < l.length) (hl : l.length ≤ 1000) : revL_step (l, (i : Int), (j : Int)) = some (.next, (l.set i l[j]).set j (l[i]'(by omega)), ((i + 1 : Nat) : Int), ((j - 1 : Nat) : Int)) := by
  obtain ⟨a1, a2⟩ := get_i (l := l) (i := i) (by omega)
  obtain ⟨b1, b2⟩ := get_i hj
  have e : ((i : Int)).toNat = i := by omega
  have ej : ((j : Int)).toNat = j := by omega
  obtain ⟨c1, c2⟩ := get_i (l := l.set i l[j]) (i := j) (by simpa using hj)
  unfold revL_step
  dsimp only
  rw [br_t (by simp; omega), ob_val b1, ob_val b2, ob_val a1, ob_val a2, ob_val a1, ob_val a2, e, ob_val c1, ob_val c2, ej, w64 (x := (i : Int) + 1) (by omega) (by omega), w64 (x := (j : Int) - 1) (by omega) (by omega)]
  have e1 : (i : Int) + 1 = ((i + 1 : Nat) : Int) := by omega
  have e2 : (j : Int) - 1 = ((j - 1 : Nat) : Int) := by omega
  rw [e1, e2]
theorem rev_keeps {l : List Int} (hl : l.length ≤ 1000) : ∃ l', revX l = some ((), l') ∧ l'.Perm l := by
  by_cases h0 : l = []
  · subst h0
    exact ⟨[], rfl, List.Perm.refl _⟩
  · have hpos : 0 < l.length := List.length_pos_iff.2 h0
    obtain ⟨s', h1, h2⟩ := iterP_end (step := revL_step) (fun s => ∃ (a : List Int) (i j : Nat), s = (a, (i : Int), (j : Int)) ∧ a.Perm l ∧ j < a.length) (fun s => s.1.Perm l) (fun s => (s.2.2 - s.2.1).toNat) (by
      rintro s ⟨a, i, j, rfl, hp, hj⟩
      have hlen := hp.length_eq
      by_cases h : i < j
      · refine ⟨_, _, rev_round h hj (by omega), fun _ => ⟨⟨_, i + 1, j - 1, rfl, ?_, ?_⟩, ?_⟩, (fun e => by cases e), (fun e => by cases e)⟩
        · exact (swap_perm (by omega) hj).trans hp
        · simp; omega
        · show (((j - 1 : Nat) : Int) - ((i + 1 : Nat) : Int)).toNat < ((j : Int) - (i : Int)).toNat
          omega
      · refine ⟨.out, (a, (i : Int), (j : Int)), ?_, (fun e => by cases e), (fun _ => hp), (fun e => by cases e)⟩
        unfold revL_step
        dsimp only
        rw [br_f (by simp; omega)]) (revL_fuel (l, 0, ((l.length - 1 : Nat) : Int))) (l, ((0 : Nat) : Int), ((l.length - 1 : Nat) : Int)) ⟨l, 0, l.length - 1, rfl, List.Perm.refl _, by omega⟩ (by
      show (((l.length - 1 : Nat) : Int) - 0).toNat < (((l.length - 1 : Nat) : Int) - 0).toNat + 1
      omega)
    have h1 : revL (l, 0, ((l.length - 1 : Nat) : Int)) = some s' := h1
    refine ⟨s'.1, ?_, h2⟩
    unfold revX
    rw [w64 (x := (l.length : Int) - 1) (by omega) (by omega), show (l.length : Int) - 1 = ((l.length - 1 : Nat) : Int) by omega, ob_val h1]
theorem less_eq (x y : Int) : lessX (x, y) = some (decide (x < y)) := by
  unfold lessX nanX
  simp [ob, br]
/-- A round of the inner loop. -/
theorem ins_round {l : List Int} {n i j : Nat} (h : 0 < j) (hj : j < l.length) (hl : l.length ≤ 1000) : insP_step (l, 0, (n : Int), (i : Int), (j : Int)) = if l[j] < l[j - 1]'(by omega) then some (.next, (l.set j (l[j - 1]'(by omega))).set (j - 1) l[j], 0, (n : Int), (i : Int), ((j - 1 : Nat) : Int)) else some (.out, l, 0, (n : Int), (i : Int), (j : Int)) := by
  obtain ⟨b1, b2⟩ := get_i hj
  obtain ⟨a1, a2⟩ := get_i (l := l) (i := j - 1) (by omega)
  have w1 : IntKind.i64.wrap ((j : Int) - 1) = ((j - 1 : Nat) : Int) := by rw [w64 (by omega) (by omega)]; omega
  have e1 : (((j - 1 : Nat) : Int)).toNat = j - 1 := by omega
  have ej : ((j : Int)).toNat = j := by omega
  obtain ⟨c1, c2⟩ := get_i (l := l.set j (l[j - 1]'(by omega))) (i := j - 1) (by simp; omega)
  unfold insP_step
  dsimp only
  rw [br_t (by simp; omega), ob_val b1, ob_val b2, w1, ob_val a1, ob_val a2, ob_val (less_eq _ _)]
  by_cases hlt : l[j] < l[j - 1]'(by omega)
  · rw [if_pos hlt, br_t (by simpa using hlt), ob_val a1, ob_val a2, ob_val b1, ob_val b2, ob_val b1, ob_val b2, ej, ob_val c1, ob_val c2, e1]
  · rw [if_neg hlt, br_f (by simpa using hlt)]
theorem insP_keeps {l0 l : List Int} {n i : Nat} (hp : l.Perm l0) (hi : i < l.length) (hl : l.length ≤ 1000) : ∃ (a : List Int) (j : Int), insP (l, 0, (n : Int), (i : Int), (i : Int)) = some (a, 0, (n : Int), (i : Int), j) ∧ a.Perm l0 := by
  obtain ⟨s', h1, a, j, rfl, h2⟩ := iterP_end (step := insP_step) (fun s => ∃ (a : List Int) (j : Nat), s = (a, 0, (n : Int), (i : Int), (j : Int)) ∧ a.Perm l0 ∧ j < a.length) (fun s => ∃ (a : List Int) (j : Int), s = (a, 0, (n : Int), (i : Int), j) ∧ a.Perm l0) (fun s => (s.2.2.2.2 - s.2.1).toNat) (by
    rintro s ⟨a, j, rfl, hpa, hj⟩
    have hlen := hpa.length_eq
    have hlen0 := hp.length_eq
    by_cases h : 0 < j
    · have hr := ins_round (n := n) (i := i) h hj (by omega)
      by_cases hlt : a[j] < a[j - 1]'(by omega)
      · rw [if_pos hlt] at hr
        refine ⟨_, _, hr, fun _ => ⟨⟨_, j - 1, rfl, ?_, ?_⟩, ?_⟩, (fun e => by cases e), (fun e => by cases e)⟩
        · exact (swap_perm hj (by omega)).trans hpa
        · simp; omega
        · show (((j - 1 : Nat) : Int) - 0).toNat < ((j : Int) - 0).toNat
          omega
      · rw [if_neg hlt] at hr
        exact ⟨_, _, hr, (fun e => by cases e), (fun _ => ⟨a, _, rfl, hpa⟩), (fun e => by cases e)⟩
    · refine ⟨.out, (a, 0, (n : Int), (i : Int), (j : Int)), ?_, (fun e => by cases e), (fun _ => ⟨a, _, rfl, hpa⟩), (fun e => by cases e)⟩
      unfold insP_step
      dsimp only
      rw [br_f (by simp; omega)]) (insP_fuel (l, 0, (n : Int), (i : Int), (i : Int))) (l, 0, (n : Int), (i : Int), (i : Int)) ⟨l, i, rfl, hp, hi⟩ (Nat.lt_succ_self _)
  exact ⟨a, j, h1, h2⟩
theorem insL_keeps {l0 : List Int} (hl : l0.length ≤ 1000) : ∃ (a : List Int) (i : Int), insL (l0, 0, (l0.length : Int), 1) = some (a, 0, (l0.length : Int), i) ∧ a.Perm l0 := by
  obtain ⟨s', h1, a, i, rfl, h2⟩ := iterP_end (step := insL_step) (fun s => ∃ (a : List Int) (i : Nat), s = (a, 0, (l0.length : Int), (i : Int)) ∧ a.Perm l0) (fun s => ∃ (a : List Int) (i : Int), s = (a, 0, (l0.length : Int), i) ∧ a.Perm l0) (fun s => (s.2.2.1 - s.2.2.2).toNat) (by
    rintro s ⟨a, i, rfl, hp⟩
    have hlen := hp.length_eq
    by_cases h : i < l0.length
    · obtain ⟨a', j, e, hp'⟩ := insP_keeps (n := l0.length) (i := i) hp (by omega) (by omega)
      refine ⟨.next, (a', 0, (l0.length : Int), ((i + 1 : Nat) : Int)), ?_, fun _ => ⟨⟨a', i + 1, rfl, hp'⟩, ?_⟩, (fun e => by cases e), (fun e => by cases e)⟩
      · unfold insL_step
        dsimp only
        rw [br_t (by simp; omega), ob_val e, w64 (x := (i : Int) + 1) (by omega) (by omega)]
        rfl
      · show ((l0.length : Int) - ((i + 1 : Nat) : Int)).toNat < ((l0.length : Int) - (i : Int)).toNat
        omega
    · refine ⟨.out, (a, 0, (l0.length : Int), (i : Int)), ?_, (fun e => by cases e), (fun _ => ⟨a, _, rfl, hp⟩), (fun e => by cases e)⟩
      unfold insL_step
      dsimp only
      rw [br_f (by simp; omega)]) (insL_fuel (l0, 0, (l0.length : Int), 1)) (l0, 0, (l0.length : Int), ((1 : Nat) : Int)) ⟨l0, 1, rfl, List.Perm.refl _⟩ (Nat.lt_succ_self _)
  exact ⟨a, i, h1, h2⟩
theorem len_small {n : Nat} (hn : n ≤ 5) : ∃ y, lenX (n : Int) = some y := by
  have : n = 0 ∨ n = 1 ∨ n = 2 ∨ n = 3 ∨ n = 4 ∨ n = 5 := by omega
  rcases this with rfl | rfl | rfl | rfl | rfl | rfl
  · exact ⟨0, by kernel_rfl⟩
  · exact ⟨1, by kernel_rfl⟩
  · exact ⟨2, by kernel_rfl⟩
  · exact ⟨2, by kernel_rfl⟩
  · exact ⟨3, by kernel_rfl⟩
  · exact ⟨3, by kernel_rfl⟩
theorem sort_keeps {l : List Int} (hl : l.length ≤ 5) : ∃ l', sortX l = some ((), l') ∧ l'.Perm l := by
  obtain ⟨a, i, h1, h2⟩ := insL_keeps (l0 := l) (by omega)
  obtain ⟨y, hy⟩ := len_small hl
  have hi : insX (l, 0, (l.length : Int)) = some ((), a, 0, (l.length : Int)) := by
    unfold insX
    have e : IntKind.i64.wrap ((0 : Int) + 1) = 1 := rfl
    rw [e, ob_val h1]
  have hw : IntKind.i64.wrap ((l.length : Int) - 0) = (l.length : Int) := by rw [w64 (by omega) (by omega)]; omega
  have hstep : pdqL_step (l, 0, (l.length : Int), y, true, true) = some (.ret, a, 0, (l.length : Int), y, true, true) := by
    unfold pdqL_step
    dsimp only
    rw [hw, br_t (by simp; omega), ob_val hi]
  have hp : pdqX (l, 0, (l.length : Int), y) = some ((), a, 0, (l.length : Int), y) := by
    have hL : pdqL (l, 0, (l.length : Int), y, true, true) = some (false, a, 0, (l.length : Int), y, true, true) := by
      show iter pdqL_step 1 _ = _
      simp only [iter, hstep, ob]
    unfold pdqX
    rw [ob_val hL]
    rfl
  refine ⟨a, ?_, h2⟩
  unfold sortX
  rw [wu64 (by omega) (by omega), ob_val hy, ob_val hp]
end Rx
end Go.Proofs.YtfapjkcmoefilaaGreatDoor
