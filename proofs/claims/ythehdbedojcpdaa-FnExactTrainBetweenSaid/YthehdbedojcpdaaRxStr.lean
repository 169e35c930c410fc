/- What the functions of RxStr come to, and their contracts. No conditions. -/
import Derived.Test.YthehdbedojcpdaaRxEnv
namespace Go.Proofs.Ythehdbedojcpdaa
namespace Rx
open Go

def markTextL_vars : Vars := [(0, .val (i64)), (3, .val (.str))]
def markTextL_step : Int × ByteArray → Option (LRes × (Int × ByteArray)) :=
fun x =>
  br (decide ((0 : Int) < x.1))
    (br
      (decide
        ((bytesOf [IntKind.u8.wrap (IntKind.i64.wrap ((48 : Int) + x.1.tmod (10 : Int)))]).size + x.2.size ≤
          (9223372036854775807 : Nat)))
      (some
        (LRes.next, IntKind.i64.wrap (x.1.tdiv (10 : Int)),
          bytesOf [IntKind.u8.wrap (IntKind.i64.wrap ((48 : Int) + x.1.tmod (10 : Int)))] ++ x.2))
      none)
    (some (LRes.out, x.1, x.2))
def markTextL_fuel : Int × ByteArray → Nat := fun s => s.1.toNat + 1
def markTextL : Int × ByteArray → Option (Int × ByteArray) := fun s => iterP markTextL_step (markTextL_fuel s) s
def markTextL_L : LoopC := ⟨markTextL_vars, 0, .plain markTextL⟩
noncomputable def markTextL_key : Nat := key (loopAt Try.f92 0)
theorem markTextL_stepok (x : markTextL_vars.den) : stepOf (mkEnv [] []) Try.f92.ntmps markTextL_vars 0 (loopAt Try.f92 0) x = markTextL_step x := by kernel_rfl
theorem markTextL_ok : LoopOK Try.prog Try.f92.ntmps markTextL_L (loopAt Try.f92 0)   := iterP_loop (n := Try.f92.ntmps) (vs := markTextL_vars) (out := 0) (body := loopAt Try.f92 0) (mkEnv_ok (cons := []) trivial []) markTextL_step markTextL_fuel (by exact trivial) markTextL_stepok

def markText : Int → Option (ByteArray) :=
fun x =>
  br (decide (x ≤ (0 : Int))) (some (⟨⟨[(109 : UInt8), (48 : UInt8)]⟩⟩ : ByteArray))
    (ob (markTextL (x, (⟨⟨[]⟩⟩ : ByteArray))) fun r =>
      br (decide ((⟨⟨[(109 : UInt8)]⟩⟩ : ByteArray).size + ByteArray.size r.2 ≤ (9223372036854775807 : Nat)))
        (some ((⟨⟨[(109 : UInt8)]⟩⟩ : ByteArray) ++ r.2)) none)
def markText_con : Con := ⟨[i64], [.d (.str)], markText⟩
theorem markText_run (x : Dens [i64]) : runFn (mkEnv [] [(markTextL_key, markTextL_L)]) Try.f92 [i64] [.d (.str)] x = markText x := by kernel_rfl
theorem markText_ok : markText_con.ok Try.prog 92 := fn_ok (con := markText_con) (mkEnv_ok (cons := []) trivial [(markTextL_key, markTextL_L)]) Try.func92 rfl (by kernel_rfl) (by exact ⟨markTextL_ok, trivial⟩) (fun x y h => (markText_run x).trans h)







end Rx
end Go.Proofs.Ythehdbedojcpdaa
