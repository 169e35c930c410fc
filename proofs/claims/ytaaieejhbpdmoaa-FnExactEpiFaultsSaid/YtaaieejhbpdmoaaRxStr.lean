/- What the functions of RxStr come to, and their contracts. No conditions. -/
import Derived.Test.YtaaieejhbpdmoaaRxEnv
namespace Go.Proofs.Ytaaieejhbpdmoaa
namespace Rx
open Go

def markTextL_vars : Vars := [(0, .val (i64)), (3, .val (.str))]
def markTextL_step : Int × ByteArray → Option (LRes × (Int × ByteArray)) :=
fun x =>
  br (decide ((0 : Int) < x.1))
    (br
      (decide
        ((bytesOf [IntKind.u8.wrap (IntKind.i64.wrap ((48 : Int) + x.1.tmod (10 : Int)))]).size + x.2.size ≤
          (9223372036854775807 : Nat)))
      (some
        (LRes.next, IntKind.i64.wrap (x.1.tdiv (10 : Int)),
          bytesOf [IntKind.u8.wrap (IntKind.i64.wrap ((48 : Int) + x.1.tmod (10 : Int)))] ++ x.2))
      none)
    (some (LRes.out, x.1, x.2))
def markTextL_fuel : Int × ByteArray → Nat := fun s => s.1.toNat + 1
def markTextL : Int × ByteArray → Option (Int × ByteArray) := fun s => iterP markTextL_step (markTextL_fuel s) s
def markTextL_L : LoopC := ⟨markTextL_vars, 0, .plain markTextL⟩
noncomputable def markTextL_key : Nat := key (loopAt Try.f52 0)
theorem markTextL_stepok (x : markTextL_vars.den) : stepOf (mkEnv [] []) Try.f52.ntmps markTextL_vars 0 (loopAt Try.f52 0) x = markTextL_step x := by kernel_rfl
theorem markTextL_ok : LoopOK Try.prog Try.f52.ntmps markTextL_L (loopAt Try.f52 0)   := iterP_loop (n := Try.f52.ntmps) (vs := markTextL_vars) (out := 0) (body := loopAt Try.f52 0) (mkEnv_ok (cons := []) trivial []) markTextL_step markTextL_fuel (by exact trivial) markTextL_stepok

def markText : Int → Option (ByteArray) :=
fun x =>
  br (decide (x ≤ (0 : Int))) (some (⟨⟨[(109 : UInt8), (48 : UInt8)]⟩⟩ : ByteArray))
    (ob (markTextL (x, (⟨⟨[]⟩⟩ : ByteArray))) fun r =>
      br (decide ((⟨⟨[(109 : UInt8)]⟩⟩ : ByteArray).size + ByteArray.size r.2 ≤ (9223372036854775807 : Nat)))
        (some ((⟨⟨[(109 : UInt8)]⟩⟩ : ByteArray) ++ r.2)) none)
def markText_con : Con := ⟨[i64], [.d (.str)], markText⟩
theorem markText_run (x : Dens [i64]) : runFn (mkEnv [] [(markTextL_key, markTextL_L)]) Try.f52 [i64] [.d (.str)] x = markText x := by kernel_rfl
theorem markText_ok : markText_con.ok Try.prog 52 := fn_ok (con := markText_con) (mkEnv_ok (cons := []) trivial [(markTextL_key, markTextL_L)]) Try.func52 rfl (by kernel_rfl) (by exact ⟨markTextL_ok, trivial⟩) (fun x y h => (markText_run x).trans h)

def eqStrSL_vars : Vars := [(0, .val (.slice (.str))), (1, .val (.slice (.str))), (4, .val (.bool)), (5, .val (i64))]
def eqStrSL_step : List (ByteArray) × List (ByteArray) × Bool × Int → Option (LRes × (List (ByteArray) × List (ByteArray) × Bool × Int)) :=
fun x =>
  br (decide (x.snd.snd.2 < (↑x.1.length : Int)))
    (ob (idx x.1 x.snd.snd.2) fun y =>
      ob (idx x.snd.1 x.snd.snd.2) fun y_1 =>
        br (!ByteArray.toList y == ByteArray.toList y_1) (some (LRes.ret, x.1, x.snd.1, false, x.snd.snd.2))
          (some (LRes.next, x.1, x.snd.1, x.snd.snd.1, IntKind.i64.wrap (x.snd.snd.2 + (1 : Int)))))
    (some (LRes.out, x.1, x.snd.1, x.snd.snd.1, x.snd.snd.2))
def eqStrSL_fuel : List (ByteArray) × List (ByteArray) × Bool × Int → Nat := fun s => (s.1.length - s.2.2.2.toNat) + 1
def eqStrSL : List (ByteArray) × List (ByteArray) × Bool × Int → Option (Bool × (List (ByteArray) × List (ByteArray) × Bool × Int)) := fun s => iter eqStrSL_step (eqStrSL_fuel s) s
def eqStrSL_L : LoopC := ⟨eqStrSL_vars, 0, .two eqStrSL⟩
noncomputable def eqStrSL_key : Nat := key (loopAt Try.f19 0)
theorem eqStrSL_stepok (x : eqStrSL_vars.den) : stepOf (mkEnv [] []) Try.f19.ntmps eqStrSL_vars 0 (loopAt Try.f19 0) x = eqStrSL_step x := by kernel_rfl
theorem eqStrSL_ok : LoopOK Try.prog Try.f19.ntmps eqStrSL_L (loopAt Try.f19 0)   := iter_loop (n := Try.f19.ntmps) (vs := eqStrSL_vars) (out := 0) (body := loopAt Try.f19 0) (mkEnv_ok (cons := []) trivial []) eqStrSL_step eqStrSL_fuel (by exact trivial) eqStrSL_stepok

def eqStrS : List (ByteArray) × List (ByteArray) → Option (Bool) :=
fun x =>
  br ((↑x.1.length : Int) != (↑x.2.length : Int)) (some false)
    (ob (eqStrSL (x.1, x.2, false, (0 : Int))) fun r => br r.1 (some true) (some r.snd.snd.snd.1))
def eqStrS_con : Con := ⟨[.slice (.str), .slice (.str)], [.d (.bool)], eqStrS⟩
theorem eqStrS_run (x : Dens [.slice (.str), .slice (.str)]) : runFn (mkEnv [] [(eqStrSL_key, eqStrSL_L)]) Try.f19 [.slice (.str), .slice (.str)] [.d (.bool)] x = eqStrS x := by kernel_rfl
theorem eqStrS_ok : eqStrS_con.ok Try.prog 19 := fn_ok (con := eqStrS_con) (mkEnv_ok (cons := []) trivial [(eqStrSL_key, eqStrSL_L)]) Try.func19 rfl (by kernel_rfl) (by exact ⟨eqStrSL_ok, trivial⟩) (fun x y h => (eqStrS_run x).trans h)

def markStrSL_vars : Vars := [(0, .row 2 9 (.str)), (1, .val (i64)), (5, .val (i64))]
def markStrSL_step : List (ByteArray) × Int × Int → Option (LRes × (List (ByteArray) × Int × Int)) :=
fun x =>
  br (decide (x.snd.2 < (↑x.1.length : Int)))
    (ob (markText x.snd.1) fun y =>
      ob (idx x.1 x.snd.2) fun x_1 =>
        ob (x.1.get?Internal (Int.toNat x.snd.2)) fun x_2 =>
          some
            (LRes.next, x.1.set (Int.toNat x.snd.2) y, IntKind.i64.wrap (x.snd.1 + (1 : Int)),
              IntKind.i64.wrap (x.snd.2 + (1 : Int))))
    (some (LRes.out, x.1, x.snd.1, x.snd.2))
def markStrSL_fuel : List (ByteArray) × Int × Int → Nat := fun s => (s.1.length - s.2.2.toNat) + 1
def markStrSL : List (ByteArray) × Int × Int → Option (List (ByteArray) × Int × Int) := fun s => iterP markStrSL_step (markStrSL_fuel s) s
def markStrSL_L : LoopC := ⟨markStrSL_vars, 0, .plain markStrSL⟩
noncomputable def markStrSL_key : Nat := key (loopAt Try.f20 0)
theorem markStrSL_stepok (x : markStrSL_vars.den) : stepOf (mkEnv [(52, markText_con)] []) Try.f20.ntmps markStrSL_vars 0 (loopAt Try.f20 0) x = markStrSL_step x := by kernel_rfl
theorem markStrSL_ok : LoopOK Try.prog Try.f20.ntmps markStrSL_L (loopAt Try.f20 0)   := iterP_loop (n := Try.f20.ntmps) (vs := markStrSL_vars) (out := 0) (body := loopAt Try.f20 0) (mkEnv_ok (cons := [(52, markText_con)]) ⟨markText_ok, trivial⟩ []) markStrSL_step markStrSL_fuel (by exact trivial) markStrSL_stepok

def markStrS : List (ByteArray) × Int → Option ((Int) × (List (ByteArray) × Int)) :=
fun x => ob (markStrSL (x.1, x.2, (0 : Int))) fun r => some (r.snd.1, r.1, x.2)
def markStrS_con : MCon := ⟨[.v (.row 9 (.str)), .v (.d (i64))], [.d (i64)], markStrS⟩
theorem markStrS_run (x : ADens [.v (.row 9 (.str)), .v (.d (i64))]) : runFnM (mkEnv [(52, markText_con)] [(markStrSL_key, markStrSL_L)]) Try.f20 [.v (.row 9 (.str)), .v (.d (i64))] [.d (i64)] x = markStrS x := by kernel_rfl
theorem markStrS_ok : markStrS_con.ok Try.prog 20 := fnM_ok (con := markStrS_con) (mkEnv_ok (cons := [(52, markText_con)]) ⟨markText_ok, trivial⟩ [(markStrSL_key, markStrSL_L)]) Try.func20 rfl (by kernel_rfl) (by exact ⟨markStrSL_ok, trivial⟩) (fun x y h => (markStrS_run x).trans h)

def heldStrSL_vars : Vars := [(0, .val (.slice (.str))), (1, .val (i64)), (4, .val (i64)), (5, .val (i64))]
def heldStrSL_step : List (ByteArray) × Int × Int × Int → Option (LRes × (List (ByteArray) × Int × Int × Int)) :=
fun x =>
  br (decide (x.snd.snd.2 < (↑x.1.length : Int)))
    (ob (idx x.1 x.snd.snd.2) fun y =>
      ob (markText x.snd.1) fun y_1 =>
        br (!ByteArray.toList y == ByteArray.toList y_1) (some (LRes.ret, x.1, x.snd.1, (-1 : Int), x.snd.snd.2))
          (some
            (LRes.next, x.1, IntKind.i64.wrap (x.snd.1 + (1 : Int)), x.snd.snd.1,
              IntKind.i64.wrap (x.snd.snd.2 + (1 : Int)))))
    (some (LRes.out, x.1, x.snd.1, x.snd.snd.1, x.snd.snd.2))
def heldStrSL_fuel : List (ByteArray) × Int × Int × Int → Nat := fun s => (s.1.length - s.2.2.2.toNat) + 1
def heldStrSL : List (ByteArray) × Int × Int × Int → Option (Bool × (List (ByteArray) × Int × Int × Int)) := fun s => iter heldStrSL_step (heldStrSL_fuel s) s
def heldStrSL_L : LoopC := ⟨heldStrSL_vars, 0, .two heldStrSL⟩
noncomputable def heldStrSL_key : Nat := key (loopAt Try.f21 0)
theorem heldStrSL_stepok (x : heldStrSL_vars.den) : stepOf (mkEnv [(52, markText_con)] []) Try.f21.ntmps heldStrSL_vars 0 (loopAt Try.f21 0) x = heldStrSL_step x := by kernel_rfl
theorem heldStrSL_ok : LoopOK Try.prog Try.f21.ntmps heldStrSL_L (loopAt Try.f21 0)   := iter_loop (n := Try.f21.ntmps) (vs := heldStrSL_vars) (out := 0) (body := loopAt Try.f21 0) (mkEnv_ok (cons := [(52, markText_con)]) ⟨markText_ok, trivial⟩ []) heldStrSL_step heldStrSL_fuel (by exact trivial) heldStrSL_stepok

def heldStrS : List (ByteArray) × Int → Option (Int) :=
fun x => ob (heldStrSL (x.1, x.2, (0 : Int), (0 : Int))) fun r => br r.1 (some r.snd.snd.1) (some r.snd.snd.snd.1)
def heldStrS_con : Con := ⟨[.slice (.str), i64], [.d (i64)], heldStrS⟩
theorem heldStrS_run (x : Dens [.slice (.str), i64]) : runFn (mkEnv [(52, markText_con)] [(heldStrSL_key, heldStrSL_L)]) Try.f21 [.slice (.str), i64] [.d (i64)] x = heldStrS x := by kernel_rfl
theorem heldStrS_ok : heldStrS_con.ok Try.prog 21 := fn_ok (con := heldStrS_con) (mkEnv_ok (cons := [(52, markText_con)]) ⟨markText_ok, trivial⟩ [(heldStrSL_key, heldStrSL_L)]) Try.func21 rfl (by kernel_rfl) (by exact ⟨heldStrSL_ok, trivial⟩) (fun x y h => (heldStrS_run x).trans h)

end Rx
end Go.Proofs.Ytaaieejhbpdmoaa
