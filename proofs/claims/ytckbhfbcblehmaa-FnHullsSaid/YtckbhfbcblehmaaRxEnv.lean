/- The seat's types; the environment of the evaluator. No conditions. -/
import Derived.Test.YtckbhfbcblehmaaRxEq
namespace Go.Proofs.Ytckbhfbcblehmaa
namespace Rx
def i64 : Ty := .int .i64
def u64 : Ty := .int .u64
def tab : List (TypeId × TI) := [(2, ⟨.int .i64, .int .i64, 1, 8, [.int .i64 0]⟩),
  (3, ⟨.int .i64, .int .i64, 1, 8, [.int .i64 0]⟩),
  (4, ⟨.bool, .bool, 1, 1, [.bool false]⟩),
  (5, ⟨.int .u8, .int .u8, 1, 1, [.int .u8 0]⟩),
  (9, ⟨.str, .str, 1, 16, [.str ByteArray.empty]⟩),
  (21, ⟨.int .i32, .int .i32, 1, 4, [.int .i32 0]⟩),
  (88, ⟨.struct [(0, 2), (1, 2)], .pair (.int .i64) (.int .i64), 2, 16, [.int .i64 0, .int .i64 0]⟩),
  (90, ⟨.struct [(0, 9), (1, 88), (3, 2), (4, 2)], .pair (.str) (.pair (.pair (.int .i64) (.int .i64)) (.pair (.int .i64) (.int .i64))), 5, 48, [.str ByteArray.empty, .int .i64 0, .int .i64 0, .int .i64 0, .int .i64 0]⟩),
  (22, ⟨.slice 90, .slice (.pair (.str) (.pair (.pair (.int .i64) (.int .i64)) (.pair (.int .i64) (.int .i64)))), 1, 24, [.nils]⟩),
  (24, ⟨.struct [(0, 2), (1, 2), (2, 2), (3, 2), (4, 22)], .pair (.int .i64) (.pair (.int .i64) (.pair (.int .i64) (.pair (.int .i64) (.slice (.pair (.str) (.pair (.pair (.int .i64) (.int .i64)) (.pair (.int .i64) (.int .i64)))))))), 5, 56, [.int .i64 0, .int .i64 0, .int .i64 0, .int .i64 0, .nils]⟩),
  (37, ⟨.struct [(0, 2), (1, 2)], .pair (.int .i64) (.int .i64), 2, 16, [.int .i64 0, .int .i64 0]⟩),
  (59, ⟨.struct [(0, 9), (1, 37), (3, 2), (4, 2)], .pair (.str) (.pair (.pair (.int .i64) (.int .i64)) (.pair (.int .i64) (.int .i64))), 5, 48, [.str ByteArray.empty, .int .i64 0, .int .i64 0, .int .i64 0, .int .i64 0]⟩),
  (28, ⟨.slice 59, .slice (.pair (.str) (.pair (.pair (.int .i64) (.int .i64)) (.pair (.int .i64) (.int .i64)))), 1, 24, [.nils]⟩),
  (30, ⟨.struct [(0, 2), (1, 2), (2, 2), (3, 2), (4, 28)], .pair (.int .i64) (.pair (.int .i64) (.pair (.int .i64) (.pair (.int .i64) (.slice (.pair (.str) (.pair (.pair (.int .i64) (.int .i64)) (.pair (.int .i64) (.int .i64)))))))), 5, 56, [.int .i64 0, .int .i64 0, .int .i64 0, .int .i64 0, .nils]⟩),
  (34, ⟨.slice 5, .slice (.int .u8), 1, 24, [.nils]⟩),
  (46, ⟨.slice 2, .slice (.int .i64), 1, 24, [.nils]⟩),
  (85, ⟨.struct [(0, 2), (1, 2)], .pair (.int .i64) (.int .i64), 2, 16, [.int .i64 0, .int .i64 0]⟩),
  (53, ⟨.slice 85, .slice (.pair (.int .i64) (.int .i64)), 1, 24, [.nils]⟩),
  (61, ⟨.slice 37, .slice (.pair (.int .i64) (.int .i64)), 1, 24, [.nils]⟩),
  (94, ⟨.int .u64, .int .u64, 1, 8, [.int .u64 0]⟩),
  (96, ⟨.struct [(0, 34), (1, 3), (2, 94)], .pair (.slice (.int .u8)) (.pair (.int .i64) (.int .u64)), 3, 40, [.nils, .int .i64 0, .int .u64 0]⟩),
  (100, ⟨.slice 9, .slice (.str), 1, 24, [.nils]⟩),
  (106, ⟨.int .u64, .int .u64, 1, 8, [.int .u64 0]⟩)]
theorem ownK : ownKnob Try.prog.godebug = none := by kernel_rfl
theorem laidK : laidOutB Try.prog = true := by kernel_rfl
theorem tab_ok : tabOk Try.prog tab = true := by kernel_rfl
def eqs : List (TypeId × List EK) := [(37, [.int .i64, .int .i64]), (59, [.str, .int .i64, .int .i64, .int .i64, .int .i64]), (85, [.int .i64, .int .i64]), (88, [.int .i64, .int .i64]), (90, [.str, .int .i64, .int .i64, .int .i64, .int .i64])]
theorem one_ok : oneOk tab = true := by kernel_rfl
theorem eqs_ok : eqsOk Try.prog tab eqs = true := by kernel_rfl
theorem eqs_spec : ∀ t ks, eqs.lookup t = some ks → StructEqOK Try.prog t ks := eqsOk_spec (tabOk_spec tab_ok) (oneOk_spec one_ok) eqs_ok
theorem mixed_ok : Try.prog.follows .mixedOrders = true := by kernel_rfl
def loopAt (fn : Func) (k : Nat) : Code := ((loopsOf (fn.body.getD .skip))[k]?).getD .skip
def loopIn (c : Code) (k : Nat) : Code := ((loopsOf c)[k]?).getD .skip
def mkEnv (cons : List (FuncId × Con)) (loops : List (Nat × LoopC)) : Env := ⟨tab, eqs, cons, [], loops⟩
theorem mkEnv_ok {cons : List (FuncId × Con)} (h : ConsOK Try.prog cons) (loops : List (Nat × LoopC)) : EnvOK Try.prog (mkEnv cons loops) :=
  ⟨tabOk_spec tab_ok, eqs_spec, h.get, fun f c hc => none_some hc, mixed_ok⟩
def mkEnvM (cons : List (FuncId × Con)) (mcons : List (FuncId × MCon)) (loops : List (Nat × LoopC)) : Env := ⟨tab, eqs, cons, mcons, loops⟩
theorem mkEnvM_ok {cons : List (FuncId × Con)} {mcons : List (FuncId × MCon)} (h : ConsOK Try.prog cons) (hm : MConsOK Try.prog mcons) (loops : List (Nat × LoopC)) : EnvOK Try.prog (mkEnvM cons mcons loops) :=
  ⟨tabOk_spec tab_ok, eqs_spec, h.get, hm.get, mixed_ok⟩
end Rx
end Go.Proofs.Ytckbhfbcblehmaa
