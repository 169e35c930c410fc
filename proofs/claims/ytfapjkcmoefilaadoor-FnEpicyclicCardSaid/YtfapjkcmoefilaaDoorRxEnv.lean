/- The seat's types; the environment of the evaluator. No conditions. -/
import Derived.Test.YtfapjkcmoefilaaDoorRxEq
namespace Go.Proofs.YtfapjkcmoefilaaDoor
namespace Rx
def i64 : Ty := .int .i64
def u64 : Ty := .int .u64
def tab : List (TypeId × TI) := [(2, ⟨.int .i64, .int .i64, 1, 8, [.int .i64 0]⟩),
  (3, ⟨.int .i64, .int .i64, 1, 8, [.int .i64 0]⟩),
  (4, ⟨.bool, .bool, 1, 1, [.bool false]⟩),
  (5, ⟨.int .u8, .int .u8, 1, 1, [.int .u8 0]⟩),
  (9, ⟨.str, .str, 1, 16, [.str ByteArray.empty]⟩),
  (21, ⟨.int .i32, .int .i32, 1, 4, [.int .i32 0]⟩),
  (23, ⟨.struct [(0, 2), (1, 2), (2, 2), (3, 2)], .pair (.int .i64) (.pair (.int .i64) (.pair (.int .i64) (.int .i64))), 4, 32, [.int .i64 0, .int .i64 0, .int .i64 0, .int .i64 0]⟩),
  (25, ⟨.struct [(0, 2), (1, 2), (2, 2), (3, 2)], .pair (.int .i64) (.pair (.int .i64) (.pair (.int .i64) (.int .i64))), 4, 32, [.int .i64 0, .int .i64 0, .int .i64 0, .int .i64 0]⟩),
  (32, ⟨.slice 5, .slice (.int .u8), 1, 24, [.nils]⟩),
  (35, ⟨.struct [(0, 2), (1, 2)], .pair (.int .i64) (.int .i64), 2, 16, [.int .i64 0, .int .i64 0]⟩),
  (42, ⟨.slice 9, .slice (.str), 1, 24, [.nils]⟩),
  (143, ⟨.struct [(0, 2), (1, 2)], .pair (.int .i64) (.int .i64), 2, 16, [.int .i64 0, .int .i64 0]⟩),
  (45, ⟨.slice 143, .slice (.pair (.int .i64) (.int .i64)), 1, 24, [.nils]⟩),
  (46, ⟨.struct [(0, 2), (1, 2)], .pair (.int .i64) (.int .i64), 2, 16, [.int .i64 0, .int .i64 0]⟩),
  (48, ⟨.struct [(0, 45), (1, 46)], .pair (.slice (.pair (.int .i64) (.int .i64))) (.pair (.int .i64) (.int .i64)), 3, 40, [.nils, .int .i64 0, .int .i64 0]⟩),
  (106, ⟨.struct [(0, 2), (1, 2)], .pair (.int .i64) (.int .i64), 2, 16, [.int .i64 0, .int .i64 0]⟩),
  (51, ⟨.slice 106, .slice (.pair (.int .i64) (.int .i64)), 1, 24, [.nils]⟩),
  (53, ⟨.struct [(0, 51), (1, 35)], .pair (.slice (.pair (.int .i64) (.int .i64))) (.pair (.int .i64) (.int .i64)), 3, 40, [.nils, .int .i64 0, .int .i64 0]⟩),
  (81, ⟨.slice 2, .slice (.int .i64), 1, 24, [.nils]⟩),
  (146, ⟨.struct [(0, 9), (1, 81)], .pair (.str) (.slice (.int .i64)), 2, 40, [.str ByteArray.empty, .nils]⟩),
  (61, ⟨.slice 146, .slice (.pair (.str) (.slice (.int .i64))), 1, 24, [.nils]⟩),
  (154, ⟨.struct [(0, 2), (1, 2), (2, 2), (3, 2)], .pair (.int .i64) (.pair (.int .i64) (.pair (.int .i64) (.int .i64))), 4, 32, [.int .i64 0, .int .i64 0, .int .i64 0, .int .i64 0]⟩),
  (62, ⟨.slice 154, .slice (.pair (.int .i64) (.pair (.int .i64) (.pair (.int .i64) (.int .i64)))), 1, 24, [.nils]⟩),
  (64, ⟨.struct [(0, 61), (1, 62)], .pair (.slice (.pair (.str) (.slice (.int .i64)))) (.slice (.pair (.int .i64) (.pair (.int .i64) (.pair (.int .i64) (.int .i64))))), 2, 48, [.nils, .nils]⟩),
  (120, ⟨.struct [(0, 9), (1, 81)], .pair (.str) (.slice (.int .i64)), 2, 40, [.str ByteArray.empty, .nils]⟩),
  (67, ⟨.slice 120, .slice (.pair (.str) (.slice (.int .i64))), 1, 24, [.nils]⟩),
  (126, ⟨.struct [(0, 2), (1, 2), (2, 2), (3, 2)], .pair (.int .i64) (.pair (.int .i64) (.pair (.int .i64) (.int .i64))), 4, 32, [.int .i64 0, .int .i64 0, .int .i64 0, .int .i64 0]⟩),
  (68, ⟨.slice 126, .slice (.pair (.int .i64) (.pair (.int .i64) (.pair (.int .i64) (.int .i64)))), 1, 24, [.nils]⟩),
  (70, ⟨.struct [(0, 67), (1, 68)], .pair (.slice (.pair (.str) (.slice (.int .i64)))) (.slice (.pair (.int .i64) (.pair (.int .i64) (.pair (.int .i64) (.int .i64))))), 2, 48, [.nils, .nils]⟩),
  (91, ⟨.slice 35, .slice (.pair (.int .i64) (.int .i64)), 1, 24, [.nils]⟩),
  (136, ⟨.int .u64, .int .u64, 1, 8, [.int .u64 0]⟩),
  (138, ⟨.struct [(0, 32), (1, 3), (2, 136)], .pair (.slice (.int .u8)) (.pair (.int .i64) (.int .u64)), 3, 40, [.nils, .int .i64 0, .int .u64 0]⟩),
  (187, ⟨.int .u64, .int .u64, 1, 8, [.int .u64 0]⟩)]
theorem ownK : ownKnob Tryd.prog.godebug = none := by kernel_rfl
theorem laidK : laidOutB Tryd.prog = true := by kernel_rfl
theorem tab_ok : tabOk Tryd.prog tab = true := by kernel_rfl
def eqs : List (TypeId × List EK) := [(23, [.int .i64, .int .i64, .int .i64, .int .i64]), (25, [.int .i64, .int .i64, .int .i64, .int .i64]), (35, [.int .i64, .int .i64]), (46, [.int .i64, .int .i64]), (106, [.int .i64, .int .i64]), (126, [.int .i64, .int .i64, .int .i64, .int .i64]), (143, [.int .i64, .int .i64]), (154, [.int .i64, .int .i64, .int .i64, .int .i64])]
theorem one_ok : oneOk tab = true := by kernel_rfl
theorem eqs_ok : eqsOk Tryd.prog tab eqs = true := by kernel_rfl
theorem eqs_spec : ∀ t ks, eqs.lookup t = some ks → StructEqOK Tryd.prog t ks := eqsOk_spec (tabOk_spec tab_ok) (oneOk_spec one_ok) eqs_ok
theorem mixed_ok : Tryd.prog.follows .mixedOrders = true := by kernel_rfl
def loopAt (fn : Func) (k : Nat) : Code := ((loopsOf (fn.body.getD .skip))[k]?).getD .skip
def loopIn (c : Code) (k : Nat) : Code := ((loopsOf c)[k]?).getD .skip
def mkEnv (cons : List (FuncId × Con)) (loops : List (Nat × LoopC)) : Env := ⟨tab, eqs, cons, [], loops⟩
theorem mkEnv_ok {cons : List (FuncId × Con)} (h : ConsOK Tryd.prog cons) (loops : List (Nat × LoopC)) : EnvOK Tryd.prog (mkEnv cons loops) :=
  ⟨tabOk_spec tab_ok, eqs_spec, h.get, fun f c hc => none_some hc, mixed_ok⟩
def mkEnvM (cons : List (FuncId × Con)) (mcons : List (FuncId × MCon)) (loops : List (Nat × LoopC)) : Env := ⟨tab, eqs, cons, mcons, loops⟩
theorem mkEnvM_ok {cons : List (FuncId × Con)} {mcons : List (FuncId × MCon)} (h : ConsOK Tryd.prog cons) (hm : MConsOK Tryd.prog mcons) (loops : List (Nat × LoopC)) : EnvOK Tryd.prog (mkEnvM cons mcons loops) :=
  ⟨tabOk_spec tab_ok, eqs_spec, h.get, hm.get, mixed_ok⟩
end Rx
end Go.Proofs.YtfapjkcmoefilaaDoor
