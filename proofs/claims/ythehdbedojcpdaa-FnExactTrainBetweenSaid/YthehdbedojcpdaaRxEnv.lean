/- The seat's types; the environment of the evaluator. No conditions. -/
import Derived.Test.YthehdbedojcpdaaRxEq
namespace Go.Proofs.Ythehdbedojcpdaa
namespace Rx
def i64 : Ty := .int .i64
def u64 : Ty := .int .u64
def tab : List (TypeId × TI) := [(2, ⟨.int .i64, .int .i64, 1, 8, [.int .i64 0]⟩),
  (3, ⟨.int .i64, .int .i64, 1, 8, [.int .i64 0]⟩),
  (4, ⟨.bool, .bool, 1, 1, [.bool false]⟩),
  (5, ⟨.int .u8, .int .u8, 1, 1, [.int .u8 0]⟩),
  (9, ⟨.str, .str, 1, 16, [.str ByteArray.empty]⟩),
  (21, ⟨.int .i32, .int .i32, 1, 4, [.int .i32 0]⟩),
  (27, ⟨.slice 2, .slice (.int .i64), 1, 24, [.nils]⟩),
  (48, ⟨.struct [(0, 9), (1, 27)], .pair (.str) (.slice (.int .i64)), 2, 40, [.str ByteArray.empty, .nils]⟩),
  (22, ⟨.slice 48, .slice (.pair (.str) (.slice (.int .i64))), 1, 24, [.nils]⟩),
  (41, ⟨.struct [(0, 2), (1, 2), (2, 2), (3, 2)], .pair (.int .i64) (.pair (.int .i64) (.pair (.int .i64) (.int .i64))), 4, 32, [.int .i64 0, .int .i64 0, .int .i64 0, .int .i64 0]⟩),
  (23, ⟨.slice 41, .slice (.pair (.int .i64) (.pair (.int .i64) (.pair (.int .i64) (.int .i64)))), 1, 24, [.nils]⟩),
  (25, ⟨.struct [(0, 22), (1, 23)], .pair (.slice (.pair (.str) (.slice (.int .i64)))) (.slice (.pair (.int .i64) (.pair (.int .i64) (.pair (.int .i64) (.int .i64))))), 2, 48, [.nils, .nils]⟩),
  (52, ⟨.struct [(0, 9), (1, 27)], .pair (.str) (.slice (.int .i64)), 2, 40, [.str ByteArray.empty, .nils]⟩),
  (30, ⟨.slice 52, .slice (.pair (.str) (.slice (.int .i64))), 1, 24, [.nils]⟩),
  (44, ⟨.struct [(0, 2), (1, 2), (2, 2), (3, 2)], .pair (.int .i64) (.pair (.int .i64) (.pair (.int .i64) (.int .i64))), 4, 32, [.int .i64 0, .int .i64 0, .int .i64 0, .int .i64 0]⟩),
  (31, ⟨.slice 44, .slice (.pair (.int .i64) (.pair (.int .i64) (.pair (.int .i64) (.int .i64)))), 1, 24, [.nils]⟩),
  (33, ⟨.struct [(0, 30), (1, 31)], .pair (.slice (.pair (.str) (.slice (.int .i64)))) (.slice (.pair (.int .i64) (.pair (.int .i64) (.pair (.int .i64) (.int .i64))))), 2, 48, [.nils, .nils]⟩),
  (107, ⟨.struct [(0, 2), (1, 2)], .pair (.int .i64) (.int .i64), 2, 16, [.int .i64 0, .int .i64 0]⟩),
  (57, ⟨.slice 107, .slice (.pair (.int .i64) (.int .i64)), 1, 24, [.nils]⟩),
  (72, ⟨.struct [(0, 2), (1, 2)], .pair (.int .i64) (.int .i64), 2, 16, [.int .i64 0, .int .i64 0]⟩),
  (62, ⟨.slice 72, .slice (.pair (.int .i64) (.int .i64)), 1, 24, [.nils]⟩),
  (68, ⟨.slice 5, .slice (.int .u8), 1, 24, [.nils]⟩),
  (123, ⟨.array 2 2, .pair (.int .i64) (.int .i64), 2, 16, [.int .i64 0, .int .i64 0]⟩),
  (124, ⟨.slice 123, .slice (.pair (.int .i64) (.int .i64)), 1, 24, [.nils]⟩),
  (133, ⟨.slice 4, .slice (.bool), 1, 24, [.nils]⟩),
  (140, ⟨.slice 9, .slice (.str), 1, 24, [.nils]⟩),
  (144, ⟨.int .u64, .int .u64, 1, 8, [.int .u64 0]⟩),
  (146, ⟨.struct [(0, 68), (1, 3), (2, 144)], .pair (.slice (.int .u8)) (.pair (.int .i64) (.int .u64)), 3, 40, [.nils, .int .i64 0, .int .u64 0]⟩),
  (152, ⟨.int .u64, .int .u64, 1, 8, [.int .u64 0]⟩)]
theorem ownK : ownKnob Try.prog.godebug = none := by kernel_rfl
theorem laidK : laidOutB Try.prog = true := by kernel_rfl
theorem tab_ok : tabOk Try.prog tab = true := by kernel_rfl
def eqs : List (TypeId × List EK) := [(41, [.int .i64, .int .i64, .int .i64, .int .i64]), (44, [.int .i64, .int .i64, .int .i64, .int .i64]), (72, [.int .i64, .int .i64]), (107, [.int .i64, .int .i64])]
theorem one_ok : oneOk tab = true := by kernel_rfl
theorem eqs_ok : eqsOk Try.prog tab eqs = true := by kernel_rfl
theorem eqs_spec : ∀ t ks, eqs.lookup t = some ks → StructEqOK Try.prog t ks := eqsOk_spec (tabOk_spec tab_ok) (oneOk_spec one_ok) eqs_ok
theorem mixed_ok : Try.prog.follows .mixedOrders = true := by kernel_rfl
def loopAt (fn : Func) (k : Nat) : Code := ((loopsOf (fn.body.getD .skip))[k]?).getD .skip
def loopIn (c : Code) (k : Nat) : Code := ((loopsOf c)[k]?).getD .skip
def mkEnv (cons : List (FuncId × Con)) (loops : List (Nat × LoopC)) : Env := ⟨tab, eqs, cons, [], loops, [], []⟩
theorem mkEnv_ok {cons : List (FuncId × Con)} (h : ConsOK Try.prog cons) (loops : List (Nat × LoopC)) : EnvOK Try.prog (mkEnv cons loops) :=
  ⟨tabOk_spec tab_ok, eqs_spec, h.get, fun f c hc => none_some hc, mixed_ok⟩
def mkEnvM (cons : List (FuncId × Con)) (mcons : List (FuncId × MCon)) (loops : List (Nat × LoopC)) : Env := ⟨tab, eqs, cons, mcons, loops, [], []⟩
theorem mkEnvM_ok {cons : List (FuncId × Con)} {mcons : List (FuncId × MCon)} (h : ConsOK Try.prog cons) (hm : MConsOK Try.prog mcons) (loops : List (Nat × LoopC)) : EnvOK Try.prog (mkEnvM cons mcons loops) :=
  ⟨tabOk_spec tab_ok, eqs_spec, h.get, hm.get, mixed_ok⟩
/-- The same, where slices of some elements are deep. -/
def deepE (d : List (TypeId × RTy)) (E : Env) : Env := ⟨E.tab, E.eqs, E.cons, E.mcons, E.loops, d, E.frz⟩
theorem deepE_ok {d : List (TypeId × RTy)} {E : Env} (h : EnvOK Try.prog E) : EnvOK Try.prog (deepE d E) := ⟨h.tab, h.eqs, h.cons, h.mcons, h.mix⟩
/-- The same, where rows are given up for writing ahead of some regions. -/
def frzE (f : List (Nat × List Nat)) (E : Env) : Env := ⟨E.tab, E.eqs, E.cons, E.mcons, E.loops, E.deeps, f⟩
theorem frzE_ok {f : List (Nat × List Nat)} {E : Env} (h : EnvOK Try.prog E) : EnvOK Try.prog (frzE f E) := ⟨h.tab, h.eqs, h.cons, h.mcons, h.mix⟩
end Rx
end Go.Proofs.Ythehdbedojcpdaa
