/- The seat's types; the environment of the evaluator. No conditions. -/
import Derived.Test.YtonbgpliomhboaaGreatDoorRxR
namespace Go.Proofs.YtonbgpliomhboaaGreatDoor
namespace Rx
def i64 : Ty := .int .i64
def u64 : Ty := .int .u64
def tab : List (TypeId × TI) := [(2, ⟨.int .i64, .int .i64, 1, 8, [.int .i64 0]⟩),
  (3, ⟨.int .i64, .int .i64, 1, 8, [.int .i64 0]⟩),
  (4, ⟨.bool, .bool, 1, 1, [.bool false]⟩),
  (5, ⟨.int .u8, .int .u8, 1, 1, [.int .u8 0]⟩),
  (9, ⟨.str, .str, 1, 16, [.str ByteArray.empty]⟩),
  (21, ⟨.int .i32, .int .i32, 1, 4, [.int .i32 0]⟩),
  (35, ⟨.slice 2, .slice (.int .i64), 1, 24, [.nils]⟩),
  (56, ⟨.struct [(0, 9), (1, 35)], .pair (.str) (.slice (.int .i64)), 2, 40, [.str ByteArray.empty, .nils]⟩),
  (22, ⟨.slice 56, .slice (.pair (.str) (.slice (.int .i64))), 1, 24, [.nils]⟩),
  (61, ⟨.struct [(0, 2), (1, 2), (2, 2), (3, 2)], .pair (.int .i64) (.pair (.int .i64) (.pair (.int .i64) (.int .i64))), 4, 32, [.int .i64 0, .int .i64 0, .int .i64 0, .int .i64 0]⟩),
  (23, ⟨.slice 61, .slice (.pair (.int .i64) (.pair (.int .i64) (.pair (.int .i64) (.int .i64)))), 1, 24, [.nils]⟩),
  (25, ⟨.struct [(0, 22), (1, 23)], .pair (.slice (.pair (.str) (.slice (.int .i64)))) (.slice (.pair (.int .i64) (.pair (.int .i64) (.pair (.int .i64) (.int .i64))))), 2, 48, [.nils, .nils]⟩),
  (31, ⟨.slice 5, .slice (.int .u8), 1, 24, [.nils]⟩),
  (73, ⟨.struct [(0, 2), (1, 2)], .pair (.int .i64) (.int .i64), 2, 16, [.int .i64 0, .int .i64 0]⟩),
  (38, ⟨.slice 73, .slice (.pair (.int .i64) (.int .i64)), 1, 24, [.nils]⟩),
  (45, ⟨.struct [(0, 2), (1, 2)], .pair (.int .i64) (.int .i64), 2, 16, [.int .i64 0, .int .i64 0]⟩),
  (41, ⟨.slice 45, .slice (.pair (.int .i64) (.int .i64)), 1, 24, [.nils]⟩),
  (49, ⟨.slice 9, .slice (.str), 1, 24, [.nils]⟩),
  (112, ⟨.int .u64, .int .u64, 1, 8, [.int .u64 0]⟩),
  (114, ⟨.struct [(0, 31), (1, 3), (2, 112)], .pair (.slice (.int .u8)) (.pair (.int .i64) (.int .u64)), 3, 40, [.nils, .int .i64 0, .int .u64 0]⟩),
  (115, ⟨.array 2 2, .pair (.int .i64) (.int .i64), 2, 16, [.int .i64 0, .int .i64 0]⟩),
  (116, ⟨.slice 115, .slice (.pair (.int .i64) (.int .i64)), 1, 24, [.nils]⟩),
  (122, ⟨.slice 4, .slice (.bool), 1, 24, [.nils]⟩),
  (148, ⟨.int .u64, .int .u64, 1, 8, [.int .u64 0]⟩)]
theorem ownK : ownKnob Tryz.prog.godebug = none := by kernel_rfl
theorem laidK : laidOutB Tryz.prog = true := by kernel_rfl
theorem tab_ok : tabOk Tryz.prog tab = true := by kernel_rfl
def eqs : List (TypeId × List EK) := [(45, [.int .i64, .int .i64]), (61, [.int .i64, .int .i64, .int .i64, .int .i64]), (73, [.int .i64, .int .i64])]
theorem one_ok : oneOk tab = true := by kernel_rfl
theorem eqs_ok : eqsOk Tryz.prog tab eqs = true := by kernel_rfl
theorem eqs_spec : ∀ t ks, eqs.lookup t = some ks → StructEqOK Tryz.prog t ks := eqsOk_spec (tabOk_spec tab_ok) (oneOk_spec one_ok) eqs_ok
theorem mixed_ok : Tryz.prog.follows .mixedOrders = true := by kernel_rfl
def loopAt (fn : Func) (k : Nat) : Code := ((loopsOf (fn.body.getD .skip))[k]?).getD .skip
def loopIn (c : Code) (k : Nat) : Code := ((loopsOf c)[k]?).getD .skip
def mkEnv (cons : List (FuncId × Con)) (loops : List (Nat × LoopC)) : Env := ⟨tab, eqs, cons, [], loops, [], [], [], [], [], []⟩
theorem mkEnv_ok {cons : List (FuncId × Con)} (h : ConsOK Tryz.prog cons) (loops : List (Nat × LoopC)) : EnvOK Tryz.prog (mkEnv cons loops) :=
  ⟨tabOk_spec tab_ok, eqs_spec, h.get, fun f c hc => none_some hc, mixed_ok, fun _ _ h => none_some h, fun _ _ h => none_some h, fun _ _ h => none_some h, fun _ _ h => none_some h⟩
def mkEnvM (cons : List (FuncId × Con)) (mcons : List (FuncId × MCon)) (loops : List (Nat × LoopC)) : Env := ⟨tab, eqs, cons, mcons, loops, [], [], [], [], [], []⟩
theorem mkEnvM_ok {cons : List (FuncId × Con)} {mcons : List (FuncId × MCon)} (h : ConsOK Tryz.prog cons) (hm : MConsOK Tryz.prog mcons) (loops : List (Nat × LoopC)) : EnvOK Tryz.prog (mkEnvM cons mcons loops) :=
  ⟨tabOk_spec tab_ok, eqs_spec, h.get, hm.get, mixed_ok, fun _ _ h => none_some h, fun _ _ h => none_some h, fun _ _ h => none_some h, fun _ _ h => none_some h⟩
/-- The same, where slices of some elements are deep. -/
def deepE (d : List (TypeId × RTy)) (E : Env) : Env := ⟨E.tab, E.eqs, E.cons, E.mcons, E.loops, d, E.frz, E.blt, E.blw, E.bls, E.ncons⟩
theorem deepE_ok {d : List (TypeId × RTy)} {E : Env} (h : EnvOK Tryz.prog E) : EnvOK Tryz.prog (deepE d E) := ⟨h.tab, h.eqs, h.cons, h.mcons, h.mix, h.blt, h.blw, h.bls, h.ncons⟩
/-- The same, where rows are given up for writing ahead of some regions. -/
def frzE (f : List (Nat × List Nat)) (E : Env) : Env := ⟨E.tab, E.eqs, E.cons, E.mcons, E.loops, E.deeps, f, E.blt, E.blw, E.bls, E.ncons⟩
theorem frzE_ok {f : List (Nat × List Nat)} {E : Env} (h : EnvOK Tryz.prog E) : EnvOK Tryz.prog (frzE f E) := ⟨h.tab, h.eqs, h.cons, h.mcons, h.mix, h.blt, h.blw, h.bls, h.ncons⟩
/-- The same, with a builder: its kind and its bytes', the functions that write and read. -/
def bldE (t e : TypeId) (fw fs : FuncId) (E : Env) : Env := ⟨E.tab, E.eqs, E.cons, E.mcons, E.loops, E.deeps, E.frz, [(t, e)], [(fw, t, e)], [(fs, t, e)], E.ncons⟩
theorem one_lookup {β : Type} {a x : Nat} {b y : β} (h : [(a, b)].lookup x = some y) : x = a ∧ b = y := by
  simp only [List.lookup_cons, List.lookup_nil] at h
  split at h
  · rename_i he; cases h; exact ⟨eq_of_beq he, rfl⟩
  · cases h
theorem bldE_ok {t e : TypeId} {fw fs : FuncId} {E : Env} (h : EnvOK Tryz.prog E) (h1 : BltOK Tryz.prog t) (h2 : BlwOK Tryz.prog fw t e) (h3 : BlsOK Tryz.prog fs t e) : EnvOK Tryz.prog (bldE t e fw fs E) :=
  ⟨h.tab, h.eqs, h.cons, h.mcons, h.mix, fun _ _ hl => by
    obtain ⟨rfl, _⟩ := one_lookup hl
    exact h1, fun _ _ hl => by
    obtain ⟨rfl, rfl⟩ := one_lookup hl
    exact h2, fun _ _ hl => by
    obtain ⟨rfl, rfl⟩ := one_lookup hl
    exact h3, h.ncons⟩
end Rx
end Go.Proofs.YtonbgpliomhboaaGreatDoor
