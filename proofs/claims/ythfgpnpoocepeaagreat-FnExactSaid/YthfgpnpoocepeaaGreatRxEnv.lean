/- The seat's types; the environment of the evaluator. No conditions. -/
import Derived.Test.YthfgpnpoocepeaaGreatRxEq
import Derived.Test.YthfgpnpoocepeaaGreatRxR
namespace Go.Proofs.YthfgpnpoocepeaaGreat
namespace Rx
def i64 : Ty := .int .i64
def u64 : Ty := .int .u64
def tab : List (TypeId × TI) := [(2, ⟨.int .i64, .int .i64, 1, 8, [.int .i64 0]⟩),
  (3, ⟨.int .i64, .int .i64, 1, 8, [.int .i64 0]⟩),
  (4, ⟨.bool, .bool, 1, 1, [.bool false]⟩),
  (5, ⟨.int .u8, .int .u8, 1, 1, [.int .u8 0]⟩),
  (9, ⟨.str, .str, 1, 16, [.str ByteArray.empty]⟩),
  (21, ⟨.int .i32, .int .i32, 1, 4, [.int .i32 0]⟩),
  (22, ⟨.slice 5, .slice (.int .u8), 1, 24, [.nils]⟩),
  (25, ⟨.struct [(0, 2), (1, 2), (2, 2), (3, 2), (4, 2)], .pair (.int .i64) (.pair (.int .i64) (.pair (.int .i64) (.pair (.int .i64) (.int .i64)))), 5, 40, [.int .i64 0, .int .i64 0, .int .i64 0, .int .i64 0, .int .i64 0]⟩),
  (27, ⟨.struct [(0, 2), (1, 2)], .pair (.int .i64) (.int .i64), 2, 16, [.int .i64 0, .int .i64 0]⟩),
  (64, ⟨.struct [(0, 2), (1, 2)], .pair (.int .i64) (.int .i64), 2, 16, [.int .i64 0, .int .i64 0]⟩),
  (28, ⟨.slice 64, .slice (.pair (.int .i64) (.int .i64)), 1, 24, [.nils]⟩),
  (31, ⟨.slice 28, .slice (.slice (.pair (.int .i64) (.int .i64))), 1, 24, [.nils]⟩),
  (42, ⟨.struct [(0, 28), (1, 27)], .pair (.slice (.pair (.int .i64) (.int .i64))) (.pair (.int .i64) (.int .i64)), 3, 40, [.nils, .int .i64 0, .int .i64 0]⟩),
  (46, ⟨.struct [(0, 2), (1, 2)], .pair (.int .i64) (.int .i64), 2, 16, [.int .i64 0, .int .i64 0]⟩),
  (47, ⟨.struct [(0, 2), (1, 2), (2, 2), (3, 2), (4, 2)], .pair (.int .i64) (.pair (.int .i64) (.pair (.int .i64) (.pair (.int .i64) (.int .i64)))), 5, 40, [.int .i64 0, .int .i64 0, .int .i64 0, .int .i64 0, .int .i64 0]⟩),
  (48, ⟨.slice 42, .slice (.pair (.slice (.pair (.int .i64) (.int .i64))) (.pair (.int .i64) (.int .i64))), 1, 24, [.nils]⟩),
  (66, ⟨.slice 2, .slice (.int .i64), 1, 24, [.nils]⟩),
  (71, ⟨.slice 66, .slice (.slice (.int .i64)), 1, 24, [.nils]⟩),
  (67, ⟨.map 2 71, .slice (.pair (.int .i64) (.slice (.slice (.int .i64)))), 1, 8, [.nilm]⟩),
  (69, ⟨.struct [(0, 66), (1, 67)], .pair (.slice (.int .i64)) (.slice (.pair (.int .i64) (.slice (.slice (.int .i64))))), 2, 32, [.nils, .nilm]⟩),
  (84, ⟨.int .u64, .int .u64, 1, 8, [.int .u64 0]⟩),
  (86, ⟨.struct [(0, 22), (1, 3), (2, 84)], .pair (.slice (.int .u8)) (.pair (.int .i64) (.int .u64)), 3, 40, [.nils, .int .i64 0, .int .u64 0]⟩),
  (99, ⟨.int .u64, .int .u64, 1, 8, [.int .u64 0]⟩),
  (114, ⟨.struct [(0, 2), (1, 2), (2, 2)], .pair (.int .i64) (.pair (.int .i64) (.int .i64)), 3, 24, [.int .i64 0, .int .i64 0, .int .i64 0]⟩),
  (110, ⟨.slice 114, .slice (.pair (.int .i64) (.pair (.int .i64) (.int .i64))), 1, 24, [.nils]⟩),
  (131, ⟨.slice 3, .slice (.int .i64), 1, 24, [.nils]⟩),
  (141, ⟨.struct [(0, 2), (1, 66)], .pair (.int .i64) (.slice (.int .i64)), 2, 32, [.int .i64 0, .nils]⟩),
  (134, ⟨.slice 141, .slice (.pair (.int .i64) (.slice (.int .i64))), 1, 24, [.nils]⟩),
  (139, ⟨.struct [(0, 2), (1, 2), (2, 2), (3, 28)], .pair (.int .i64) (.pair (.int .i64) (.pair (.int .i64) (.slice (.pair (.int .i64) (.int .i64))))), 4, 48, [.int .i64 0, .int .i64 0, .int .i64 0, .nils]⟩)]
theorem ownK : ownKnob Tryz.prog.godebug = none := by kernel_rfl
theorem laidK : laidOutB Tryz.prog = true := by kernel_rfl
theorem tab_ok : tabOk Tryz.prog tab = true := by kernel_rfl
def eqs : List (TypeId × List EK) := [(25, [.int .i64, .int .i64, .int .i64, .int .i64, .int .i64]), (27, [.int .i64, .int .i64]), (46, [.int .i64, .int .i64]), (47, [.int .i64, .int .i64, .int .i64, .int .i64, .int .i64]), (64, [.int .i64, .int .i64]), (114, [.int .i64, .int .i64, .int .i64])]
theorem one_ok : oneOk tab = true := by kernel_rfl
theorem eqs_ok : eqsOk Tryz.prog tab eqs = true := by kernel_rfl
theorem eqs_spec : ∀ t ks, eqs.lookup t = some ks → StructEqOK Tryz.prog t ks := eqsOk_spec (tabOk_spec tab_ok) (oneOk_spec one_ok) eqs_ok
theorem mixed_ok : Tryz.prog.follows .mixedOrders = true := by kernel_rfl
def loopAt (fn : Func) (k : Nat) : Code := ((loopsOf (fn.body.getD .skip))[k]?).getD .skip
def loopIn (c : Code) (k : Nat) : Code := ((loopsOf c)[k]?).getD .skip
def mkEnv (cons : List (FuncId × Con)) (loops : List (Nat × LoopC)) : Env := ⟨tab, eqs, cons, [], loops, [], [], [], [], [], [], [], []⟩
theorem mkEnv_ok {cons : List (FuncId × Con)} (h : ConsOK Tryz.prog cons) (loops : List (Nat × LoopC)) : EnvOK Tryz.prog (mkEnv cons loops) :=
  ⟨tabOk_spec tab_ok, eqs_spec, h.get, fun f c hc => none_some hc, mixed_ok, fun _ _ h => none_some h, fun _ _ h => none_some h, fun _ _ h => none_some h, fun _ _ h => none_some h⟩
def mkEnvM (cons : List (FuncId × Con)) (mcons : List (FuncId × MCon)) (loops : List (Nat × LoopC)) : Env := ⟨tab, eqs, cons, mcons, loops, [], [], [], [], [], [], [], []⟩
theorem mkEnvM_ok {cons : List (FuncId × Con)} {mcons : List (FuncId × MCon)} (h : ConsOK Tryz.prog cons) (hm : MConsOK Tryz.prog mcons) (loops : List (Nat × LoopC)) : EnvOK Tryz.prog (mkEnvM cons mcons loops) :=
  ⟨tabOk_spec tab_ok, eqs_spec, h.get, hm.get, mixed_ok, fun _ _ h => none_some h, fun _ _ h => none_some h, fun _ _ h => none_some h, fun _ _ h => none_some h⟩
/-- The same, where slices of some elements are deep. -/
def deepE (d : List (TypeId × RTy)) (E : Env) : Env := ⟨E.tab, E.eqs, E.cons, E.mcons, E.loops, d, E.frz, E.blt, E.blw, E.bls, E.ncons, E.peek, E.mfrz⟩
theorem deepE_ok {d : List (TypeId × RTy)} {E : Env} (h : EnvOK Tryz.prog E) : EnvOK Tryz.prog (deepE d E) := ⟨h.tab, h.eqs, h.cons, h.mcons, h.mix, h.blt, h.blw, h.bls, h.ncons⟩
/-- The same, where rows are given up for writing ahead of some regions. -/
def frzE (f : List (Nat × List Nat)) (E : Env) : Env := ⟨E.tab, E.eqs, E.cons, E.mcons, E.loops, E.deeps, f, E.blt, E.blw, E.bls, E.ncons, E.peek, E.mfrz⟩
theorem frzE_ok {f : List (Nat × List Nat)} {E : Env} (h : EnvOK Tryz.prog E) : EnvOK Tryz.prog (frzE f E) := ⟨h.tab, h.eqs, h.cons, h.mcons, h.mix, h.blt, h.blw, h.bls, h.ncons⟩
/-- The same, with a builder: its kind and its bytes', the functions that write and read. -/
def bldE (t e : TypeId) (fw fs : FuncId) (E : Env) : Env := ⟨E.tab, E.eqs, E.cons, E.mcons, E.loops, E.deeps, E.frz, [(t, e)], [(fw, t, e)], [(fs, t, e)], E.ncons, E.peek, E.mfrz⟩
theorem one_lookup {β : Type} {a x : Nat} {b y : β} (h : [(a, b)].lookup x = some y) : x = a ∧ b = y := by
  simp only [List.lookup_cons, List.lookup_nil] at h
  split at h
  · rename_i he; cases h; exact ⟨eq_of_beq he, rfl⟩
  · cases h
theorem bldE_ok {t e : TypeId} {fw fs : FuncId} {E : Env} (h : EnvOK Tryz.prog E) (h1 : BltOK Tryz.prog t) (h2 : BlwOK Tryz.prog fw t e) (h3 : BlsOK Tryz.prog fs t e) : EnvOK Tryz.prog (bldE t e fw fs E) :=
  ⟨h.tab, h.eqs, h.cons, h.mcons, h.mix, fun _ _ hl => by
    obtain ⟨rfl, _⟩ := one_lookup hl
    exact h1, fun _ _ hl => by
    obtain ⟨rfl, rfl⟩ := one_lookup hl
    exact h2, fun _ _ hl => by
    obtain ⟨rfl, rfl⟩ := one_lookup hl
    exact h3, h.ncons⟩
/-- The same, with functions that are handed boxes with rows. -/
def nE (ns : List (FuncId × NCon)) (E : Env) : Env := ⟨E.tab, E.eqs, E.cons, E.mcons, E.loops, E.deeps, E.frz, E.blt, E.blw, E.bls, ns, E.peek, E.mfrz⟩
theorem nE_ok {f : FuncId} {c : NCon} {E : Env} (h : EnvOK Tryz.prog E) (hc : c.ok Tryz.prog f) : EnvOK Tryz.prog (nE [(f, c)] E) :=
  ⟨h.tab, h.eqs, h.cons, h.mcons, h.mix, h.blt, h.blw, h.bls, fun _ _ hl => by
    obtain ⟨rfl, rfl⟩ := one_lookup hl
    exact hc⟩
/-- The same, with maps: what is looked up for its length alone; maps that are frozen ahead of some regions. -/
def mapE (pk : List Nat) (mf : List (Nat × List Nat)) (E : Env) : Env := ⟨E.tab, E.eqs, E.cons, E.mcons, E.loops, E.deeps, E.frz, E.blt, E.blw, E.bls, E.ncons, pk, mf⟩
theorem mapE_ok {pk : List Nat} {mf : List (Nat × List Nat)} {E : Env} (h : EnvOK Tryz.prog E) : EnvOK Tryz.prog (mapE pk mf E) := ⟨h.tab, h.eqs, h.cons, h.mcons, h.mix, h.blt, h.blw, h.bls, h.ncons⟩
end Rx
end Go.Proofs.YthfgpnpoocepeaaGreat
