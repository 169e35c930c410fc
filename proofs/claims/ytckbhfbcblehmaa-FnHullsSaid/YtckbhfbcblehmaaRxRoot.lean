/- The integer roots as contracts of the evaluator. No conditions. -/
import Derived.Test.YtckbhfbcblehmaaRxEnv
import Derived.Test.YtckbhfbcblehmaaRoot
namespace Go.Proofs.Ytckbhfbcblehmaa
namespace Rx
open Go

theorem con_int {P : Program} {f : FuncId} {F : Int → Option Int} (hf : Callable P f) (h : ∀ n r w, F n = some r → Calls P f #[.int .i64 n] w fun e w' => e = .returned (.int .i64 r) ∧ w = w') : Con.ok P f ⟨[i64], [.d i64], F⟩ := by
  refine ⟨hf, fun w M vs x y hM hr hF => ?_⟩
  obtain ⟨v, rfl, hv⟩ := hr
  have hv : v = .int .i64 x := hv
  subst hv
  refine (h x y w hF).mono ?_
  rintro e w' ⟨rfl, rfl⟩
  refine ⟨[.int .i64 y], [], M, rfl, Ext.refl _, ⟨_, rfl, rfl, ⟨?_, rfl⟩⟩, by simp, fun p hp => ⟨.inl hp, hM p hp, by simp⟩⟩
  rfl
open Classical in
noncomputable def rootF (n : Int) : Option Int := if 0 ≤ n ∧ n ≤ 1000000000000000000 then some (isq n) else none
theorem rootF_eq {n : Int} (h0 : 0 ≤ n) (h1 : n ≤ 1000000000000000000) : rootF n = some (isq n) := by
  unfold rootF
  rw [if_pos ⟨h0, h1⟩]
noncomputable def rootI : Int → Option Int := rootF
noncomputable def rootI_con : Con := ⟨[i64], [.d i64], rootI⟩
theorem rootI_ok : rootI_con.ok Try.prog 57 := con_int ⟨_, _, Try.func57, by kernel_rfl, rfl⟩ fun n r w h => by
  unfold rootI rootF at h
  split at h
  · rename_i hn
    cases h
    exact rootOf_any n w hn.1 hn.2
  · cases h
noncomputable def rootS : Int → Option Int := rootF
noncomputable def rootS_con : Con := ⟨[i64], [.d i64], rootS⟩
theorem rootS_ok : rootS_con.ok Try.prog 50 := con_int ⟨_, _, Try.func50, by kernel_rfl, rfl⟩ fun n r w h => by
  unfold rootS rootF at h
  split at h
  · rename_i hn
    cases h
    exact l09Root_any n w hn.1 hn.2
  · cases h
end Rx
end Go.Proofs.Ytckbhfbcblehmaa
