/- FnExactReadWorks returns true for every input, and leaves memory as it was; its package-level variables hold what the text lays. No conditions. -/
import Derived.Test.YtonbgpliomhboaaGreatDoorRxReadWEnd
import Derived.Test.YtonbgpliomhboaaGreatDoorRxCard
namespace Go.Proofs.YtonbgpliomhboaaGreatDoor
open Go.ChangeShapes Go.WideShapes Go.ChangeAt Go.RowKit

theorem FnExactReadWorks_door (os : Os) (args : Array Value) : laidMetH Tryz.prog Rows.fnExactReadWorksRow.laid ((World.laidAll Tryz.prog os Rows.fnExactReadWorksRow.laid).forCall (fun _ _ => 0) ⟨#[], args, []⟩).memory := by
  rw [MakeChecks.laidMetH_plain _ _ _ (by kernel_rfl)]
  exact laidMet_laidAll _ (by kernel_rfl) (by kernel_rfl)

set_option maxRecDepth 100000 in
theorem FnExactReadWorks_lifted (os : Os) (started : os.Started) (H : Type) (enc : TypeId × Value → H) :
    ReturnsInHanded {} Tryz.checked os 3 .any (fun w args => (Rows.fnExactReadWorksSpec.pre enc Tryz.prog Tryz.f3 [] false w args ∧ laidMetH Tryz.prog Rows.fnExactReadWorksRow.laid w) ∧ sizedMet enc Tryz.prog Tryz.f3 (OpenSpec.ofChange Rows.fnExactReadWorksSpec) false w args)
      (Rows.fnExactReadWorksSpec.post enc Tryz.prog Tryz.f3 false true false false) := by
  refine law_handed_laid (C := Tryz.checked) (laid := Rows.fnExactReadWorksRow.laid) Rx.ownK started (by kernel_rfl) Tryz.func3 Rx.laidK (of_decide_eq_true (by kernel_rfl)) rfl ?_ rfl Tryz.underlying4
    (ChangeSpec.witness_shaped (enc := enc) (C := Tryz.checked) (os := os) (X := fun w _ => laidMetH Tryz.prog Rows.fnExactReadWorksRow.laid w) false (World.laidAll Tryz.prog os Rows.fnExactReadWorksRow.laid) #[.string ByteArray.empty] 8 (World.laidAll_os _ _ _) (World.shaped_of_ZipB (by kernel_rfl) (by kernel_rfl)) (by kernel_rfl) (by kernel_rfl) (by kernel_rfl) (FnExactReadWorks_door os _)) ?_
  · intro ds hds
    match ds, hds with
    | [_], _ => rfl
  · intro W args hS hL hsz hargs
    refine Rx.law_coreL Rx.lawReadWorks_ok ?_ ?_ W args hsz hargs (Rx.laid_read hS hL)
    · exact ⟨⟨by kernel_rfl, by kernel_rfl⟩, trivial⟩
    · intro x _; exact Rx.lawReadWorks_holds x

theorem FnExactReadWorks_row : Rows.FnExactReadWorksSaid :=
  OpenClaim.holds_of_wide 3 Tryz.f3 rfl rfl rfl rfl rfl rfl rfl ⟨rfl, rfl, rfl, rfl, rfl⟩ rfl rfl rfl rfl rfl (by kernel_rfl) Tryz.func3 (by kernel_rfl)
    (of_decide_eq_true (by kernel_rfl)) (by unfold Func.isWrapper; first | (rw [if_pos (by decide +kernel)]; kernel_rfl) | (rw [if_neg (by decide +kernel)]; exact ⟨rfl, rfl⟩))
    (fun os started H enc _ => FnExactReadWorks_lifted os started H enc)

theorem FnExactReadWorks_holds : Rows.FnExactReadWorksCardSaid :=
  Claim7.holds_tied_plain_at .later [] Rows.fnExactReadWorksCard.laidKinds true Rows.fnExactReadWorksCard.stood.harness Rows.fnExactReadWorksCard.stood.looks
    FnExactReadWorks_row (fun _ h => by cases h) (by kernel_rfl) (fun _ h => by cases h) fnExactReadWorks_row_tie rfl ⟨rfl, rfl⟩ (by kernel_rfl) rfl
    (fun f fn hf hfn => by
      obtain rfl : f = 3 := Option.some.inj ((show Tryz.prog.funcNamed "loop.example/g00921/laws.FnExactReadWorks" = some 3 by kernel_rfl).symm.trans hf) |>.symm
      obtain rfl : fn = Tryz.f3 := (Option.some.inj (Tryz.func3.symm.trans hfn)).symm
      refine ⟨by kernel_rfl, fun j t ht => ?_⟩
      have hall : (Tryz.f3.params.toList.all fun u => !Tryz.prog.wantsStandIn u) = true := by kernel_rfl
      have := List.all_eq_true.1 hall t (Array.mem_toList_iff.2 (Array.mem_of_getElem? ht))
      exact (by simpa using this : Tryz.prog.wantsStandIn t = false))
    (by kernel_rfl)

end Go.Proofs.YtonbgpliomhboaaGreatDoor
