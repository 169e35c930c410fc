/- FnEpicyclic returns true for every input, and leaves memory as it was; its package-level variables hold what the text lays. No conditions. -/
import Derived.Test.YtfapjkcmoefilaaDoorRxFnEpicLaw
import Derived.Test.YtfapjkcmoefilaaDoorRxCard
namespace Go.Proofs.YtfapjkcmoefilaaDoor
open Go.ChangeShapes Go.WideShapes Go.ChangeAt Go.RowKit

theorem FnEpicyclic_door (os : Os) (args : Array Value) : laidMetH Tryd.prog Rows.fnEpicyclicRow.laid ((World.laidAll Tryd.prog os Rows.fnEpicyclicRow.laid).forCall (fun _ _ => 0) ⟨#[], args, []⟩).memory := by
  rw [MakeChecks.laidMetH_plain _ _ _ (by kernel_rfl)]
  exact laidMet_laidAll _ (by kernel_rfl) (by kernel_rfl)

set_option maxRecDepth 100000 in
theorem FnEpicyclic_lifted (os : Os) (started : os.Started) (H : Type) (enc : TypeId × Value → H) :
    ReturnsInHanded {} Tryd.checked os 5 .any (fun w args => (Rows.fnEpicyclicSpec.pre enc Tryd.prog Tryd.f5 [] false w args ∧ laidMetH Tryd.prog Rows.fnEpicyclicRow.laid w) ∧ sizedMet enc Tryd.prog Tryd.f5 (OpenSpec.ofChange Rows.fnEpicyclicSpec) false w args)
      (Rows.fnEpicyclicSpec.post enc Tryd.prog Tryd.f5 false true false false) := by
  refine law_handed_laid (C := Tryd.checked) (laid := Rows.fnEpicyclicRow.laid) Rx.ownK started (by kernel_rfl) Tryd.func5 Rx.laidK (of_decide_eq_true (by kernel_rfl)) rfl ?_ rfl Tryd.underlying4
    (ChangeSpec.witness_shaped (enc := enc) (C := Tryd.checked) (os := os) (X := fun w _ => laidMetH Tryd.prog Rows.fnEpicyclicRow.laid w) false (World.laidAll Tryd.prog os Rows.fnEpicyclicRow.laid) #[.slice none 0 0] 8 (World.laidAll_os _ _ _) (World.shaped_of_ZipB (by kernel_rfl) (by kernel_rfl)) (by kernel_rfl) (by kernel_rfl) (by kernel_rfl) (FnEpicyclic_door os _)) ?_
  · intro ds hds
    match ds, hds with
    | [_], _ => rfl
  · intro W args hS hL hsz hargs
    refine Rx.law_coreL Rx.fnEpic_ok ?_ ?_ W args hsz hargs (Rx.laid_read hS hL)
    · exact ⟨⟨by kernel_rfl, by kernel_rfl⟩, trivial⟩
    · intro x h; exact Rx.fnEpic_holds x h

theorem FnEpicyclic_row : Rows.FnEpicyclicSaid :=
  OpenClaim.holds_of_wide 5 Tryd.f5 rfl rfl rfl rfl rfl rfl rfl ⟨rfl, rfl, rfl, rfl, rfl⟩ rfl rfl rfl rfl rfl (by kernel_rfl) Tryd.func5 (by kernel_rfl)
    (of_decide_eq_true (by kernel_rfl)) (by unfold Func.isWrapper; first | (rw [if_pos (by decide +kernel)]; kernel_rfl) | (rw [if_neg (by decide +kernel)]; exact ⟨rfl, rfl⟩))
    (fun os started H enc _ => FnEpicyclic_lifted os started H enc)

theorem FnEpicyclic_holds : Rows.FnEpicyclicCardSaid :=
  Claim7.holds_tied_plain_at .later [] Rows.fnEpicyclicCard.laidKinds true Rows.fnEpicyclicCard.stood.harness Rows.fnEpicyclicCard.stood.looks
    FnEpicyclic_row (fun _ h => by cases h) (by kernel_rfl) (fun _ h => by cases h) fnEpicyclic_row_tie rfl ⟨rfl, rfl⟩ (by kernel_rfl) rfl
    (fun f fn hf hfn => by
      obtain rfl : f = 5 := Option.some.inj ((show Tryd.prog.funcNamed "loop.example/g00921/laws.FnEpicyclic" = some 5 by kernel_rfl).symm.trans hf) |>.symm
      obtain rfl : fn = Tryd.f5 := (Option.some.inj (Tryd.func5.symm.trans hfn)).symm
      refine ⟨by kernel_rfl, fun j t ht => ?_⟩
      have hall : (Tryd.f5.params.toList.all fun u => !Tryd.prog.wantsStandIn u) = true := by kernel_rfl
      have := List.all_eq_true.1 hall t (Array.mem_toList_iff.2 (Array.mem_of_getElem? ht))
      exact (by simpa using this : Tryd.prog.wantsStandIn t = false))
    (by kernel_rfl)

end Go.Proofs.YtfapjkcmoefilaaDoor
