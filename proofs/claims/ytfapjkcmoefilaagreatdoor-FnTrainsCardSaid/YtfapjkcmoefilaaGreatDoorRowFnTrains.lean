/- FnTrains returns true for every input, and leaves memory as it was; its package-level variables hold what the text lays. No conditions. -/
import Derived.Test.YtfapjkcmoefilaaGreatDoorRxFnTrLaw
import Derived.Test.YtfapjkcmoefilaaGreatDoorRxCard
namespace Go.Proofs.YtfapjkcmoefilaaGreatDoor
open Go.ChangeShapes Go.WideShapes Go.ChangeAt Go.RowKit

theorem FnTrains_door (os : Os) (args : Array Value) : laidMetH Tryz.prog Rows.fnTrainsRow.laid ((World.laidAll Tryz.prog os Rows.fnTrainsRow.laid).forCall (fun _ _ => 0) ⟨#[], args, []⟩).memory := by
  rw [MakeChecks.laidMetH_plain _ _ _ (by kernel_rfl)]
  exact laidMet_laidAll _ (by kernel_rfl) (by kernel_rfl)

set_option maxRecDepth 100000 in
theorem FnTrains_lifted (os : Os) (started : os.Started) (H : Type) (enc : TypeId × Value → H) :
    ReturnsInHanded {} Tryz.checked os 4 .any (fun w args => (Rows.fnTrainsSpec.pre enc Tryz.prog Tryz.f4 [] false w args ∧ laidMetH Tryz.prog Rows.fnTrainsRow.laid w) ∧ sizedMet enc Tryz.prog Tryz.f4 (OpenSpec.ofChange Rows.fnTrainsSpec) false w args)
      (Rows.fnTrainsSpec.post enc Tryz.prog Tryz.f4 false true false false) := by
  refine law_handed_laid (C := Tryz.checked) (laid := Rows.fnTrainsRow.laid) Rx.ownK started (by kernel_rfl) Tryz.func4 Rx.laidK (of_decide_eq_true (by kernel_rfl)) rfl ?_ rfl Tryz.underlying4
    (ChangeSpec.witness_shaped (enc := enc) (C := Tryz.checked) (os := os) (X := fun w _ => laidMetH Tryz.prog Rows.fnTrainsRow.laid w) false (World.laidAll Tryz.prog os Rows.fnTrainsRow.laid) #[.slice none 0 0] 8 (World.laidAll_os _ _ _) (World.shaped_of_ZipB (by kernel_rfl) (by kernel_rfl)) (by kernel_rfl) (by kernel_rfl) (by kernel_rfl) (FnTrains_door os _)) ?_
  · intro ds hds
    match ds, hds with
    | [_], _ => rfl
  · intro W args hS hL hsz hargs
    refine Rx.law_coreL Rx.fnTr_ok ?_ ?_ W args hsz hargs (Rx.laid_read hS hL)
    · exact ⟨⟨by kernel_rfl, by kernel_rfl⟩, trivial⟩
    · intro x h; exact Rx.fnTr_holds x h

theorem FnTrains_row : Rows.FnTrainsSaid :=
  OpenClaim.holds_of_wide 4 Tryz.f4 rfl rfl rfl rfl rfl rfl rfl ⟨rfl, rfl, rfl, rfl, rfl⟩ rfl rfl rfl rfl rfl (by kernel_rfl) Tryz.func4 (by kernel_rfl)
    (of_decide_eq_true (by kernel_rfl)) (by unfold Func.isWrapper; first | (rw [if_pos (by decide +kernel)]; kernel_rfl) | (rw [if_neg (by decide +kernel)]; exact ⟨rfl, rfl⟩))
    (fun os started H enc _ => FnTrains_lifted os started H enc)

theorem FnTrains_holds : Rows.FnTrainsCardSaid :=
  Claim7.holds_tied_plain_at .later [] Rows.fnTrainsCard.laidKinds true Rows.fnTrainsCard.stood.harness Rows.fnTrainsCard.stood.looks
    FnTrains_row (fun _ h => by cases h) (by kernel_rfl) (fun _ h => by cases h) fnTrains_row_tie rfl ⟨rfl, rfl⟩ (by kernel_rfl) rfl
    (fun f fn hf hfn => by
      obtain rfl : f = 4 := Option.some.inj ((show Tryz.prog.funcNamed "loop.example/g00921/laws.FnTrains" = some 4 by kernel_rfl).symm.trans hf) |>.symm
      obtain rfl : fn = Tryz.f4 := (Option.some.inj (Tryz.func4.symm.trans hfn)).symm
      refine ⟨by kernel_rfl, fun j t ht => ?_⟩
      have hall : (Tryz.f4.params.toList.all fun u => !Tryz.prog.wantsStandIn u) = true := by kernel_rfl
      have := List.all_eq_true.1 hall t (Array.mem_toList_iff.2 (Array.mem_of_getElem? ht))
      exact (by simpa using this : Tryz.prog.wantsStandIn t = false))
    (by kernel_rfl)

end Go.Proofs.YtfapjkcmoefilaaGreatDoor
