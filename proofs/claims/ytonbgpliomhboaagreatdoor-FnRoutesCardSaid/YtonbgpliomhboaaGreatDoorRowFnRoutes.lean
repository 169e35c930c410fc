/- FnRoutes returns true for every input, and leaves memory as it was; its package-level variables hold what the text lays. No conditions. -/
import Derived.Test.YtonbgpliomhboaaGreatDoorRxRoutesLaw
import Derived.Test.YtonbgpliomhboaaGreatDoorRxCard
namespace Go.Proofs.YtonbgpliomhboaaGreatDoor
open Go.ChangeShapes Go.WideShapes Go.ChangeAt Go.RowKit

theorem FnRoutes_door (os : Os) (args : Array Value) : laidMetH Tryz.prog Rows.fnRoutesRow.laid ((World.laidAll Tryz.prog os Rows.fnRoutesRow.laid).forCall (fun _ _ => 0) ⟨#[], args, []⟩).memory := by
  rw [MakeChecks.laidMetH_plain _ _ _ (by kernel_rfl)]
  exact laidMet_laidAll _ (by kernel_rfl) (by kernel_rfl)

set_option maxRecDepth 100000 in
theorem FnRoutes_lifted (os : Os) (started : os.Started) (H : Type) (enc : TypeId × Value → H) :
    ReturnsInHanded {} Tryz.checked os 4 .any (fun w args => (Rows.fnRoutesSpec.pre enc Tryz.prog Tryz.f4 [] false w args ∧ laidMetH Tryz.prog Rows.fnRoutesRow.laid w) ∧ sizedMet enc Tryz.prog Tryz.f4 (OpenSpec.ofChange Rows.fnRoutesSpec) false w args)
      (Rows.fnRoutesSpec.post enc Tryz.prog Tryz.f4 false true false false) := by
  refine law_handed_laid (C := Tryz.checked) (laid := Rows.fnRoutesRow.laid) Rx.ownK started (by kernel_rfl) Tryz.func4 Rx.laidK (of_decide_eq_true (by kernel_rfl)) rfl ?_ rfl Tryz.underlying4
    (ChangeSpec.witness_shaped (enc := enc) (C := Tryz.checked) (os := os) (X := fun w _ => laidMetH Tryz.prog Rows.fnRoutesRow.laid w) false (World.laidAll Tryz.prog os Rows.fnRoutesRow.laid) #[.slice none 0 0, .slice none 0 0] 8 (World.laidAll_os _ _ _) (World.shaped_of_ZipB (by kernel_rfl) (by kernel_rfl)) (by kernel_rfl) (by kernel_rfl) (by kernel_rfl) (FnRoutes_door os _)) ?_
  · intro ds hds
    match ds, hds with
    | [_, _], _ => rfl
  · intro W args hS hL hsz hargs
    refine Rx.law_coreL Rx.fnRoutes_ok ?_ ?_ W args hsz hargs (Rx.laid_read hS hL)
    · exact ⟨⟨by kernel_rfl, by kernel_rfl⟩, ⟨by kernel_rfl, by kernel_rfl⟩, trivial⟩
    · intro x h; exact Rx.fnRoutes_holds x h

theorem FnRoutes_row : Rows.FnRoutesSaid :=
  OpenClaim.holds_of_wide 4 Tryz.f4 rfl rfl rfl rfl rfl rfl rfl ⟨rfl, rfl, rfl, rfl, rfl⟩ rfl rfl rfl rfl rfl (by kernel_rfl) Tryz.func4 (by kernel_rfl)
    (of_decide_eq_true (by kernel_rfl)) (by unfold Func.isWrapper; first | (rw [if_pos (by decide +kernel)]; kernel_rfl) | (rw [if_neg (by decide +kernel)]; exact ⟨rfl, rfl⟩))
    (fun os started H enc _ => FnRoutes_lifted os started H enc)

theorem FnRoutes_holds : Rows.FnRoutesCardSaid :=
  Claim7.holds_tied_plain_at .later [] Rows.fnRoutesCard.laidKinds true Rows.fnRoutesCard.stood.harness Rows.fnRoutesCard.stood.looks
    FnRoutes_row (fun _ h => by cases h) (by kernel_rfl) (fun _ h => by cases h) fnRoutes_row_tie rfl ⟨rfl, rfl⟩ (by kernel_rfl) rfl
    (fun f fn hf hfn => by
      obtain rfl : f = 4 := Option.some.inj ((show Tryz.prog.funcNamed "loop.example/g00921/laws.FnRoutes" = some 4 by kernel_rfl).symm.trans hf) |>.symm
      obtain rfl : fn = Tryz.f4 := (Option.some.inj (Tryz.func4.symm.trans hfn)).symm
      refine ⟨by kernel_rfl, fun j t ht => ?_⟩
      have hall : (Tryz.f4.params.toList.all fun u => !Tryz.prog.wantsStandIn u) = true := by kernel_rfl
      have := List.all_eq_true.1 hall t (Array.mem_toList_iff.2 (Array.mem_of_getElem? ht))
      exact (by simpa using this : Tryz.prog.wantsStandIn t = false))
    (by kernel_rfl)

end Go.Proofs.YtonbgpliomhboaaGreatDoor
