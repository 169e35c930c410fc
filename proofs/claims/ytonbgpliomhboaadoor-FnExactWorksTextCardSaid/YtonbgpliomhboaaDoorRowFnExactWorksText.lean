/- FnExactWorksText returns true for every input, and leaves memory as it was; its package-level variables hold what the text lays. No conditions. -/
import Derived.Test.YtonbgpliomhboaaDoorRxWTextLaw
import Derived.Test.YtonbgpliomhboaaDoorRxCard
namespace Go.Proofs.YtonbgpliomhboaaDoor
open Go.ChangeShapes Go.WideShapes Go.ChangeAt Go.RowKit

theorem FnExactWorksText_door (os : Os) (args : Array Value) : laidMetH Tryd.prog Rows.fnExactWorksTextRow.laid ((World.laidAll Tryd.prog os Rows.fnExactWorksTextRow.laid).forCall (fun _ _ => 0) ⟨#[], args, []⟩).memory := by
  rw [MakeChecks.laidMetH_plain _ _ _ (by kernel_rfl)]
  exact laidMet_laidAll _ (by kernel_rfl) (by kernel_rfl)

set_option maxRecDepth 100000 in
theorem FnExactWorksText_lifted (os : Os) (started : os.Started) (H : Type) (enc : TypeId × Value → H) :
    ReturnsInHanded {} Tryd.checked os 3 .any (fun w args => (Rows.fnExactWorksTextSpec.pre enc Tryd.prog Tryd.f3 [] false w args ∧ laidMetH Tryd.prog Rows.fnExactWorksTextRow.laid w) ∧ sizedMet enc Tryd.prog Tryd.f3 (OpenSpec.ofChange Rows.fnExactWorksTextSpec) false w args)
      (Rows.fnExactWorksTextSpec.post enc Tryd.prog Tryd.f3 false true false false) := by
  refine law_handed_laid (C := Tryd.checked) (laid := Rows.fnExactWorksTextRow.laid) Rx.ownK started (by kernel_rfl) Tryd.func3 Rx.laidK (of_decide_eq_true (by kernel_rfl)) rfl ?_ rfl Tryd.underlying4
    (ChangeSpec.witness_shaped (enc := enc) (C := Tryd.checked) (os := os) (X := fun w _ => laidMetH Tryd.prog Rows.fnExactWorksTextRow.laid w) false (World.laidAll Tryd.prog os Rows.fnExactWorksTextRow.laid) #[.agg #[.slice none 0 0, .slice none 0 0]] 8 (World.laidAll_os _ _ _) (World.shaped_of_ZipB (by kernel_rfl) (by kernel_rfl)) (by kernel_rfl) (by kernel_rfl) (by kernel_rfl) (FnExactWorksText_door os _)) ?_
  · intro ds hds
    match ds, hds with
    | [_], _ => rfl
  · intro W args hS hL hsz hargs
    refine Rx.law_coreL Rx.lawWText_ok ?_ ?_ W args hsz hargs (Rx.laid_text hS hL)
    · exact ⟨⟨by kernel_rfl, by kernel_rfl⟩, trivial⟩
    · intro x h; exact Rx.lawWText_holds x h

theorem FnExactWorksText_row : Rows.FnExactWorksTextSaid :=
  OpenClaim.holds_of_wide 3 Tryd.f3 rfl rfl rfl rfl rfl rfl rfl ⟨rfl, rfl, rfl, rfl, rfl⟩ rfl rfl rfl rfl rfl (by kernel_rfl) Tryd.func3 (by kernel_rfl)
    (of_decide_eq_true (by kernel_rfl)) (by unfold Func.isWrapper; first | (rw [if_pos (by decide +kernel)]; kernel_rfl) | (rw [if_neg (by decide +kernel)]; exact ⟨rfl, rfl⟩))
    (fun os started H enc _ => FnExactWorksText_lifted os started H enc)

theorem FnExactWorksText_holds : Rows.FnExactWorksTextCardSaid :=
  Claim7.holds_tied_plain_at .later [] Rows.fnExactWorksTextCard.laidKinds true Rows.fnExactWorksTextCard.stood.harness Rows.fnExactWorksTextCard.stood.looks
    FnExactWorksText_row (fun _ h => by cases h) (by kernel_rfl) (fun _ h => by cases h) fnExactWorksText_row_tie rfl ⟨rfl, rfl⟩ (by kernel_rfl) rfl
    (fun f fn hf hfn => by
      obtain rfl : f = 3 := Option.some.inj ((show Tryd.prog.funcNamed "loop.example/g00921/laws.FnExactWorksText" = some 3 by kernel_rfl).symm.trans hf) |>.symm
      obtain rfl : fn = Tryd.f3 := (Option.some.inj (Tryd.func3.symm.trans hfn)).symm
      refine ⟨by kernel_rfl, fun j t ht => ?_⟩
      have hall : (Tryd.f3.params.toList.all fun u => !Tryd.prog.wantsStandIn u) = true := by kernel_rfl
      have := List.all_eq_true.1 hall t (Array.mem_toList_iff.2 (Array.mem_of_getElem? ht))
      exact (by simpa using this : Tryd.prog.wantsStandIn t = false))
    (by kernel_rfl)

end Go.Proofs.YtonbgpliomhboaaDoor
