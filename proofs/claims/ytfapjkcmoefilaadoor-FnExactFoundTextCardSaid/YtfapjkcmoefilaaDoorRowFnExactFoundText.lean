/- FnExactFoundText returns true for every input, and leaves memory as it was; its package-level variables hold what the text lays. No conditions. -/
import Derived.Test.YtfapjkcmoefilaaDoorRxTextLaw
import Derived.Test.YtfapjkcmoefilaaDoorRxCard
namespace Go.Proofs.YtfapjkcmoefilaaDoor
open Go.ChangeShapes Go.WideShapes Go.ChangeAt Go.RowKit

theorem FnExactFoundText_door (os : Os) (args : Array Value) : laidMetH Tryd.prog Rows.fnExactFoundTextRow.laid ((World.doorLaid Tryd.prog 400 os).forCall (fun _ _ => 0) ⟨#[], args, []⟩).memory :=
  laidMetH_of_parts3 (fuel := 8) (laidMet_of_run' 8 (by kernel_rfl) (by kernel_rfl)) (by kernel_rfl) (by kernel_rfl)

set_option maxRecDepth 100000 in
theorem FnExactFoundText_lifted (os : Os) (started : os.Started) (H : Type) (enc : TypeId × Value → H) :
    ReturnsInHanded {} Tryd.checked os 6 .any (fun w args => (Rows.fnExactFoundTextSpec.pre enc Tryd.prog Tryd.f6 [] false w args ∧ laidMetH Tryd.prog Rows.fnExactFoundTextRow.laid w) ∧ sizedMet enc Tryd.prog Tryd.f6 (OpenSpec.ofChange Rows.fnExactFoundTextSpec) false w args)
      (Rows.fnExactFoundTextSpec.post enc Tryd.prog Tryd.f6 false true false false) := by
  refine law_handed_laid (C := Tryd.checked) (laid := Rows.fnExactFoundTextRow.laid) Rx.ownK started (by kernel_rfl) Tryd.func6 Rx.laidK (of_decide_eq_true (by kernel_rfl)) rfl ?_ rfl Tryd.underlying4
    (ChangeSpec.witness_shaped (enc := enc) (C := Tryd.checked) (os := os) (X := fun w _ => laidMetH Tryd.prog Rows.fnExactFoundTextRow.laid w) false (World.doorLaid Tryd.prog 400 os) #[.agg #[.slice none 0 0, .int .i64 0, .int .i64 0]] 8 rfl (World.shaped_of_RefB (by kernel_rfl) (by kernel_rfl)) (by kernel_rfl) (by kernel_rfl) (by kernel_rfl) (FnExactFoundText_door os _)) ?_
  · intro ds hds
    match ds, hds with
    | [_], _ => rfl
  · intro W args hL hsz hargs
    refine Rx.law_coreL Rx.lawFoundText_ok ?_ ?_ W args hsz hargs (Rx.laid_text hL)
    · exact ⟨⟨by kernel_rfl, by kernel_rfl⟩, trivial⟩
    · intro x h; exact Rx.lawFoundText_holds x h

theorem FnExactFoundText_row : Rows.FnExactFoundTextSaid :=
  OpenClaim.holds_of_wide 6 Tryd.f6 rfl rfl rfl rfl rfl rfl rfl ⟨rfl, rfl, rfl, rfl, rfl⟩ rfl rfl rfl rfl rfl (by kernel_rfl) Tryd.func6 (by kernel_rfl)
    (of_decide_eq_true (by kernel_rfl)) (by unfold Func.isWrapper; first | (rw [if_pos (by decide +kernel)]; kernel_rfl) | (rw [if_neg (by decide +kernel)]; exact ⟨rfl, rfl⟩))
    (fun os started H enc _ => FnExactFoundText_lifted os started H enc)

theorem FnExactFoundText_holds : Rows.FnExactFoundTextCardSaid :=
  Claim7.holds_tied_plain_at .later [] Rows.fnExactFoundTextCard.laidKinds true Rows.fnExactFoundTextCard.stood.harness Rows.fnExactFoundTextCard.stood.looks
    FnExactFoundText_row (fun _ h => by cases h) (by kernel_rfl) (fun _ h => by cases h) fnExactFoundText_row_tie rfl ⟨rfl, rfl⟩ (by kernel_rfl) rfl
    (fun f fn hf hfn => by
      obtain rfl : f = 6 := Option.some.inj ((show Tryd.prog.funcNamed "loop.example/g00921/laws.FnExactFoundText" = some 6 by kernel_rfl).symm.trans hf) |>.symm
      obtain rfl : fn = Tryd.f6 := (Option.some.inj (Tryd.func6.symm.trans hfn)).symm
      refine ⟨by kernel_rfl, fun j t ht => ?_⟩
      have hall : (Tryd.f6.params.toList.all fun u => !Tryd.prog.wantsStandIn u) = true := by kernel_rfl
      have := List.all_eq_true.1 hall t (Array.mem_toList_iff.2 (Array.mem_of_getElem? ht))
      exact (by simpa using this : Tryd.prog.wantsStandIn t = false))
    (by kernel_rfl)

end Go.Proofs.YtfapjkcmoefilaaDoor
