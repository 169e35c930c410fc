/-
  DERIVED. GIVEN WITH THE SEED: THE CARDS: each row of YtonbgpliomhboaaGreatDoorRows.lean that lists a variable, with what it lists TIED to the program's text (the seventh form; the later family's looks); each row that meets fmt, with fmt's text TOLD by the authors' own Lean function (tested against real Go, not proved from fmt's source: count such statements apart). THE CARD IS WHAT COUNTS. Prove the row's statement (the work); the ties are given (YtonbgpliomhboaaGreatDoorTie.lean); close each card by the builder's one call (the guide's Derived/Test/ToyasCard.lean, 'card_holds'). Laid BY PROGRAM, IN A SANDBOX (cutbox-door.mjs). By AI agents, Wed Nov 11 2026. No macro, syntax, notation, axiom, sorry.
-/
import Derived.Test.YtonbgpliomhboaaGreatDoorRows
import GoSem.ClaimSeven
namespace Go.Proofs.YtonbgpliomhboaaGreatDoor
namespace Rows

/-- THE TIED CARD OF 'laws.FnExactReadWorks'. -/
def fnExactReadWorksCard : Claim7 := { stood := { row := fnExactReadWorksRow, standIns := [], harness := (true, "f33e6bbd3182812f77065a7a2da77dcaf5f07ec830a822058115b59b9f7c9e33"), looks := true }, kinds := [], alts := [], laidByText := true, laidKinds := [.data, .data, .data, .data, .sentinel, .sentinel, .pinned], laidTests := true, laidLooks := .later }
def FnExactReadWorksCardSaid : Prop := Claim7.holds Tryz.pinned (.plain (OpenSpec.ofChange fnExactReadWorksSpec)) fnExactReadWorksCard

/-- THE TIED CARD OF 'laws.FnRoutes'. -/
def fnRoutesCard : Claim7 := { stood := { row := fnRoutesRow, standIns := [], harness := (true, "f33e6bbd3182812f77065a7a2da77dcaf5f07ec830a822058115b59b9f7c9e33"), looks := true }, kinds := [], alts := [], laidByText := true, laidKinds := [.data, .data, .data, .data, .sentinel, .sentinel, .pinned], laidTests := true, laidLooks := .later }
def FnRoutesCardSaid : Prop := Claim7.holds Tryz.pinned (.plain (OpenSpec.ofChange fnRoutesSpec)) fnRoutesCard

/-- THE SECOND FORM's CARD OF 'laws.FnExactReadWorks'. -/
def fnExactReadWorksUptoCard : Claim7 := { stood := { row := fnExactReadWorksUptoRow, standIns := [], harness := (true, "f33e6bbd3182812f77065a7a2da77dcaf5f07ec830a822058115b59b9f7c9e33"), looks := true }, kinds := [], alts := [], laidByText := true, laidKinds := [.data, .data, .data, .data, .sentinel, .sentinel, .pinned], laidTests := true, laidLooks := .later }
def FnExactReadWorksUptoCardSaid : Prop := Claim7.holds Tryz.pinned (.plain (OpenSpec.upto fnExactReadWorksSpec)) fnExactReadWorksUptoCard

/-- THE SECOND FORM's CARD OF 'laws.FnRoutes'. -/
def fnRoutesUptoCard : Claim7 := { stood := { row := fnRoutesUptoRow, standIns := [], harness := (true, "f33e6bbd3182812f77065a7a2da77dcaf5f07ec830a822058115b59b9f7c9e33"), looks := true }, kinds := [], alts := [], laidByText := true, laidKinds := [.data, .data, .data, .data, .sentinel, .sentinel, .pinned], laidTests := true, laidLooks := .later }
def FnRoutesUptoCardSaid : Prop := Claim7.holds Tryz.pinned (.plain (OpenSpec.upto fnRoutesSpec)) fnRoutesUptoCard
end Rows
end Go.Proofs.YtonbgpliomhboaaGreatDoor
