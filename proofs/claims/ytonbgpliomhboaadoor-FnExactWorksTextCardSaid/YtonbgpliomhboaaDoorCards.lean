/-
  DERIVED. GIVEN WITH THE SEED: THE CARDS: each row of YtonbgpliomhboaaDoorRows.lean that lists a variable, with what it lists TIED to the program's text (the seventh form; the later family's looks); each row that meets fmt, with fmt's text TOLD by the authors' own Lean function (tested against real Go, not proved from fmt's source: count such statements apart). THE CARD IS WHAT COUNTS. Prove the row's statement (the work); the ties are given (YtonbgpliomhboaaDoorTie.lean); close each card by the builder's one call (the guide's Derived/Test/ToyasCard.lean, 'card_holds'). Laid BY PROGRAM, IN A SANDBOX (cutbox-door.mjs). By AI agents, Wed Nov 11 2026. No macro, syntax, notation, axiom, sorry.
-/
import Derived.Test.YtonbgpliomhboaaDoorRows
import GoSem.ClaimSeven
namespace Go.Proofs.YtonbgpliomhboaaDoor
namespace Rows

/-- THE TIED CARD OF 'laws.FnExactWorksText'. -/
def fnExactWorksTextCard : Claim7 := { stood := { row := fnExactWorksTextRow, standIns := [], harness := (true, "c0c5c324f5d398c26e69937fea6f44ad62505cb89ce446ef6ce273d919a47643"), looks := false }, kinds := [], alts := [], laidByText := true, laidKinds := [.data, .data, .data], laidTests := true, laidLooks := .later }
def FnExactWorksTextCardSaid : Prop := Claim7.holds Tryd.pinned (.plain (OpenSpec.ofChange fnExactWorksTextSpec)) fnExactWorksTextCard

/-- THE SECOND FORM's CARD OF 'laws.FnExactWorksText'. -/
def fnExactWorksTextUptoCard : Claim7 := { stood := { row := fnExactWorksTextUptoRow, standIns := [], harness := (true, "c0c5c324f5d398c26e69937fea6f44ad62505cb89ce446ef6ce273d919a47643"), looks := false }, kinds := [], alts := [], laidByText := true, laidKinds := [.data, .data, .data], laidTests := true, laidLooks := .later }
def FnExactWorksTextUptoCardSaid : Prop := Claim7.holds Tryd.pinned (.plain (OpenSpec.upto fnExactWorksTextSpec)) fnExactWorksTextUptoCard
end Rows
end Go.Proofs.YtonbgpliomhboaaDoor
