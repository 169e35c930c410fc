/-
  DERIVED. GIVEN WITH THE SEED: THE CARDS: each row of YtfapjkcmoefilaaDoorRows.lean that lists a variable, with what it lists TIED to the program's text (the seventh form; the later family's looks); each row that meets fmt, with fmt's text TOLD by the authors' own Lean function (tested against real Go, not proved from fmt's source: count such statements apart). THE CARD IS WHAT COUNTS. Prove the row's statement (the work); the ties are given (YtfapjkcmoefilaaDoorTie.lean); close each card by the builder's one call (the guide's Derived/Test/ToyasCard.lean, 'card_holds'). Laid BY PROGRAM, IN A SANDBOX (cutbox-door.mjs). By AI agents, Wed Nov 11 2026. No macro, syntax, notation, axiom, sorry.
-/
import Derived.Test.YtfapjkcmoefilaaDoorRows
import GoSem.ClaimSeven
namespace Go.Proofs.YtfapjkcmoefilaaDoor
namespace Rows

/-- THE TIED CARD OF 'laws.FnExactEpiText'. -/
def fnExactEpiTextCard : Claim7 := { stood := { row := fnExactEpiTextRow, standIns := [], harness := (true, "be1113efb9e4e97a8699dbd44c300249b7e95aac6c4a35823b1c0e54a3f16f72"), looks := true }, kinds := [], alts := [], laidByText := true, laidKinds := [.data, .data, .data], laidTests := true, laidLooks := .later }
def FnExactEpiTextCardSaid : Prop := Claim7.holds Tryd.pinned (.plain (OpenSpec.ofChange fnExactEpiTextSpec)) fnExactEpiTextCard

/-- THE TIED CARD OF 'laws.FnExactReadEpi'. -/
def fnExactReadEpiCard : Claim7 := { stood := { row := fnExactReadEpiRow, standIns := [], harness := (true, "be1113efb9e4e97a8699dbd44c300249b7e95aac6c4a35823b1c0e54a3f16f72"), looks := true }, kinds := [], alts := [], laidByText := true, laidKinds := [.data, .data, .data, .data, .sentinel, .sentinel, .pinned], laidTests := true, laidLooks := .later }
def FnExactReadEpiCardSaid : Prop := Claim7.holds Tryd.pinned (.plain (OpenSpec.ofChange fnExactReadEpiSpec)) fnExactReadEpiCard

/-- THE TIED CARD OF 'laws.FnEpicyclic'. -/
def fnEpicyclicCard : Claim7 := { stood := { row := fnEpicyclicRow, standIns := [], harness := (true, "be1113efb9e4e97a8699dbd44c300249b7e95aac6c4a35823b1c0e54a3f16f72"), looks := true }, kinds := [], alts := [], laidByText := true, laidKinds := [.data, .data, .data, .data, .sentinel, .sentinel, .pinned], laidTests := true, laidLooks := .later }
def FnEpicyclicCardSaid : Prop := Claim7.holds Tryd.pinned (.plain (OpenSpec.ofChange fnEpicyclicSpec)) fnEpicyclicCard

/-- THE TIED CARD OF 'laws.FnExactFoundText'. -/
def fnExactFoundTextCard : Claim7 := { stood := { row := fnExactFoundTextRow, standIns := [], harness := (true, "be1113efb9e4e97a8699dbd44c300249b7e95aac6c4a35823b1c0e54a3f16f72"), looks := true }, kinds := [], alts := [], laidByText := true, laidKinds := [.data, .data, .data], laidTests := true, laidLooks := .later }
def FnExactFoundTextCardSaid : Prop := Claim7.holds Tryd.pinned (.plain (OpenSpec.ofChange fnExactFoundTextSpec)) fnExactFoundTextCard

/-- THE TIED CARD OF 'laws.FnExactReadTrain'. -/
def fnExactReadTrainCard : Claim7 := { stood := { row := fnExactReadTrainRow, standIns := [], harness := (true, "be1113efb9e4e97a8699dbd44c300249b7e95aac6c4a35823b1c0e54a3f16f72"), looks := true }, kinds := [], alts := [], laidByText := true, laidKinds := [.data, .data, .data, .data, .sentinel, .sentinel, .pinned], laidTests := true, laidLooks := .later }
def FnExactReadTrainCardSaid : Prop := Claim7.holds Tryd.pinned (.plain (OpenSpec.ofChange fnExactReadTrainSpec)) fnExactReadTrainCard

/-- THE TIED CARD OF 'laws.FnExactWorksText'. -/
def fnExactWorksTextCard : Claim7 := { stood := { row := fnExactWorksTextRow, standIns := [], harness := (true, "be1113efb9e4e97a8699dbd44c300249b7e95aac6c4a35823b1c0e54a3f16f72"), looks := true }, kinds := [], alts := [], laidByText := true, laidKinds := [.data, .data, .data], laidTests := true, laidLooks := .later }
def FnExactWorksTextCardSaid : Prop := Claim7.holds Tryd.pinned (.plain (OpenSpec.ofChange fnExactWorksTextSpec)) fnExactWorksTextCard

/-- THE SECOND FORM's CARD OF 'laws.FnExactEpiText'. -/
def fnExactEpiTextUptoCard : Claim7 := { stood := { row := fnExactEpiTextUptoRow, standIns := [], harness := (true, "be1113efb9e4e97a8699dbd44c300249b7e95aac6c4a35823b1c0e54a3f16f72"), looks := true }, kinds := [], alts := [], laidByText := true, laidKinds := [.data, .data, .data], laidTests := true, laidLooks := .later }
def FnExactEpiTextUptoCardSaid : Prop := Claim7.holds Tryd.pinned (.plain (OpenSpec.upto fnExactEpiTextSpec)) fnExactEpiTextUptoCard

/-- THE SECOND FORM's CARD OF 'laws.FnExactReadEpi'. -/
def fnExactReadEpiUptoCard : Claim7 := { stood := { row := fnExactReadEpiUptoRow, standIns := [], harness := (true, "be1113efb9e4e97a8699dbd44c300249b7e95aac6c4a35823b1c0e54a3f16f72"), looks := true }, kinds := [], alts := [], laidByText := true, laidKinds := [.data, .data, .data, .data, .sentinel, .sentinel, .pinned], laidTests := true, laidLooks := .later }
def FnExactReadEpiUptoCardSaid : Prop := Claim7.holds Tryd.pinned (.plain (OpenSpec.upto fnExactReadEpiSpec)) fnExactReadEpiUptoCard

/-- THE SECOND FORM's CARD OF 'laws.FnEpicyclic'. -/
def fnEpicyclicUptoCard : Claim7 := { stood := { row := fnEpicyclicUptoRow, standIns := [], harness := (true, "be1113efb9e4e97a8699dbd44c300249b7e95aac6c4a35823b1c0e54a3f16f72"), looks := true }, kinds := [], alts := [], laidByText := true, laidKinds := [.data, .data, .data, .data, .sentinel, .sentinel, .pinned], laidTests := true, laidLooks := .later }
def FnEpicyclicUptoCardSaid : Prop := Claim7.holds Tryd.pinned (.plain (OpenSpec.upto fnEpicyclicSpec)) fnEpicyclicUptoCard

/-- THE SECOND FORM's CARD OF 'laws.FnExactFoundText'. -/
def fnExactFoundTextUptoCard : Claim7 := { stood := { row := fnExactFoundTextUptoRow, standIns := [], harness := (true, "be1113efb9e4e97a8699dbd44c300249b7e95aac6c4a35823b1c0e54a3f16f72"), looks := true }, kinds := [], alts := [], laidByText := true, laidKinds := [.data, .data, .data], laidTests := true, laidLooks := .later }
def FnExactFoundTextUptoCardSaid : Prop := Claim7.holds Tryd.pinned (.plain (OpenSpec.upto fnExactFoundTextSpec)) fnExactFoundTextUptoCard

/-- THE SECOND FORM's CARD OF 'laws.FnExactReadTrain'. -/
def fnExactReadTrainUptoCard : Claim7 := { stood := { row := fnExactReadTrainUptoRow, standIns := [], harness := (true, "be1113efb9e4e97a8699dbd44c300249b7e95aac6c4a35823b1c0e54a3f16f72"), looks := true }, kinds := [], alts := [], laidByText := true, laidKinds := [.data, .data, .data, .data, .sentinel, .sentinel, .pinned], laidTests := true, laidLooks := .later }
def FnExactReadTrainUptoCardSaid : Prop := Claim7.holds Tryd.pinned (.plain (OpenSpec.upto fnExactReadTrainSpec)) fnExactReadTrainUptoCard

/-- THE SECOND FORM's CARD OF 'laws.FnExactWorksText'. -/
def fnExactWorksTextUptoCard : Claim7 := { stood := { row := fnExactWorksTextUptoRow, standIns := [], harness := (true, "be1113efb9e4e97a8699dbd44c300249b7e95aac6c4a35823b1c0e54a3f16f72"), looks := true }, kinds := [], alts := [], laidByText := true, laidKinds := [.data, .data, .data], laidTests := true, laidLooks := .later }
def FnExactWorksTextUptoCardSaid : Prop := Claim7.holds Tryd.pinned (.plain (OpenSpec.upto fnExactWorksTextSpec)) fnExactWorksTextUptoCard
end Rows
end Go.Proofs.YtfapjkcmoefilaaDoor
